/-
  Parts of the proof of LtsChecks (joined by wip/tools/bundle.py), part 2: plain words and walks of the functions that the law reaches.
-/
import Derived.Test.YthaaockbapbooaaZLtsChecks1
namespace Go.Proofs.Ythaaockbapbooaa.Pr
open Go.RowKit Go.Proofs.YthaaockbapbooaaW.PrintWords Go.Proofs.YthaaockbapbooaaW.PrintLast Go.Proofs.YthaaockbapbooaaW.PrintMore
attribute [local go_sem] max2_int min2_int max_two min_two max_three min_three max_four min_four
set_option linter.unusedVariables false
set_option linter.unusedSimpArgs false
theorem eqA51 (d : Nat) (w : World) (x0 y0 : Int) (x1 y1 : Int) (x2 y2 : Int) :
  (Op.equalIn (d + 2) 51 (.agg #[.int .i64 x0, .int .i64 x1, .int .i64 x2]) (.agg #[.int .i64 y0, .int .i64 y1, .int .i64 y2])).run Try.prog w = .ok (x0 == y0 && (x1 == y1 && (x2 == y2))) w := by
 refine eqA_of Try.underlying51 (by kernel_rfl) ?_
 refine eqf_cons (by rfl) (by go_simp; rfl) (by go_simp; rfl) (by go_simp) ?_
 refine eqf_cons (by rfl) (by go_simp; rfl) (by go_simp; rfl) (by go_simp) ?_
 exact eqf_last (by rfl) (by go_simp; rfl) (by go_simp; rfl) (by go_simp)
def Pr01a.l0 : Nat → List ByteArray → List ByteArray → Int → Option (Bool)
 | 0, _, _, _ => none
 | k + 1, x0, x1, x5 => if x5 < (x0.length : Int) then (if 0 ≤ x5 then (if x5 < (x1.length : Int) then (if (rdOf ByteArray.empty x0 x5).toList = (rdOf ByteArray.empty x1 x5).toList then (Pr01a.l0 k x0 x1 (wrap64 (x5 + 1))) else (some false)) else (none)) else (none)) else (some true)
def Pr01a.f (k : Nat) (l0 : List ByteArray) (l1 : List ByteArray) : Option (Bool) := if (l0.length : Int) = (l1.length : Int) then (Pr01a.l0 k l0 l1 0) else (some false)
theorem Pr01a.mono_l : ∀ k, (∀ y0 y1 y2, LeO (Pr01a.l0 k y0 y1 y2) (Pr01a.l0 (k + 1) y0 y1 y2))
 | 0 => fun _ _ _ r h => by simp [Pr01a.l0] at h
 | k + 1 => by
  have ih0 := Pr01a.mono_l k
  ·intro y0 y1 y2
   unfold Pr01a.l0
   repeat' first
   | (with_reducible exact ih0 _ _ _)
   | (with_reducible exact LeO.refl _)
   | (with_reducible exact LeO.none _)
   | (with_reducible refine LeO.ite ?_ ?_)
   | (with_reducible refine LeO.bind ?_ (fun _ => ?_))
   | exact ih0 _ _ _
   | exact LeO.none _
   | refine LeO.ite ?_ ?_
   | refine LeO.bind ?_ (fun _ => ?_)
theorem Pr01a.mono : ∀ a0 a1 k, LeO (Pr01a.f k a0 a1) (Pr01a.f (k + 1) a0 a1) := by
 intro a0 a1 k
 have ih0 := Pr01a.mono_l k
 unfold Pr01a.f
 repeat' first
   | (with_reducible exact ih0 _ _ _)
   | (with_reducible exact LeO.refl _)
   | (with_reducible exact LeO.none _)
   | (with_reducible refine LeO.ite ?_ ?_)
   | (with_reducible refine LeO.bind ?_ (fun _ => ?_))
   | exact ih0 _ _ _
   | exact LeO.none _
   | refine LeO.ite ?_ ?_
   | refine LeO.bind ?_ (fun _ => ?_)
set_option maxHeartbeats 8000000 in
set_option maxRecDepth 100000 in
theorem Pr01a.calls (k : Nat) (A0 : Option Addr) (c0 : Nat) (l0 : List ByteArray) (A1 : Option Addr) (c1 : Nat) (l1 : List ByteArray) (r : Bool) (w : World) (hr0 : Kd.C Kd.string w A0 l0.length l0) (hc0 : l0.length ≤ c0) (hr1 : Kd.C Kd.string w A1 l1.length l1) (hc1 : l1.length ≤ c1) (h : Pr01a.f k l0 l1 = some r) :
  Calls Try.prog 36 #[.slice A0 l0.length c0, .slice A1 l1.length c1] w fun e w' => e = .returned (.bool r) ∧ Drawn0 w w' := by
 have b2 := Aside0.mk hr0
 have b5 := Aside0.mk hc0
 clear hr0 hc0
 have b3 := Aside0.mk hr1
 have b4 := Aside0.mk hc1
 clear hr1 hc1
 have H : (if (l0.length : Int) = (l1.length : Int) then (Pr01a.l0 k l0 l1 0) else (some false)) = some r := h
 clear h
 by_cases c3 : (l0.length : Int) = (l1.length : Int)
 ·rw [if_pos c3] at H
  have c3b0 : ((l0.length : Int) == (l1.length : Int)) = true := beq_iff_eq.mpr c3
  have c3b1 : ((l0.length : Int) != (l1.length : Int)) = false := bne_eq_false_iff_eq.mpr c3
  have c3b2 : (l0.length == l1.length) = true := by first | simpa using c3 | (simp at c3 ⊢; omega)
  clear c3
  have H' := Aside0.mk H
  clear H
  go_enter Try.func36, Try.ntmps36
  go_wp2
  repeat (go_quiet (fail); try go_wp2)
  go_loopg [5] k (fun kq v5 w' => ∃ (a0 : Int), v5 = .int .i64 a0 ∧ Aside0 (Pr01a.l0 kq l0 l1 a0 = some r) ∧ Aside0 (kq ≤ k) ∧ Drawn0 w w')
  case atStart => exact ⟨(0), (by first | rfl | (simp; done) | (simp [*]; done)), H', ⟨Nat.le_refl _⟩, by repeat (first | exact Drawn0.refl _ | apply Drawn0.step)⟩
  case round =>
   clear H'
   try clear c1
   try clear p2
   try clear c3
   try clear c3b0
   try clear c3b1
   try clear c3b2
   obtain ⟨a0, rfl, HA, b1, ⟨m1, rfl⟩⟩ := hrel
   cases gk with
   | zero => exact absurd HA.out (by simp [Pr01a.l0])
   | succ k1 =>
    have H := HA.out
    clear HA
    simp only [Pr01a.l0] at H
    by_cases c4 : a0 < (l0.length : Int)
    ·rw [if_pos c4] at H
     have c4b0 : decide (a0 < (l0.length : Int)) = true := decide_eq_true c4
     clear c4
     by_cases c5 : 0 ≤ a0
     ·rw [if_pos c5] at H
      have c5b0 : decide (0 ≤ a0) = true := decide_eq_true c5
      clear c5
      by_cases c6 : a0 < (l1.length : Int)
      ·rw [if_pos c6] at H
       have c6b0 : decide (a0 < (l1.length : Int)) = true := decide_eq_true c6
       clear c6
       by_cases c7 : (rdOf ByteArray.empty l0 a0).toList = (rdOf ByteArray.empty l1 a0).toList
       ·rw [if_pos c7] at H
        have c7b0 : ((rdOf ByteArray.empty l0 a0).toList == (rdOf ByteArray.empty l1 a0).toList) = true := beq_iff_eq.mpr c7
        have c7b1 : ((rdOf ByteArray.empty l0 a0).toList != (rdOf ByteArray.empty l1 a0).toList) = false := bne_eq_false_iff_eq.mpr c7
        clear c7
        have H' := Aside0.mk H
        clear H
        have a3 : 0 ≤ (a0 : Int) := of_decide_eq_true (by first | (with_reducible assumption) | assumption)
        have a4 : a0 < (l0.length : Int) := of_decide_eq_true (by first | (with_reducible assumption) | assumption)
        obtain ⟨a9, a6, a8⟩ := Kd.at_string b2.out a0 a3 a4
        cases a6
        replace a3 := eq_true a3
        replace a4 := eq_true a4
        have a2 : 0 ≤ (a0 : Int) := of_decide_eq_true (by first | (with_reducible assumption) | assumption)
        have a1 : a0 < (l1.length : Int) := of_decide_eq_true (by first | (with_reducible assumption) | assumption)
        obtain ⟨b0, a5, a7⟩ := Kd.at_string b3.out a0 a2 a1
        cases a5
        replace a2 := eq_true a2
        replace a1 := eq_true a1
        go_wp2
        repeat (go_quiet (fail); try go_wp2)
        go_roundg k1
        case measure => have := b1.out; omega
        case rel => exact ⟨(wrap64 (a0 + 1)), (by first | rfl | (simp; done) | (simp [*]; done)), H', ⟨by have := b1.out; omega⟩, by repeat (first | exact Drawn0.refl _ | apply Drawn0.step)⟩
       ·rw [if_neg c7] at H
        have c7b0 : ((rdOf ByteArray.empty l0 a0).toList == (rdOf ByteArray.empty l1 a0).toList) = false := beq_eq_false_iff_ne.mpr c7
        have c7b1 : ((rdOf ByteArray.empty l0 a0).toList != (rdOf ByteArray.empty l1 a0).toList) = true := bne_iff_ne.mpr c7
        obtain rfl := Option.some.inj H
        have a3 : 0 ≤ (a0 : Int) := of_decide_eq_true (by first | (with_reducible assumption) | assumption)
        have a4 : a0 < (l0.length : Int) := of_decide_eq_true (by first | (with_reducible assumption) | assumption)
        obtain ⟨a9, a6, a8⟩ := Kd.at_string b2.out a0 a3 a4
        cases a6
        replace a3 := eq_true a3
        replace a4 := eq_true a4
        have a2 : 0 ≤ (a0 : Int) := of_decide_eq_true (by first | (with_reducible assumption) | assumption)
        have a1 : a0 < (l1.length : Int) := of_decide_eq_true (by first | (with_reducible assumption) | assumption)
        obtain ⟨b0, a5, a7⟩ := Kd.at_string b3.out a0 a2 a1
        cases a5
        replace a2 := eq_true a2
        replace a1 := eq_true a1
        go_wp2
        repeat (go_quiet (fail); try go_wp2)
        go_ret
        exact ⟨by first | rfl | (simp; done) | (simp [*]; done), by repeat (first | exact Drawn0.refl _ | apply Drawn0.step)⟩
      ·rw [if_neg c6] at H
       exact absurd H (by simp)
     ·rw [if_neg c5] at H
      exact absurd H (by simp)
    ·rw [if_neg c4] at H
     have c4b0 : decide (a0 < (l0.length : Int)) = false := decide_eq_false c4
     clear c4
     obtain rfl := Option.some.inj H
     go_wp2
     repeat (go_quiet (fail); try go_wp2)
     go_ret
     exact ⟨by first | rfl | (simp; done) | (simp [*]; done), by repeat (first | exact Drawn0.refl _ | apply Drawn0.step)⟩
 ·rw [if_neg c3] at H
  have c3b0 : ((l0.length : Int) == (l1.length : Int)) = false := beq_eq_false_iff_ne.mpr c3
  have c3b1 : ((l0.length : Int) != (l1.length : Int)) = true := bne_iff_ne.mpr c3
  have c3b2 : (l0.length == l1.length) = false := by first | simpa using c3 | (simp at c3 ⊢; omega)
  obtain rfl := Option.some.inj H
  go_enter Try.func36, Try.ntmps36
  go_wp2
  repeat (go_quiet (fail); try go_wp2)
  go_ret
  exact ⟨by first | rfl | (simp; done) | (simp [*]; done), by repeat (first | exact Drawn0.refl _ | apply Drawn0.step)⟩
attribute [local go_sem high] eqA51
mutual
def Pr26b.j0 : Nat → Bool → Int → List ByteArray → List (S51) → Int → List ByteArray → List (S51) → Option (Bool)
 | 0, _, _, _, _, _, _, _ => none
 | k + 1, x27, x104000, x104001, x104002, x105000, x105001, x105002 => if x27 = true then (some false) else (Pr26b.l0 k 0 x104000 x104001 x104002 x105000 x105001 x105002)
def Pr26b.l0 : Nat → Int → Int → List ByteArray → List (S51) → Int → List ByteArray → List (S51) → Option (Bool)
 | 0, _, _, _, _, _, _, _ => none
 | k + 1, x5, x104000, x104001, x104002, x105000, x105001, x105002 => if x5 < (x104002.length : Int) then (if 0 ≤ x5 then (if x5 < (x105002.length : Int) then (if (!(((rd_T51 x104002 x5).f0) == ((rd_T51 x105002 x5).f0)) || (!(((rd_T51 x104002 x5).f1) == ((rd_T51 x105002 x5).f1)) || (!(((rd_T51 x104002 x5).f2) == ((rd_T51 x105002 x5).f2))))) = true then (some false) else (Pr26b.l0 k (wrap64 (x5 + 1)) x104000 x104001 x104002 x105000 x105001 x105002)) else (none)) else (none)) else (some true)
end
def Pr26b.f (k : Nat) (a0_0 : Int) (l0_1 : List ByteArray) (l0_2 : List (S51)) (a1_0 : Int) (l1_1 : List ByteArray) (l1_2 : List (S51)) : Option (Bool) := if a0_0 = a1_0 then ((Pr01a.f k l0_1 l1_1).bind fun t105 => (if t105 = true then (Pr26b.j0 k ((l0_2.length : Int) != (l1_2.length : Int)) a0_0 l0_1 l0_2 a1_0 l1_1 l1_2) else (Pr26b.j0 k true a0_0 l0_1 l0_2 a1_0 l1_1 l1_2))) else (Pr26b.j0 k true a0_0 l0_1 l0_2 a1_0 l1_1 l1_2)
theorem Pr26b.mono_l : ∀ k, (∀ y0 y1 y2 y3 y4 y5 y6, LeO (Pr26b.j0 k y0 y1 y2 y3 y4 y5 y6) (Pr26b.j0 (k + 1) y0 y1 y2 y3 y4 y5 y6)) ∧ (∀ y0 y1 y2 y3 y4 y5 y6, LeO (Pr26b.l0 k y0 y1 y2 y3 y4 y5 y6) (Pr26b.l0 (k + 1) y0 y1 y2 y3 y4 y5 y6))
 | 0 => ⟨fun _ _ _ _ _ _ _ r h => by simp [Pr26b.j0] at h, fun _ _ _ _ _ _ _ r h => by simp [Pr26b.l0] at h⟩
 | k + 1 => by
  obtain ⟨ih0, ih1⟩ := Pr26b.mono_l k
  refine ⟨?_, ?_⟩
  ·intro y0 y1 y2 y3 y4 y5 y6
   unfold Pr26b.j0
   repeat' first
   | (with_reducible exact ih0 _ _ _ _ _ _ _)
   | (with_reducible exact ih1 _ _ _ _ _ _ _)
   | (with_reducible exact Pr01a.mono _ _ _)
   | (with_reducible exact LeO.refl _)
   | (with_reducible exact LeO.none _)
   | (with_reducible refine LeO.ite ?_ ?_)
   | (with_reducible refine LeO.bind ?_ (fun _ => ?_))
   | exact ih0 _ _ _ _ _ _ _
   | exact ih1 _ _ _ _ _ _ _
   | exact Pr01a.mono _ _ _
   | exact LeO.none _
   | refine LeO.ite ?_ ?_
   | refine LeO.bind ?_ (fun _ => ?_)
  ·intro y0 y1 y2 y3 y4 y5 y6
   unfold Pr26b.l0
   repeat' first
   | (with_reducible exact ih0 _ _ _ _ _ _ _)
   | (with_reducible exact ih1 _ _ _ _ _ _ _)
   | (with_reducible exact Pr01a.mono _ _ _)
   | (with_reducible exact LeO.refl _)
   | (with_reducible exact LeO.none _)
   | (with_reducible refine LeO.ite ?_ ?_)
   | (with_reducible refine LeO.bind ?_ (fun _ => ?_))
   | exact ih0 _ _ _ _ _ _ _
   | exact ih1 _ _ _ _ _ _ _
   | exact Pr01a.mono _ _ _
   | exact LeO.none _
   | refine LeO.ite ?_ ?_
   | refine LeO.bind ?_ (fun _ => ?_)
theorem Pr26b.mono : ∀ a0 a1 a2 a3 a4 a5 k, LeO (Pr26b.f k a0 a1 a2 a3 a4 a5) (Pr26b.f (k + 1) a0 a1 a2 a3 a4 a5) := by
 intro a0 a1 a2 a3 a4 a5 k
 obtain ⟨ih0, ih1⟩ := Pr26b.mono_l k
 unfold Pr26b.f
 repeat' first
   | (with_reducible exact ih0 _ _ _ _ _ _ _)
   | (with_reducible exact ih1 _ _ _ _ _ _ _)
   | (with_reducible exact Pr01a.mono _ _ _)
   | (with_reducible exact LeO.refl _)
   | (with_reducible exact LeO.none _)
   | (with_reducible refine LeO.ite ?_ ?_)
   | (with_reducible refine LeO.bind ?_ (fun _ => ?_))
   | exact ih0 _ _ _ _ _ _ _
   | exact ih1 _ _ _ _ _ _ _
   | exact Pr01a.mono _ _ _
   | exact LeO.none _
   | refine LeO.ite ?_ ?_
   | refine LeO.bind ?_ (fun _ => ?_)
set_option maxHeartbeats 8000000 in
set_option maxRecDepth 100000 in
theorem Pr26b.calls (k : Nat) (a0_0 : Int) (A0_1 : Option Addr) (c0_1 : Nat) (l0_1 : List ByteArray) (A0_2 : Option Addr) (c0_2 : Nat) (l0_2 : List (S51)) (a1_0 : Int) (A1_1 : Option Addr) (c1_1 : Nat) (l1_1 : List ByteArray) (A1_2 : Option Addr) (c1_2 : Nat) (l1_2 : List (S51)) (r : Bool) (w : World) (hr0_1 : Kd.C Kd.string w A0_1 l0_1.length l0_1) (hc0_1 : l0_1.length ≤ c0_1) (hr0_2 : Kd.C k51 w A0_2 l0_2.length l0_2) (hc0_2 : l0_2.length ≤ c0_2) (hr1_1 : Kd.C Kd.string w A1_1 l1_1.length l1_1) (hc1_1 : l1_1.length ≤ c1_1) (hr1_2 : Kd.C k51 w A1_2 l1_2.length l1_2) (hc1_2 : l1_2.length ≤ c1_2) (h : Pr26b.f k a0_0 l0_1 l0_2 a1_0 l1_1 l1_2 = some r) :
  Calls Try.prog 16 #[.agg #[.int .i64 a0_0, .slice A0_1 l0_1.length c0_1, .slice A0_2 l0_2.length c0_2], .agg #[.int .i64 a1_0, .slice A1_1 l1_1.length c1_1, .slice A1_2 l1_2.length c1_2]] w fun e w' => e = .returned (.bool r) ∧ Below w.heap.size w w' := by
 have p8 := Try.underlying25
 have p6 := Try.underlying51
 have d2 := Aside0.mk hr0_1
 have d1 := Aside0.mk hc0_1
 clear hr0_1 hc0_1
 have j7 := Aside0.mk hr0_2
 have o9 := Aside0.mk hc0_2
 clear hr0_2 hc0_2
 have b9 := Aside0.mk hr1_1
 have d0 := Aside0.mk hc1_1
 clear hr1_1 hc1_1
 have j2 := Aside0.mk hr1_2
 have o8 := Aside0.mk hc1_2
 clear hr1_2 hc1_2
 have HB := Aside0.mk (Below.refl w.heap.size w)
 have H : (if a0_0 = a1_0 then ((Pr01a.f k l0_1 l1_1).bind fun i6 => (if i6 = true then (Pr26b.j0 k ((l0_2.length : Int) != (l1_2.length : Int)) a0_0 l0_1 l0_2 a1_0 l1_1 l1_2) else (Pr26b.j0 k true a0_0 l0_1 l0_2 a1_0 l1_1 l1_2))) else (Pr26b.j0 k true a0_0 l0_1 l0_2 a1_0 l1_1 l1_2)) = some r := h
 clear h
 have j8 := Aside0.mk H
 clear H
 go_enter Try.func16, Try.ntmps16
 go_upto_region 1 with (first | ((with_reducible refine gate_dst (N := 2) rfl ?_); (try (refine gate_guard (by rfl) ?_; dsimp only)); refine box_event ?hg (N := 2) ?hd (cs := #[.int .i64 a0_0, .slice A0_1 l0_1.length c0_1, .slice A0_2 l0_2.length c0_2]) (t := 25) ?hr ?_; (case hd => rfl); (case hg => rfl); (case hr => first | (go_simp; done) | (go_simp; rfl)); intro a1 hg w4 hbox hb; have b6 := Aside0.mk (below_step (by repeat (first | (with_reducible first | exact HB.out | apply below_alloc | apply pw_below_drewN | apply below_drew1) | exact HB.out)) hb); have b8 := Aside0.mk (hbox); have b5 := Aside0.mk ((by rw [hg]; exact (below_size (by repeat (first | (with_reducible first | exact HB.out | apply below_alloc | apply pw_below_drewN | apply below_drew1) | exact HB.out))) : w.heap.size ≤ a1)); have b7 := Aside0.mk ((by rw [hg]; exact (below_size (by repeat (first | (with_reducible first | exact HB.out | apply below_alloc | apply pw_below_drewN | apply below_drew1) | exact HB.out))) : w.heap.size ≤ a1)); clear HB; have HB := b6; have a0 := b8; have j3 := b5; have a5 := b7; clear b6 b8 b5 b7; clear hb hbox hg) | ((with_reducible refine gate_dst (N := 3) rfl ?_); (try (refine gate_guard (by rfl) ?_; dsimp only)); refine box_event ?hg (N := 3) ?hd (cs := #[.int .i64 a1_0, .slice A1_1 l1_1.length c1_1, .slice A1_2 l1_2.length c1_2]) (t := 25) ?hr ?_; (case hd => rfl); (case hg => rfl); (case hr => first | (go_simp; done) | (go_simp; rfl)); intro a4 hg w5 hbox hb; have b6 := Aside0.mk (blk_below (g := a1) (o := .cells #[.int .i64 a0_0, .slice A0_1 l0_1.length c0_1, .slice A0_2 l0_2.length c0_2] 25 (0, 0)) (by (with_reducible repeat (first | refine blk_drewN ?_ _ | refine blk_drew ?_ | refine blk_alloc ?_ _)); exact a0.out) hb); have b8 := Aside0.mk (below_step (by repeat (first | (with_reducible first | exact HB.out | apply below_alloc | apply pw_below_drewN | apply below_drew1 | refine below_set ?_ a5.out) | exact HB.out)) hb); have b5 := Aside0.mk (hbox); have b7 := Aside0.mk ((by rw [hg]; exact (below_size (by repeat (first | (with_reducible first | exact HB.out | apply below_alloc | apply pw_below_drewN | apply below_drew1 | refine below_set ?_ a5.out) | exact HB.out))) : w.heap.size ≤ a4)); have e2 := Aside0.mk ((by rw [hg]; exact (below_size (by repeat (first | (with_reducible first | exact HB.out | apply below_alloc | apply pw_below_drewN | apply below_drew1 | refine below_set ?_ a5.out) | exact HB.out))) : w.heap.size ≤ a4)); have e3 := Aside0.mk ((by rw [hg]; exact Nat.ne_of_lt (blk_lt (g := a1) (o := .cells #[.int .i64 a0_0, .slice A0_1 l0_1.length c0_1, .slice A0_2 l0_2.length c0_2] 25 (0, 0)) (by (with_reducible repeat (first | refine blk_drewN ?_ _ | refine blk_drew ?_ | refine blk_alloc ?_ _)); exact a0.out)) : a1 ≠ a4)); have e1 := Aside0.mk ((by rw [hg]; exact Nat.ne_of_gt (blk_lt (g := a1) (o := .cells #[.int .i64 a0_0, .slice A0_1 l0_1.length c0_1, .slice A0_2 l0_2.length c0_2] 25 (0, 0)) (by (with_reducible repeat (first | refine blk_drewN ?_ _ | refine blk_drew ?_ | refine blk_alloc ?_ _)); exact a0.out)) : a4 ≠ a1)); clear a0; clear HB; have a0 := b6; have HB := b8; have a2 := b5; have j4 := b7; have b4 := e2; have a7 := e3; have a6 := e1; clear b6 b8 b5 b7 e2 e3 e1; clear hb hbox hg))
 repeat (go_quiet (first | ((with_reducible refine gate_dst (N := 2) rfl ?_); (try (refine gate_guard (by rfl) ?_; dsimp only)); refine box_event ?hg (N := 2) ?hd (cs := #[.int .i64 a0_0, .slice A0_1 l0_1.length c0_1, .slice A0_2 l0_2.length c0_2]) (t := 25) ?hr ?_; (case hd => rfl); (case hg => rfl); (case hr => first | (go_simp; done) | (go_simp; rfl)); intro a1 hg w4 hbox hb; have b6 := Aside0.mk (below_step (by repeat (first | (with_reducible first | exact HB.out | apply below_alloc | apply pw_below_drewN | apply below_drew1) | exact HB.out)) hb); have b8 := Aside0.mk (hbox); have b5 := Aside0.mk ((by rw [hg]; exact (below_size (by repeat (first | (with_reducible first | exact HB.out | apply below_alloc | apply pw_below_drewN | apply below_drew1) | exact HB.out))) : w.heap.size ≤ a1)); have b7 := Aside0.mk ((by rw [hg]; exact (below_size (by repeat (first | (with_reducible first | exact HB.out | apply below_alloc | apply pw_below_drewN | apply below_drew1) | exact HB.out))) : w.heap.size ≤ a1)); clear HB; have HB := b6; have a0 := b8; have j3 := b5; have a5 := b7; clear b6 b8 b5 b7; clear hb hbox hg) | ((with_reducible refine gate_dst (N := 3) rfl ?_); (try (refine gate_guard (by rfl) ?_; dsimp only)); refine box_event ?hg (N := 3) ?hd (cs := #[.int .i64 a1_0, .slice A1_1 l1_1.length c1_1, .slice A1_2 l1_2.length c1_2]) (t := 25) ?hr ?_; (case hd => rfl); (case hg => rfl); (case hr => first | (go_simp; done) | (go_simp; rfl)); intro a4 hg w5 hbox hb; have b6 := Aside0.mk (blk_below (g := a1) (o := .cells #[.int .i64 a0_0, .slice A0_1 l0_1.length c0_1, .slice A0_2 l0_2.length c0_2] 25 (0, 0)) (by (with_reducible repeat (first | refine blk_drewN ?_ _ | refine blk_drew ?_ | refine blk_alloc ?_ _)); exact a0.out) hb); have b8 := Aside0.mk (below_step (by repeat (first | (with_reducible first | exact HB.out | apply below_alloc | apply pw_below_drewN | apply below_drew1 | refine below_set ?_ a5.out) | exact HB.out)) hb); have b5 := Aside0.mk (hbox); have b7 := Aside0.mk ((by rw [hg]; exact (below_size (by repeat (first | (with_reducible first | exact HB.out | apply below_alloc | apply pw_below_drewN | apply below_drew1 | refine below_set ?_ a5.out) | exact HB.out))) : w.heap.size ≤ a4)); have e2 := Aside0.mk ((by rw [hg]; exact (below_size (by repeat (first | (with_reducible first | exact HB.out | apply below_alloc | apply pw_below_drewN | apply below_drew1 | refine below_set ?_ a5.out) | exact HB.out))) : w.heap.size ≤ a4)); have e3 := Aside0.mk ((by rw [hg]; exact Nat.ne_of_lt (blk_lt (g := a1) (o := .cells #[.int .i64 a0_0, .slice A0_1 l0_1.length c0_1, .slice A0_2 l0_2.length c0_2] 25 (0, 0)) (by (with_reducible repeat (first | refine blk_drewN ?_ _ | refine blk_drew ?_ | refine blk_alloc ?_ _)); exact a0.out)) : a1 ≠ a4)); have e1 := Aside0.mk ((by rw [hg]; exact Nat.ne_of_gt (blk_lt (g := a1) (o := .cells #[.int .i64 a0_0, .slice A0_1 l0_1.length c0_1, .slice A0_2 l0_2.length c0_2] 25 (0, 0)) (by (with_reducible repeat (first | refine blk_drewN ?_ _ | refine blk_drew ?_ | refine blk_alloc ?_ _)); exact a0.out)) : a4 ≠ a1)); clear a0; clear HB; have a0 := b6; have HB := b8; have a2 := b5; have j4 := b7; have b4 := e2; have a7 := e3; have a6 := e1; clear b6 b8 b5 b7 e2 e3 e1; clear hb hbox hg)); go_upto_region 1 with (first | ((with_reducible refine gate_dst (N := 2) rfl ?_); (try (refine gate_guard (by rfl) ?_; dsimp only)); refine box_event ?hg (N := 2) ?hd (cs := #[.int .i64 a0_0, .slice A0_1 l0_1.length c0_1, .slice A0_2 l0_2.length c0_2]) (t := 25) ?hr ?_; (case hd => rfl); (case hg => rfl); (case hr => first | (go_simp; done) | (go_simp; rfl)); intro a1 hg w4 hbox hb; have b6 := Aside0.mk (below_step (by repeat (first | (with_reducible first | exact HB.out | apply below_alloc | apply pw_below_drewN | apply below_drew1) | exact HB.out)) hb); have b8 := Aside0.mk (hbox); have b5 := Aside0.mk ((by rw [hg]; exact (below_size (by repeat (first | (with_reducible first | exact HB.out | apply below_alloc | apply pw_below_drewN | apply below_drew1) | exact HB.out))) : w.heap.size ≤ a1)); have b7 := Aside0.mk ((by rw [hg]; exact (below_size (by repeat (first | (with_reducible first | exact HB.out | apply below_alloc | apply pw_below_drewN | apply below_drew1) | exact HB.out))) : w.heap.size ≤ a1)); clear HB; have HB := b6; have a0 := b8; have j3 := b5; have a5 := b7; clear b6 b8 b5 b7; clear hb hbox hg) | ((with_reducible refine gate_dst (N := 3) rfl ?_); (try (refine gate_guard (by rfl) ?_; dsimp only)); refine box_event ?hg (N := 3) ?hd (cs := #[.int .i64 a1_0, .slice A1_1 l1_1.length c1_1, .slice A1_2 l1_2.length c1_2]) (t := 25) ?hr ?_; (case hd => rfl); (case hg => rfl); (case hr => first | (go_simp; done) | (go_simp; rfl)); intro a4 hg w5 hbox hb; have b6 := Aside0.mk (blk_below (g := a1) (o := .cells #[.int .i64 a0_0, .slice A0_1 l0_1.length c0_1, .slice A0_2 l0_2.length c0_2] 25 (0, 0)) (by (with_reducible repeat (first | refine blk_drewN ?_ _ | refine blk_drew ?_ | refine blk_alloc ?_ _)); exact a0.out) hb); have b8 := Aside0.mk (below_step (by repeat (first | (with_reducible first | exact HB.out | apply below_alloc | apply pw_below_drewN | apply below_drew1 | refine below_set ?_ a5.out) | exact HB.out)) hb); have b5 := Aside0.mk (hbox); have b7 := Aside0.mk ((by rw [hg]; exact (below_size (by repeat (first | (with_reducible first | exact HB.out | apply below_alloc | apply pw_below_drewN | apply below_drew1 | refine below_set ?_ a5.out) | exact HB.out))) : w.heap.size ≤ a4)); have e2 := Aside0.mk ((by rw [hg]; exact (below_size (by repeat (first | (with_reducible first | exact HB.out | apply below_alloc | apply pw_below_drewN | apply below_drew1 | refine below_set ?_ a5.out) | exact HB.out))) : w.heap.size ≤ a4)); have e3 := Aside0.mk ((by rw [hg]; exact Nat.ne_of_lt (blk_lt (g := a1) (o := .cells #[.int .i64 a0_0, .slice A0_1 l0_1.length c0_1, .slice A0_2 l0_2.length c0_2] 25 (0, 0)) (by (with_reducible repeat (first | refine blk_drewN ?_ _ | refine blk_drew ?_ | refine blk_alloc ?_ _)); exact a0.out)) : a1 ≠ a4)); have e1 := Aside0.mk ((by rw [hg]; exact Nat.ne_of_gt (blk_lt (g := a1) (o := .cells #[.int .i64 a0_0, .slice A0_1 l0_1.length c0_1, .slice A0_2 l0_2.length c0_2] 25 (0, 0)) (by (with_reducible repeat (first | refine blk_drewN ?_ _ | refine blk_drew ?_ | refine blk_alloc ?_ _)); exact a0.out)) : a4 ≠ a1)); clear a0; clear HB; have a0 := b6; have HB := b8; have a2 := b5; have j4 := b7; have b4 := e2; have a7 := e3; have a6 := e1; clear b6 b8 b5 b7 e2 e3 e1; clear hb hbox hg)))
 (try simp only [Act.put, List.setIfInBounds_toArray, List.set_cons_zero, List.set_cons_succ])
 go_cut [27] (fun o0 wc => ∃ (kq : Nat) (e4 : Bool), o0 = .bool e4 ∧ Aside0 (Pr26b.j0 kq e4 a0_0 l0_1 l0_2 a1_0 l1_1 l1_2 = some r) ∧ Aside0 (kq ≤ k) ∧ Aside0 (wc.heap[a1]? = some (.cells #[.int .i64 a0_0, (.slice A0_1 l0_1.length c0_1), (.slice A0_2 l0_2.length c0_2)] 25 (0, 0))) ∧ Aside0 (wc.heap[a4]? = some (.cells #[.int .i64 a1_0, (.slice A1_1 l1_1.length c1_1), (.slice A1_2 l1_2.length c1_2)] 25 (0, 0))) ∧ Aside0 (Below w.heap.size w wc))
 case first =>
  have H := j8.out
  clear j8
  by_cases c6 : a0_0 = a1_0
  ·rw [if_pos c6] at H
   have c6b0 : (a0_0 == a1_0) = true := beq_iff_eq.mpr c6
   have c6b1 : (a0_0 != a1_0) = false := bne_eq_false_iff_eq.mpr c6
   clear c6
   (first | rw [c6b0] | (simp only [i64_w, i32_w]; rw [c6b0]) | skip)
   replace H := Option.bind_eq_some_iff.mp H
   obtain ⟨i6, k1, H⟩ := H
   replace H : (if i6 = true then (Pr26b.j0 k ((l0_2.length : Int) != (l1_2.length : Int)) a0_0 l0_1 l0_2 a1_0 l1_1 l1_2) else (Pr26b.j0 k true a0_0 l0_1 l0_2 a1_0 l1_1 l1_2)) = some r := H
   have A7 := Aside0.mk k1
   clear k1
   by_cases c8 : i6 = true
   ·subst c8
    have H1 : (Pr26b.j0 k ((l0_2.length : Int) != (l1_2.length : Int)) a0_0 l0_1 l0_2 a1_0 l1_1 l1_2) = some r := by rw [if_pos rfl] at H; exact H
    clear H
    have H := H1
    clear H1
    have H' := Aside0.mk H
    clear H
    have p7 := a7.out
    have p5 := a6.out
    have h2 : w5.cell? ⟨a1, 0, none⟩ = some (.int .i64 a0_0) := (blk_cell a0.out 0).trans rfl
    have h9 : w5.cell? ⟨a1, 1, none⟩ = some (.slice A0_1 l0_1.length c0_1) := (blk_cell a0.out 1).trans rfl
    have h4 : w5.cell? ⟨a1, 2, none⟩ = some (.slice A0_2 l0_2.length c0_2) := (blk_cell a0.out 2).trans rfl
    have e8 := blk_frozen a0.out 0
    have f3 := blk_frozen a0.out 1
    have g2 := blk_frozen a0.out 2
    have f6 : w5.cell? ⟨a4, 0, none⟩ = some (.int .i64 a1_0) := (blk_cell a2.out 0).trans rfl
    have e6 : w5.cell? ⟨a4, 1, none⟩ = some (.slice A1_1 l1_1.length c1_1) := (blk_cell a2.out 1).trans rfl
    have i0 : w5.cell? ⟨a4, 2, none⟩ = some (.slice A1_2 l1_2.length c1_2) := (blk_cell a2.out 2).trans rfl
    have f4 := blk_frozen a2.out 0
    have h1 := blk_frozen a2.out 1
    have g0 := blk_frozen a2.out 2
    go_wp2_with (first | (go_at_call 36; (with_reducible refine (Pr01a.calls k _ _ l0_1 _ _ l1_1 true _ ?d7 ?e0 ?d9 ?d8 A7.out).mono ?_); (case d7 => repeat (first | exact (Kd.C_below d2.out HB.out) | (with_reducible refine Kd.C_alloc ?_ _) | (with_reducible refine Kd.C_drewN ?_ _) | (with_reducible refine Kd.C_drew ?_))); (case e0 => exact d1.out); (case d9 => repeat (first | exact (Kd.C_below b9.out HB.out) | (with_reducible refine Kd.C_alloc ?_ _) | (with_reducible refine Kd.C_drewN ?_ _) | (with_reducible refine Kd.C_drew ?_))); (case d8 => exact d0.out); rintro e w' ⟨rfl, ⟨nd, rfl⟩⟩; (try first | exact ⟨rfl, _, World.drewN_drewN _ _ _⟩ | exact ⟨rfl, _, Eq.trans (World.drewN_drewN _ _ _) (congrArg (World.drewN _) (Nat.add_assoc _ _ _))⟩)))
    repeat (go_quiet (first | (go_at_call 36; (with_reducible refine (Pr01a.calls k _ _ l0_1 _ _ l1_1 true _ ?d7 ?e0 ?d9 ?d8 A7.out).mono ?_); (case d7 => repeat (first | exact (Kd.C_below d2.out HB.out) | (with_reducible refine Kd.C_alloc ?_ _) | (with_reducible refine Kd.C_drewN ?_ _) | (with_reducible refine Kd.C_drew ?_))); (case e0 => exact d1.out); (case d9 => repeat (first | exact (Kd.C_below b9.out HB.out) | (with_reducible refine Kd.C_alloc ?_ _) | (with_reducible refine Kd.C_drewN ?_ _) | (with_reducible refine Kd.C_drew ?_))); (case d8 => exact d0.out); rintro e w' ⟨rfl, ⟨nd, rfl⟩⟩; (try first | exact ⟨rfl, _, World.drewN_drewN _ _ _⟩ | exact ⟨rfl, _, Eq.trans (World.drewN_drewN _ _ _) (congrArg (World.drewN _) (Nat.add_assoc _ _ _))⟩))); try go_wp2_with (first | (go_at_call 36; (with_reducible refine (Pr01a.calls k _ _ l0_1 _ _ l1_1 true _ ?d7 ?e0 ?d9 ?d8 A7.out).mono ?_); (case d7 => repeat (first | exact (Kd.C_below d2.out HB.out) | (with_reducible refine Kd.C_alloc ?_ _) | (with_reducible refine Kd.C_drewN ?_ _) | (with_reducible refine Kd.C_drew ?_))); (case e0 => exact d1.out); (case d9 => repeat (first | exact (Kd.C_below b9.out HB.out) | (with_reducible refine Kd.C_alloc ?_ _) | (with_reducible refine Kd.C_drewN ?_ _) | (with_reducible refine Kd.C_drew ?_))); (case d8 => exact d0.out); rintro e w' ⟨rfl, ⟨nd, rfl⟩⟩; (try first | exact ⟨rfl, _, World.drewN_drewN _ _ _⟩ | exact ⟨rfl, _, Eq.trans (World.drewN_drewN _ _ _) (congrArg (World.drewN _) (Nat.add_assoc _ _ _))⟩))))
    go_meet
    case rel => exact ⟨_, (((l0_2.length : Int) != (l1_2.length : Int))), (by first | rfl | (simp; done) | (simp [*]; done)), H', ⟨by first | omega | exact Nat.le_refl _⟩, ⟨by (with_reducible repeat (first | refine blk_drewN ?_ _ | refine blk_drew ?_ | refine blk_alloc ?_ _)); exact a0.out⟩, ⟨by (with_reducible repeat (first | refine blk_drewN ?_ _ | refine blk_drew ?_ | refine blk_alloc ?_ _)); exact a2.out⟩, ⟨by repeat (first | (with_reducible first | exact HB.out | apply below_alloc | apply pw_below_drewN | apply below_drew1 | refine below_set ?_ a5.out | refine below_set ?_ b4.out) | exact HB.out)⟩⟩
   ·replace c8 := Bool.eq_false_iff.mpr c8
    subst c8
    have H1 : (Pr26b.j0 k true a0_0 l0_1 l0_2 a1_0 l1_1 l1_2) = some r := by rw [if_neg (show ¬ (false = true) by decide)] at H; exact H
    clear H
    have H := H1
    clear H1
    have H' := Aside0.mk H
    clear H
    have o3 := a7.out
    have p3 := a6.out
    have g5 : w5.cell? ⟨a1, 0, none⟩ = some (.int .i64 a0_0) := (blk_cell a0.out 0).trans rfl
    have f7 : w5.cell? ⟨a1, 1, none⟩ = some (.slice A0_1 l0_1.length c0_1) := (blk_cell a0.out 1).trans rfl
    have g7 : w5.cell? ⟨a1, 2, none⟩ = some (.slice A0_2 l0_2.length c0_2) := (blk_cell a0.out 2).trans rfl
    have i2 := blk_frozen a0.out 0
    have h6 := blk_frozen a0.out 1
    have g4 := blk_frozen a0.out 2
    have g1 : w5.cell? ⟨a4, 0, none⟩ = some (.int .i64 a1_0) := (blk_cell a2.out 0).trans rfl
    have e5 : w5.cell? ⟨a4, 1, none⟩ = some (.slice A1_1 l1_1.length c1_1) := (blk_cell a2.out 1).trans rfl
    have g3 : w5.cell? ⟨a4, 2, none⟩ = some (.slice A1_2 l1_2.length c1_2) := (blk_cell a2.out 2).trans rfl
    have i3 := blk_frozen a2.out 0
    have h5 := blk_frozen a2.out 1
    have h3 := blk_frozen a2.out 2
    go_wp2_with (first | (go_at_call 36; (with_reducible refine (Pr01a.calls k _ _ l0_1 _ _ l1_1 false _ ?d7 ?e0 ?d9 ?d8 A7.out).mono ?_); (case d7 => repeat (first | exact (Kd.C_below d2.out HB.out) | (with_reducible refine Kd.C_alloc ?_ _) | (with_reducible refine Kd.C_drewN ?_ _) | (with_reducible refine Kd.C_drew ?_))); (case e0 => exact d1.out); (case d9 => repeat (first | exact (Kd.C_below b9.out HB.out) | (with_reducible refine Kd.C_alloc ?_ _) | (with_reducible refine Kd.C_drewN ?_ _) | (with_reducible refine Kd.C_drew ?_))); (case d8 => exact d0.out); rintro e w' ⟨rfl, ⟨nd, rfl⟩⟩; (try first | exact ⟨rfl, _, World.drewN_drewN _ _ _⟩ | exact ⟨rfl, _, Eq.trans (World.drewN_drewN _ _ _) (congrArg (World.drewN _) (Nat.add_assoc _ _ _))⟩)))
    repeat (go_quiet (first | (go_at_call 36; (with_reducible refine (Pr01a.calls k _ _ l0_1 _ _ l1_1 false _ ?d7 ?e0 ?d9 ?d8 A7.out).mono ?_); (case d7 => repeat (first | exact (Kd.C_below d2.out HB.out) | (with_reducible refine Kd.C_alloc ?_ _) | (with_reducible refine Kd.C_drewN ?_ _) | (with_reducible refine Kd.C_drew ?_))); (case e0 => exact d1.out); (case d9 => repeat (first | exact (Kd.C_below b9.out HB.out) | (with_reducible refine Kd.C_alloc ?_ _) | (with_reducible refine Kd.C_drewN ?_ _) | (with_reducible refine Kd.C_drew ?_))); (case d8 => exact d0.out); rintro e w' ⟨rfl, ⟨nd, rfl⟩⟩; (try first | exact ⟨rfl, _, World.drewN_drewN _ _ _⟩ | exact ⟨rfl, _, Eq.trans (World.drewN_drewN _ _ _) (congrArg (World.drewN _) (Nat.add_assoc _ _ _))⟩))); try go_wp2_with (first | (go_at_call 36; (with_reducible refine (Pr01a.calls k _ _ l0_1 _ _ l1_1 false _ ?d7 ?e0 ?d9 ?d8 A7.out).mono ?_); (case d7 => repeat (first | exact (Kd.C_below d2.out HB.out) | (with_reducible refine Kd.C_alloc ?_ _) | (with_reducible refine Kd.C_drewN ?_ _) | (with_reducible refine Kd.C_drew ?_))); (case e0 => exact d1.out); (case d9 => repeat (first | exact (Kd.C_below b9.out HB.out) | (with_reducible refine Kd.C_alloc ?_ _) | (with_reducible refine Kd.C_drewN ?_ _) | (with_reducible refine Kd.C_drew ?_))); (case d8 => exact d0.out); rintro e w' ⟨rfl, ⟨nd, rfl⟩⟩; (try first | exact ⟨rfl, _, World.drewN_drewN _ _ _⟩ | exact ⟨rfl, _, Eq.trans (World.drewN_drewN _ _ _) (congrArg (World.drewN _) (Nat.add_assoc _ _ _))⟩))))
    go_meet
    case rel => exact ⟨_, (true), (by first | rfl | (simp; done) | (simp [*]; done)), H', ⟨by first | omega | exact Nat.le_refl _⟩, ⟨by (with_reducible repeat (first | refine blk_drewN ?_ _ | refine blk_drew ?_ | refine blk_alloc ?_ _)); exact a0.out⟩, ⟨by (with_reducible repeat (first | refine blk_drewN ?_ _ | refine blk_drew ?_ | refine blk_alloc ?_ _)); exact a2.out⟩, ⟨by repeat (first | (with_reducible first | exact HB.out | apply below_alloc | apply pw_below_drewN | apply below_drew1 | refine below_set ?_ a5.out | refine below_set ?_ b4.out) | exact HB.out)⟩⟩
  ·rw [if_neg c6] at H
   have c6b0 : (a0_0 == a1_0) = false := beq_eq_false_iff_ne.mpr c6
   have c6b1 : (a0_0 != a1_0) = true := bne_iff_ne.mpr c6
   (first | rw [c6b0] | (simp only [i64_w, i32_w]; rw [c6b0]) | skip)
   have H' := Aside0.mk H
   clear H
   have o4 := a7.out
   have p0 := a6.out
   have f8 : w5.cell? ⟨a1, 0, none⟩ = some (.int .i64 a0_0) := (blk_cell a0.out 0).trans rfl
   have f5 : w5.cell? ⟨a1, 1, none⟩ = some (.slice A0_1 l0_1.length c0_1) := (blk_cell a0.out 1).trans rfl
   have g9 : w5.cell? ⟨a1, 2, none⟩ = some (.slice A0_2 l0_2.length c0_2) := (blk_cell a0.out 2).trans rfl
   have g6 := blk_frozen a0.out 0
   have f9 := blk_frozen a0.out 1
   have g8 := blk_frozen a0.out 2
   have i1 : w5.cell? ⟨a4, 0, none⟩ = some (.int .i64 a1_0) := (blk_cell a2.out 0).trans rfl
   have i5 : w5.cell? ⟨a4, 1, none⟩ = some (.slice A1_1 l1_1.length c1_1) := (blk_cell a2.out 1).trans rfl
   have h7 : w5.cell? ⟨a4, 2, none⟩ = some (.slice A1_2 l1_2.length c1_2) := (blk_cell a2.out 2).trans rfl
   have e9 := blk_frozen a2.out 0
   have i4 := blk_frozen a2.out 1
   have h0 := blk_frozen a2.out 2
   go_wp2
   repeat (go_quiet (fail); try go_wp2)
   go_meet
   case rel => exact ⟨_, (true), (by first | rfl | (simp; done) | (simp [*]; done)), H', ⟨by first | omega | exact Nat.le_refl _⟩, ⟨by (with_reducible repeat (first | refine blk_drewN ?_ _ | refine blk_drew ?_ | refine blk_alloc ?_ _)); exact a0.out⟩, ⟨by (with_reducible repeat (first | refine blk_drewN ?_ _ | refine blk_drew ?_ | refine blk_alloc ?_ _)); exact a2.out⟩, ⟨by repeat (first | (with_reducible first | exact HB.out | apply below_alloc | apply pw_below_drewN | apply below_drew1 | refine below_set ?_ a5.out | refine below_set ?_ b4.out) | exact HB.out)⟩⟩
 case rest =>
  clear j8
  try clear c1
  try clear p2
  try clear c6
  try clear c6b0
  try clear c6b1
  try clear c8
  try clear c9
  try clear n8
  try clear o1
  try clear n9
  try clear h2
  try clear h9
  try clear h4
  try clear f6
  try clear e6
  try clear i0
  try clear g5
  try clear f7
  try clear g7
  try clear g1
  try clear e5
  try clear g3
  try clear f8
  try clear f5
  try clear g9
  try clear i1
  try clear i5
  try clear h7
  try clear e8
  try clear f3
  try clear g2
  try clear f4
  try clear h1
  try clear g0
  try clear i2
  try clear h6
  try clear g4
  try clear i3
  try clear h5
  try clear h3
  try clear g6
  try clear f9
  try clear g8
  try clear e9
  try clear i4
  try clear h0
  obtain ⟨kq, e4, rfl, HA, k4, a0, a2, HB⟩ := hcut
  cases kq with
  | zero => exact absurd HA.out (by simp [Pr26b.j0])
  | succ kj2 =>
   have H := HA.out
   clear HA
   simp only [Pr26b.j0] at H
   by_cases i7 : e4 = true
   ·subst i7
    have H1 : (some false) = some r := by rw [if_pos rfl] at H; exact H
    clear H
    have H := H1
    clear H1
    obtain rfl := Option.some.inj H
    go_wp2
    repeat (go_quiet (fail); try go_wp2)
    go_ret
    exact ⟨by first | rfl | (simp [errW_none, errW_some] <;> rfl) | (simp [*, errW_none, errW_some] <;> rfl), by repeat (first | (with_reducible first | exact HB.out | apply below_alloc | apply pw_below_drewN | apply below_drew1 | refine below_set ?_ a5.out | refine below_set ?_ b4.out) | exact HB.out)⟩
   ·replace i7 := Bool.eq_false_iff.mpr i7
    subst i7
    have H1 : (Pr26b.l0 kj2 0 a0_0 l0_1 l0_2 a1_0 l1_1 l1_2) = some r := by rw [if_neg (show ¬ (false = true) by decide)] at H; exact H
    clear H
    have H := H1
    clear H1
    have H' := Aside0.mk H
    clear H
    go_wp2
    repeat (go_quiet (fail); try go_wp2)
    go_loopg [5] kj2 (fun kq v5 w' => ∃ (a3 : Int), v5 = .int .i64 a3 ∧ Aside0 (Pr26b.l0 kq a3 a0_0 l0_1 l0_2 a1_0 l1_1 l1_2 = some r) ∧ Aside0 (kq ≤ kj2) ∧ Aside0 (w'.heap[a1]? = some (.cells #[.int .i64 a0_0, (.slice A0_1 l0_1.length c0_1), (.slice A0_2 l0_2.length c0_2)] 25 (0, 0))) ∧ Aside0 (w'.heap[a4]? = some (.cells #[.int .i64 a1_0, (.slice A1_1 l1_1.length c1_1), (.slice A1_2 l1_2.length c1_2)] 25 (0, 0))) ∧ Aside0 (Below w.heap.size w w'))
    case atStart => exact ⟨(0), (by first | rfl | (simp; done) | (simp [*]; done)), H', ⟨Nat.le_refl _⟩, ⟨by (with_reducible repeat (first | refine blk_drewN ?_ _ | refine blk_drew ?_ | refine blk_alloc ?_ _)); exact a0.out⟩, ⟨by (with_reducible repeat (first | refine blk_drewN ?_ _ | refine blk_drew ?_ | refine blk_alloc ?_ _)); exact a2.out⟩, ⟨by repeat (first | (with_reducible first | exact HB.out | apply below_alloc | apply pw_below_drewN | apply below_drew1 | refine below_set ?_ a5.out | refine below_set ?_ b4.out) | exact HB.out)⟩⟩
    case round =>
     clear H'
     try clear c1
     try clear p2
     try clear c6
     try clear c6b0
     try clear c6b1
     try clear c8
     try clear c9
     try clear n8
     try clear o1
     try clear n9
     try clear i7
     try clear h2
     try clear h9
     try clear h4
     try clear f6
     try clear e6
     try clear i0
     try clear g5
     try clear f7
     try clear g7
     try clear g1
     try clear e5
     try clear g3
     try clear f8
     try clear f5
     try clear g9
     try clear i1
     try clear i5
     try clear h7
     try clear e8
     try clear f3
     try clear g2
     try clear f4
     try clear h1
     try clear g0
     try clear i2
     try clear h6
     try clear g4
     try clear i3
     try clear h5
     try clear h3
     try clear g6
     try clear f9
     try clear g8
     try clear e9
     try clear i4
     try clear h0
     try clear p2
     obtain ⟨a3, rfl, HA, k3, a0, a2, HB⟩ := hrel
     cases gk with
     | zero => exact absurd HA.out (by simp [Pr26b.l0])
     | succ k2 =>
      have H := HA.out
      clear HA
      simp only [Pr26b.l0] at H
      by_cases e7 : a3 < (l0_2.length : Int)
      ·rw [if_pos e7] at H
       have c19b0 : decide (a3 < (l0_2.length : Int)) = true := decide_eq_true e7
       clear e7
       by_cases j5 : 0 ≤ a3
       ·rw [if_pos j5] at H
        have c20b0 : decide (0 ≤ a3) = true := decide_eq_true j5
        clear j5
        by_cases j6 : a3 < (l1_2.length : Int)
        ·rw [if_pos j6] at H
         have c21b0 : decide (a3 < (l1_2.length : Int)) = true := decide_eq_true j6
         clear j6
         by_cases h8 : (!(((rd_T51 l0_2 a3).f0) == ((rd_T51 l1_2 a3).f0)) || (!(((rd_T51 l0_2 a3).f1) == ((rd_T51 l1_2 a3).f1)) || (!(((rd_T51 l0_2 a3).f2) == ((rd_T51 l1_2 a3).f2))))) = true
         ·rw [if_pos h8] at H
          have c22b0 : (!(((rd_T51 l0_2 a3).f0) == ((rd_T51 l1_2 a3).f0)) || (!(((rd_T51 l0_2 a3).f1) == ((rd_T51 l1_2 a3).f1)) || (!(((rd_T51 l0_2 a3).f2) == ((rd_T51 l1_2 a3).f2))))) = true := h8
          clear h8
          obtain rfl := Option.some.inj H
          have o5 := a7.out
          have o2 := a6.out
          have n4 : wr.cell? ⟨a1, 0, none⟩ = some (.int .i64 a0_0) := (blk_cell a0.out 0).trans rfl
          have n3 : wr.cell? ⟨a1, 1, none⟩ = some (.slice A0_1 l0_1.length c0_1) := (blk_cell a0.out 1).trans rfl
          have k7 : wr.cell? ⟨a1, 2, none⟩ = some (.slice A0_2 l0_2.length c0_2) := (blk_cell a0.out 2).trans rfl
          have k9 := blk_frozen a0.out 0
          have l9 := blk_frozen a0.out 1
          have k6 := blk_frozen a0.out 2
          have d4 : 0 ≤ (a3 : Int) := of_decide_eq_true (by first | (with_reducible assumption) | assumption)
          have d3 : a3 < (l0_2.length : Int) := of_decide_eq_true (by first | (with_reducible assumption) | assumption)
          obtain ⟨j9, i9, b3, b2, a9⟩ := at_T51 j7.out a3 d4 d3
          cases i9
          replace b3 := (HB.out.cell (World.block_lt_of_cell? w _ b3)).trans b3
          replace b2 := (HB.out.cell (World.block_lt_of_cell? w _ b2)).trans b2
          replace a9 := (HB.out.cell (World.block_lt_of_cell? w _ a9)).trans a9
          replace d4 := eq_true d4
          replace d3 := eq_true d3
          have l6 : wr.cell? ⟨a4, 0, none⟩ = some (.int .i64 a1_0) := (blk_cell a2.out 0).trans rfl
          have k8 : wr.cell? ⟨a4, 1, none⟩ = some (.slice A1_1 l1_1.length c1_1) := (blk_cell a2.out 1).trans rfl
          have n1 : wr.cell? ⟨a4, 2, none⟩ = some (.slice A1_2 l1_2.length c1_2) := (blk_cell a2.out 2).trans rfl
          have m9 := blk_frozen a2.out 0
          have l4 := blk_frozen a2.out 1
          have l7 := blk_frozen a2.out 2
          have d5 : 0 ≤ (a3 : Int) := of_decide_eq_true (by first | (with_reducible assumption) | assumption)
          have d6 : a3 < (l1_2.length : Int) := of_decide_eq_true (by first | (with_reducible assumption) | assumption)
          obtain ⟨k0, i8, b0, b1, a8⟩ := at_T51 j2.out a3 d5 d6
          cases i8
          replace b0 := (HB.out.cell (World.block_lt_of_cell? w _ b0)).trans b0
          replace b1 := (HB.out.cell (World.block_lt_of_cell? w _ b1)).trans b1
          replace a8 := (HB.out.cell (World.block_lt_of_cell? w _ a8)).trans a8
          replace d5 := eq_true d5
          replace d6 := eq_true d6
          go_wp2
          repeat (go_quiet (fail); try go_wp2)
          go_ret
          exact ⟨by first | rfl | (simp [errW_none, errW_some] <;> rfl) | (simp [*, errW_none, errW_some] <;> rfl), by repeat (first | (with_reducible first | exact HB.out | apply below_alloc | apply pw_below_drewN | apply below_drew1 | refine below_set ?_ a5.out | refine below_set ?_ b4.out) | exact HB.out)⟩
         ·rw [if_neg h8] at H
          have c22b0 : (!(((rd_T51 l0_2 a3).f0) == ((rd_T51 l1_2 a3).f0)) || (!(((rd_T51 l0_2 a3).f1) == ((rd_T51 l1_2 a3).f1)) || (!(((rd_T51 l0_2 a3).f2) == ((rd_T51 l1_2 a3).f2))))) = false := by simpa using h8
          clear h8
          have H' := Aside0.mk H
          clear H
          have o7 := a7.out
          have p1 := a6.out
          have m2 : wr.cell? ⟨a1, 0, none⟩ = some (.int .i64 a0_0) := (blk_cell a0.out 0).trans rfl
          have m8 : wr.cell? ⟨a1, 1, none⟩ = some (.slice A0_1 l0_1.length c0_1) := (blk_cell a0.out 1).trans rfl
          have m0 : wr.cell? ⟨a1, 2, none⟩ = some (.slice A0_2 l0_2.length c0_2) := (blk_cell a0.out 2).trans rfl
          have n7 := blk_frozen a0.out 0
          have k5 := blk_frozen a0.out 1
          have m7 := blk_frozen a0.out 2
          have d4 : 0 ≤ (a3 : Int) := of_decide_eq_true (by first | (with_reducible assumption) | assumption)
          have d3 : a3 < (l0_2.length : Int) := of_decide_eq_true (by first | (with_reducible assumption) | assumption)
          obtain ⟨j9, i9, b3, b2, a9⟩ := at_T51 j7.out a3 d4 d3
          cases i9
          replace b3 := (HB.out.cell (World.block_lt_of_cell? w _ b3)).trans b3
          replace b2 := (HB.out.cell (World.block_lt_of_cell? w _ b2)).trans b2
          replace a9 := (HB.out.cell (World.block_lt_of_cell? w _ a9)).trans a9
          replace d4 := eq_true d4
          replace d3 := eq_true d3
          have l8 : wr.cell? ⟨a4, 0, none⟩ = some (.int .i64 a1_0) := (blk_cell a2.out 0).trans rfl
          have m3 : wr.cell? ⟨a4, 1, none⟩ = some (.slice A1_1 l1_1.length c1_1) := (blk_cell a2.out 1).trans rfl
          have l3 : wr.cell? ⟨a4, 2, none⟩ = some (.slice A1_2 l1_2.length c1_2) := (blk_cell a2.out 2).trans rfl
          have m5 := blk_frozen a2.out 0
          have l5 := blk_frozen a2.out 1
          have m6 := blk_frozen a2.out 2
          have d5 : 0 ≤ (a3 : Int) := of_decide_eq_true (by first | (with_reducible assumption) | assumption)
          have d6 : a3 < (l1_2.length : Int) := of_decide_eq_true (by first | (with_reducible assumption) | assumption)
          obtain ⟨k0, i8, b0, b1, a8⟩ := at_T51 j2.out a3 d5 d6
          cases i8
          replace b0 := (HB.out.cell (World.block_lt_of_cell? w _ b0)).trans b0
          replace b1 := (HB.out.cell (World.block_lt_of_cell? w _ b1)).trans b1
          replace a8 := (HB.out.cell (World.block_lt_of_cell? w _ a8)).trans a8
          replace d5 := eq_true d5
          replace d6 := eq_true d6
          go_wp2
          repeat (go_quiet (fail); try go_wp2)
          go_roundg k2
          case measure => have := k4.out; have := k3.out; omega
          case rel => exact ⟨(wrap64 (a3 + 1)), (by first | rfl | (simp; done) | (simp [*]; done)), H', ⟨by have := k4.out; have := k3.out; omega⟩, ⟨by (with_reducible repeat (first | refine blk_drewN ?_ _ | refine blk_drew ?_ | refine blk_alloc ?_ _)); exact a0.out⟩, ⟨by (with_reducible repeat (first | refine blk_drewN ?_ _ | refine blk_drew ?_ | refine blk_alloc ?_ _)); exact a2.out⟩, ⟨by repeat (first | (with_reducible first | exact HB.out | apply below_alloc | apply pw_below_drewN | apply below_drew1 | refine below_set ?_ a5.out | refine below_set ?_ b4.out) | exact HB.out)⟩⟩
        ·rw [if_neg j6] at H
         exact absurd H (by simp)
       ·rw [if_neg j5] at H
        exact absurd H (by simp)
      ·rw [if_neg e7] at H
       have c19b0 : decide (a3 < (l0_2.length : Int)) = false := decide_eq_false e7
       clear e7
       obtain rfl := Option.some.inj H
       have p4 := a7.out
       have o6 := a6.out
       have n2 : wr.cell? ⟨a1, 0, none⟩ = some (.int .i64 a0_0) := (blk_cell a0.out 0).trans rfl
       have n0 : wr.cell? ⟨a1, 1, none⟩ = some (.slice A0_1 l0_1.length c0_1) := (blk_cell a0.out 1).trans rfl
       have n6 : wr.cell? ⟨a1, 2, none⟩ = some (.slice A0_2 l0_2.length c0_2) := (blk_cell a0.out 2).trans rfl
       have m4 := blk_frozen a0.out 0
       have m1 := blk_frozen a0.out 1
       have n5 := blk_frozen a0.out 2
       go_wp2
       repeat (go_quiet (fail); try go_wp2)
       go_ret
       exact ⟨by first | rfl | (simp [errW_none, errW_some] <;> rfl) | (simp [*, errW_none, errW_some] <;> rfl), by repeat (first | (with_reducible first | exact HB.out | apply below_alloc | apply pw_below_drewN | apply below_drew1 | refine below_set ?_ a5.out | refine below_set ?_ b4.out) | exact HB.out)⟩
mutual
def Pr26a.l0 : Nat → Int → Int → List ByteArray → List (S51) → Option (Bool)
 | 0, _, _, _, _ => none
 | k + 1, x3, x109000, x109001, x109002 => if x3 < (x109001.length : Int) then (Pr26a.j1 k x3 (decide (x3 < 70)) x109000 x109001 x109002) else (Pr26a.j1 k x3 false x109000 x109001 x109002)
def Pr26a.j1 : Nat → Int → Bool → Int → List ByteArray → List (S51) → Option (Bool)
 | 0, _, _, _, _, _ => none
 | k + 1, x3, x12, x109000, x109001, x109002 => if x12 = true then (if 0 ≤ x3 then (if x3 < (x109001.length : Int) then (if ((rdOf ByteArray.empty x109001 x3).size : Int) > 300 then (some false) else (Pr26a.l0 k (wrap64 (x3 + 1)) x109000 x109001 x109002)) else (none)) else (none)) else (if (x109001.length : Int) < 70 then (if (x109002.length : Int) ≤ 200 then (if x109000 ≤ 60 then (some true) else (some (decide (x109000 > 2048)))) else (some false)) else (some false))
end
def Pr26a.f (k : Nat) (a0_0 : Int) (l0_1 : List ByteArray) (l0_2 : List (S51)) : Option (Bool) := Pr26a.l0 k 0 a0_0 l0_1 l0_2
theorem Pr26a.mono_l : ∀ k, (∀ y0 y1 y2 y3, LeO (Pr26a.l0 k y0 y1 y2 y3) (Pr26a.l0 (k + 1) y0 y1 y2 y3)) ∧ (∀ y0 y1 y2 y3 y4, LeO (Pr26a.j1 k y0 y1 y2 y3 y4) (Pr26a.j1 (k + 1) y0 y1 y2 y3 y4))
 | 0 => ⟨fun _ _ _ _ r h => by simp [Pr26a.l0] at h, fun _ _ _ _ _ r h => by simp [Pr26a.j1] at h⟩
 | k + 1 => by
  obtain ⟨ih0, ih1⟩ := Pr26a.mono_l k
  refine ⟨?_, ?_⟩
  ·intro y0 y1 y2 y3
   unfold Pr26a.l0
   repeat' first
   | (with_reducible exact ih0 _ _ _ _)
   | (with_reducible exact ih1 _ _ _ _ _)
   | (with_reducible exact LeO.refl _)
   | (with_reducible exact LeO.none _)
   | (with_reducible refine LeO.ite ?_ ?_)
   | (with_reducible refine LeO.bind ?_ (fun _ => ?_))
   | exact ih0 _ _ _ _
   | exact ih1 _ _ _ _ _
   | exact LeO.none _
   | refine LeO.ite ?_ ?_
   | refine LeO.bind ?_ (fun _ => ?_)
  ·intro y0 y1 y2 y3 y4
   unfold Pr26a.j1
   repeat' first
   | (with_reducible exact ih0 _ _ _ _)
   | (with_reducible exact ih1 _ _ _ _ _)
   | (with_reducible exact LeO.refl _)
   | (with_reducible exact LeO.none _)
   | (with_reducible refine LeO.ite ?_ ?_)
   | (with_reducible refine LeO.bind ?_ (fun _ => ?_))
   | exact ih0 _ _ _ _
   | exact ih1 _ _ _ _ _
   | exact LeO.none _
   | refine LeO.ite ?_ ?_
   | refine LeO.bind ?_ (fun _ => ?_)
theorem Pr26a.mono : ∀ a0 a1 a2 k, LeO (Pr26a.f k a0 a1 a2) (Pr26a.f (k + 1) a0 a1 a2) := by
 intro a0 a1 a2 k
 obtain ⟨ih0, ih1⟩ := Pr26a.mono_l k
 unfold Pr26a.f
 repeat' first
   | (with_reducible exact ih0 _ _ _ _)
   | (with_reducible exact ih1 _ _ _ _ _)
   | (with_reducible exact LeO.refl _)
   | (with_reducible exact LeO.none _)
   | (with_reducible refine LeO.ite ?_ ?_)
   | (with_reducible refine LeO.bind ?_ (fun _ => ?_))
   | exact ih0 _ _ _ _
   | exact ih1 _ _ _ _ _
   | exact LeO.none _
   | refine LeO.ite ?_ ?_
   | refine LeO.bind ?_ (fun _ => ?_)
set_option maxHeartbeats 8000000 in
set_option maxRecDepth 100000 in
theorem Pr26a.calls (k : Nat) (a0_0 : Int) (A0_1 : Option Addr) (c0_1 : Nat) (l0_1 : List ByteArray) (A0_2 : Option Addr) (c0_2 : Nat) (l0_2 : List (S51)) (r : Bool) (w : World) (hr0_1 : Kd.C Kd.string w A0_1 l0_1.length l0_1) (hc0_1 : l0_1.length ≤ c0_1) (hr0_2 : Kd.C k51 w A0_2 l0_2.length l0_2) (hc0_2 : l0_2.length ≤ c0_2) (h : Pr26a.f k a0_0 l0_1 l0_2 = some r) :
  Calls Try.prog 23 #[.agg #[.int .i64 a0_0, .slice A0_1 l0_1.length c0_1, .slice A0_2 l0_2.length c0_2]] w fun e w' => e = .returned (.bool r) ∧ Below w.heap.size w w' := by
 have i4 := Try.underlying25
 have b2 := Aside0.mk hr0_1
 have i3 := Aside0.mk hc0_1
 clear hr0_1 hc0_1
 have i1 := Aside0.mk hr0_2
 have i2 := Aside0.mk hc0_2
 clear hr0_2 hc0_2
 have HB := Aside0.mk (Below.refl w.heap.size w)
 have H : (Pr26a.l0 k 0 a0_0 l0_1 l0_2) = some r := h
 clear h
 have H' := Aside0.mk H
 clear H
 go_enter Try.func23, Try.ntmps23
 go_wp2_with (first | ((with_reducible refine gate_dst (N := 1) rfl ?_); (try (refine gate_guard (by rfl) ?_; dsimp only)); refine box_event ?hg (N := 1) ?hd (cs := #[.int .i64 a0_0, .slice A0_1 l0_1.length c0_1, .slice A0_2 l0_2.length c0_2]) (t := 25) ?hr ?_; (case hd => rfl); (case hg => rfl); (case hr => first | (go_simp; done) | (go_simp; rfl)); intro a1 hg w2 hbox hb; have d9 := Aside0.mk (below_step (by repeat (first | (with_reducible first | exact HB.out | apply below_alloc | apply pw_below_drewN | apply below_drew1) | exact HB.out)) hb); have d8 := Aside0.mk (hbox); have e2 := Aside0.mk ((by rw [hg]; exact (below_size (by repeat (first | (with_reducible first | exact HB.out | apply below_alloc | apply pw_below_drewN | apply below_drew1) | exact HB.out))) : w.heap.size ≤ a1)); have e1 := Aside0.mk ((by rw [hg]; exact (below_size (by repeat (first | (with_reducible first | exact HB.out | apply below_alloc | apply pw_below_drewN | apply below_drew1) | exact HB.out))) : w.heap.size ≤ a1)); clear HB; have HB := d9; have a0 := d8; have i0 := e2; have a4 := e1; clear d9 d8 e2 e1; clear hb hbox hg))
 go_loopg [3] k (fun kq v3 w' => ∃ (a2 : Int), v3 = .int .i64 a2 ∧ Aside0 (Pr26a.l0 kq a2 a0_0 l0_1 l0_2 = some r) ∧ Aside0 (kq ≤ k) ∧ Aside0 (w'.heap[a1]? = some (.cells #[.int .i64 a0_0, (.slice A0_1 l0_1.length c0_1), (.slice A0_2 l0_2.length c0_2)] 25 (0, 0))) ∧ Aside0 (Below w.heap.size w w'))
 case atStart => exact ⟨(0), (by first | rfl | (simp; done) | (simp [*]; done)), H', ⟨Nat.le_refl _⟩, ⟨by (with_reducible repeat (first | refine blk_drewN ?_ _ | refine blk_drew ?_ | refine blk_alloc ?_ _)); exact a0.out⟩, ⟨by repeat (first | (with_reducible first | exact HB.out | apply below_alloc | apply pw_below_drewN | apply below_drew1 | refine below_set ?_ a4.out) | exact HB.out)⟩⟩
 case round =>
  clear H'
  try clear c2
  try clear p2
  obtain ⟨a2, rfl, HA, b3, a0, HB⟩ := hrel
  cases gk with
  | zero => exact absurd HA.out (by simp [Pr26a.l0])
  | succ k1 =>
   have H := HA.out
   clear HA
   simp only [Pr26a.l0] at H
   have d3 := Aside0.mk H
   clear H
   go_upto_region 2 with (fail)
   go_cut [12] (fun h9 wc => ∃ (kq : Nat) (a7 : Bool), h9 = .bool a7 ∧ Aside0 (Pr26a.j1 kq a2 a7 a0_0 l0_1 l0_2 = some r) ∧ Aside0 (kq ≤ k1) ∧ Aside0 (wc.heap[a1]? = some (.cells #[.int .i64 a0_0, (.slice A0_1 l0_1.length c0_1), (.slice A0_2 l0_2.length c0_2)] 25 (0, 0))) ∧ Aside0 (Below w.heap.size w wc))
   case first =>
    have H := d3.out
    clear d3
    by_cases c4 : a2 < (l0_1.length : Int)
    ·rw [if_pos c4] at H
     have c4b0 : decide (a2 < (l0_1.length : Int)) = true := decide_eq_true c4
     clear c4
     (first | rw [c4b0] | (simp only [i64_w, i32_w]; rw [c4b0]) | skip)
     have H' := Aside0.mk H
     clear H
     have b4 : wr.cell? ⟨a1, 0, none⟩ = some (.int .i64 a0_0) := (blk_cell a0.out 0).trans rfl
     have d5 : wr.cell? ⟨a1, 1, none⟩ = some (.slice A0_1 l0_1.length c0_1) := (blk_cell a0.out 1).trans rfl
     have b7 : wr.cell? ⟨a1, 2, none⟩ = some (.slice A0_2 l0_2.length c0_2) := (blk_cell a0.out 2).trans rfl
     have d1 := blk_frozen a0.out 0
     have d4 := blk_frozen a0.out 1
     have b5 := blk_frozen a0.out 2
     go_wp2
     go_meet
     case rel => exact ⟨_, (decide (a2 < 70)), (by first | rfl | (simp; done) | (simp [*]; done)), H', ⟨by have := b3.out; first | omega | exact Nat.le_refl _⟩, ⟨by (with_reducible repeat (first | refine blk_drewN ?_ _ | refine blk_drew ?_ | refine blk_alloc ?_ _)); exact a0.out⟩, ⟨by repeat (first | (with_reducible first | exact HB.out | apply below_alloc | apply pw_below_drewN | apply below_drew1 | refine below_set ?_ a4.out) | exact HB.out)⟩⟩
    ·rw [if_neg c4] at H
     have c4b0 : decide (a2 < (l0_1.length : Int)) = false := decide_eq_false c4
     clear c4
     (first | rw [c4b0] | (simp only [i64_w, i32_w]; rw [c4b0]) | skip)
     have H' := Aside0.mk H
     clear H
     have b9 : wr.cell? ⟨a1, 0, none⟩ = some (.int .i64 a0_0) := (blk_cell a0.out 0).trans rfl
     have d2 : wr.cell? ⟨a1, 1, none⟩ = some (.slice A0_1 l0_1.length c0_1) := (blk_cell a0.out 1).trans rfl
     have b6 : wr.cell? ⟨a1, 2, none⟩ = some (.slice A0_2 l0_2.length c0_2) := (blk_cell a0.out 2).trans rfl
     have b8 := blk_frozen a0.out 0
     have d6 := blk_frozen a0.out 1
     have d0 := blk_frozen a0.out 2
     go_wp2
     go_meet
     case rel => exact ⟨_, (false), (by first | rfl | (simp; done) | (simp [*]; done)), H', ⟨by have := b3.out; first | omega | exact Nat.le_refl _⟩, ⟨by (with_reducible repeat (first | refine blk_drewN ?_ _ | refine blk_drew ?_ | refine blk_alloc ?_ _)); exact a0.out⟩, ⟨by repeat (first | (with_reducible first | exact HB.out | apply below_alloc | apply pw_below_drewN | apply below_drew1 | refine below_set ?_ a4.out) | exact HB.out)⟩⟩
   case rest =>
    clear d3
    try clear c2
    try clear p2
    try clear c4
    try clear c4b0
    try clear b4
    try clear d5
    try clear b7
    try clear b9
    try clear d2
    try clear b6
    try clear d1
    try clear d4
    try clear b5
    try clear b8
    try clear d6
    try clear d0
    try clear p2
    obtain ⟨kq, a7, rfl, HA, e0, a0, HB⟩ := hcut
    cases kq with
    | zero => exact absurd HA.out (by simp [Pr26a.j1])
    | succ kj2 =>
     have H := HA.out
     clear HA
     simp only [Pr26a.j1] at H
     by_cases c7 : a7 = true
     ·subst c7
      have H1 : (if 0 ≤ a2 then (if a2 < (l0_1.length : Int) then (if ((rdOf ByteArray.empty l0_1 a2).size : Int) > 300 then (some false) else (Pr26a.l0 kj2 (wrap64 (a2 + 1)) a0_0 l0_1 l0_2)) else (none)) else (none)) = some r := by rw [if_pos rfl] at H; exact H
      clear H
      have H := H1
      clear H1
      by_cases c8 : 0 ≤ a2
      ·rw [if_pos c8] at H
       have c8b0 : decide (0 ≤ a2) = true := decide_eq_true c8
       clear c8
       by_cases c9 : a2 < (l0_1.length : Int)
       ·rw [if_pos c9] at H
        have c9b0 : decide (a2 < (l0_1.length : Int)) = true := decide_eq_true c9
        clear c9
        by_cases c10 : ((rdOf ByteArray.empty l0_1 a2).size : Int) > 300
        ·rw [if_pos c10] at H
         have c10b0 : decide (300 < ((rdOf ByteArray.empty l0_1 a2).size : Int)) = true := decide_eq_true c10
         have c10b1 : decide (300 < (rdOf ByteArray.empty l0_1 a2).size) = true := decide_eq_true (by omega)
         clear c10
         obtain rfl := Option.some.inj H
         have e6 : wc.cell? ⟨a1, 0, none⟩ = some (.int .i64 a0_0) := (blk_cell a0.out 0).trans rfl
         have f0 : wc.cell? ⟨a1, 1, none⟩ = some (.slice A0_1 l0_1.length c0_1) := (blk_cell a0.out 1).trans rfl
         have e7 : wc.cell? ⟨a1, 2, none⟩ = some (.slice A0_2 l0_2.length c0_2) := (blk_cell a0.out 2).trans rfl
         have h5 := blk_frozen a0.out 0
         have g7 := blk_frozen a0.out 1
         have g9 := blk_frozen a0.out 2
         have a6 : 0 ≤ (a2 : Int) := of_decide_eq_true (by first | (with_reducible assumption) | assumption)
         have a5 : a2 < (l0_1.length : Int) := of_decide_eq_true (by first | (with_reducible assumption) | assumption)
         obtain ⟨d7, b1, a3⟩ := Kd.at_string b2.out a2 a6 a5
         cases b1
         replace a3 := (HB.out.cell (World.block_lt_of_cell? w _ a3)).trans a3
         replace a6 := eq_true a6
         replace a5 := eq_true a5
         go_wp2
         go_ret
         exact ⟨by first | rfl | (simp [errW_none, errW_some] <;> rfl) | (simp [*, errW_none, errW_some] <;> rfl), by repeat (first | (with_reducible first | exact HB.out | apply below_alloc | apply pw_below_drewN | apply below_drew1 | refine below_set ?_ a4.out) | exact HB.out)⟩
        ·rw [if_neg c10] at H
         have c10b0 : decide (300 < ((rdOf ByteArray.empty l0_1 a2).size : Int)) = false := decide_eq_false c10
         have c10b1 : decide (300 < (rdOf ByteArray.empty l0_1 a2).size) = false := decide_eq_false (by omega)
         clear c10
         have H' := Aside0.mk H
         clear H
         have f3 : wc.cell? ⟨a1, 0, none⟩ = some (.int .i64 a0_0) := (blk_cell a0.out 0).trans rfl
         have h4 : wc.cell? ⟨a1, 1, none⟩ = some (.slice A0_1 l0_1.length c0_1) := (blk_cell a0.out 1).trans rfl
         have h6 : wc.cell? ⟨a1, 2, none⟩ = some (.slice A0_2 l0_2.length c0_2) := (blk_cell a0.out 2).trans rfl
         have e8 := blk_frozen a0.out 0
         have f4 := blk_frozen a0.out 1
         have g1 := blk_frozen a0.out 2
         have a6 : 0 ≤ (a2 : Int) := of_decide_eq_true (by first | (with_reducible assumption) | assumption)
         have a5 : a2 < (l0_1.length : Int) := of_decide_eq_true (by first | (with_reducible assumption) | assumption)
         obtain ⟨d7, b1, a3⟩ := Kd.at_string b2.out a2 a6 a5
         cases b1
         replace a3 := (HB.out.cell (World.block_lt_of_cell? w _ a3)).trans a3
         replace a6 := eq_true a6
         replace a5 := eq_true a5
         go_wp2
         go_roundg kj2
         case measure => have := b3.out; have := e0.out; omega
         case rel => exact ⟨(wrap64 (a2 + 1)), (by first | rfl | (simp; done) | (simp [*]; done)), H', ⟨by have := b3.out; have := e0.out; omega⟩, ⟨by (with_reducible repeat (first | refine blk_drewN ?_ _ | refine blk_drew ?_ | refine blk_alloc ?_ _)); exact a0.out⟩, ⟨by repeat (first | (with_reducible first | exact HB.out | apply below_alloc | apply pw_below_drewN | apply below_drew1 | refine below_set ?_ a4.out) | exact HB.out)⟩⟩
       ·rw [if_neg c9] at H
        exact absurd H (by simp)
      ·rw [if_neg c8] at H
       exact absurd H (by simp)
     ·replace c7 := Bool.eq_false_iff.mpr c7
      subst c7
      have H1 : (if (l0_1.length : Int) < 70 then (if (l0_2.length : Int) ≤ 200 then (if a0_0 ≤ 60 then (some true) else (some (decide (a0_0 > 2048)))) else (some false)) else (some false)) = some r := by rw [if_neg (show ¬ (false = true) by decide)] at H; exact H
      clear H
      have H := H1
      clear H1
      by_cases a8 : (l0_1.length : Int) < 70
      ·rw [if_pos a8] at H
       have c13b0 : decide ((l0_1.length : Int) < 70) = true := decide_eq_true a8
       have c13b1 : decide (l0_1.length < 70) = true := decide_eq_true (by omega)
       clear a8
       by_cases b0 : (l0_2.length : Int) ≤ 200
       ·rw [if_pos b0] at H
        have c14b0 : decide ((l0_2.length : Int) ≤ 200) = true := decide_eq_true b0
        have c14b1 : decide (l0_2.length ≤ 200) = true := decide_eq_true (by omega)
        clear b0
        by_cases a9 : a0_0 ≤ 60
        ·rw [if_pos a9] at H
         have c15b0 : decide (a0_0 ≤ 60) = true := decide_eq_true a9
         clear a9
         obtain rfl := Option.some.inj H
         have f6 : wc.cell? ⟨a1, 0, none⟩ = some (.int .i64 a0_0) := (blk_cell a0.out 0).trans rfl
         have e4 : wc.cell? ⟨a1, 1, none⟩ = some (.slice A0_1 l0_1.length c0_1) := (blk_cell a0.out 1).trans rfl
         have g4 : wc.cell? ⟨a1, 2, none⟩ = some (.slice A0_2 l0_2.length c0_2) := (blk_cell a0.out 2).trans rfl
         have f2 := blk_frozen a0.out 0
         have g6 := blk_frozen a0.out 1
         have g3 := blk_frozen a0.out 2
         go_wp2
         go_ret
         exact ⟨by first | rfl | (simp [errW_none, errW_some] <;> rfl) | (simp [*, errW_none, errW_some] <;> rfl), by repeat (first | (with_reducible first | exact HB.out | apply below_alloc | apply pw_below_drewN | apply below_drew1 | refine below_set ?_ a4.out) | exact HB.out)⟩
        ·rw [if_neg a9] at H
         have c15b0 : decide (a0_0 ≤ 60) = false := decide_eq_false a9
         clear a9
         obtain rfl := Option.some.inj H
         have f8 : wc.cell? ⟨a1, 0, none⟩ = some (.int .i64 a0_0) := (blk_cell a0.out 0).trans rfl
         have h8 : wc.cell? ⟨a1, 1, none⟩ = some (.slice A0_1 l0_1.length c0_1) := (blk_cell a0.out 1).trans rfl
         have h3 : wc.cell? ⟨a1, 2, none⟩ = some (.slice A0_2 l0_2.length c0_2) := (blk_cell a0.out 2).trans rfl
         have h1 := blk_frozen a0.out 0
         have h7 := blk_frozen a0.out 1
         have g5 := blk_frozen a0.out 2
         go_wp2
         go_ret
         exact ⟨by first | rfl | (simp [errW_none, errW_some] <;> rfl) | (simp [*, errW_none, errW_some] <;> rfl), by repeat (first | (with_reducible first | exact HB.out | apply below_alloc | apply pw_below_drewN | apply below_drew1 | refine below_set ?_ a4.out) | exact HB.out)⟩
       ·rw [if_neg b0] at H
        have c14b0 : decide ((l0_2.length : Int) ≤ 200) = false := decide_eq_false b0
        have c14b1 : decide (l0_2.length ≤ 200) = false := decide_eq_false (by omega)
        clear b0
        obtain rfl := Option.some.inj H
        have h2 : wc.cell? ⟨a1, 0, none⟩ = some (.int .i64 a0_0) := (blk_cell a0.out 0).trans rfl
        have g8 : wc.cell? ⟨a1, 1, none⟩ = some (.slice A0_1 l0_1.length c0_1) := (blk_cell a0.out 1).trans rfl
        have e9 : wc.cell? ⟨a1, 2, none⟩ = some (.slice A0_2 l0_2.length c0_2) := (blk_cell a0.out 2).trans rfl
        have f5 := blk_frozen a0.out 0
        have e3 := blk_frozen a0.out 1
        have g2 := blk_frozen a0.out 2
        go_wp2
        go_ret
        exact ⟨by first | rfl | (simp [errW_none, errW_some] <;> rfl) | (simp [*, errW_none, errW_some] <;> rfl), by repeat (first | (with_reducible first | exact HB.out | apply below_alloc | apply pw_below_drewN | apply below_drew1 | refine below_set ?_ a4.out) | exact HB.out)⟩
      ·rw [if_neg a8] at H
       have c13b0 : decide ((l0_1.length : Int) < 70) = false := decide_eq_false a8
       have c13b1 : decide (l0_1.length < 70) = false := decide_eq_false (by omega)
       clear a8
       obtain rfl := Option.some.inj H
       have f9 : wc.cell? ⟨a1, 0, none⟩ = some (.int .i64 a0_0) := (blk_cell a0.out 0).trans rfl
       have h0 : wc.cell? ⟨a1, 1, none⟩ = some (.slice A0_1 l0_1.length c0_1) := (blk_cell a0.out 1).trans rfl
       have e5 : wc.cell? ⟨a1, 2, none⟩ = some (.slice A0_2 l0_2.length c0_2) := (blk_cell a0.out 2).trans rfl
       have f1 := blk_frozen a0.out 0
       have f7 := blk_frozen a0.out 1
       have g0 := blk_frozen a0.out 2
       go_wp2
       go_ret
       exact ⟨by first | rfl | (simp [errW_none, errW_some] <;> rfl) | (simp [*, errW_none, errW_some] <;> rfl), by repeat (first | (with_reducible first | exact HB.out | apply below_alloc | apply pw_below_drewN | apply below_drew1 | refine below_set ?_ a4.out) | exact HB.out)⟩
def Pxf.l0 : Nat → Int → List Int → List (S51) → Int → Int → Option (List Int)
 | 0, _, _, _, _, _ => none
 | k + 1, x2, x7, x12, x13, x14 => if x14 < x13 then (if 0 ≤ x14 then (if x14 < (x12.length : Int) then (if ((rd_T51 x12 x14).f1) = x2 then (if x7.length < 17592186044416 then (Pxf.l0 k x2 (x7 ++ [(rd_T51 x12 x14).f2]) x12 x13 (wrap64 (x14 + 1))) else (none)) else (Pxf.l0 k x2 x7 x12 x13 (wrap64 (x14 + 1)))) else (none)) else (none)) else (some x7)
def Pxf.f (k : Nat) (a0_0 : Int) (l0_1 : List ByteArray) (l0_2 : List (S51)) (a1 : Int) (a2 : Int) : Option (List Int) := (Pxg.f a0_0 l0_1 l0_2 a1).bind fun t111 => (Pxf.l0 k a2 ([] : List Int) t111 (t111.length : Int) 0)
theorem Pxf.mono_l : ∀ k, (∀ y0 y1 y2 y3 y4, LeO (Pxf.l0 k y0 y1 y2 y3 y4) (Pxf.l0 (k + 1) y0 y1 y2 y3 y4))
 | 0 => fun _ _ _ _ _ r h => by simp [Pxf.l0] at h
 | k + 1 => by
  have ih0 := Pxf.mono_l k
  ·intro y0 y1 y2 y3 y4
   unfold Pxf.l0
   repeat' first
   | (with_reducible exact ih0 _ _ _ _ _)
   | (with_reducible exact LeO.refl _)
   | (with_reducible exact LeO.none _)
   | (with_reducible refine LeO.ite ?_ ?_)
   | (with_reducible refine LeO.bind ?_ (fun _ => ?_))
   | exact ih0 _ _ _ _ _
   | exact LeO.none _
   | refine LeO.ite ?_ ?_
   | refine LeO.bind ?_ (fun _ => ?_)
theorem Pxf.mono : ∀ a0 a1 a2 a3 a4 k, LeO (Pxf.f k a0 a1 a2 a3 a4) (Pxf.f (k + 1) a0 a1 a2 a3 a4) := by
 intro a0 a1 a2 a3 a4 k
 have ih0 := Pxf.mono_l k
 unfold Pxf.f
 repeat' first
   | (with_reducible exact ih0 _ _ _ _ _)
   | (with_reducible exact LeO.refl _)
   | (with_reducible exact LeO.none _)
   | (with_reducible refine LeO.ite ?_ ?_)
   | (with_reducible refine LeO.bind ?_ (fun _ => ?_))
   | exact ih0 _ _ _ _ _
   | exact LeO.none _
   | refine LeO.ite ?_ ?_
   | refine LeO.bind ?_ (fun _ => ?_)
set_option maxHeartbeats 8000000 in
set_option maxRecDepth 100000 in
theorem Pxf.calls (k : Nat) (a0_0 : Int) (A0_1 : Option Addr) (c0_1 : Nat) (l0_1 : List ByteArray) (A0_2 : Option Addr) (c0_2 : Nat) (l0_2 : List (S51)) (a1 : Int) (a2 : Int) (r : List Int) (w : World) (hr0_1 : Kd.C Kd.string w A0_1 l0_1.length l0_1) (hc0_1 : l0_1.length ≤ c0_1) (hr0_2 : Kd.C k51 w A0_2 l0_2.length l0_2) (hc0_2 : l0_2.length ≤ c0_2) (h : Pxf.f k a0_0 l0_1 l0_2 a1 a2 = some r) :
  Calls Try.prog 28 #[.agg #[.int .i64 a0_0, .slice A0_1 l0_1.length c0_1, .slice A0_2 l0_2.length c0_2], .int .i64 a1, .int .i64 a2] w fun e w' => ∃ v0_ : Value, e = .returned (v0_) ∧ Kd.R (Kd.int .i64) 3 w' w.heap.size (fun _ => True) v0_ r ∧ Below w.heap.size w w' := by
 have j9 := Try.underlying25
 have j7 := Try.underlying51
 have g6 := Aside0.mk hr0_1
 have g4 := Aside0.mk hc0_1
 clear hr0_1 hc0_1
 have g7 := Aside0.mk hr0_2
 have g2 := Aside0.mk hc0_2
 clear hr0_2 hc0_2
 have HB := Aside0.mk (Below.refl w.heap.size w)
 have H : ((Pxg.f a0_0 l0_1 l0_2 a1).bind fun a3 => (Pxf.l0 k a2 ([] : List Int) a3 (a3.length : Int) 0)) = some r := h
 clear h
 replace H := Option.bind_eq_some_iff.mp H
 obtain ⟨a3, g9, H⟩ := H
 replace H : (Pxf.l0 k a2 ([] : List Int) a3 (a3.length : Int) 0) = some r := H
 have A4 := Aside0.mk g9
 clear g9
 have H' := Aside0.mk H
 clear H
 go_enter Try.func28, Try.ntmps28
 go_wp2_with (first | ((with_reducible refine gate_dst (N := 3) rfl ?_); refine box_event ?hg (N := 3) ?hd (cs := #[.int .i64 a0_0, .slice A0_1 l0_1.length c0_1, .slice A0_2 l0_2.length c0_2]) (t := 25) ?hr ?_; (case hd => rfl); (case hg => rfl); (case hr => first | (go_simp; done) | (go_simp; rfl)); intro a7 hg w5 hbox hb; have b3 := Aside0.mk (below_step (by repeat (first | (with_reducible first | exact HB.out | apply below_alloc | apply pw_below_drewN | apply below_drew1) | exact HB.out)) hb); have b4 := Aside0.mk (hbox); have b2 := Aside0.mk ((by rw [hg]; exact (below_size (by repeat (first | (with_reducible first | exact HB.out | apply below_alloc | apply pw_below_drewN | apply below_drew1) | exact HB.out))) : w.heap.size ≤ a7)); have b5 := Aside0.mk ((by rw [hg]; exact (below_size (by repeat (first | (with_reducible first | exact HB.out | apply below_alloc | apply pw_below_drewN | apply below_drew1) | exact HB.out))) : w.heap.size ≤ a7)); clear HB; have HB := b3; have a5 := b4; have j4 := b2; have a9 := b5; clear b3 b4 b2 b5; clear hb hbox hg; have f7 : w5.cell? ⟨a7, 0, none⟩ = some (.int .i64 a0_0) := (blk_cell a5.out 0).trans rfl; have f3 : w5.cell? ⟨a7, 1, none⟩ = some (.slice A0_1 l0_1.length c0_1) := (blk_cell a5.out 1).trans rfl; have e8 : w5.cell? ⟨a7, 2, none⟩ = some (.slice A0_2 l0_2.length c0_2) := (blk_cell a5.out 2).trans rfl; have e9 := blk_frozen a5.out 0; have f5 := blk_frozen a5.out 1; have e6 := blk_frozen a5.out 2) | ((with_reducible refine gate_callee (f := 30) rfl ?_); refine goesL_ (some 12) rfl rfl Try.func30 (by kernel_rfl) rfl #[.agg #[.int .i64 a0_0, .slice A0_1 l0_1.length c0_1, .slice A0_2 l0_2.length c0_2], .int .i64 a1] rfl (by (try simp only [List.map_toArray, List.map_cons, List.map_nil]); first | done | rfl | (simp only [List.length_drop, List.length_take]; rfl)) ?_; (with_reducible refine (Pxg.calls a0_0 _ _ l0_1 _ _ l0_2 a1 a3 _ ?i6 ?j6 ?j5 ?j2 A4.out).mono ?_); (case i6 => repeat (first | exact (Kd.C_below g6.out HB.out) | (with_reducible refine Kd.C_alloc ?_ _) | (with_reducible refine Kd.C_drewN ?_ _) | (with_reducible refine Kd.C_drew ?_))); (case j6 => exact g4.out); (case j5 => repeat (first | exact (Kd.C_below g7.out HB.out) | (with_reducible refine Kd.C_alloc ?_ _) | (with_reducible refine Kd.C_drewN ?_ _) | (with_reducible refine Kd.C_drew ?_))); (case j2 => exact g2.out); rintro e w7 ⟨k0, rfl, g8, hb⟩; refine ⟨_, rfl, ?_⟩; have b3 := Aside0.mk (Kd.R_lower g8 (below_size (by repeat (first | (with_reducible first | exact HB.out | apply below_alloc | apply pw_below_drewN | apply below_drew1 | refine below_set ?_ a9.out) | exact HB.out)))); have b4 := Aside0.mk (blk_below (g := a7) (o := .cells #[.int .i64 a0_0, .slice A0_1 l0_1.length c0_1, .slice A0_2 l0_2.length c0_2] 25 (0, 0)) (by (with_reducible repeat (first | refine blk_drewN ?_ _ | refine blk_drew ?_ | refine blk_alloc ?_ _)); exact a5.out) hb); have b2 := Aside0.mk (below_step (by repeat (first | (with_reducible first | exact HB.out | apply below_alloc | apply pw_below_drewN | apply below_drew1 | refine below_set ?_ a9.out) | exact HB.out)) hb); clear a5; clear HB; have e1 := b3; have a5 := b4; have HB := b2; clear b3 b4 b2; (try clear hb); (try clear k2); (try clear hk); (try clear hi); (try clear g8); obtain ⟨i5, i4, i3⟩ := Kd.R_slice e1.out; subst i3))
 go_loopg [7, 14] k (fun kq v7 i2 w' => ∃ (b8 : List Int) (a0 : Int), i2 = .int .i64 a0 ∧ Aside0 (Pxf.l0 kq a2 b8 a3 (a3.length : Int) a0 = some r) ∧ Aside0 (kq ≤ k) ∧ Aside0 (Kd.R (Kd.int .i64) 3 w' w.heap.size (fun _ => True) v7 b8) ∧ Aside0 (Kd.R k51 51 w' w.heap.size (fun _ => True) (.slice i5 a3.length i4) a3) ∧ Aside0 (w'.heap[a7]? = some (.cells #[.int .i64 a0_0, (.slice A0_1 l0_1.length c0_1), (.slice A0_2 l0_2.length c0_2)] 25 (0, 0))) ∧ Aside0 (Below w.heap.size w w'))
 case atStart => exact ⟨(([] : List Int)), (0), (by first | rfl | (simp; done) | (simp [*]; done)), H', ⟨Nat.le_refl _⟩, ⟨by first | exact Kd.R_nil _ _ _ _ _ | exact Kd.N_nil _ _ _ _ _ | exact Kd.V_nil _ _ _ _ _ | exact Kd.Q_nil _ _ _ _ _ | exact Kd.S_nil _ _ _ _ _⟩, ⟨by (with_reducible repeat (first | apply Kd.R_alloc | apply Kd.R_drewN | apply Kd.R_drew)); exact e1.out⟩, ⟨by (with_reducible repeat (first | refine blk_drewN ?_ _ | refine blk_drew ?_ | refine blk_alloc ?_ _)); exact a5.out⟩, ⟨by repeat (first | (with_reducible first | exact HB.out | apply below_alloc | apply pw_below_drewN | apply below_drew1 | refine below_set ?_ a9.out) | exact HB.out)⟩⟩
 case round =>
  clear H'
  try clear c2
  try clear p2
  try clear c3
  try clear f7
  try clear f3
  try clear e8
  try clear e9
  try clear f5
  try clear e6
  obtain ⟨b8, a0, rfl, HA, e2, b1, b0, a5, HB⟩ := hrel
  cases gk with
  | zero => exact absurd HA.out (by simp [Pxf.l0])
  | succ k1 =>
   have H := HA.out
   clear HA
   simp only [Pxf.l0] at H
   by_cases c9 : a0 < (a3.length : Int)
   ·rw [if_pos c9] at H
    have c9b0 : decide (a0 < (a3.length : Int)) = true := decide_eq_true c9
    clear c9
    by_cases c10 : 0 ≤ a0
    ·rw [if_pos c10] at H
     have c10b0 : decide (0 ≤ a0) = true := decide_eq_true c10
     clear c10
     by_cases d9 : a0 < (a3.length : Int)
     ·rw [if_pos d9] at H
      have c11b0 : decide (a0 < (a3.length : Int)) = true := decide_eq_true d9
      clear d9
      by_cases d3 : ((rd_T51 a3 a0).f1) = a2
      ·rw [if_pos d3] at H
       have c12b0 : (((rd_T51 a3 a0).f1) == a2) = true := beq_iff_eq.mpr d3
       have c12b1 : (((rd_T51 a3 a0).f1) != a2) = false := bne_eq_false_iff_eq.mpr d3
       clear d3
       by_cases e0 : b8.length < 17592186044416
       ·rw [if_pos e0] at H
        have g1 := Aside0.mk e0
        clear e0
        obtain ⟨f4, d0⟩ : ∃ y_ : List Int, y_ = (b8 ++ [(rd_T51 a3 a0).f2]) := ⟨_, rfl⟩
        replace H : (Pxf.l0 k1 a2 f4 a3 (a3.length : Int) (wrap64 (a0 + 1))) = some r := by first | (rw [d0]; with_reducible exact H) | (have f6 := (Option.bind_some _ _).symm.trans H; rw [d0]; with_reducible exact f6) | (have f6 := (Option.bind_some _ _).symm.trans H; with_reducible exact f6) | with_reducible exact H | (rw [d0]; exact H) | exact H
        have g0 := Aside0.mk d0
        clear d0
        have H' := Aside0.mk H
        clear H
        have b7 : 0 ≤ (a0 : Int) := of_decide_eq_true (by first | (with_reducible assumption) | assumption)
        have b9 : a0 < (a3.length : Int) := of_decide_eq_true (by first | (with_reducible assumption) | assumption)
        obtain ⟨f9, d8, e4, e3, e5⟩ := at_T51 (Kd.R_reads' b0.out).2.2 a0 b7 b9
        cases d8
        replace b7 := eq_true b7
        replace b9 := eq_true b9
        go_wp2_with (first | ((with_reducible refine gate_dst (N := 9) rfl ?_); refine box_event ?hg (N := 9) ?hd (cs := #[.int .i64 0, .int .i64 0, .int .i64 0]) (t := 51) ?hr ?_; (case hd => rfl); (case hg => rfl); (case hr => first | (go_simp; done) | (go_simp; rfl)); intro a4 hg f8 hbox hb; have b3 := Aside0.mk (Kd.R_below (by (with_reducible repeat (first | apply Kd.R_alloc | apply Kd.R_drewN | apply Kd.R_drew)); exact b1.out) hb); have b4 := Aside0.mk (Kd.R_below (Kd.R_elderB (by (with_reducible repeat (first | apply Kd.R_alloc | apply Kd.R_drewN | apply Kd.R_drew)); exact b0.out) a4 (Nat.le_of_eq hg.symm)) hb); have b2 := Aside0.mk (blk_below (g := a7) (o := .cells #[.int .i64 a0_0, .slice A0_1 l0_1.length c0_1, .slice A0_2 l0_2.length c0_2] 25 (0, 0)) (by (with_reducible repeat (first | refine blk_drewN ?_ _ | refine blk_drew ?_ | refine blk_alloc ?_ _)); exact a5.out) hb); have b5 := Aside0.mk (below_step (by repeat (first | (with_reducible first | exact HB.out | apply below_alloc | apply pw_below_drewN | apply below_drew1 | refine below_set ?_ a9.out) | exact HB.out)) hb); have d2 := Aside0.mk (hbox); have d6 := Aside0.mk ((by rw [hg]; exact (below_size (by repeat (first | (with_reducible first | exact HB.out | apply below_alloc | apply pw_below_drewN | apply below_drew1 | refine below_set ?_ a9.out) | exact HB.out))) : w.heap.size ≤ a4)); have d5 := Aside0.mk ((by rw [hg]; exact (below_size (by repeat (first | (with_reducible first | exact HB.out | apply below_alloc | apply pw_below_drewN | apply below_drew1 | refine below_set ?_ a9.out) | exact HB.out))) : w.heap.size ≤ a4)); have d4 := Aside0.mk ((by rw [hg]; exact Nat.ne_of_lt (blk_lt (g := a7) (o := .cells #[.int .i64 a0_0, .slice A0_1 l0_1.length c0_1, .slice A0_2 l0_2.length c0_2] 25 (0, 0)) (by (with_reducible repeat (first | refine blk_drewN ?_ _ | refine blk_drew ?_ | refine blk_alloc ?_ _)); exact a5.out)) : a7 ≠ a4)); have d7 := Aside0.mk ((by rw [hg]; exact Nat.ne_of_gt (blk_lt (g := a7) (o := .cells #[.int .i64 a0_0, .slice A0_1 l0_1.length c0_1, .slice A0_2 l0_2.length c0_2] 25 (0, 0)) (by (with_reducible repeat (first | refine blk_drewN ?_ _ | refine blk_drew ?_ | refine blk_alloc ?_ _)); exact a5.out)) : a4 ≠ a7)); clear b1; clear b0; clear a5; clear HB; have b1 := b3; have b0 := b4; have a5 := b2; have HB := b5; have a6 := d2; have g3 := d6; have d1 := d5; have a8 := d4; have b6 := d7; clear b3 b4 b2 b5 d2 d6 d5 d4 d7; clear hb hbox hg; have i7 := b6.out; have i9 := a8.out; have h2 : f8.cell? ⟨a4, 0, none⟩ = some (.int .i64 0) := (blk_cell a6.out 0).trans rfl; have h1 : f8.cell? ⟨a4, 1, none⟩ = some (.int .i64 0) := (blk_cell a6.out 1).trans rfl; have h7 : f8.cell? ⟨a4, 2, none⟩ = some (.int .i64 0) := (blk_cell a6.out 2).trans rfl; have h5 := blk_frozen a6.out 0; have h4 := blk_frozen a6.out 1; have h6 := blk_frozen a6.out 2) | ((with_reducible refine gate_builtin (b := .append) (xs := #[.tmp 22, .tmp 25]) rfl ?_); at_builtin; refine Kd.R_append (Kd.int .i64) (w0 := w) w.heap.size rfl (.tmp 22) (.tmp 25) 47 3 (.int .i64 0) 8 rfl Try.underlying47 info3 rfl (by decide) (by omega) u7 b8 ((rd_T51 a3 a0).f2) [.int .i64 ((rd_T51 a3 a0).f2)] (fun _ => True) (fun _ => False) rfl (by first | (go_simp; done) | (go_simp; rfl)) ?aP (fun _ hk => hk.elim) ?aF ?aO ?aB ?aS ?aL ?_; (case aP => exact rfl); (case aB => exact (by repeat (first | (with_reducible first | exact HB.out | apply below_alloc | apply pw_below_drewN | apply below_drew1 | refine below_set ?_ a9.out | refine below_set ?_ d1.out) | exact HB.out))); (case aF => exact (fun _ _ => trivial)); (case aO => exact (by (with_reducible repeat (first | apply Kd.R_alloc | apply Kd.R_drewN | apply Kd.R_drew)); exact Kd.R_mono (Kd.R_far (p := ⟨a4, 2, none⟩) (Kd.R_far (p := ⟨a4, 1, none⟩) (Kd.R_far (p := ⟨a4, 0, none⟩) (Kd.R_types b1.out a6.out (by decide)) (fun _ hk => hk.2) (.int .i64 ((rd_T51 a3 a0).f0))) (fun _ hk => hk.2) (.int .i64 ((rd_T51 a3 a0).f1))) (fun _ hk => hk.2) (.int .i64 ((rd_T51 a3 a0).f2))) (fun _ hk => trivial))); (case aS => exact (below_size (by repeat (first | (with_reducible first | exact HB.out | apply below_alloc | apply pw_below_drewN | apply below_drew1 | refine below_set ?_ a9.out | refine below_set ?_ d1.out) | exact HB.out)))); (case aL => have := g1.out; omega); intro j8 k3 ho hb hg hat; rw [← g0.out] at ho; have b3 := Aside0.mk (Kd.R_over' (by (with_reducible repeat (first | apply Kd.R_alloc | apply Kd.R_drewN | apply Kd.R_drew)); exact (Kd.R_mono (Kd.R_far (p := ⟨a4, 2, none⟩) (Kd.R_far (p := ⟨a4, 1, none⟩) (Kd.R_far (p := ⟨a4, 0, none⟩) (Kd.R_mono b0.out (fun k_ hk => (⟨hk, hk.2⟩ : _ ∧ k_ ≠ a4))) (fun _ hk => hk.2) (.int .i64 ((rd_T51 a3 a0).f0))) (fun _ hk => hk.2) (.int .i64 ((rd_T51 a3 a0).f1))) (fun _ hk => hk.2) (.int .i64 ((rd_T51 a3 a0).f2))) (fun _ h_ => h_.1))) (Kd.R_typed (by (with_reducible repeat (first | apply Kd.R_alloc | apply Kd.R_drewN | apply Kd.R_drew)); exact (Kd.R_mono (Kd.R_far (p := ⟨a4, 2, none⟩) (Kd.R_far (p := ⟨a4, 1, none⟩) (Kd.R_far (p := ⟨a4, 0, none⟩) (Kd.R_types b1.out a6.out (by decide)) (fun _ hk => hk.2) (.int .i64 ((rd_T51 a3 a0).f0))) (fun _ hk => hk.2) (.int .i64 ((rd_T51 a3 a0).f1))) (fun _ hk => hk.2) (.int .i64 ((rd_T51 a3 a0).f2))) (fun _ h_ => h_.1)))) (by decide) hg); have b4 := Aside0.mk (blk_grown (g := a7) (o := .cells #[.int .i64 a0_0, .slice A0_1 l0_1.length c0_1, .slice A0_2 l0_2.length c0_2] 25 (0, 0)) (by (with_reducible repeat (first | refine blk_drewN ?_ _ | refine blk_drew ?_ | refine blk_alloc ?_ _)); refine blk_far ?_ a8.out _; (with_reducible repeat (first | refine blk_drewN ?_ _ | refine blk_drew ?_ | refine blk_alloc ?_ _)); refine blk_far ?_ a8.out _; (with_reducible repeat (first | refine blk_drewN ?_ _ | refine blk_drew ?_ | refine blk_alloc ?_ _)); refine blk_far ?_ a8.out _; (with_reducible repeat (first | refine blk_drewN ?_ _ | refine blk_drew ?_ | refine blk_alloc ?_ _)); exact a5.out) hg (Kd.R_ne b1.out a5.out (by decide))); have b2 := Aside0.mk (blk_grown (g := a4) (o := .cells #[.int .i64 ((rd_T51 a3 a0).f0), .int .i64 ((rd_T51 a3 a0).f1), .int .i64 ((rd_T51 a3 a0).f2)] 51 (0, 0)) (by (with_reducible repeat (first | refine blk_drewN ?_ _ | refine blk_drew ?_ | refine blk_alloc ?_ _)); refine blk_put (cs := #[.int .i64 ((rd_T51 a3 a0).f0), .int .i64 ((rd_T51 a3 a0).f1), .int .i64 0]) ?_ 2 _ rfl; (with_reducible repeat (first | refine blk_drewN ?_ _ | refine blk_drew ?_ | refine blk_alloc ?_ _)); refine blk_put (cs := #[.int .i64 ((rd_T51 a3 a0).f0), .int .i64 0, .int .i64 0]) ?_ 1 _ rfl; (with_reducible repeat (first | refine blk_drewN ?_ _ | refine blk_drew ?_ | refine blk_alloc ?_ _)); refine blk_put (cs := #[.int .i64 0, .int .i64 0, .int .i64 0]) ?_ 0 _ rfl; (with_reducible repeat (first | refine blk_drewN ?_ _ | refine blk_drew ?_ | refine blk_alloc ?_ _)); exact a6.out) hg (Kd.R_ne b1.out a6.out (by decide))); have b5 := Aside0.mk (hb); have d2 := Aside0.mk (ho); clear b0; clear a5; clear a6; clear HB; clear b1; have b0 := b3; have a5 := b4; have a6 := b2; have HB := b5; have g5 := d2; clear b3 b4 b2 b5 d2; clear ho hb hg hat))
        go_roundg k1
        case measure => have := e2.out; omega
        case rel => exact ⟨(f4), (wrap64 (a0 + 1)), (by first | rfl | (simp; done) | (simp [*]; done)), H', ⟨by have := e2.out; omega⟩, ⟨by (with_reducible repeat (first | apply Kd.R_alloc | apply Kd.R_drewN | apply Kd.R_drew)); exact g5.out⟩, ⟨by (with_reducible repeat (first | apply Kd.R_alloc | apply Kd.R_drewN | apply Kd.R_drew)); exact Kd.R_mono b0.out (fun _ hk => trivial)⟩, ⟨by (with_reducible repeat (first | refine blk_drewN ?_ _ | refine blk_drew ?_ | refine blk_alloc ?_ _)); exact a5.out⟩, ⟨by repeat (first | (with_reducible first | exact HB.out | apply below_alloc | apply pw_below_drewN | apply below_drew1 | refine below_set ?_ a9.out | refine below_set ?_ d1.out) | exact HB.out)⟩⟩
       ·rw [if_neg e0] at H
        exact absurd H (by simp)
      ·rw [if_neg d3] at H
       have c12b0 : (((rd_T51 a3 a0).f1) == a2) = false := beq_eq_false_iff_ne.mpr d3
       have c12b1 : (((rd_T51 a3 a0).f1) != a2) = true := bne_iff_ne.mpr d3
       have H' := Aside0.mk H
       clear H
       have b7 : 0 ≤ (a0 : Int) := of_decide_eq_true (by first | (with_reducible assumption) | assumption)
       have b9 : a0 < (a3.length : Int) := of_decide_eq_true (by first | (with_reducible assumption) | assumption)
       obtain ⟨f9, d8, e4, e3, e5⟩ := at_T51 (Kd.R_reads' b0.out).2.2 a0 b7 b9
       cases d8
       replace b7 := eq_true b7
       replace b9 := eq_true b9
       go_wp2_with (first | ((with_reducible refine gate_dst (N := 9) rfl ?_); refine box_event ?hg (N := 9) ?hd (cs := #[.int .i64 0, .int .i64 0, .int .i64 0]) (t := 51) ?hr ?_; (case hd => rfl); (case hg => rfl); (case hr => first | (go_simp; done) | (go_simp; rfl)); intro a4 hg e7 hbox hb; have b3 := Aside0.mk (Kd.R_below (by (with_reducible repeat (first | apply Kd.R_alloc | apply Kd.R_drewN | apply Kd.R_drew)); exact b1.out) hb); have b4 := Aside0.mk (Kd.R_below (Kd.R_elderB (by (with_reducible repeat (first | apply Kd.R_alloc | apply Kd.R_drewN | apply Kd.R_drew)); exact b0.out) a4 (Nat.le_of_eq hg.symm)) hb); have b2 := Aside0.mk (blk_below (g := a7) (o := .cells #[.int .i64 a0_0, .slice A0_1 l0_1.length c0_1, .slice A0_2 l0_2.length c0_2] 25 (0, 0)) (by (with_reducible repeat (first | refine blk_drewN ?_ _ | refine blk_drew ?_ | refine blk_alloc ?_ _)); exact a5.out) hb); have b5 := Aside0.mk (below_step (by repeat (first | (with_reducible first | exact HB.out | apply below_alloc | apply pw_below_drewN | apply below_drew1 | refine below_set ?_ a9.out) | exact HB.out)) hb); have d2 := Aside0.mk (hbox); have d6 := Aside0.mk ((by rw [hg]; exact (below_size (by repeat (first | (with_reducible first | exact HB.out | apply below_alloc | apply pw_below_drewN | apply below_drew1 | refine below_set ?_ a9.out) | exact HB.out))) : w.heap.size ≤ a4)); have d5 := Aside0.mk ((by rw [hg]; exact (below_size (by repeat (first | (with_reducible first | exact HB.out | apply below_alloc | apply pw_below_drewN | apply below_drew1 | refine below_set ?_ a9.out) | exact HB.out))) : w.heap.size ≤ a4)); have d4 := Aside0.mk ((by rw [hg]; exact Nat.ne_of_lt (blk_lt (g := a7) (o := .cells #[.int .i64 a0_0, .slice A0_1 l0_1.length c0_1, .slice A0_2 l0_2.length c0_2] 25 (0, 0)) (by (with_reducible repeat (first | refine blk_drewN ?_ _ | refine blk_drew ?_ | refine blk_alloc ?_ _)); exact a5.out)) : a7 ≠ a4)); have d7 := Aside0.mk ((by rw [hg]; exact Nat.ne_of_gt (blk_lt (g := a7) (o := .cells #[.int .i64 a0_0, .slice A0_1 l0_1.length c0_1, .slice A0_2 l0_2.length c0_2] 25 (0, 0)) (by (with_reducible repeat (first | refine blk_drewN ?_ _ | refine blk_drew ?_ | refine blk_alloc ?_ _)); exact a5.out)) : a4 ≠ a7)); clear b1; clear b0; clear a5; clear HB; have b1 := b3; have b0 := b4; have a5 := b2; have HB := b5; have a6 := d2; have g3 := d6; have d1 := d5; have a8 := d4; have b6 := d7; clear b3 b4 b2 b5 d2 d6 d5 d4 d7; clear hb hbox hg; have i8 := b6.out; have j3 := a8.out; have h9 : e7.cell? ⟨a4, 0, none⟩ = some (.int .i64 0) := (blk_cell a6.out 0).trans rfl; have h0 : e7.cell? ⟨a4, 1, none⟩ = some (.int .i64 0) := (blk_cell a6.out 1).trans rfl; have i1 : e7.cell? ⟨a4, 2, none⟩ = some (.int .i64 0) := (blk_cell a6.out 2).trans rfl; have h8 := blk_frozen a6.out 0; have h3 := blk_frozen a6.out 1; have i0 := blk_frozen a6.out 2))
       go_roundg k1
       case measure => have := e2.out; omega
       case rel => exact ⟨(b8), (wrap64 (a0 + 1)), (by first | rfl | (simp; done) | (simp [*]; done)), H', ⟨by have := e2.out; omega⟩, ⟨by (with_reducible repeat (first | apply Kd.R_alloc | apply Kd.R_drewN | apply Kd.R_drew)); exact Kd.R_mono (Kd.R_far (p := ⟨a4, 2, none⟩) (Kd.R_far (p := ⟨a4, 1, none⟩) (Kd.R_far (p := ⟨a4, 0, none⟩) (Kd.R_types b1.out a6.out (by decide)) (fun _ hk => hk.2) (.int .i64 ((rd_T51 a3 a0).f0))) (fun _ hk => hk.2) (.int .i64 ((rd_T51 a3 a0).f1))) (fun _ hk => hk.2) (.int .i64 ((rd_T51 a3 a0).f2))) (fun _ hk => trivial)⟩, ⟨by (with_reducible repeat (first | apply Kd.R_alloc | apply Kd.R_drewN | apply Kd.R_drew)); exact Kd.R_mono (Kd.R_far (p := ⟨a4, 2, none⟩) (Kd.R_far (p := ⟨a4, 1, none⟩) (Kd.R_far (p := ⟨a4, 0, none⟩) (Kd.R_mono b0.out (fun k_ hk => (⟨hk, hk.2⟩ : _ ∧ k_ ≠ a4))) (fun _ hk => hk.2) (.int .i64 ((rd_T51 a3 a0).f0))) (fun _ hk => hk.2) (.int .i64 ((rd_T51 a3 a0).f1))) (fun _ hk => hk.2) (.int .i64 ((rd_T51 a3 a0).f2))) (fun _ hk => trivial)⟩, ⟨by (with_reducible repeat (first | refine blk_drewN ?_ _ | refine blk_drew ?_ | refine blk_alloc ?_ _)); refine blk_far ?_ a8.out _; (with_reducible repeat (first | refine blk_drewN ?_ _ | refine blk_drew ?_ | refine blk_alloc ?_ _)); refine blk_far ?_ a8.out _; (with_reducible repeat (first | refine blk_drewN ?_ _ | refine blk_drew ?_ | refine blk_alloc ?_ _)); refine blk_far ?_ a8.out _; (with_reducible repeat (first | refine blk_drewN ?_ _ | refine blk_drew ?_ | refine blk_alloc ?_ _)); exact a5.out⟩, ⟨by repeat (first | (with_reducible first | exact HB.out | apply below_alloc | apply pw_below_drewN | apply below_drew1 | refine below_set ?_ a9.out | refine below_set ?_ d1.out) | exact HB.out)⟩⟩
     ·rw [if_neg d9] at H
      exact absurd H (by simp)
    ·rw [if_neg c10] at H
     exact absurd H (by simp)
   ·rw [if_neg c9] at H
    have c9b0 : decide (a0 < (a3.length : Int)) = false := decide_eq_false c9
    clear c9
    obtain rfl := Option.some.inj H
    go_wp2
    go_ret
    exact ⟨_, by first | rfl | (simp [errW_none, errW_some] <;> rfl) | (simp [*, errW_none, errW_some] <;> rfl), by (with_reducible repeat (first | apply Kd.R_alloc | apply Kd.R_drewN | apply Kd.R_drew)); exact b1.out, by repeat (first | (with_reducible first | exact HB.out | apply below_alloc | apply pw_below_drewN | apply below_drew1 | refine below_set ?_ a9.out) | exact HB.out)⟩
def Pxe.l0 : Nat → Int → Int → List Int → List (S51) → Int → Int → Option (List Int)
 | 0, _, _, _, _, _, _ => none
 | k + 1, x1, x2, x7, x14, x15, x16 => if x16 < x15 then (if 0 ≤ x16 then (if x16 < (x14.length : Int) then (if ((rd_T51 x14 x16).f2) = x1 then (if ((rd_T51 x14 x16).f1) = x2 then (if x7.length < 17592186044416 then (Pxe.l0 k x1 x2 (x7 ++ [(rd_T51 x14 x16).f0]) x14 x15 (wrap64 (x16 + 1))) else (none)) else (Pxe.l0 k x1 x2 x7 x14 x15 (wrap64 (x16 + 1)))) else (Pxe.l0 k x1 x2 x7 x14 x15 (wrap64 (x16 + 1)))) else (none)) else (none)) else (some x7)
def Pxe.f (k : Nat) (a0_0 : Int) (l0_1 : List ByteArray) (l0_2 : List (S51)) (a1 : Int) (a2 : Int) : Option (List Int) := (Pxc.f a0_0 l0_1 l0_2).bind fun t120 => (if t120 = 0 then (Pxe.l0 k a1 a2 ([] : List Int) l0_2 (l0_2.length : Int) 0) else (some ([] : List Int)))
theorem Pxe.mono_l : ∀ k, (∀ y0 y1 y2 y3 y4 y5, LeO (Pxe.l0 k y0 y1 y2 y3 y4 y5) (Pxe.l0 (k + 1) y0 y1 y2 y3 y4 y5))
 | 0 => fun _ _ _ _ _ _ r h => by simp [Pxe.l0] at h
 | k + 1 => by
  have ih0 := Pxe.mono_l k
  ·intro y0 y1 y2 y3 y4 y5
   unfold Pxe.l0
   repeat' first
   | (with_reducible exact ih0 _ _ _ _ _ _)
   | (with_reducible exact LeO.refl _)
   | (with_reducible exact LeO.none _)
   | (with_reducible refine LeO.ite ?_ ?_)
   | (with_reducible refine LeO.bind ?_ (fun _ => ?_))
   | exact ih0 _ _ _ _ _ _
   | exact LeO.none _
   | refine LeO.ite ?_ ?_
   | refine LeO.bind ?_ (fun _ => ?_)
theorem Pxe.mono : ∀ a0 a1 a2 a3 a4 k, LeO (Pxe.f k a0 a1 a2 a3 a4) (Pxe.f (k + 1) a0 a1 a2 a3 a4) := by
 intro a0 a1 a2 a3 a4 k
 have ih0 := Pxe.mono_l k
 unfold Pxe.f
 repeat' first
   | (with_reducible exact ih0 _ _ _ _ _ _)
   | (with_reducible exact LeO.refl _)
   | (with_reducible exact LeO.none _)
   | (with_reducible refine LeO.ite ?_ ?_)
   | (with_reducible refine LeO.bind ?_ (fun _ => ?_))
   | exact ih0 _ _ _ _ _ _
   | exact LeO.none _
   | refine LeO.ite ?_ ?_
   | refine LeO.bind ?_ (fun _ => ?_)
set_option maxHeartbeats 8000000 in
set_option maxRecDepth 100000 in
theorem Pxe.calls (k : Nat) (a0_0 : Int) (A0_1 : Option Addr) (c0_1 : Nat) (l0_1 : List ByteArray) (A0_2 : Option Addr) (c0_2 : Nat) (l0_2 : List (S51)) (a1 : Int) (a2 : Int) (r : List Int) (w : World) (hr0_1 : Kd.C Kd.string w A0_1 l0_1.length l0_1) (hc0_1 : l0_1.length ≤ c0_1) (hr0_2 : Kd.C k51 w A0_2 l0_2.length l0_2) (hc0_2 : l0_2.length ≤ c0_2) (h : Pxe.f k a0_0 l0_1 l0_2 a1 a2 = some r) :
  Calls Try.prog 29 #[.agg #[.int .i64 a0_0, .slice A0_1 l0_1.length c0_1, .slice A0_2 l0_2.length c0_2], .int .i64 a1, .int .i64 a2] w fun e w' => ∃ v0_ : Value, e = .returned (v0_) ∧ Kd.R (Kd.int .i64) 3 w' w.heap.size (fun _ => True) v0_ r ∧ Below w.heap.size w w' := by
 have m1 := Try.underlying25
 have m0 := Try.underlying51
 have e9 := Aside0.mk hr0_1
 have e8 := Aside0.mk hc0_1
 clear hr0_1 hc0_1
 have d5 := Aside0.mk hr0_2
 have e6 := Aside0.mk hc0_2
 clear hr0_2 hc0_2
 have HB := Aside0.mk (Below.refl w.heap.size w)
 have H : ((Pxc.f a0_0 l0_1 l0_2).bind fun d1 => (if d1 = 0 then (Pxe.l0 k a1 a2 ([] : List Int) l0_2 (l0_2.length : Int) 0) else (some ([] : List Int)))) = some r := h
 clear h
 replace H := Option.bind_eq_some_iff.mp H
 obtain ⟨d1, i0, H⟩ := H
 replace H : (if d1 = 0 then (Pxe.l0 k a1 a2 ([] : List Int) l0_2 (l0_2.length : Int) 0) else (some ([] : List Int))) = some r := H
 have A4 := Aside0.mk i0
 clear i0
 by_cases c5 : d1 = 0
 ·rw [if_pos c5] at H
  have c5b0 : (d1 == 0) = true := beq_iff_eq.mpr c5
  have c5b1 : (d1 != 0) = false := bne_eq_false_iff_eq.mpr c5
  clear c5
  have H' := Aside0.mk H
  clear H
  go_enter Try.func29, Try.ntmps29
  go_wp2_with (first | ((with_reducible refine gate_dst (N := 3) rfl ?_); refine box_event ?hg (N := 3) ?hd (cs := #[.int .i64 a0_0, .slice A0_1 l0_1.length c0_1, .slice A0_2 l0_2.length c0_2]) (t := 25) ?hr ?_; (case hd => rfl); (case hg => rfl); (case hr => first | (go_simp; done) | (go_simp; rfl)); intro a5 hg w6 hbox hb; have b2 := Aside0.mk (below_step (by repeat (first | (with_reducible first | exact HB.out | apply below_alloc | apply pw_below_drewN | apply below_drew1) | exact HB.out)) hb); have b3 := Aside0.mk (hbox); have b6 := Aside0.mk ((by rw [hg]; exact (below_size (by repeat (first | (with_reducible first | exact HB.out | apply below_alloc | apply pw_below_drewN | apply below_drew1) | exact HB.out))) : w.heap.size ≤ a5)); have b7 := Aside0.mk ((by rw [hg]; exact (below_size (by repeat (first | (with_reducible first | exact HB.out | apply below_alloc | apply pw_below_drewN | apply below_drew1) | exact HB.out))) : w.heap.size ≤ a5)); clear HB; have HB := b2; have a3 := b3; have h4 := b6; have a8 := b7; clear b2 b3 b6 b7; clear hb hbox hg; have h0 : w6.cell? ⟨a5, 0, none⟩ = some (.int .i64 a0_0) := (blk_cell a3.out 0).trans rfl; have f8 : w6.cell? ⟨a5, 1, none⟩ = some (.slice A0_1 l0_1.length c0_1) := (blk_cell a3.out 1).trans rfl; have g6 : w6.cell? ⟨a5, 2, none⟩ = some (.slice A0_2 l0_2.length c0_2) := (blk_cell a3.out 2).trans rfl; have h1 := blk_frozen a3.out 0; have g2 := blk_frozen a3.out 1; have g1 := blk_frozen a3.out 2) | ((with_reducible refine gate_callee (f := 27) rfl ?_); refine goesL_ (some 11) rfl rfl Try.func27 (by kernel_rfl) rfl #[.agg #[.int .i64 a0_0, .slice A0_1 l0_1.length c0_1, .slice A0_2 l0_2.length c0_2]] rfl (by (try simp only [List.map_toArray, List.map_cons, List.map_nil]); first | done | rfl | (simp only [List.length_drop, List.length_take]; rfl)) ?_; (with_reducible refine (Pxc.calls a0_0 _ _ l0_1 _ _ l0_2 d1 _ ?h2 ?h9 ?h8 ?h6 A4.out).mono ?_); (case h2 => repeat (first | exact (Kd.C_below e9.out HB.out) | (with_reducible refine Kd.C_alloc ?_ _) | (with_reducible refine Kd.C_drewN ?_ _) | (with_reducible refine Kd.C_drew ?_))); (case h9 => exact e8.out); (case h8 => repeat (first | exact (Kd.C_below d5.out HB.out) | (with_reducible refine Kd.C_alloc ?_ _) | (with_reducible refine Kd.C_drewN ?_ _) | (with_reducible refine Kd.C_drew ?_))); (case h6 => exact e6.out); rintro e w8 ⟨rfl, hb⟩; refine ⟨_, rfl, ?_⟩; have b2 := Aside0.mk (blk_below (g := a5) (o := .cells #[.int .i64 a0_0, .slice A0_1 l0_1.length c0_1, .slice A0_2 l0_2.length c0_2] 25 (0, 0)) (by (with_reducible repeat (first | refine blk_drewN ?_ _ | refine blk_drew ?_ | refine blk_alloc ?_ _)); exact a3.out) hb); have b3 := Aside0.mk (below_step (by repeat (first | (with_reducible first | exact HB.out | apply below_alloc | apply pw_below_drewN | apply below_drew1 | refine below_set ?_ a8.out) | exact HB.out)) hb); clear a3; clear HB; have a3 := b2; have HB := b3; clear b2 b3; (try clear hb); (try clear k9); (try clear hk); (try clear hi); have g8 : w8.cell? ⟨a5, 0, none⟩ = some (.int .i64 a0_0) := (blk_cell a3.out 0).trans rfl; have f7 : w8.cell? ⟨a5, 1, none⟩ = some (.slice A0_1 l0_1.length c0_1) := (blk_cell a3.out 1).trans rfl; have g0 : w8.cell? ⟨a5, 2, none⟩ = some (.slice A0_2 l0_2.length c0_2) := (blk_cell a3.out 2).trans rfl; have f5 := blk_frozen a3.out 0; have g3 := blk_frozen a3.out 1; have f6 := blk_frozen a3.out 2))
  go_loopg [7, 16] k (fun kq v7 k8 w' => ∃ (d3 : List Int) (a0 : Int), k8 = .int .i64 a0 ∧ Aside0 (Pxe.l0 kq a1 a2 d3 l0_2 (l0_2.length : Int) a0 = some r) ∧ Aside0 (kq ≤ k) ∧ Aside0 (Kd.R (Kd.int .i64) 3 w' w.heap.size (fun _ => True) v7 d3) ∧ Aside0 (w'.heap[a5]? = some (.cells #[.int .i64 a0_0, (.slice A0_1 l0_1.length c0_1), (.slice A0_2 l0_2.length c0_2)] 25 (0, 0))) ∧ Aside0 (Below w.heap.size w w'))
  case atStart => exact ⟨(([] : List Int)), (0), (by first | rfl | (simp; done) | (simp [*]; done)), H', ⟨Nat.le_refl _⟩, ⟨by first | exact Kd.R_nil _ _ _ _ _ | exact Kd.N_nil _ _ _ _ _ | exact Kd.V_nil _ _ _ _ _ | exact Kd.Q_nil _ _ _ _ _ | exact Kd.S_nil _ _ _ _ _⟩, ⟨by (with_reducible repeat (first | refine blk_drewN ?_ _ | refine blk_drew ?_ | refine blk_alloc ?_ _)); exact a3.out⟩, ⟨by repeat (first | (with_reducible first | exact HB.out | apply below_alloc | apply pw_below_drewN | apply below_drew1 | refine below_set ?_ a8.out) | exact HB.out)⟩⟩
  case round =>
   clear H'
   try clear c2
   try clear p2
   try clear c5
   try clear c5b0
   try clear c5b1
   try clear h0
   try clear f8
   try clear g6
   try clear g8
   try clear f7
   try clear g0
   try clear h1
   try clear g2
   try clear g1
   try clear f5
   try clear g3
   try clear f6
   obtain ⟨d3, a0, rfl, HA, e3, b4, a3, HB⟩ := hrel
   cases gk with
   | zero => exact absurd HA.out (by simp [Pxe.l0])
   | succ k1 =>
    have H := HA.out
    clear HA
    simp only [Pxe.l0] at H
    by_cases c10 : a0 < (l0_2.length : Int)
    ·rw [if_pos c10] at H
     have c10b0 : decide (a0 < (l0_2.length : Int)) = true := decide_eq_true c10
     clear c10
     by_cases e5 : 0 ≤ a0
     ·rw [if_pos e5] at H
      have c11b0 : decide (0 ≤ a0) = true := decide_eq_true e5
      clear e5
      by_cases e4 : a0 < (l0_2.length : Int)
      ·rw [if_pos e4] at H
       have c12b0 : decide (a0 < (l0_2.length : Int)) = true := decide_eq_true e4
       clear e4
       by_cases e0 : ((rd_T51 l0_2 a0).f2) = a1
       ·rw [if_pos e0] at H
        have c13b0 : (((rd_T51 l0_2 a0).f2) == a1) = true := beq_iff_eq.mpr e0
        have c13b1 : (((rd_T51 l0_2 a0).f2) != a1) = false := bne_eq_false_iff_eq.mpr e0
        clear e0
        by_cases e1 : ((rd_T51 l0_2 a0).f1) = a2
        ·rw [if_pos e1] at H
         have c14b0 : (((rd_T51 l0_2 a0).f1) == a2) = true := beq_iff_eq.mpr e1
         have c14b1 : (((rd_T51 l0_2 a0).f1) != a2) = false := bne_eq_false_iff_eq.mpr e1
         clear e1
         by_cases f3 : d3.length < 17592186044416
         ·rw [if_pos f3] at H
          have h3 := Aside0.mk f3
          clear f3
          obtain ⟨f9, d4⟩ : ∃ y_ : List Int, y_ = (d3 ++ [(rd_T51 l0_2 a0).f0]) := ⟨_, rfl⟩
          replace H : (Pxe.l0 k1 a1 a2 f9 l0_2 (l0_2.length : Int) (wrap64 (a0 + 1))) = some r := by first | (rw [d4]; with_reducible exact H) | (have g9 := (Option.bind_some _ _).symm.trans H; rw [d4]; with_reducible exact g9) | (have g9 := (Option.bind_some _ _).symm.trans H; with_reducible exact g9) | with_reducible exact H | (rw [d4]; exact H) | exact H
          have h5 := Aside0.mk d4
          clear d4
          have H' := Aside0.mk H
          clear H
          have d0 : 0 ≤ (a0 : Int) := of_decide_eq_true (by first | (with_reducible assumption) | assumption)
          have b9 : a0 < (l0_2.length : Int) := of_decide_eq_true (by first | (with_reducible assumption) | assumption)
          obtain ⟨b5, e2, b0, a9, b1⟩ := at_T51 d5.out a0 d0 b9
          cases e2
          replace b0 := (HB.out.cell (World.block_lt_of_cell? w _ b0)).trans b0
          replace a9 := (HB.out.cell (World.block_lt_of_cell? w _ a9)).trans a9
          replace b1 := (HB.out.cell (World.block_lt_of_cell? w _ b1)).trans b1
          replace d0 := eq_true d0
          replace b9 := eq_true b9
          go_wp2_with (first | ((with_reducible refine gate_dst (N := 9) rfl ?_); refine box_event ?hg (N := 9) ?hd (cs := #[.int .i64 0, .int .i64 0, .int .i64 0]) (t := 51) ?hr ?_; (case hd => rfl); (case hg => rfl); (case hr => first | (go_simp; done) | (go_simp; rfl)); intro a4 hg f4 hbox hb; have b2 := Aside0.mk (Kd.R_below (by (with_reducible repeat (first | apply Kd.R_alloc | apply Kd.R_drewN | apply Kd.R_drew)); exact b4.out) hb); have b3 := Aside0.mk (blk_below (g := a5) (o := .cells #[.int .i64 a0_0, .slice A0_1 l0_1.length c0_1, .slice (some b5) l0_2.length c0_2] 25 (0, 0)) (by (with_reducible repeat (first | refine blk_drewN ?_ _ | refine blk_drew ?_ | refine blk_alloc ?_ _)); exact a3.out) hb); have b6 := Aside0.mk (below_step (by repeat (first | (with_reducible first | exact HB.out | apply below_alloc | apply pw_below_drewN | apply below_drew1 | refine below_set ?_ a8.out) | exact HB.out)) hb); have b7 := Aside0.mk (hbox); have d8 := Aside0.mk ((by rw [hg]; exact (below_size (by repeat (first | (with_reducible first | exact HB.out | apply below_alloc | apply pw_below_drewN | apply below_drew1 | refine below_set ?_ a8.out) | exact HB.out))) : w.heap.size ≤ a4)); have d9 := Aside0.mk ((by rw [hg]; exact (below_size (by repeat (first | (with_reducible first | exact HB.out | apply below_alloc | apply pw_below_drewN | apply below_drew1 | refine below_set ?_ a8.out) | exact HB.out))) : w.heap.size ≤ a4)); have d7 := Aside0.mk ((by rw [hg]; exact Nat.ne_of_lt (blk_lt (g := a5) (o := .cells #[.int .i64 a0_0, .slice A0_1 l0_1.length c0_1, .slice (some b5) l0_2.length c0_2] 25 (0, 0)) (by (with_reducible repeat (first | refine blk_drewN ?_ _ | refine blk_drew ?_ | refine blk_alloc ?_ _)); exact a3.out)) : a5 ≠ a4)); have d6 := Aside0.mk ((by rw [hg]; exact Nat.ne_of_gt (blk_lt (g := a5) (o := .cells #[.int .i64 a0_0, .slice A0_1 l0_1.length c0_1, .slice (some b5) l0_2.length c0_2] 25 (0, 0)) (by (with_reducible repeat (first | refine blk_drewN ?_ _ | refine blk_drew ?_ | refine blk_alloc ?_ _)); exact a3.out)) : a4 ≠ a5)); clear b4; clear a3; clear HB; have b4 := b2; have a3 := b3; have HB := b6; have a6 := b7; have e7 := d8; have d2 := d9; have a7 := d7; have b8 := d6; clear b2 b3 b6 b7 d8 d9 d7 d6; clear hb hbox hg; have l6 := b8.out; have l3 := a7.out; have j5 : f4.cell? ⟨a4, 0, none⟩ = some (.int .i64 0) := (blk_cell a6.out 0).trans rfl; have i3 : f4.cell? ⟨a4, 1, none⟩ = some (.int .i64 0) := (blk_cell a6.out 1).trans rfl; have j8 : f4.cell? ⟨a4, 2, none⟩ = some (.int .i64 0) := (blk_cell a6.out 2).trans rfl; have i8 := blk_frozen a6.out 0; have j7 := blk_frozen a6.out 1; have k5 := blk_frozen a6.out 2) | ((with_reducible refine gate_builtin (b := .append) (xs := #[.tmp 30, .tmp 33]) rfl ?_); at_builtin; refine Kd.R_append (Kd.int .i64) (w0 := w) w.heap.size rfl (.tmp 30) (.tmp 33) 47 3 (.int .i64 0) 8 rfl Try.underlying47 info3 rfl (by decide) (by omega) u7 d3 ((rd_T51 l0_2 a0).f0) [.int .i64 ((rd_T51 l0_2 a0).f0)] (fun _ => True) (fun _ => False) rfl (by first | (go_simp; done) | (go_simp; rfl)) ?aP (fun _ hk => hk.elim) ?aF ?aO ?aB ?aS ?aL ?_; (case aP => exact rfl); (case aB => exact (by repeat (first | (with_reducible first | exact HB.out | apply below_alloc | apply pw_below_drewN | apply below_drew1 | refine below_set ?_ a8.out | refine below_set ?_ d2.out) | exact HB.out))); (case aF => exact (fun _ _ => trivial)); (case aO => exact (by (with_reducible repeat (first | apply Kd.R_alloc | apply Kd.R_drewN | apply Kd.R_drew)); exact Kd.R_mono (Kd.R_far (p := ⟨a4, 2, none⟩) (Kd.R_far (p := ⟨a4, 1, none⟩) (Kd.R_far (p := ⟨a4, 0, none⟩) (Kd.R_types b4.out a6.out (by decide)) (fun _ hk => hk.2) (.int .i64 ((rd_T51 l0_2 a0).f0))) (fun _ hk => hk.2) (.int .i64 ((rd_T51 l0_2 a0).f1))) (fun _ hk => hk.2) (.int .i64 ((rd_T51 l0_2 a0).f2))) (fun _ hk => trivial))); (case aS => exact (below_size (by repeat (first | (with_reducible first | exact HB.out | apply below_alloc | apply pw_below_drewN | apply below_drew1 | refine below_set ?_ a8.out | refine below_set ?_ d2.out) | exact HB.out)))); (case aL => have := h3.out; omega); intro l9 m3 ho hb hg hat; rw [← h5.out] at ho; have b2 := Aside0.mk (blk_grown (g := a5) (o := .cells #[.int .i64 a0_0, .slice A0_1 l0_1.length c0_1, .slice (some b5) l0_2.length c0_2] 25 (0, 0)) (by (with_reducible repeat (first | refine blk_drewN ?_ _ | refine blk_drew ?_ | refine blk_alloc ?_ _)); refine blk_far ?_ a7.out _; (with_reducible repeat (first | refine blk_drewN ?_ _ | refine blk_drew ?_ | refine blk_alloc ?_ _)); refine blk_far ?_ a7.out _; (with_reducible repeat (first | refine blk_drewN ?_ _ | refine blk_drew ?_ | refine blk_alloc ?_ _)); refine blk_far ?_ a7.out _; (with_reducible repeat (first | refine blk_drewN ?_ _ | refine blk_drew ?_ | refine blk_alloc ?_ _)); exact a3.out) hg (Kd.R_ne b4.out a3.out (by decide))); have b3 := Aside0.mk (blk_grown (g := a4) (o := .cells #[.int .i64 ((rd_T51 l0_2 a0).f0), .int .i64 ((rd_T51 l0_2 a0).f1), .int .i64 ((rd_T51 l0_2 a0).f2)] 51 (0, 0)) (by (with_reducible repeat (first | refine blk_drewN ?_ _ | refine blk_drew ?_ | refine blk_alloc ?_ _)); refine blk_put (cs := #[.int .i64 ((rd_T51 l0_2 a0).f0), .int .i64 ((rd_T51 l0_2 a0).f1), .int .i64 0]) ?_ 2 _ rfl; (with_reducible repeat (first | refine blk_drewN ?_ _ | refine blk_drew ?_ | refine blk_alloc ?_ _)); refine blk_put (cs := #[.int .i64 ((rd_T51 l0_2 a0).f0), .int .i64 0, .int .i64 0]) ?_ 1 _ rfl; (with_reducible repeat (first | refine blk_drewN ?_ _ | refine blk_drew ?_ | refine blk_alloc ?_ _)); refine blk_put (cs := #[.int .i64 0, .int .i64 0, .int .i64 0]) ?_ 0 _ rfl; (with_reducible repeat (first | refine blk_drewN ?_ _ | refine blk_drew ?_ | refine blk_alloc ?_ _)); exact a6.out) hg (Kd.R_ne b4.out a6.out (by decide))); have b6 := Aside0.mk (hb); have b7 := Aside0.mk (ho); clear a3; clear a6; clear HB; clear b4; have a3 := b2; have a6 := b3; have HB := b6; have h7 := b7; clear b2 b3 b6 b7; clear ho hb hg hat))
          go_roundg k1
          case measure => have := e3.out; omega
          case rel => exact ⟨(f9), (wrap64 (a0 + 1)), (by first | rfl | (simp; done) | (simp [*]; done)), H', ⟨by have := e3.out; omega⟩, ⟨by (with_reducible repeat (first | apply Kd.R_alloc | apply Kd.R_drewN | apply Kd.R_drew)); exact h7.out⟩, ⟨by (with_reducible repeat (first | refine blk_drewN ?_ _ | refine blk_drew ?_ | refine blk_alloc ?_ _)); exact a3.out⟩, ⟨by repeat (first | (with_reducible first | exact HB.out | apply below_alloc | apply pw_below_drewN | apply below_drew1 | refine below_set ?_ a8.out | refine below_set ?_ d2.out) | exact HB.out)⟩⟩
         ·rw [if_neg f3] at H
          exact absurd H (by simp)
        ·rw [if_neg e1] at H
         have c14b0 : (((rd_T51 l0_2 a0).f1) == a2) = false := beq_eq_false_iff_ne.mpr e1
         have c14b1 : (((rd_T51 l0_2 a0).f1) != a2) = true := bne_iff_ne.mpr e1
         have H' := Aside0.mk H
         clear H
         have d0 : 0 ≤ (a0 : Int) := of_decide_eq_true (by first | (with_reducible assumption) | assumption)
         have b9 : a0 < (l0_2.length : Int) := of_decide_eq_true (by first | (with_reducible assumption) | assumption)
         obtain ⟨b5, e2, b0, a9, b1⟩ := at_T51 d5.out a0 d0 b9
         cases e2
         replace b0 := (HB.out.cell (World.block_lt_of_cell? w _ b0)).trans b0
         replace a9 := (HB.out.cell (World.block_lt_of_cell? w _ a9)).trans a9
         replace b1 := (HB.out.cell (World.block_lt_of_cell? w _ b1)).trans b1
         replace d0 := eq_true d0
         replace b9 := eq_true b9
         go_wp2_with (first | ((with_reducible refine gate_dst (N := 9) rfl ?_); refine box_event ?hg (N := 9) ?hd (cs := #[.int .i64 0, .int .i64 0, .int .i64 0]) (t := 51) ?hr ?_; (case hd => rfl); (case hg => rfl); (case hr => first | (go_simp; done) | (go_simp; rfl)); intro a4 hg g7 hbox hb; have b2 := Aside0.mk (Kd.R_below (by (with_reducible repeat (first | apply Kd.R_alloc | apply Kd.R_drewN | apply Kd.R_drew)); exact b4.out) hb); have b3 := Aside0.mk (blk_below (g := a5) (o := .cells #[.int .i64 a0_0, .slice A0_1 l0_1.length c0_1, .slice (some b5) l0_2.length c0_2] 25 (0, 0)) (by (with_reducible repeat (first | refine blk_drewN ?_ _ | refine blk_drew ?_ | refine blk_alloc ?_ _)); exact a3.out) hb); have b6 := Aside0.mk (below_step (by repeat (first | (with_reducible first | exact HB.out | apply below_alloc | apply pw_below_drewN | apply below_drew1 | refine below_set ?_ a8.out) | exact HB.out)) hb); have b7 := Aside0.mk (hbox); have d8 := Aside0.mk ((by rw [hg]; exact (below_size (by repeat (first | (with_reducible first | exact HB.out | apply below_alloc | apply pw_below_drewN | apply below_drew1 | refine below_set ?_ a8.out) | exact HB.out))) : w.heap.size ≤ a4)); have d9 := Aside0.mk ((by rw [hg]; exact (below_size (by repeat (first | (with_reducible first | exact HB.out | apply below_alloc | apply pw_below_drewN | apply below_drew1 | refine below_set ?_ a8.out) | exact HB.out))) : w.heap.size ≤ a4)); have d7 := Aside0.mk ((by rw [hg]; exact Nat.ne_of_lt (blk_lt (g := a5) (o := .cells #[.int .i64 a0_0, .slice A0_1 l0_1.length c0_1, .slice (some b5) l0_2.length c0_2] 25 (0, 0)) (by (with_reducible repeat (first | refine blk_drewN ?_ _ | refine blk_drew ?_ | refine blk_alloc ?_ _)); exact a3.out)) : a5 ≠ a4)); have d6 := Aside0.mk ((by rw [hg]; exact Nat.ne_of_gt (blk_lt (g := a5) (o := .cells #[.int .i64 a0_0, .slice A0_1 l0_1.length c0_1, .slice (some b5) l0_2.length c0_2] 25 (0, 0)) (by (with_reducible repeat (first | refine blk_drewN ?_ _ | refine blk_drew ?_ | refine blk_alloc ?_ _)); exact a3.out)) : a4 ≠ a5)); clear b4; clear a3; clear HB; have b4 := b2; have a3 := b3; have HB := b6; have a6 := b7; have e7 := d8; have d2 := d9; have a7 := d7; have b8 := d6; clear b2 b3 b6 b7 d8 d9 d7 d6; clear hb hbox hg; have l5 := b8.out; have l7 := a7.out; have j4 : g7.cell? ⟨a4, 0, none⟩ = some (.int .i64 0) := (blk_cell a6.out 0).trans rfl; have j2 : g7.cell? ⟨a4, 1, none⟩ = some (.int .i64 0) := (blk_cell a6.out 1).trans rfl; have j9 : g7.cell? ⟨a4, 2, none⟩ = some (.int .i64 0) := (blk_cell a6.out 2).trans rfl; have i6 := blk_frozen a6.out 0; have i9 := blk_frozen a6.out 1; have k6 := blk_frozen a6.out 2))
         go_roundg k1
         case measure => have := e3.out; omega
         case rel => exact ⟨(d3), (wrap64 (a0 + 1)), (by first | rfl | (simp; done) | (simp [*]; done)), H', ⟨by have := e3.out; omega⟩, ⟨by (with_reducible repeat (first | apply Kd.R_alloc | apply Kd.R_drewN | apply Kd.R_drew)); exact Kd.R_mono (Kd.R_far (p := ⟨a4, 2, none⟩) (Kd.R_far (p := ⟨a4, 1, none⟩) (Kd.R_far (p := ⟨a4, 0, none⟩) (Kd.R_types b4.out a6.out (by decide)) (fun _ hk => hk.2) (.int .i64 ((rd_T51 l0_2 a0).f0))) (fun _ hk => hk.2) (.int .i64 ((rd_T51 l0_2 a0).f1))) (fun _ hk => hk.2) (.int .i64 ((rd_T51 l0_2 a0).f2))) (fun _ hk => trivial)⟩, ⟨by (with_reducible repeat (first | refine blk_drewN ?_ _ | refine blk_drew ?_ | refine blk_alloc ?_ _)); refine blk_far ?_ a7.out _; (with_reducible repeat (first | refine blk_drewN ?_ _ | refine blk_drew ?_ | refine blk_alloc ?_ _)); refine blk_far ?_ a7.out _; (with_reducible repeat (first | refine blk_drewN ?_ _ | refine blk_drew ?_ | refine blk_alloc ?_ _)); refine blk_far ?_ a7.out _; (with_reducible repeat (first | refine blk_drewN ?_ _ | refine blk_drew ?_ | refine blk_alloc ?_ _)); exact a3.out⟩, ⟨by repeat (first | (with_reducible first | exact HB.out | apply below_alloc | apply pw_below_drewN | apply below_drew1 | refine below_set ?_ a8.out | refine below_set ?_ d2.out) | exact HB.out)⟩⟩
       ·rw [if_neg e0] at H
        have c13b0 : (((rd_T51 l0_2 a0).f2) == a1) = false := beq_eq_false_iff_ne.mpr e0
        have c13b1 : (((rd_T51 l0_2 a0).f2) != a1) = true := bne_iff_ne.mpr e0
        have H' := Aside0.mk H
        clear H
        have d0 : 0 ≤ (a0 : Int) := of_decide_eq_true (by first | (with_reducible assumption) | assumption)
        have b9 : a0 < (l0_2.length : Int) := of_decide_eq_true (by first | (with_reducible assumption) | assumption)
        obtain ⟨b5, e2, b0, a9, b1⟩ := at_T51 d5.out a0 d0 b9
        cases e2
        replace b0 := (HB.out.cell (World.block_lt_of_cell? w _ b0)).trans b0
        replace a9 := (HB.out.cell (World.block_lt_of_cell? w _ a9)).trans a9
        replace b1 := (HB.out.cell (World.block_lt_of_cell? w _ b1)).trans b1
        replace d0 := eq_true d0
        replace b9 := eq_true b9
        go_wp2_with (first | ((with_reducible refine gate_dst (N := 9) rfl ?_); refine box_event ?hg (N := 9) ?hd (cs := #[.int .i64 0, .int .i64 0, .int .i64 0]) (t := 51) ?hr ?_; (case hd => rfl); (case hg => rfl); (case hr => first | (go_simp; done) | (go_simp; rfl)); intro a4 hg g5 hbox hb; have b2 := Aside0.mk (Kd.R_below (by (with_reducible repeat (first | apply Kd.R_alloc | apply Kd.R_drewN | apply Kd.R_drew)); exact b4.out) hb); have b3 := Aside0.mk (blk_below (g := a5) (o := .cells #[.int .i64 a0_0, .slice A0_1 l0_1.length c0_1, .slice (some b5) l0_2.length c0_2] 25 (0, 0)) (by (with_reducible repeat (first | refine blk_drewN ?_ _ | refine blk_drew ?_ | refine blk_alloc ?_ _)); exact a3.out) hb); have b6 := Aside0.mk (below_step (by repeat (first | (with_reducible first | exact HB.out | apply below_alloc | apply pw_below_drewN | apply below_drew1 | refine below_set ?_ a8.out) | exact HB.out)) hb); have b7 := Aside0.mk (hbox); have d8 := Aside0.mk ((by rw [hg]; exact (below_size (by repeat (first | (with_reducible first | exact HB.out | apply below_alloc | apply pw_below_drewN | apply below_drew1 | refine below_set ?_ a8.out) | exact HB.out))) : w.heap.size ≤ a4)); have d9 := Aside0.mk ((by rw [hg]; exact (below_size (by repeat (first | (with_reducible first | exact HB.out | apply below_alloc | apply pw_below_drewN | apply below_drew1 | refine below_set ?_ a8.out) | exact HB.out))) : w.heap.size ≤ a4)); have d7 := Aside0.mk ((by rw [hg]; exact Nat.ne_of_lt (blk_lt (g := a5) (o := .cells #[.int .i64 a0_0, .slice A0_1 l0_1.length c0_1, .slice (some b5) l0_2.length c0_2] 25 (0, 0)) (by (with_reducible repeat (first | refine blk_drewN ?_ _ | refine blk_drew ?_ | refine blk_alloc ?_ _)); exact a3.out)) : a5 ≠ a4)); have d6 := Aside0.mk ((by rw [hg]; exact Nat.ne_of_gt (blk_lt (g := a5) (o := .cells #[.int .i64 a0_0, .slice A0_1 l0_1.length c0_1, .slice (some b5) l0_2.length c0_2] 25 (0, 0)) (by (with_reducible repeat (first | refine blk_drewN ?_ _ | refine blk_drew ?_ | refine blk_alloc ?_ _)); exact a3.out)) : a4 ≠ a5)); clear b4; clear a3; clear HB; have b4 := b2; have a3 := b3; have HB := b6; have a6 := b7; have e7 := d8; have d2 := d9; have a7 := d7; have b8 := d6; clear b2 b3 b6 b7 d8 d9 d7 d6; clear hb hbox hg; have l4 := b8.out; have l8 := a7.out; have i5 : g5.cell? ⟨a4, 0, none⟩ = some (.int .i64 0) := (blk_cell a6.out 0).trans rfl; have i2 : g5.cell? ⟨a4, 1, none⟩ = some (.int .i64 0) := (blk_cell a6.out 1).trans rfl; have k4 : g5.cell? ⟨a4, 2, none⟩ = some (.int .i64 0) := (blk_cell a6.out 2).trans rfl; have k3 := blk_frozen a6.out 0; have i4 := blk_frozen a6.out 1; have i7 := blk_frozen a6.out 2))
        go_roundg k1
        case measure => have := e3.out; omega
        case rel => exact ⟨(d3), (wrap64 (a0 + 1)), (by first | rfl | (simp; done) | (simp [*]; done)), H', ⟨by have := e3.out; omega⟩, ⟨by (with_reducible repeat (first | apply Kd.R_alloc | apply Kd.R_drewN | apply Kd.R_drew)); exact Kd.R_mono (Kd.R_far (p := ⟨a4, 2, none⟩) (Kd.R_far (p := ⟨a4, 1, none⟩) (Kd.R_far (p := ⟨a4, 0, none⟩) (Kd.R_types b4.out a6.out (by decide)) (fun _ hk => hk.2) (.int .i64 ((rd_T51 l0_2 a0).f0))) (fun _ hk => hk.2) (.int .i64 ((rd_T51 l0_2 a0).f1))) (fun _ hk => hk.2) (.int .i64 ((rd_T51 l0_2 a0).f2))) (fun _ hk => trivial)⟩, ⟨by (with_reducible repeat (first | refine blk_drewN ?_ _ | refine blk_drew ?_ | refine blk_alloc ?_ _)); refine blk_far ?_ a7.out _; (with_reducible repeat (first | refine blk_drewN ?_ _ | refine blk_drew ?_ | refine blk_alloc ?_ _)); refine blk_far ?_ a7.out _; (with_reducible repeat (first | refine blk_drewN ?_ _ | refine blk_drew ?_ | refine blk_alloc ?_ _)); refine blk_far ?_ a7.out _; (with_reducible repeat (first | refine blk_drewN ?_ _ | refine blk_drew ?_ | refine blk_alloc ?_ _)); exact a3.out⟩, ⟨by repeat (first | (with_reducible first | exact HB.out | apply below_alloc | apply pw_below_drewN | apply below_drew1 | refine below_set ?_ a8.out | refine below_set ?_ d2.out) | exact HB.out)⟩⟩
      ·rw [if_neg e4] at H
       exact absurd H (by simp)
     ·rw [if_neg e5] at H
      exact absurd H (by simp)
    ·rw [if_neg c10] at H
     have c10b0 : decide (a0 < (l0_2.length : Int)) = false := decide_eq_false c10
     clear c10
     obtain rfl := Option.some.inj H
     go_wp2
     go_ret
     exact ⟨_, by first | rfl | (simp [errW_none, errW_some] <;> rfl) | (simp [*, errW_none, errW_some] <;> rfl), by (with_reducible repeat (first | apply Kd.R_alloc | apply Kd.R_drewN | apply Kd.R_drew)); exact b4.out, by repeat (first | (with_reducible first | exact HB.out | apply below_alloc | apply pw_below_drewN | apply below_drew1 | refine below_set ?_ a8.out) | exact HB.out)⟩
 ·rw [if_neg c5] at H
  have c5b0 : (d1 == 0) = false := beq_eq_false_iff_ne.mpr c5
  have c5b1 : (d1 != 0) = true := bne_iff_ne.mpr c5
  obtain rfl := Option.some.inj H
  go_enter Try.func29, Try.ntmps29
  go_wp2_with (first | ((with_reducible refine gate_dst (N := 3) rfl ?_); refine box_event ?hg (N := 3) ?hd (cs := #[.int .i64 a0_0, .slice A0_1 l0_1.length c0_1, .slice A0_2 l0_2.length c0_2]) (t := 25) ?hr ?_; (case hd => rfl); (case hg => rfl); (case hr => first | (go_simp; done) | (go_simp; rfl)); intro a5 hg g4 hbox hb; have b2 := Aside0.mk (below_step (by repeat (first | (with_reducible first | exact HB.out | apply below_alloc | apply pw_below_drewN | apply below_drew1) | exact HB.out)) hb); have b3 := Aside0.mk (hbox); have b6 := Aside0.mk ((by rw [hg]; exact (below_size (by repeat (first | (with_reducible first | exact HB.out | apply below_alloc | apply pw_below_drewN | apply below_drew1) | exact HB.out))) : w.heap.size ≤ a5)); have b7 := Aside0.mk ((by rw [hg]; exact (below_size (by repeat (first | (with_reducible first | exact HB.out | apply below_alloc | apply pw_below_drewN | apply below_drew1) | exact HB.out))) : w.heap.size ≤ a5)); clear HB; have HB := b2; have a3 := b3; have h4 := b6; have a8 := b7; clear b2 b3 b6 b7; clear hb hbox hg; have j6 : g4.cell? ⟨a5, 0, none⟩ = some (.int .i64 a0_0) := (blk_cell a3.out 0).trans rfl; have k2 : g4.cell? ⟨a5, 1, none⟩ = some (.slice A0_1 l0_1.length c0_1) := (blk_cell a3.out 1).trans rfl; have j3 : g4.cell? ⟨a5, 2, none⟩ = some (.slice A0_2 l0_2.length c0_2) := (blk_cell a3.out 2).trans rfl; have k7 := blk_frozen a3.out 0; have i1 := blk_frozen a3.out 1; have k0 := blk_frozen a3.out 2) | ((with_reducible refine gate_callee (f := 27) rfl ?_); refine goesL_ (some 11) rfl rfl Try.func27 (by kernel_rfl) rfl #[.agg #[.int .i64 a0_0, .slice A0_1 l0_1.length c0_1, .slice A0_2 l0_2.length c0_2]] rfl (by (try simp only [List.map_toArray, List.map_cons, List.map_nil]); first | done | rfl | (simp only [List.length_drop, List.length_take]; rfl)) ?_; (with_reducible refine (Pxc.calls a0_0 _ _ l0_1 _ _ l0_2 d1 _ ?h2 ?h9 ?h8 ?h6 A4.out).mono ?_); (case h2 => repeat (first | exact (Kd.C_below e9.out HB.out) | (with_reducible refine Kd.C_alloc ?_ _) | (with_reducible refine Kd.C_drewN ?_ _) | (with_reducible refine Kd.C_drew ?_))); (case h9 => exact e8.out); (case h8 => repeat (first | exact (Kd.C_below d5.out HB.out) | (with_reducible refine Kd.C_alloc ?_ _) | (with_reducible refine Kd.C_drewN ?_ _) | (with_reducible refine Kd.C_drew ?_))); (case h6 => exact e6.out); rintro e m2 ⟨rfl, hb⟩; refine ⟨_, rfl, ?_⟩; have b2 := Aside0.mk (blk_below (g := a5) (o := .cells #[.int .i64 a0_0, .slice A0_1 l0_1.length c0_1, .slice A0_2 l0_2.length c0_2] 25 (0, 0)) (by (with_reducible repeat (first | refine blk_drewN ?_ _ | refine blk_drew ?_ | refine blk_alloc ?_ _)); exact a3.out) hb); have b3 := Aside0.mk (below_step (by repeat (first | (with_reducible first | exact HB.out | apply below_alloc | apply pw_below_drewN | apply below_drew1 | refine below_set ?_ a8.out) | exact HB.out)) hb); clear a3; clear HB; have a3 := b2; have HB := b3; clear b2 b3; (try clear hb); (try clear k9); (try clear hk); (try clear hi)))
  go_ret
  exact ⟨_, by first | rfl | (simp [errW_none, errW_some] <;> rfl) | (simp [*, errW_none, errW_some] <;> rfl), by first | exact Kd.R_nil _ _ _ _ _ | exact Kd.N_nil _ _ _ _ _ | exact Kd.V_nil _ _ _ _ _ | exact Kd.Q_nil _ _ _ _ _ | exact Kd.S_nil _ _ _ _ _, by repeat (first | (with_reducible first | exact HB.out | apply below_alloc | apply pw_below_drewN | apply below_drew1 | refine below_set ?_ a8.out) | exact HB.out)⟩
def Pxb.l0 : Nat → List (S51) → Int → Int → Int → List ByteArray → List (S51) → Option (Bool)
 | 0, _, _, _, _, _, _ => none
 | k + 1, x6, x7, x8, x127000, x127001, x127002 => if x8 < x7 then (if 0 ≤ x8 then (if x8 < (x6.length : Int) then (if x8 > 0 then (if 0 ≤ (wrap64 (x8 - 1)) then (if (wrap64 (x8 - 1)) < (x127002.length : Int) then (if ((rd_T51 x127002 (wrap64 (x8 - 1))).f0) = ((rd_T51 x6 x8).f0) then (if ((rd_T51 x127002 (wrap64 (x8 - 1))).f1) = ((rd_T51 x6 x8).f1) then (some false) else (Pxb.l0 k x6 x7 (wrap64 (x8 + 1)) x127000 x127001 x127002)) else (Pxb.l0 k x6 x7 (wrap64 (x8 + 1)) x127000 x127001 x127002)) else (none)) else (none)) else (Pxb.l0 k x6 x7 (wrap64 (x8 + 1)) x127000 x127001 x127002)) else (none)) else (none)) else ((Pxc.f x127000 x127001 x127002).bind fun t131 => (some (t131 == 0)))
def Pxb.f (k : Nat) (a0_0 : Int) (l0_1 : List ByteArray) (l0_2 : List (S51)) : Option (Bool) := Pxb.l0 k l0_2 (l0_2.length : Int) 0 a0_0 l0_1 l0_2
theorem Pxb.mono_l : ∀ k, (∀ y0 y1 y2 y3 y4 y5, LeO (Pxb.l0 k y0 y1 y2 y3 y4 y5) (Pxb.l0 (k + 1) y0 y1 y2 y3 y4 y5))
 | 0 => fun _ _ _ _ _ _ r h => by simp [Pxb.l0] at h
 | k + 1 => by
  have ih0 := Pxb.mono_l k
  ·intro y0 y1 y2 y3 y4 y5
   unfold Pxb.l0
   repeat' first
   | (with_reducible exact ih0 _ _ _ _ _ _)
   | (with_reducible exact LeO.refl _)
   | (with_reducible exact LeO.none _)
   | (with_reducible refine LeO.ite ?_ ?_)
   | (with_reducible refine LeO.bind ?_ (fun _ => ?_))
   | exact ih0 _ _ _ _ _ _
   | exact LeO.none _
   | refine LeO.ite ?_ ?_
   | refine LeO.bind ?_ (fun _ => ?_)
theorem Pxb.mono : ∀ a0 a1 a2 k, LeO (Pxb.f k a0 a1 a2) (Pxb.f (k + 1) a0 a1 a2) := by
 intro a0 a1 a2 k
 have ih0 := Pxb.mono_l k
 unfold Pxb.f
 repeat' first
   | (with_reducible exact ih0 _ _ _ _ _ _)
   | (with_reducible exact LeO.refl _)
   | (with_reducible exact LeO.none _)
   | (with_reducible refine LeO.ite ?_ ?_)
   | (with_reducible refine LeO.bind ?_ (fun _ => ?_))
   | exact ih0 _ _ _ _ _ _
   | exact LeO.none _
   | refine LeO.ite ?_ ?_
   | refine LeO.bind ?_ (fun _ => ?_)
set_option maxHeartbeats 8000000 in
set_option maxRecDepth 100000 in
theorem Pxb.calls (k : Nat) (a0_0 : Int) (A0_1 : Option Addr) (c0_1 : Nat) (l0_1 : List ByteArray) (A0_2 : Option Addr) (c0_2 : Nat) (l0_2 : List (S51)) (r : Bool) (w : World) (hr0_1 : Kd.C Kd.string w A0_1 l0_1.length l0_1) (hc0_1 : l0_1.length ≤ c0_1) (hr0_2 : Kd.C k51 w A0_2 l0_2.length l0_2) (hc0_2 : l0_2.length ≤ c0_2) (h : Pxb.f k a0_0 l0_1 l0_2 = some r) :
  Calls Try.prog 31 #[.agg #[.int .i64 a0_0, .slice A0_1 l0_1.length c0_1, .slice A0_2 l0_2.length c0_2]] w fun e w' => e = .returned (.bool r) ∧ Below w.heap.size w w' := by
 have p6 := Try.underlying25
 have p5 := Try.underlying51
 have n0 := Aside0.mk hr0_1
 have m8 := Aside0.mk hc0_1
 clear hr0_1 hc0_1
 have e1 := Aside0.mk hr0_2
 have m7 := Aside0.mk hc0_2
 clear hr0_2 hc0_2
 have HB := Aside0.mk (Below.refl w.heap.size w)
 have H : (Pxb.l0 k l0_2 (l0_2.length : Int) 0 a0_0 l0_1 l0_2) = some r := h
 clear h
 have H' := Aside0.mk H
 clear H
 go_enter Try.func31, Try.ntmps31
 go_wp2_with (first | ((with_reducible refine gate_dst (N := 1) rfl ?_); refine box_event ?hg (N := 1) ?hd (cs := #[.int .i64 a0_0, .slice A0_1 l0_1.length c0_1, .slice A0_2 l0_2.length c0_2]) (t := 25) ?hr ?_; (case hd => rfl); (case hg => rfl); (case hr => first | (go_simp; done) | (go_simp; rfl)); intro b0 hg w2 hbox hb; have d3 := Aside0.mk (below_step (by repeat (first | (with_reducible first | exact HB.out | apply below_alloc | apply pw_below_drewN | apply below_drew1) | exact HB.out)) hb); have d4 := Aside0.mk (hbox); have d7 := Aside0.mk ((by rw [hg]; exact (below_size (by repeat (first | (with_reducible first | exact HB.out | apply below_alloc | apply pw_below_drewN | apply below_drew1) | exact HB.out))) : w.heap.size ≤ b0)); have d8 := Aside0.mk ((by rw [hg]; exact (below_size (by repeat (first | (with_reducible first | exact HB.out | apply below_alloc | apply pw_below_drewN | apply below_drew1) | exact HB.out))) : w.heap.size ≤ b0)); clear HB; have HB := d3; have a3 := d4; have o1 := d7; have d0 := d8; clear d3 d4 d7 d8; clear hb hbox hg; have h6 : w2.cell? ⟨b0, 0, none⟩ = some (.int .i64 a0_0) := (blk_cell a3.out 0).trans rfl; have h3 : w2.cell? ⟨b0, 1, none⟩ = some (.slice A0_1 l0_1.length c0_1) := (blk_cell a3.out 1).trans rfl; have h5 : w2.cell? ⟨b0, 2, none⟩ = some (.slice A0_2 l0_2.length c0_2) := (blk_cell a3.out 2).trans rfl; have h1 := blk_frozen a3.out 0; have h2 := blk_frozen a3.out 1; have h4 := blk_frozen a3.out 2))
 repeat (go_quiet (first | ((with_reducible refine gate_dst (N := 1) rfl ?_); refine box_event ?hg (N := 1) ?hd (cs := #[.int .i64 a0_0, .slice A0_1 l0_1.length c0_1, .slice A0_2 l0_2.length c0_2]) (t := 25) ?hr ?_; (case hd => rfl); (case hg => rfl); (case hr => first | (go_simp; done) | (go_simp; rfl)); intro b0 hg w2 hbox hb; have d3 := Aside0.mk (below_step (by repeat (first | (with_reducible first | exact HB.out | apply below_alloc | apply pw_below_drewN | apply below_drew1) | exact HB.out)) hb); have d4 := Aside0.mk (hbox); have d7 := Aside0.mk ((by rw [hg]; exact (below_size (by repeat (first | (with_reducible first | exact HB.out | apply below_alloc | apply pw_below_drewN | apply below_drew1) | exact HB.out))) : w.heap.size ≤ b0)); have d8 := Aside0.mk ((by rw [hg]; exact (below_size (by repeat (first | (with_reducible first | exact HB.out | apply below_alloc | apply pw_below_drewN | apply below_drew1) | exact HB.out))) : w.heap.size ≤ b0)); clear HB; have HB := d3; have a3 := d4; have o1 := d7; have d0 := d8; clear d3 d4 d7 d8; clear hb hbox hg; have h6 : w2.cell? ⟨b0, 0, none⟩ = some (.int .i64 a0_0) := (blk_cell a3.out 0).trans rfl; have h3 : w2.cell? ⟨b0, 1, none⟩ = some (.slice A0_1 l0_1.length c0_1) := (blk_cell a3.out 1).trans rfl; have h5 : w2.cell? ⟨b0, 2, none⟩ = some (.slice A0_2 l0_2.length c0_2) := (blk_cell a3.out 2).trans rfl; have h1 := blk_frozen a3.out 0; have h2 := blk_frozen a3.out 1; have h4 := blk_frozen a3.out 2)); try go_wp2_with (first | ((with_reducible refine gate_dst (N := 1) rfl ?_); refine box_event ?hg (N := 1) ?hd (cs := #[.int .i64 a0_0, .slice A0_1 l0_1.length c0_1, .slice A0_2 l0_2.length c0_2]) (t := 25) ?hr ?_; (case hd => rfl); (case hg => rfl); (case hr => first | (go_simp; done) | (go_simp; rfl)); intro b0 hg w2 hbox hb; have d3 := Aside0.mk (below_step (by repeat (first | (with_reducible first | exact HB.out | apply below_alloc | apply pw_below_drewN | apply below_drew1) | exact HB.out)) hb); have d4 := Aside0.mk (hbox); have d7 := Aside0.mk ((by rw [hg]; exact (below_size (by repeat (first | (with_reducible first | exact HB.out | apply below_alloc | apply pw_below_drewN | apply below_drew1) | exact HB.out))) : w.heap.size ≤ b0)); have d8 := Aside0.mk ((by rw [hg]; exact (below_size (by repeat (first | (with_reducible first | exact HB.out | apply below_alloc | apply pw_below_drewN | apply below_drew1) | exact HB.out))) : w.heap.size ≤ b0)); clear HB; have HB := d3; have a3 := d4; have o1 := d7; have d0 := d8; clear d3 d4 d7 d8; clear hb hbox hg; have h6 : w2.cell? ⟨b0, 0, none⟩ = some (.int .i64 a0_0) := (blk_cell a3.out 0).trans rfl; have h3 : w2.cell? ⟨b0, 1, none⟩ = some (.slice A0_1 l0_1.length c0_1) := (blk_cell a3.out 1).trans rfl; have h5 : w2.cell? ⟨b0, 2, none⟩ = some (.slice A0_2 l0_2.length c0_2) := (blk_cell a3.out 2).trans rfl; have h1 := blk_frozen a3.out 0; have h2 := blk_frozen a3.out 1; have h4 := blk_frozen a3.out 2)))
 go_loopg [8] k (fun kq v8 w' => ∃ (a1 : Int), v8 = .int .i64 a1 ∧ Aside0 (Pxb.l0 kq l0_2 (l0_2.length : Int) a1 a0_0 l0_1 l0_2 = some r) ∧ Aside0 (kq ≤ k) ∧ Aside0 (w'.heap[b0]? = some (.cells #[.int .i64 a0_0, (.slice A0_1 l0_1.length c0_1), (.slice A0_2 l0_2.length c0_2)] 25 (0, 0))) ∧ Aside0 (Below w.heap.size w w'))
 case atStart => exact ⟨(0), (by first | rfl | (simp; done) | (simp [*]; done)), H', ⟨Nat.le_refl _⟩, ⟨by (with_reducible repeat (first | refine blk_drewN ?_ _ | refine blk_drew ?_ | refine blk_alloc ?_ _)); exact a3.out⟩, ⟨by repeat (first | (with_reducible first | exact HB.out | apply below_alloc | apply pw_below_drewN | apply below_drew1 | refine below_set ?_ d0.out) | exact HB.out)⟩⟩
 case round =>
  clear H'
  try clear p2
  try clear c3
  try clear h6
  try clear h3
  try clear h5
  try clear h1
  try clear h2
  try clear h4
  obtain ⟨a1, rfl, HA, k6, a3, HB⟩ := hrel
  cases gk with
  | zero => exact absurd HA.out (by simp [Pxb.l0])
  | succ k1 =>
   have H := HA.out
   clear HA
   simp only [Pxb.l0] at H
   by_cases c4 : a1 < (l0_2.length : Int)
   ·rw [if_pos c4] at H
    have c4b0 : decide (a1 < (l0_2.length : Int)) = true := decide_eq_true c4
    clear c4
    by_cases c5 : 0 ≤ a1
    ·rw [if_pos c5] at H
     have c5b0 : decide (0 ≤ a1) = true := decide_eq_true c5
     clear c5
     by_cases c6 : a1 < (l0_2.length : Int)
     ·rw [if_pos c6] at H
      have c6b0 : decide (a1 < (l0_2.length : Int)) = true := decide_eq_true c6
      clear c6
      by_cases c7 : a1 > 0
      ·rw [if_pos c7] at H
       have c7b0 : decide (0 < a1) = true := decide_eq_true c7
       clear c7
       obtain ⟨d2, m6⟩ : ∃ j_ : Int, (wrap64 (a1 - 1)) = j_ := ⟨_, rfl⟩
       replace H : (if 0 ≤ (d2) then (if (d2) < (l0_2.length : Int) then (if ((rd_T51 l0_2 (d2)).f0) = ((rd_T51 l0_2 a1).f0) then (if ((rd_T51 l0_2 (d2)).f1) = ((rd_T51 l0_2 a1).f1) then (some false) else (Pxb.l0 k1 l0_2 (l0_2.length : Int) (wrap64 (a1 + 1)) a0_0 l0_1 l0_2)) else (Pxb.l0 k1 l0_2 (l0_2.length : Int) (wrap64 (a1 + 1)) a0_0 l0_1 l0_2)) else (none)) else (none)) = some r := by first | (rw [m6] at H; exact H) | (simp only [m6] at H ⊢; exact H)
       have hji8w : (IntKind.i64.wrap (a1 - 1)) = d2 := (i64_w _).trans m6
       by_cases c9 : 0 ≤ (d2)
       ·rw [if_pos c9] at H
        have c9b0 : decide (0 ≤ (d2)) = true := decide_eq_true c9
        clear c9
        by_cases c10 : (d2) < (l0_2.length : Int)
        ·rw [if_pos c10] at H
         have c10b0 : decide ((d2) < (l0_2.length : Int)) = true := decide_eq_true c10
         clear c10
         by_cases h0 : ((rd_T51 l0_2 (d2)).f0) = ((rd_T51 l0_2 a1).f0)
         ·rw [if_pos h0] at H
          have c11b0 : (((rd_T51 l0_2 (d2)).f0) == ((rd_T51 l0_2 a1).f0)) = true := beq_iff_eq.mpr h0
          have c11b1 : (((rd_T51 l0_2 (d2)).f0) != ((rd_T51 l0_2 a1).f0)) = false := bne_eq_false_iff_eq.mpr h0
          clear h0
          by_cases g9 : ((rd_T51 l0_2 (d2)).f1) = ((rd_T51 l0_2 a1).f1)
          ·rw [if_pos g9] at H
           have c12b0 : (((rd_T51 l0_2 (d2)).f1) == ((rd_T51 l0_2 a1).f1)) = true := beq_iff_eq.mpr g9
           have c12b1 : (((rd_T51 l0_2 (d2)).f1) != ((rd_T51 l0_2 a1).f1)) = false := bne_eq_false_iff_eq.mpr g9
           clear g9
           obtain rfl := Option.some.inj H
           have f7 : 0 ≤ (a1 : Int) := of_decide_eq_true (by first | (with_reducible assumption) | assumption)
           have f8 : a1 < (l0_2.length : Int) := of_decide_eq_true (by first | (with_reducible assumption) | assumption)
           obtain ⟨b1, g8, e3, e2, e4⟩ := at_T51 e1.out a1 f7 f8
           cases g8
           replace e3 := (HB.out.cell (World.block_lt_of_cell? w _ e3)).trans e3
           replace e2 := (HB.out.cell (World.block_lt_of_cell? w _ e2)).trans e2
           replace e4 := (HB.out.cell (World.block_lt_of_cell? w _ e4)).trans e4
           replace f7 := eq_true f7
           replace f8 := eq_true f8
           go_wp2_with (first | ((with_reducible refine gate_dst (N := 4) rfl ?_); refine box_event ?hg (N := 4) ?hd (cs := #[.int .i64 0, .int .i64 0, .int .i64 0]) (t := 51) ?hr ?_; (case hd => rfl); (case hg => rfl); (case hr => first | (go_simp; done) | (go_simp; rfl)); intro a0 hg d9 hbox hb; have d3 := Aside0.mk (blk_below (g := b0) (o := .cells #[.int .i64 a0_0, .slice A0_1 l0_1.length c0_1, .slice (some b1) l0_2.length c0_2] 25 (0, 0)) (by (with_reducible repeat (first | refine blk_drewN ?_ _ | refine blk_drew ?_ | refine blk_alloc ?_ _)); exact a3.out) hb); have d4 := Aside0.mk (below_step (by repeat (first | (with_reducible first | exact HB.out | apply below_alloc | apply pw_below_drewN | apply below_drew1 | refine below_set ?_ d0.out) | exact HB.out)) hb); have d7 := Aside0.mk (hbox); have d8 := Aside0.mk ((by rw [hg]; exact (below_size (by repeat (first | (with_reducible first | exact HB.out | apply below_alloc | apply pw_below_drewN | apply below_drew1 | refine below_set ?_ d0.out) | exact HB.out))) : w.heap.size ≤ a0)); have e6 := Aside0.mk ((by rw [hg]; exact (below_size (by repeat (first | (with_reducible first | exact HB.out | apply below_alloc | apply pw_below_drewN | apply below_drew1 | refine below_set ?_ d0.out) | exact HB.out))) : w.heap.size ≤ a0)); have e7 := Aside0.mk ((by rw [hg]; exact Nat.ne_of_lt (blk_lt (g := b0) (o := .cells #[.int .i64 a0_0, .slice A0_1 l0_1.length c0_1, .slice (some b1) l0_2.length c0_2] 25 (0, 0)) (by (with_reducible repeat (first | refine blk_drewN ?_ _ | refine blk_drew ?_ | refine blk_alloc ?_ _)); exact a3.out)) : b0 ≠ a0)); have e5 := Aside0.mk ((by rw [hg]; exact Nat.ne_of_gt (blk_lt (g := b0) (o := .cells #[.int .i64 a0_0, .slice A0_1 l0_1.length c0_1, .slice (some b1) l0_2.length c0_2] 25 (0, 0)) (by (with_reducible repeat (first | refine blk_drewN ?_ _ | refine blk_drew ?_ | refine blk_alloc ?_ _)); exact a3.out)) : a0 ≠ b0)); clear a3; clear HB; have a3 := d3; have HB := d4; have b7 := d7; have b9 := d8; have f5 := e6; have b8 := e7; have d1 := e5; clear d3 d4 d7 d8 e6 e7 e5; clear hb hbox hg; have n9 := d1.out; have n6 := b8.out; have m3 : d9.cell? ⟨a0, 0, none⟩ = some (.int .i64 0) := (blk_cell b7.out 0).trans rfl; have i1 : d9.cell? ⟨a0, 1, none⟩ = some (.int .i64 0) := (blk_cell b7.out 1).trans rfl; have j4 : d9.cell? ⟨a0, 2, none⟩ = some (.int .i64 0) := (blk_cell b7.out 2).trans rfl; have j8 := blk_frozen b7.out 0; have i7 := blk_frozen b7.out 1; have i4 := blk_frozen b7.out 2; have j5 : d9.cell? ⟨b0, 0, none⟩ = some (.int .i64 a0_0) := (blk_cell a3.out 0).trans rfl; have j3 : d9.cell? ⟨b0, 1, none⟩ = some (.slice A0_1 l0_1.length c0_1) := (blk_cell a3.out 1).trans rfl; have l3 : d9.cell? ⟨b0, 2, none⟩ = some (.slice (some b1) l0_2.length c0_2) := (blk_cell a3.out 2).trans rfl; have k4 := blk_frozen a3.out 0; have j9 := blk_frozen a3.out 1; have k9 := blk_frozen a3.out 2; have d5 : 0 ≤ ((d2) : Int) := of_decide_eq_true (by first | (with_reducible assumption) | assumption); have d6 : (d2) < (l0_2.length : Int) := of_decide_eq_true (by first | (with_reducible assumption) | assumption); obtain ⟨f4, f6, a2, a5, a6⟩ := at_T51 e1.out (d2) d5 d6; obtain rfl : b1 = f4 := (by injection f6); have a8 : b1.block ≠ a0 := Nat.ne_of_lt (Nat.lt_of_lt_of_le (by have := World.block_lt_of_cell? _ _ a2; first | rwa [add_block] at this | exact this) b9.out); have a4 : b1.block ≠ a0 := Nat.ne_of_lt (Nat.lt_of_lt_of_le (by have := World.block_lt_of_cell? _ _ a2; first | rwa [add_block] at this | exact this) b9.out); have a7 : b1.block ≠ a0 := Nat.ne_of_lt (Nat.lt_of_lt_of_le (by have := World.block_lt_of_cell? _ _ a2; first | rwa [add_block] at this | exact this) b9.out); replace a2 := (HB.out.cell (World.block_lt_of_cell? w _ a2)).trans a2; replace a5 := (HB.out.cell (World.block_lt_of_cell? w _ a5)).trans a5; replace a6 := (HB.out.cell (World.block_lt_of_cell? w _ a6)).trans a6; replace a2 := (cell_far (p := ⟨a0, 0, none⟩) (by first | (rw [add_block]; exact a8) | (show (Addr.add _ _).block ≠ _; rw [add_block]; exact a8) | exact a8) (.int .i64 ((rd_T51 l0_2 a1).f0))).trans a2; replace a5 := (cell_far (p := ⟨a0, 0, none⟩) (by first | (rw [add_block]; exact a8) | (show (Addr.add _ _).block ≠ _; rw [add_block]; exact a8) | exact a8) (.int .i64 ((rd_T51 l0_2 a1).f0))).trans a5; replace a6 := (cell_far (p := ⟨a0, 0, none⟩) (by first | (rw [add_block]; exact a8) | (show (Addr.add _ _).block ≠ _; rw [add_block]; exact a8) | exact a8) (.int .i64 ((rd_T51 l0_2 a1).f0))).trans a6; replace a2 := (cell_far (p := ⟨a0, 1, none⟩) (by first | (rw [add_block]; exact a4) | (show (Addr.add _ _).block ≠ _; rw [add_block]; exact a4) | exact a4) (.int .i64 ((rd_T51 l0_2 a1).f1))).trans a2; replace a5 := (cell_far (p := ⟨a0, 1, none⟩) (by first | (rw [add_block]; exact a4) | (show (Addr.add _ _).block ≠ _; rw [add_block]; exact a4) | exact a4) (.int .i64 ((rd_T51 l0_2 a1).f1))).trans a5; replace a6 := (cell_far (p := ⟨a0, 1, none⟩) (by first | (rw [add_block]; exact a4) | (show (Addr.add _ _).block ≠ _; rw [add_block]; exact a4) | exact a4) (.int .i64 ((rd_T51 l0_2 a1).f1))).trans a6; replace a2 := (cell_far (p := ⟨a0, 2, none⟩) (by first | (rw [add_block]; exact a7) | (show (Addr.add _ _).block ≠ _; rw [add_block]; exact a7) | exact a7) (.int .i64 ((rd_T51 l0_2 a1).f2))).trans a2; replace a5 := (cell_far (p := ⟨a0, 2, none⟩) (by first | (rw [add_block]; exact a7) | (show (Addr.add _ _).block ≠ _; rw [add_block]; exact a7) | exact a7) (.int .i64 ((rd_T51 l0_2 a1).f2))).trans a5; replace a6 := (cell_far (p := ⟨a0, 2, none⟩) (by first | (rw [add_block]; exact a7) | (show (Addr.add _ _).block ≠ _; rw [add_block]; exact a7) | exact a7) (.int .i64 ((rd_T51 l0_2 a1).f2))).trans a6; (try have g1 := fun (n_ : Nat) => (show (((((d9.drewN n_).setCell ⟨a0, 0, none⟩ (.int .i64 ((rd_T51 l0_2 a1).f0))).setCell ⟨a0, 1, none⟩ (.int .i64 ((rd_T51 l0_2 a1).f1))).setCell ⟨a0, 2, none⟩ (.int .i64 ((rd_T51 l0_2 a1).f2)))).cell? _ = some _ from a2)); (try have f9 := fun (n_ : Nat) => (show (((((d9.drewN n_).setCell ⟨a0, 0, none⟩ (.int .i64 ((rd_T51 l0_2 a1).f0))).setCell ⟨a0, 1, none⟩ (.int .i64 ((rd_T51 l0_2 a1).f1))).setCell ⟨a0, 2, none⟩ (.int .i64 ((rd_T51 l0_2 a1).f2)))).cell? _ = some _ from a5)); (try have g0 := fun (n_ : Nat) => (show (((((d9.drewN n_).setCell ⟨a0, 0, none⟩ (.int .i64 ((rd_T51 l0_2 a1).f0))).setCell ⟨a0, 1, none⟩ (.int .i64 ((rd_T51 l0_2 a1).f1))).setCell ⟨a0, 2, none⟩ (.int .i64 ((rd_T51 l0_2 a1).f2)))).cell? _ = some _ from a6)); clear a8; clear a4; clear a7; replace d5 := eq_true d5; replace d6 := eq_true d6; have e9 : 0 ≤ ((d2) : Int) := of_decide_eq_true (by first | (with_reducible assumption) | assumption); have e8 : (d2) < (l0_2.length : Int) := of_decide_eq_true (by first | (with_reducible assumption) | assumption); obtain ⟨g2, g3, a9, b6, b5⟩ := at_T51 e1.out (d2) e9 e8; obtain rfl : b1 = g2 := (by injection g3); have b4 : b1.block ≠ a0 := Nat.ne_of_lt (Nat.lt_of_lt_of_le (by have := World.block_lt_of_cell? _ _ a9; first | rwa [add_block] at this | exact this) b9.out); have b3 : b1.block ≠ a0 := Nat.ne_of_lt (Nat.lt_of_lt_of_le (by have := World.block_lt_of_cell? _ _ a9; first | rwa [add_block] at this | exact this) b9.out); have b2 : b1.block ≠ a0 := Nat.ne_of_lt (Nat.lt_of_lt_of_le (by have := World.block_lt_of_cell? _ _ a9; first | rwa [add_block] at this | exact this) b9.out); replace a9 := (HB.out.cell (World.block_lt_of_cell? w _ a9)).trans a9; replace b6 := (HB.out.cell (World.block_lt_of_cell? w _ b6)).trans b6; replace b5 := (HB.out.cell (World.block_lt_of_cell? w _ b5)).trans b5; replace a9 := (cell_far (p := ⟨a0, 0, none⟩) (by first | (rw [add_block]; exact b4) | (show (Addr.add _ _).block ≠ _; rw [add_block]; exact b4) | exact b4) (.int .i64 ((rd_T51 l0_2 a1).f0))).trans a9; replace b6 := (cell_far (p := ⟨a0, 0, none⟩) (by first | (rw [add_block]; exact b4) | (show (Addr.add _ _).block ≠ _; rw [add_block]; exact b4) | exact b4) (.int .i64 ((rd_T51 l0_2 a1).f0))).trans b6; replace b5 := (cell_far (p := ⟨a0, 0, none⟩) (by first | (rw [add_block]; exact b4) | (show (Addr.add _ _).block ≠ _; rw [add_block]; exact b4) | exact b4) (.int .i64 ((rd_T51 l0_2 a1).f0))).trans b5; replace a9 := (cell_far (p := ⟨a0, 1, none⟩) (by first | (rw [add_block]; exact b3) | (show (Addr.add _ _).block ≠ _; rw [add_block]; exact b3) | exact b3) (.int .i64 ((rd_T51 l0_2 a1).f1))).trans a9; replace b6 := (cell_far (p := ⟨a0, 1, none⟩) (by first | (rw [add_block]; exact b3) | (show (Addr.add _ _).block ≠ _; rw [add_block]; exact b3) | exact b3) (.int .i64 ((rd_T51 l0_2 a1).f1))).trans b6; replace b5 := (cell_far (p := ⟨a0, 1, none⟩) (by first | (rw [add_block]; exact b3) | (show (Addr.add _ _).block ≠ _; rw [add_block]; exact b3) | exact b3) (.int .i64 ((rd_T51 l0_2 a1).f1))).trans b5; replace a9 := (cell_far (p := ⟨a0, 2, none⟩) (by first | (rw [add_block]; exact b2) | (show (Addr.add _ _).block ≠ _; rw [add_block]; exact b2) | exact b2) (.int .i64 ((rd_T51 l0_2 a1).f2))).trans a9; replace b6 := (cell_far (p := ⟨a0, 2, none⟩) (by first | (rw [add_block]; exact b2) | (show (Addr.add _ _).block ≠ _; rw [add_block]; exact b2) | exact b2) (.int .i64 ((rd_T51 l0_2 a1).f2))).trans b6; replace b5 := (cell_far (p := ⟨a0, 2, none⟩) (by first | (rw [add_block]; exact b2) | (show (Addr.add _ _).block ≠ _; rw [add_block]; exact b2) | exact b2) (.int .i64 ((rd_T51 l0_2 a1).f2))).trans b5; (try have g6 := fun (n_ : Nat) => (show (((((d9.drewN n_).setCell ⟨a0, 0, none⟩ (.int .i64 ((rd_T51 l0_2 a1).f0))).setCell ⟨a0, 1, none⟩ (.int .i64 ((rd_T51 l0_2 a1).f1))).setCell ⟨a0, 2, none⟩ (.int .i64 ((rd_T51 l0_2 a1).f2)))).cell? _ = some _ from a9)); (try have g5 := fun (n_ : Nat) => (show (((((d9.drewN n_).setCell ⟨a0, 0, none⟩ (.int .i64 ((rd_T51 l0_2 a1).f0))).setCell ⟨a0, 1, none⟩ (.int .i64 ((rd_T51 l0_2 a1).f1))).setCell ⟨a0, 2, none⟩ (.int .i64 ((rd_T51 l0_2 a1).f2)))).cell? _ = some _ from b6)); (try have g4 := fun (n_ : Nat) => (show (((((d9.drewN n_).setCell ⟨a0, 0, none⟩ (.int .i64 ((rd_T51 l0_2 a1).f0))).setCell ⟨a0, 1, none⟩ (.int .i64 ((rd_T51 l0_2 a1).f1))).setCell ⟨a0, 2, none⟩ (.int .i64 ((rd_T51 l0_2 a1).f2)))).cell? _ = some _ from b5)); clear b4; clear b3; clear b2; replace e9 := eq_true e9; replace e8 := eq_true e8))
           repeat (go_quiet (first | ((with_reducible refine gate_dst (N := 4) rfl ?_); refine box_event ?hg (N := 4) ?hd (cs := #[.int .i64 0, .int .i64 0, .int .i64 0]) (t := 51) ?hr ?_; (case hd => rfl); (case hg => rfl); (case hr => first | (go_simp; done) | (go_simp; rfl)); intro a0 hg d9 hbox hb; have d3 := Aside0.mk (blk_below (g := b0) (o := .cells #[.int .i64 a0_0, .slice A0_1 l0_1.length c0_1, .slice (some b1) l0_2.length c0_2] 25 (0, 0)) (by (with_reducible repeat (first | refine blk_drewN ?_ _ | refine blk_drew ?_ | refine blk_alloc ?_ _)); exact a3.out) hb); have d4 := Aside0.mk (below_step (by repeat (first | (with_reducible first | exact HB.out | apply below_alloc | apply pw_below_drewN | apply below_drew1 | refine below_set ?_ d0.out) | exact HB.out)) hb); have d7 := Aside0.mk (hbox); have d8 := Aside0.mk ((by rw [hg]; exact (below_size (by repeat (first | (with_reducible first | exact HB.out | apply below_alloc | apply pw_below_drewN | apply below_drew1 | refine below_set ?_ d0.out) | exact HB.out))) : w.heap.size ≤ a0)); have e6 := Aside0.mk ((by rw [hg]; exact (below_size (by repeat (first | (with_reducible first | exact HB.out | apply below_alloc | apply pw_below_drewN | apply below_drew1 | refine below_set ?_ d0.out) | exact HB.out))) : w.heap.size ≤ a0)); have e7 := Aside0.mk ((by rw [hg]; exact Nat.ne_of_lt (blk_lt (g := b0) (o := .cells #[.int .i64 a0_0, .slice A0_1 l0_1.length c0_1, .slice (some b1) l0_2.length c0_2] 25 (0, 0)) (by (with_reducible repeat (first | refine blk_drewN ?_ _ | refine blk_drew ?_ | refine blk_alloc ?_ _)); exact a3.out)) : b0 ≠ a0)); have e5 := Aside0.mk ((by rw [hg]; exact Nat.ne_of_gt (blk_lt (g := b0) (o := .cells #[.int .i64 a0_0, .slice A0_1 l0_1.length c0_1, .slice (some b1) l0_2.length c0_2] 25 (0, 0)) (by (with_reducible repeat (first | refine blk_drewN ?_ _ | refine blk_drew ?_ | refine blk_alloc ?_ _)); exact a3.out)) : a0 ≠ b0)); clear a3; clear HB; have a3 := d3; have HB := d4; have b7 := d7; have b9 := d8; have f5 := e6; have b8 := e7; have d1 := e5; clear d3 d4 d7 d8 e6 e7 e5; clear hb hbox hg; have n9 := d1.out; have n6 := b8.out; have m3 : d9.cell? ⟨a0, 0, none⟩ = some (.int .i64 0) := (blk_cell b7.out 0).trans rfl; have i1 : d9.cell? ⟨a0, 1, none⟩ = some (.int .i64 0) := (blk_cell b7.out 1).trans rfl; have j4 : d9.cell? ⟨a0, 2, none⟩ = some (.int .i64 0) := (blk_cell b7.out 2).trans rfl; have j8 := blk_frozen b7.out 0; have i7 := blk_frozen b7.out 1; have i4 := blk_frozen b7.out 2; have j5 : d9.cell? ⟨b0, 0, none⟩ = some (.int .i64 a0_0) := (blk_cell a3.out 0).trans rfl; have j3 : d9.cell? ⟨b0, 1, none⟩ = some (.slice A0_1 l0_1.length c0_1) := (blk_cell a3.out 1).trans rfl; have l3 : d9.cell? ⟨b0, 2, none⟩ = some (.slice (some b1) l0_2.length c0_2) := (blk_cell a3.out 2).trans rfl; have k4 := blk_frozen a3.out 0; have j9 := blk_frozen a3.out 1; have k9 := blk_frozen a3.out 2; have d5 : 0 ≤ ((d2) : Int) := of_decide_eq_true (by first | (with_reducible assumption) | assumption); have d6 : (d2) < (l0_2.length : Int) := of_decide_eq_true (by first | (with_reducible assumption) | assumption); obtain ⟨f4, f6, a2, a5, a6⟩ := at_T51 e1.out (d2) d5 d6; obtain rfl : b1 = f4 := (by injection f6); have a8 : b1.block ≠ a0 := Nat.ne_of_lt (Nat.lt_of_lt_of_le (by have := World.block_lt_of_cell? _ _ a2; first | rwa [add_block] at this | exact this) b9.out); have a4 : b1.block ≠ a0 := Nat.ne_of_lt (Nat.lt_of_lt_of_le (by have := World.block_lt_of_cell? _ _ a2; first | rwa [add_block] at this | exact this) b9.out); have a7 : b1.block ≠ a0 := Nat.ne_of_lt (Nat.lt_of_lt_of_le (by have := World.block_lt_of_cell? _ _ a2; first | rwa [add_block] at this | exact this) b9.out); replace a2 := (HB.out.cell (World.block_lt_of_cell? w _ a2)).trans a2; replace a5 := (HB.out.cell (World.block_lt_of_cell? w _ a5)).trans a5; replace a6 := (HB.out.cell (World.block_lt_of_cell? w _ a6)).trans a6; replace a2 := (cell_far (p := ⟨a0, 0, none⟩) (by first | (rw [add_block]; exact a8) | (show (Addr.add _ _).block ≠ _; rw [add_block]; exact a8) | exact a8) (.int .i64 ((rd_T51 l0_2 a1).f0))).trans a2; replace a5 := (cell_far (p := ⟨a0, 0, none⟩) (by first | (rw [add_block]; exact a8) | (show (Addr.add _ _).block ≠ _; rw [add_block]; exact a8) | exact a8) (.int .i64 ((rd_T51 l0_2 a1).f0))).trans a5; replace a6 := (cell_far (p := ⟨a0, 0, none⟩) (by first | (rw [add_block]; exact a8) | (show (Addr.add _ _).block ≠ _; rw [add_block]; exact a8) | exact a8) (.int .i64 ((rd_T51 l0_2 a1).f0))).trans a6; replace a2 := (cell_far (p := ⟨a0, 1, none⟩) (by first | (rw [add_block]; exact a4) | (show (Addr.add _ _).block ≠ _; rw [add_block]; exact a4) | exact a4) (.int .i64 ((rd_T51 l0_2 a1).f1))).trans a2; replace a5 := (cell_far (p := ⟨a0, 1, none⟩) (by first | (rw [add_block]; exact a4) | (show (Addr.add _ _).block ≠ _; rw [add_block]; exact a4) | exact a4) (.int .i64 ((rd_T51 l0_2 a1).f1))).trans a5; replace a6 := (cell_far (p := ⟨a0, 1, none⟩) (by first | (rw [add_block]; exact a4) | (show (Addr.add _ _).block ≠ _; rw [add_block]; exact a4) | exact a4) (.int .i64 ((rd_T51 l0_2 a1).f1))).trans a6; replace a2 := (cell_far (p := ⟨a0, 2, none⟩) (by first | (rw [add_block]; exact a7) | (show (Addr.add _ _).block ≠ _; rw [add_block]; exact a7) | exact a7) (.int .i64 ((rd_T51 l0_2 a1).f2))).trans a2; replace a5 := (cell_far (p := ⟨a0, 2, none⟩) (by first | (rw [add_block]; exact a7) | (show (Addr.add _ _).block ≠ _; rw [add_block]; exact a7) | exact a7) (.int .i64 ((rd_T51 l0_2 a1).f2))).trans a5; replace a6 := (cell_far (p := ⟨a0, 2, none⟩) (by first | (rw [add_block]; exact a7) | (show (Addr.add _ _).block ≠ _; rw [add_block]; exact a7) | exact a7) (.int .i64 ((rd_T51 l0_2 a1).f2))).trans a6; (try have g1 := fun (n_ : Nat) => (show (((((d9.drewN n_).setCell ⟨a0, 0, none⟩ (.int .i64 ((rd_T51 l0_2 a1).f0))).setCell ⟨a0, 1, none⟩ (.int .i64 ((rd_T51 l0_2 a1).f1))).setCell ⟨a0, 2, none⟩ (.int .i64 ((rd_T51 l0_2 a1).f2)))).cell? _ = some _ from a2)); (try have f9 := fun (n_ : Nat) => (show (((((d9.drewN n_).setCell ⟨a0, 0, none⟩ (.int .i64 ((rd_T51 l0_2 a1).f0))).setCell ⟨a0, 1, none⟩ (.int .i64 ((rd_T51 l0_2 a1).f1))).setCell ⟨a0, 2, none⟩ (.int .i64 ((rd_T51 l0_2 a1).f2)))).cell? _ = some _ from a5)); (try have g0 := fun (n_ : Nat) => (show (((((d9.drewN n_).setCell ⟨a0, 0, none⟩ (.int .i64 ((rd_T51 l0_2 a1).f0))).setCell ⟨a0, 1, none⟩ (.int .i64 ((rd_T51 l0_2 a1).f1))).setCell ⟨a0, 2, none⟩ (.int .i64 ((rd_T51 l0_2 a1).f2)))).cell? _ = some _ from a6)); clear a8; clear a4; clear a7; replace d5 := eq_true d5; replace d6 := eq_true d6; have e9 : 0 ≤ ((d2) : Int) := of_decide_eq_true (by first | (with_reducible assumption) | assumption); have e8 : (d2) < (l0_2.length : Int) := of_decide_eq_true (by first | (with_reducible assumption) | assumption); obtain ⟨g2, g3, a9, b6, b5⟩ := at_T51 e1.out (d2) e9 e8; obtain rfl : b1 = g2 := (by injection g3); have b4 : b1.block ≠ a0 := Nat.ne_of_lt (Nat.lt_of_lt_of_le (by have := World.block_lt_of_cell? _ _ a9; first | rwa [add_block] at this | exact this) b9.out); have b3 : b1.block ≠ a0 := Nat.ne_of_lt (Nat.lt_of_lt_of_le (by have := World.block_lt_of_cell? _ _ a9; first | rwa [add_block] at this | exact this) b9.out); have b2 : b1.block ≠ a0 := Nat.ne_of_lt (Nat.lt_of_lt_of_le (by have := World.block_lt_of_cell? _ _ a9; first | rwa [add_block] at this | exact this) b9.out); replace a9 := (HB.out.cell (World.block_lt_of_cell? w _ a9)).trans a9; replace b6 := (HB.out.cell (World.block_lt_of_cell? w _ b6)).trans b6; replace b5 := (HB.out.cell (World.block_lt_of_cell? w _ b5)).trans b5; replace a9 := (cell_far (p := ⟨a0, 0, none⟩) (by first | (rw [add_block]; exact b4) | (show (Addr.add _ _).block ≠ _; rw [add_block]; exact b4) | exact b4) (.int .i64 ((rd_T51 l0_2 a1).f0))).trans a9; replace b6 := (cell_far (p := ⟨a0, 0, none⟩) (by first | (rw [add_block]; exact b4) | (show (Addr.add _ _).block ≠ _; rw [add_block]; exact b4) | exact b4) (.int .i64 ((rd_T51 l0_2 a1).f0))).trans b6; replace b5 := (cell_far (p := ⟨a0, 0, none⟩) (by first | (rw [add_block]; exact b4) | (show (Addr.add _ _).block ≠ _; rw [add_block]; exact b4) | exact b4) (.int .i64 ((rd_T51 l0_2 a1).f0))).trans b5; replace a9 := (cell_far (p := ⟨a0, 1, none⟩) (by first | (rw [add_block]; exact b3) | (show (Addr.add _ _).block ≠ _; rw [add_block]; exact b3) | exact b3) (.int .i64 ((rd_T51 l0_2 a1).f1))).trans a9; replace b6 := (cell_far (p := ⟨a0, 1, none⟩) (by first | (rw [add_block]; exact b3) | (show (Addr.add _ _).block ≠ _; rw [add_block]; exact b3) | exact b3) (.int .i64 ((rd_T51 l0_2 a1).f1))).trans b6; replace b5 := (cell_far (p := ⟨a0, 1, none⟩) (by first | (rw [add_block]; exact b3) | (show (Addr.add _ _).block ≠ _; rw [add_block]; exact b3) | exact b3) (.int .i64 ((rd_T51 l0_2 a1).f1))).trans b5; replace a9 := (cell_far (p := ⟨a0, 2, none⟩) (by first | (rw [add_block]; exact b2) | (show (Addr.add _ _).block ≠ _; rw [add_block]; exact b2) | exact b2) (.int .i64 ((rd_T51 l0_2 a1).f2))).trans a9; replace b6 := (cell_far (p := ⟨a0, 2, none⟩) (by first | (rw [add_block]; exact b2) | (show (Addr.add _ _).block ≠ _; rw [add_block]; exact b2) | exact b2) (.int .i64 ((rd_T51 l0_2 a1).f2))).trans b6; replace b5 := (cell_far (p := ⟨a0, 2, none⟩) (by first | (rw [add_block]; exact b2) | (show (Addr.add _ _).block ≠ _; rw [add_block]; exact b2) | exact b2) (.int .i64 ((rd_T51 l0_2 a1).f2))).trans b5; (try have g6 := fun (n_ : Nat) => (show (((((d9.drewN n_).setCell ⟨a0, 0, none⟩ (.int .i64 ((rd_T51 l0_2 a1).f0))).setCell ⟨a0, 1, none⟩ (.int .i64 ((rd_T51 l0_2 a1).f1))).setCell ⟨a0, 2, none⟩ (.int .i64 ((rd_T51 l0_2 a1).f2)))).cell? _ = some _ from a9)); (try have g5 := fun (n_ : Nat) => (show (((((d9.drewN n_).setCell ⟨a0, 0, none⟩ (.int .i64 ((rd_T51 l0_2 a1).f0))).setCell ⟨a0, 1, none⟩ (.int .i64 ((rd_T51 l0_2 a1).f1))).setCell ⟨a0, 2, none⟩ (.int .i64 ((rd_T51 l0_2 a1).f2)))).cell? _ = some _ from b6)); (try have g4 := fun (n_ : Nat) => (show (((((d9.drewN n_).setCell ⟨a0, 0, none⟩ (.int .i64 ((rd_T51 l0_2 a1).f0))).setCell ⟨a0, 1, none⟩ (.int .i64 ((rd_T51 l0_2 a1).f1))).setCell ⟨a0, 2, none⟩ (.int .i64 ((rd_T51 l0_2 a1).f2)))).cell? _ = some _ from b5)); clear b4; clear b3; clear b2; replace e9 := eq_true e9; replace e8 := eq_true e8)); try go_wp2_with (first | ((with_reducible refine gate_dst (N := 4) rfl ?_); refine box_event ?hg (N := 4) ?hd (cs := #[.int .i64 0, .int .i64 0, .int .i64 0]) (t := 51) ?hr ?_; (case hd => rfl); (case hg => rfl); (case hr => first | (go_simp; done) | (go_simp; rfl)); intro a0 hg d9 hbox hb; have d3 := Aside0.mk (blk_below (g := b0) (o := .cells #[.int .i64 a0_0, .slice A0_1 l0_1.length c0_1, .slice (some b1) l0_2.length c0_2] 25 (0, 0)) (by (with_reducible repeat (first | refine blk_drewN ?_ _ | refine blk_drew ?_ | refine blk_alloc ?_ _)); exact a3.out) hb); have d4 := Aside0.mk (below_step (by repeat (first | (with_reducible first | exact HB.out | apply below_alloc | apply pw_below_drewN | apply below_drew1 | refine below_set ?_ d0.out) | exact HB.out)) hb); have d7 := Aside0.mk (hbox); have d8 := Aside0.mk ((by rw [hg]; exact (below_size (by repeat (first | (with_reducible first | exact HB.out | apply below_alloc | apply pw_below_drewN | apply below_drew1 | refine below_set ?_ d0.out) | exact HB.out))) : w.heap.size ≤ a0)); have e6 := Aside0.mk ((by rw [hg]; exact (below_size (by repeat (first | (with_reducible first | exact HB.out | apply below_alloc | apply pw_below_drewN | apply below_drew1 | refine below_set ?_ d0.out) | exact HB.out))) : w.heap.size ≤ a0)); have e7 := Aside0.mk ((by rw [hg]; exact Nat.ne_of_lt (blk_lt (g := b0) (o := .cells #[.int .i64 a0_0, .slice A0_1 l0_1.length c0_1, .slice (some b1) l0_2.length c0_2] 25 (0, 0)) (by (with_reducible repeat (first | refine blk_drewN ?_ _ | refine blk_drew ?_ | refine blk_alloc ?_ _)); exact a3.out)) : b0 ≠ a0)); have e5 := Aside0.mk ((by rw [hg]; exact Nat.ne_of_gt (blk_lt (g := b0) (o := .cells #[.int .i64 a0_0, .slice A0_1 l0_1.length c0_1, .slice (some b1) l0_2.length c0_2] 25 (0, 0)) (by (with_reducible repeat (first | refine blk_drewN ?_ _ | refine blk_drew ?_ | refine blk_alloc ?_ _)); exact a3.out)) : a0 ≠ b0)); clear a3; clear HB; have a3 := d3; have HB := d4; have b7 := d7; have b9 := d8; have f5 := e6; have b8 := e7; have d1 := e5; clear d3 d4 d7 d8 e6 e7 e5; clear hb hbox hg; have n9 := d1.out; have n6 := b8.out; have m3 : d9.cell? ⟨a0, 0, none⟩ = some (.int .i64 0) := (blk_cell b7.out 0).trans rfl; have i1 : d9.cell? ⟨a0, 1, none⟩ = some (.int .i64 0) := (blk_cell b7.out 1).trans rfl; have j4 : d9.cell? ⟨a0, 2, none⟩ = some (.int .i64 0) := (blk_cell b7.out 2).trans rfl; have j8 := blk_frozen b7.out 0; have i7 := blk_frozen b7.out 1; have i4 := blk_frozen b7.out 2; have j5 : d9.cell? ⟨b0, 0, none⟩ = some (.int .i64 a0_0) := (blk_cell a3.out 0).trans rfl; have j3 : d9.cell? ⟨b0, 1, none⟩ = some (.slice A0_1 l0_1.length c0_1) := (blk_cell a3.out 1).trans rfl; have l3 : d9.cell? ⟨b0, 2, none⟩ = some (.slice (some b1) l0_2.length c0_2) := (blk_cell a3.out 2).trans rfl; have k4 := blk_frozen a3.out 0; have j9 := blk_frozen a3.out 1; have k9 := blk_frozen a3.out 2; have d5 : 0 ≤ ((d2) : Int) := of_decide_eq_true (by first | (with_reducible assumption) | assumption); have d6 : (d2) < (l0_2.length : Int) := of_decide_eq_true (by first | (with_reducible assumption) | assumption); obtain ⟨f4, f6, a2, a5, a6⟩ := at_T51 e1.out (d2) d5 d6; obtain rfl : b1 = f4 := (by injection f6); have a8 : b1.block ≠ a0 := Nat.ne_of_lt (Nat.lt_of_lt_of_le (by have := World.block_lt_of_cell? _ _ a2; first | rwa [add_block] at this | exact this) b9.out); have a4 : b1.block ≠ a0 := Nat.ne_of_lt (Nat.lt_of_lt_of_le (by have := World.block_lt_of_cell? _ _ a2; first | rwa [add_block] at this | exact this) b9.out); have a7 : b1.block ≠ a0 := Nat.ne_of_lt (Nat.lt_of_lt_of_le (by have := World.block_lt_of_cell? _ _ a2; first | rwa [add_block] at this | exact this) b9.out); replace a2 := (HB.out.cell (World.block_lt_of_cell? w _ a2)).trans a2; replace a5 := (HB.out.cell (World.block_lt_of_cell? w _ a5)).trans a5; replace a6 := (HB.out.cell (World.block_lt_of_cell? w _ a6)).trans a6; replace a2 := (cell_far (p := ⟨a0, 0, none⟩) (by first | (rw [add_block]; exact a8) | (show (Addr.add _ _).block ≠ _; rw [add_block]; exact a8) | exact a8) (.int .i64 ((rd_T51 l0_2 a1).f0))).trans a2; replace a5 := (cell_far (p := ⟨a0, 0, none⟩) (by first | (rw [add_block]; exact a8) | (show (Addr.add _ _).block ≠ _; rw [add_block]; exact a8) | exact a8) (.int .i64 ((rd_T51 l0_2 a1).f0))).trans a5; replace a6 := (cell_far (p := ⟨a0, 0, none⟩) (by first | (rw [add_block]; exact a8) | (show (Addr.add _ _).block ≠ _; rw [add_block]; exact a8) | exact a8) (.int .i64 ((rd_T51 l0_2 a1).f0))).trans a6; replace a2 := (cell_far (p := ⟨a0, 1, none⟩) (by first | (rw [add_block]; exact a4) | (show (Addr.add _ _).block ≠ _; rw [add_block]; exact a4) | exact a4) (.int .i64 ((rd_T51 l0_2 a1).f1))).trans a2; replace a5 := (cell_far (p := ⟨a0, 1, none⟩) (by first | (rw [add_block]; exact a4) | (show (Addr.add _ _).block ≠ _; rw [add_block]; exact a4) | exact a4) (.int .i64 ((rd_T51 l0_2 a1).f1))).trans a5; replace a6 := (cell_far (p := ⟨a0, 1, none⟩) (by first | (rw [add_block]; exact a4) | (show (Addr.add _ _).block ≠ _; rw [add_block]; exact a4) | exact a4) (.int .i64 ((rd_T51 l0_2 a1).f1))).trans a6; replace a2 := (cell_far (p := ⟨a0, 2, none⟩) (by first | (rw [add_block]; exact a7) | (show (Addr.add _ _).block ≠ _; rw [add_block]; exact a7) | exact a7) (.int .i64 ((rd_T51 l0_2 a1).f2))).trans a2; replace a5 := (cell_far (p := ⟨a0, 2, none⟩) (by first | (rw [add_block]; exact a7) | (show (Addr.add _ _).block ≠ _; rw [add_block]; exact a7) | exact a7) (.int .i64 ((rd_T51 l0_2 a1).f2))).trans a5; replace a6 := (cell_far (p := ⟨a0, 2, none⟩) (by first | (rw [add_block]; exact a7) | (show (Addr.add _ _).block ≠ _; rw [add_block]; exact a7) | exact a7) (.int .i64 ((rd_T51 l0_2 a1).f2))).trans a6; (try have g1 := fun (n_ : Nat) => (show (((((d9.drewN n_).setCell ⟨a0, 0, none⟩ (.int .i64 ((rd_T51 l0_2 a1).f0))).setCell ⟨a0, 1, none⟩ (.int .i64 ((rd_T51 l0_2 a1).f1))).setCell ⟨a0, 2, none⟩ (.int .i64 ((rd_T51 l0_2 a1).f2)))).cell? _ = some _ from a2)); (try have f9 := fun (n_ : Nat) => (show (((((d9.drewN n_).setCell ⟨a0, 0, none⟩ (.int .i64 ((rd_T51 l0_2 a1).f0))).setCell ⟨a0, 1, none⟩ (.int .i64 ((rd_T51 l0_2 a1).f1))).setCell ⟨a0, 2, none⟩ (.int .i64 ((rd_T51 l0_2 a1).f2)))).cell? _ = some _ from a5)); (try have g0 := fun (n_ : Nat) => (show (((((d9.drewN n_).setCell ⟨a0, 0, none⟩ (.int .i64 ((rd_T51 l0_2 a1).f0))).setCell ⟨a0, 1, none⟩ (.int .i64 ((rd_T51 l0_2 a1).f1))).setCell ⟨a0, 2, none⟩ (.int .i64 ((rd_T51 l0_2 a1).f2)))).cell? _ = some _ from a6)); clear a8; clear a4; clear a7; replace d5 := eq_true d5; replace d6 := eq_true d6; have e9 : 0 ≤ ((d2) : Int) := of_decide_eq_true (by first | (with_reducible assumption) | assumption); have e8 : (d2) < (l0_2.length : Int) := of_decide_eq_true (by first | (with_reducible assumption) | assumption); obtain ⟨g2, g3, a9, b6, b5⟩ := at_T51 e1.out (d2) e9 e8; obtain rfl : b1 = g2 := (by injection g3); have b4 : b1.block ≠ a0 := Nat.ne_of_lt (Nat.lt_of_lt_of_le (by have := World.block_lt_of_cell? _ _ a9; first | rwa [add_block] at this | exact this) b9.out); have b3 : b1.block ≠ a0 := Nat.ne_of_lt (Nat.lt_of_lt_of_le (by have := World.block_lt_of_cell? _ _ a9; first | rwa [add_block] at this | exact this) b9.out); have b2 : b1.block ≠ a0 := Nat.ne_of_lt (Nat.lt_of_lt_of_le (by have := World.block_lt_of_cell? _ _ a9; first | rwa [add_block] at this | exact this) b9.out); replace a9 := (HB.out.cell (World.block_lt_of_cell? w _ a9)).trans a9; replace b6 := (HB.out.cell (World.block_lt_of_cell? w _ b6)).trans b6; replace b5 := (HB.out.cell (World.block_lt_of_cell? w _ b5)).trans b5; replace a9 := (cell_far (p := ⟨a0, 0, none⟩) (by first | (rw [add_block]; exact b4) | (show (Addr.add _ _).block ≠ _; rw [add_block]; exact b4) | exact b4) (.int .i64 ((rd_T51 l0_2 a1).f0))).trans a9; replace b6 := (cell_far (p := ⟨a0, 0, none⟩) (by first | (rw [add_block]; exact b4) | (show (Addr.add _ _).block ≠ _; rw [add_block]; exact b4) | exact b4) (.int .i64 ((rd_T51 l0_2 a1).f0))).trans b6; replace b5 := (cell_far (p := ⟨a0, 0, none⟩) (by first | (rw [add_block]; exact b4) | (show (Addr.add _ _).block ≠ _; rw [add_block]; exact b4) | exact b4) (.int .i64 ((rd_T51 l0_2 a1).f0))).trans b5; replace a9 := (cell_far (p := ⟨a0, 1, none⟩) (by first | (rw [add_block]; exact b3) | (show (Addr.add _ _).block ≠ _; rw [add_block]; exact b3) | exact b3) (.int .i64 ((rd_T51 l0_2 a1).f1))).trans a9; replace b6 := (cell_far (p := ⟨a0, 1, none⟩) (by first | (rw [add_block]; exact b3) | (show (Addr.add _ _).block ≠ _; rw [add_block]; exact b3) | exact b3) (.int .i64 ((rd_T51 l0_2 a1).f1))).trans b6; replace b5 := (cell_far (p := ⟨a0, 1, none⟩) (by first | (rw [add_block]; exact b3) | (show (Addr.add _ _).block ≠ _; rw [add_block]; exact b3) | exact b3) (.int .i64 ((rd_T51 l0_2 a1).f1))).trans b5; replace a9 := (cell_far (p := ⟨a0, 2, none⟩) (by first | (rw [add_block]; exact b2) | (show (Addr.add _ _).block ≠ _; rw [add_block]; exact b2) | exact b2) (.int .i64 ((rd_T51 l0_2 a1).f2))).trans a9; replace b6 := (cell_far (p := ⟨a0, 2, none⟩) (by first | (rw [add_block]; exact b2) | (show (Addr.add _ _).block ≠ _; rw [add_block]; exact b2) | exact b2) (.int .i64 ((rd_T51 l0_2 a1).f2))).trans b6; replace b5 := (cell_far (p := ⟨a0, 2, none⟩) (by first | (rw [add_block]; exact b2) | (show (Addr.add _ _).block ≠ _; rw [add_block]; exact b2) | exact b2) (.int .i64 ((rd_T51 l0_2 a1).f2))).trans b5; (try have g6 := fun (n_ : Nat) => (show (((((d9.drewN n_).setCell ⟨a0, 0, none⟩ (.int .i64 ((rd_T51 l0_2 a1).f0))).setCell ⟨a0, 1, none⟩ (.int .i64 ((rd_T51 l0_2 a1).f1))).setCell ⟨a0, 2, none⟩ (.int .i64 ((rd_T51 l0_2 a1).f2)))).cell? _ = some _ from a9)); (try have g5 := fun (n_ : Nat) => (show (((((d9.drewN n_).setCell ⟨a0, 0, none⟩ (.int .i64 ((rd_T51 l0_2 a1).f0))).setCell ⟨a0, 1, none⟩ (.int .i64 ((rd_T51 l0_2 a1).f1))).setCell ⟨a0, 2, none⟩ (.int .i64 ((rd_T51 l0_2 a1).f2)))).cell? _ = some _ from b6)); (try have g4 := fun (n_ : Nat) => (show (((((d9.drewN n_).setCell ⟨a0, 0, none⟩ (.int .i64 ((rd_T51 l0_2 a1).f0))).setCell ⟨a0, 1, none⟩ (.int .i64 ((rd_T51 l0_2 a1).f1))).setCell ⟨a0, 2, none⟩ (.int .i64 ((rd_T51 l0_2 a1).f2)))).cell? _ = some _ from b5)); clear b4; clear b3; clear b2; replace e9 := eq_true e9; replace e8 := eq_true e8)))
           go_ret
           exact ⟨by first | rfl | (simp [errW_none, errW_some] <;> rfl) | (simp only [← m6]; first | rfl | (simp [errW_none, errW_some] <;> rfl)) | (simp [*, errW_none, errW_some] <;> rfl), by repeat (first | (with_reducible first | exact HB.out | apply below_alloc | apply pw_below_drewN | apply below_drew1 | refine below_set ?_ d0.out | refine below_set ?_ f5.out) | exact HB.out)⟩
          ·rw [if_neg g9] at H
           have c12b0 : (((rd_T51 l0_2 (d2)).f1) == ((rd_T51 l0_2 a1).f1)) = false := beq_eq_false_iff_ne.mpr g9
           have c12b1 : (((rd_T51 l0_2 (d2)).f1) != ((rd_T51 l0_2 a1).f1)) = true := bne_iff_ne.mpr g9
           have H' := Aside0.mk H
           clear H
           have f7 : 0 ≤ (a1 : Int) := of_decide_eq_true (by first | (with_reducible assumption) | assumption)
           have f8 : a1 < (l0_2.length : Int) := of_decide_eq_true (by first | (with_reducible assumption) | assumption)
           obtain ⟨b1, g8, e3, e2, e4⟩ := at_T51 e1.out a1 f7 f8
           cases g8
           replace e3 := (HB.out.cell (World.block_lt_of_cell? w _ e3)).trans e3
           replace e2 := (HB.out.cell (World.block_lt_of_cell? w _ e2)).trans e2
           replace e4 := (HB.out.cell (World.block_lt_of_cell? w _ e4)).trans e4
           replace f7 := eq_true f7
           replace f8 := eq_true f8
           go_wp2_with (first | ((with_reducible refine gate_dst (N := 4) rfl ?_); refine box_event ?hg (N := 4) ?hd (cs := #[.int .i64 0, .int .i64 0, .int .i64 0]) (t := 51) ?hr ?_; (case hd => rfl); (case hg => rfl); (case hr => first | (go_simp; done) | (go_simp; rfl)); intro a0 hg e0 hbox hb; have d3 := Aside0.mk (blk_below (g := b0) (o := .cells #[.int .i64 a0_0, .slice A0_1 l0_1.length c0_1, .slice (some b1) l0_2.length c0_2] 25 (0, 0)) (by (with_reducible repeat (first | refine blk_drewN ?_ _ | refine blk_drew ?_ | refine blk_alloc ?_ _)); exact a3.out) hb); have d4 := Aside0.mk (below_step (by repeat (first | (with_reducible first | exact HB.out | apply below_alloc | apply pw_below_drewN | apply below_drew1 | refine below_set ?_ d0.out) | exact HB.out)) hb); have d7 := Aside0.mk (hbox); have d8 := Aside0.mk ((by rw [hg]; exact (below_size (by repeat (first | (with_reducible first | exact HB.out | apply below_alloc | apply pw_below_drewN | apply below_drew1 | refine below_set ?_ d0.out) | exact HB.out))) : w.heap.size ≤ a0)); have e6 := Aside0.mk ((by rw [hg]; exact (below_size (by repeat (first | (with_reducible first | exact HB.out | apply below_alloc | apply pw_below_drewN | apply below_drew1 | refine below_set ?_ d0.out) | exact HB.out))) : w.heap.size ≤ a0)); have e7 := Aside0.mk ((by rw [hg]; exact Nat.ne_of_lt (blk_lt (g := b0) (o := .cells #[.int .i64 a0_0, .slice A0_1 l0_1.length c0_1, .slice (some b1) l0_2.length c0_2] 25 (0, 0)) (by (with_reducible repeat (first | refine blk_drewN ?_ _ | refine blk_drew ?_ | refine blk_alloc ?_ _)); exact a3.out)) : b0 ≠ a0)); have e5 := Aside0.mk ((by rw [hg]; exact Nat.ne_of_gt (blk_lt (g := b0) (o := .cells #[.int .i64 a0_0, .slice A0_1 l0_1.length c0_1, .slice (some b1) l0_2.length c0_2] 25 (0, 0)) (by (with_reducible repeat (first | refine blk_drewN ?_ _ | refine blk_drew ?_ | refine blk_alloc ?_ _)); exact a3.out)) : a0 ≠ b0)); clear a3; clear HB; have a3 := d3; have HB := d4; have b7 := d7; have b9 := d8; have f5 := e6; have b8 := e7; have d1 := e5; clear d3 d4 d7 d8 e6 e7 e5; clear hb hbox hg; have n2 := d1.out; have n7 := b8.out; have k7 : e0.cell? ⟨a0, 0, none⟩ = some (.int .i64 0) := (blk_cell b7.out 0).trans rfl; have k2 : e0.cell? ⟨a0, 1, none⟩ = some (.int .i64 0) := (blk_cell b7.out 1).trans rfl; have l8 : e0.cell? ⟨a0, 2, none⟩ = some (.int .i64 0) := (blk_cell b7.out 2).trans rfl; have h9 := blk_frozen b7.out 0; have i3 := blk_frozen b7.out 1; have l9 := blk_frozen b7.out 2; have l6 : e0.cell? ⟨b0, 0, none⟩ = some (.int .i64 a0_0) := (blk_cell a3.out 0).trans rfl; have i9 : e0.cell? ⟨b0, 1, none⟩ = some (.slice A0_1 l0_1.length c0_1) := (blk_cell a3.out 1).trans rfl; have m2 : e0.cell? ⟨b0, 2, none⟩ = some (.slice (some b1) l0_2.length c0_2) := (blk_cell a3.out 2).trans rfl; have l5 := blk_frozen a3.out 0; have j6 := blk_frozen a3.out 1; have m0 := blk_frozen a3.out 2; have d5 : 0 ≤ ((d2) : Int) := of_decide_eq_true (by first | (with_reducible assumption) | assumption); have d6 : (d2) < (l0_2.length : Int) := of_decide_eq_true (by first | (with_reducible assumption) | assumption); obtain ⟨f4, f6, a2, a5, a6⟩ := at_T51 e1.out (d2) d5 d6; obtain rfl : b1 = f4 := (by injection f6); have a8 : b1.block ≠ a0 := Nat.ne_of_lt (Nat.lt_of_lt_of_le (by have := World.block_lt_of_cell? _ _ a2; first | rwa [add_block] at this | exact this) b9.out); have a4 : b1.block ≠ a0 := Nat.ne_of_lt (Nat.lt_of_lt_of_le (by have := World.block_lt_of_cell? _ _ a2; first | rwa [add_block] at this | exact this) b9.out); have a7 : b1.block ≠ a0 := Nat.ne_of_lt (Nat.lt_of_lt_of_le (by have := World.block_lt_of_cell? _ _ a2; first | rwa [add_block] at this | exact this) b9.out); replace a2 := (HB.out.cell (World.block_lt_of_cell? w _ a2)).trans a2; replace a5 := (HB.out.cell (World.block_lt_of_cell? w _ a5)).trans a5; replace a6 := (HB.out.cell (World.block_lt_of_cell? w _ a6)).trans a6; replace a2 := (cell_far (p := ⟨a0, 0, none⟩) (by first | (rw [add_block]; exact a8) | (show (Addr.add _ _).block ≠ _; rw [add_block]; exact a8) | exact a8) (.int .i64 ((rd_T51 l0_2 a1).f0))).trans a2; replace a5 := (cell_far (p := ⟨a0, 0, none⟩) (by first | (rw [add_block]; exact a8) | (show (Addr.add _ _).block ≠ _; rw [add_block]; exact a8) | exact a8) (.int .i64 ((rd_T51 l0_2 a1).f0))).trans a5; replace a6 := (cell_far (p := ⟨a0, 0, none⟩) (by first | (rw [add_block]; exact a8) | (show (Addr.add _ _).block ≠ _; rw [add_block]; exact a8) | exact a8) (.int .i64 ((rd_T51 l0_2 a1).f0))).trans a6; replace a2 := (cell_far (p := ⟨a0, 1, none⟩) (by first | (rw [add_block]; exact a4) | (show (Addr.add _ _).block ≠ _; rw [add_block]; exact a4) | exact a4) (.int .i64 ((rd_T51 l0_2 a1).f1))).trans a2; replace a5 := (cell_far (p := ⟨a0, 1, none⟩) (by first | (rw [add_block]; exact a4) | (show (Addr.add _ _).block ≠ _; rw [add_block]; exact a4) | exact a4) (.int .i64 ((rd_T51 l0_2 a1).f1))).trans a5; replace a6 := (cell_far (p := ⟨a0, 1, none⟩) (by first | (rw [add_block]; exact a4) | (show (Addr.add _ _).block ≠ _; rw [add_block]; exact a4) | exact a4) (.int .i64 ((rd_T51 l0_2 a1).f1))).trans a6; replace a2 := (cell_far (p := ⟨a0, 2, none⟩) (by first | (rw [add_block]; exact a7) | (show (Addr.add _ _).block ≠ _; rw [add_block]; exact a7) | exact a7) (.int .i64 ((rd_T51 l0_2 a1).f2))).trans a2; replace a5 := (cell_far (p := ⟨a0, 2, none⟩) (by first | (rw [add_block]; exact a7) | (show (Addr.add _ _).block ≠ _; rw [add_block]; exact a7) | exact a7) (.int .i64 ((rd_T51 l0_2 a1).f2))).trans a5; replace a6 := (cell_far (p := ⟨a0, 2, none⟩) (by first | (rw [add_block]; exact a7) | (show (Addr.add _ _).block ≠ _; rw [add_block]; exact a7) | exact a7) (.int .i64 ((rd_T51 l0_2 a1).f2))).trans a6; (try have g1 := fun (n_ : Nat) => (show (((((e0.drewN n_).setCell ⟨a0, 0, none⟩ (.int .i64 ((rd_T51 l0_2 a1).f0))).setCell ⟨a0, 1, none⟩ (.int .i64 ((rd_T51 l0_2 a1).f1))).setCell ⟨a0, 2, none⟩ (.int .i64 ((rd_T51 l0_2 a1).f2)))).cell? _ = some _ from a2)); (try have f9 := fun (n_ : Nat) => (show (((((e0.drewN n_).setCell ⟨a0, 0, none⟩ (.int .i64 ((rd_T51 l0_2 a1).f0))).setCell ⟨a0, 1, none⟩ (.int .i64 ((rd_T51 l0_2 a1).f1))).setCell ⟨a0, 2, none⟩ (.int .i64 ((rd_T51 l0_2 a1).f2)))).cell? _ = some _ from a5)); (try have g0 := fun (n_ : Nat) => (show (((((e0.drewN n_).setCell ⟨a0, 0, none⟩ (.int .i64 ((rd_T51 l0_2 a1).f0))).setCell ⟨a0, 1, none⟩ (.int .i64 ((rd_T51 l0_2 a1).f1))).setCell ⟨a0, 2, none⟩ (.int .i64 ((rd_T51 l0_2 a1).f2)))).cell? _ = some _ from a6)); clear a8; clear a4; clear a7; replace d5 := eq_true d5; replace d6 := eq_true d6; have e9 : 0 ≤ ((d2) : Int) := of_decide_eq_true (by first | (with_reducible assumption) | assumption); have e8 : (d2) < (l0_2.length : Int) := of_decide_eq_true (by first | (with_reducible assumption) | assumption); obtain ⟨g2, g3, a9, b6, b5⟩ := at_T51 e1.out (d2) e9 e8; obtain rfl : b1 = g2 := (by injection g3); have b4 : b1.block ≠ a0 := Nat.ne_of_lt (Nat.lt_of_lt_of_le (by have := World.block_lt_of_cell? _ _ a9; first | rwa [add_block] at this | exact this) b9.out); have b3 : b1.block ≠ a0 := Nat.ne_of_lt (Nat.lt_of_lt_of_le (by have := World.block_lt_of_cell? _ _ a9; first | rwa [add_block] at this | exact this) b9.out); have b2 : b1.block ≠ a0 := Nat.ne_of_lt (Nat.lt_of_lt_of_le (by have := World.block_lt_of_cell? _ _ a9; first | rwa [add_block] at this | exact this) b9.out); replace a9 := (HB.out.cell (World.block_lt_of_cell? w _ a9)).trans a9; replace b6 := (HB.out.cell (World.block_lt_of_cell? w _ b6)).trans b6; replace b5 := (HB.out.cell (World.block_lt_of_cell? w _ b5)).trans b5; replace a9 := (cell_far (p := ⟨a0, 0, none⟩) (by first | (rw [add_block]; exact b4) | (show (Addr.add _ _).block ≠ _; rw [add_block]; exact b4) | exact b4) (.int .i64 ((rd_T51 l0_2 a1).f0))).trans a9; replace b6 := (cell_far (p := ⟨a0, 0, none⟩) (by first | (rw [add_block]; exact b4) | (show (Addr.add _ _).block ≠ _; rw [add_block]; exact b4) | exact b4) (.int .i64 ((rd_T51 l0_2 a1).f0))).trans b6; replace b5 := (cell_far (p := ⟨a0, 0, none⟩) (by first | (rw [add_block]; exact b4) | (show (Addr.add _ _).block ≠ _; rw [add_block]; exact b4) | exact b4) (.int .i64 ((rd_T51 l0_2 a1).f0))).trans b5; replace a9 := (cell_far (p := ⟨a0, 1, none⟩) (by first | (rw [add_block]; exact b3) | (show (Addr.add _ _).block ≠ _; rw [add_block]; exact b3) | exact b3) (.int .i64 ((rd_T51 l0_2 a1).f1))).trans a9; replace b6 := (cell_far (p := ⟨a0, 1, none⟩) (by first | (rw [add_block]; exact b3) | (show (Addr.add _ _).block ≠ _; rw [add_block]; exact b3) | exact b3) (.int .i64 ((rd_T51 l0_2 a1).f1))).trans b6; replace b5 := (cell_far (p := ⟨a0, 1, none⟩) (by first | (rw [add_block]; exact b3) | (show (Addr.add _ _).block ≠ _; rw [add_block]; exact b3) | exact b3) (.int .i64 ((rd_T51 l0_2 a1).f1))).trans b5; replace a9 := (cell_far (p := ⟨a0, 2, none⟩) (by first | (rw [add_block]; exact b2) | (show (Addr.add _ _).block ≠ _; rw [add_block]; exact b2) | exact b2) (.int .i64 ((rd_T51 l0_2 a1).f2))).trans a9; replace b6 := (cell_far (p := ⟨a0, 2, none⟩) (by first | (rw [add_block]; exact b2) | (show (Addr.add _ _).block ≠ _; rw [add_block]; exact b2) | exact b2) (.int .i64 ((rd_T51 l0_2 a1).f2))).trans b6; replace b5 := (cell_far (p := ⟨a0, 2, none⟩) (by first | (rw [add_block]; exact b2) | (show (Addr.add _ _).block ≠ _; rw [add_block]; exact b2) | exact b2) (.int .i64 ((rd_T51 l0_2 a1).f2))).trans b5; (try have g6 := fun (n_ : Nat) => (show (((((e0.drewN n_).setCell ⟨a0, 0, none⟩ (.int .i64 ((rd_T51 l0_2 a1).f0))).setCell ⟨a0, 1, none⟩ (.int .i64 ((rd_T51 l0_2 a1).f1))).setCell ⟨a0, 2, none⟩ (.int .i64 ((rd_T51 l0_2 a1).f2)))).cell? _ = some _ from a9)); (try have g5 := fun (n_ : Nat) => (show (((((e0.drewN n_).setCell ⟨a0, 0, none⟩ (.int .i64 ((rd_T51 l0_2 a1).f0))).setCell ⟨a0, 1, none⟩ (.int .i64 ((rd_T51 l0_2 a1).f1))).setCell ⟨a0, 2, none⟩ (.int .i64 ((rd_T51 l0_2 a1).f2)))).cell? _ = some _ from b6)); (try have g4 := fun (n_ : Nat) => (show (((((e0.drewN n_).setCell ⟨a0, 0, none⟩ (.int .i64 ((rd_T51 l0_2 a1).f0))).setCell ⟨a0, 1, none⟩ (.int .i64 ((rd_T51 l0_2 a1).f1))).setCell ⟨a0, 2, none⟩ (.int .i64 ((rd_T51 l0_2 a1).f2)))).cell? _ = some _ from b5)); clear b4; clear b3; clear b2; replace e9 := eq_true e9; replace e8 := eq_true e8))
           repeat (go_quiet (first | ((with_reducible refine gate_dst (N := 4) rfl ?_); refine box_event ?hg (N := 4) ?hd (cs := #[.int .i64 0, .int .i64 0, .int .i64 0]) (t := 51) ?hr ?_; (case hd => rfl); (case hg => rfl); (case hr => first | (go_simp; done) | (go_simp; rfl)); intro a0 hg e0 hbox hb; have d3 := Aside0.mk (blk_below (g := b0) (o := .cells #[.int .i64 a0_0, .slice A0_1 l0_1.length c0_1, .slice (some b1) l0_2.length c0_2] 25 (0, 0)) (by (with_reducible repeat (first | refine blk_drewN ?_ _ | refine blk_drew ?_ | refine blk_alloc ?_ _)); exact a3.out) hb); have d4 := Aside0.mk (below_step (by repeat (first | (with_reducible first | exact HB.out | apply below_alloc | apply pw_below_drewN | apply below_drew1 | refine below_set ?_ d0.out) | exact HB.out)) hb); have d7 := Aside0.mk (hbox); have d8 := Aside0.mk ((by rw [hg]; exact (below_size (by repeat (first | (with_reducible first | exact HB.out | apply below_alloc | apply pw_below_drewN | apply below_drew1 | refine below_set ?_ d0.out) | exact HB.out))) : w.heap.size ≤ a0)); have e6 := Aside0.mk ((by rw [hg]; exact (below_size (by repeat (first | (with_reducible first | exact HB.out | apply below_alloc | apply pw_below_drewN | apply below_drew1 | refine below_set ?_ d0.out) | exact HB.out))) : w.heap.size ≤ a0)); have e7 := Aside0.mk ((by rw [hg]; exact Nat.ne_of_lt (blk_lt (g := b0) (o := .cells #[.int .i64 a0_0, .slice A0_1 l0_1.length c0_1, .slice (some b1) l0_2.length c0_2] 25 (0, 0)) (by (with_reducible repeat (first | refine blk_drewN ?_ _ | refine blk_drew ?_ | refine blk_alloc ?_ _)); exact a3.out)) : b0 ≠ a0)); have e5 := Aside0.mk ((by rw [hg]; exact Nat.ne_of_gt (blk_lt (g := b0) (o := .cells #[.int .i64 a0_0, .slice A0_1 l0_1.length c0_1, .slice (some b1) l0_2.length c0_2] 25 (0, 0)) (by (with_reducible repeat (first | refine blk_drewN ?_ _ | refine blk_drew ?_ | refine blk_alloc ?_ _)); exact a3.out)) : a0 ≠ b0)); clear a3; clear HB; have a3 := d3; have HB := d4; have b7 := d7; have b9 := d8; have f5 := e6; have b8 := e7; have d1 := e5; clear d3 d4 d7 d8 e6 e7 e5; clear hb hbox hg; have n2 := d1.out; have n7 := b8.out; have k7 : e0.cell? ⟨a0, 0, none⟩ = some (.int .i64 0) := (blk_cell b7.out 0).trans rfl; have k2 : e0.cell? ⟨a0, 1, none⟩ = some (.int .i64 0) := (blk_cell b7.out 1).trans rfl; have l8 : e0.cell? ⟨a0, 2, none⟩ = some (.int .i64 0) := (blk_cell b7.out 2).trans rfl; have h9 := blk_frozen b7.out 0; have i3 := blk_frozen b7.out 1; have l9 := blk_frozen b7.out 2; have l6 : e0.cell? ⟨b0, 0, none⟩ = some (.int .i64 a0_0) := (blk_cell a3.out 0).trans rfl; have i9 : e0.cell? ⟨b0, 1, none⟩ = some (.slice A0_1 l0_1.length c0_1) := (blk_cell a3.out 1).trans rfl; have m2 : e0.cell? ⟨b0, 2, none⟩ = some (.slice (some b1) l0_2.length c0_2) := (blk_cell a3.out 2).trans rfl; have l5 := blk_frozen a3.out 0; have j6 := blk_frozen a3.out 1; have m0 := blk_frozen a3.out 2; have d5 : 0 ≤ ((d2) : Int) := of_decide_eq_true (by first | (with_reducible assumption) | assumption); have d6 : (d2) < (l0_2.length : Int) := of_decide_eq_true (by first | (with_reducible assumption) | assumption); obtain ⟨f4, f6, a2, a5, a6⟩ := at_T51 e1.out (d2) d5 d6; obtain rfl : b1 = f4 := (by injection f6); have a8 : b1.block ≠ a0 := Nat.ne_of_lt (Nat.lt_of_lt_of_le (by have := World.block_lt_of_cell? _ _ a2; first | rwa [add_block] at this | exact this) b9.out); have a4 : b1.block ≠ a0 := Nat.ne_of_lt (Nat.lt_of_lt_of_le (by have := World.block_lt_of_cell? _ _ a2; first | rwa [add_block] at this | exact this) b9.out); have a7 : b1.block ≠ a0 := Nat.ne_of_lt (Nat.lt_of_lt_of_le (by have := World.block_lt_of_cell? _ _ a2; first | rwa [add_block] at this | exact this) b9.out); replace a2 := (HB.out.cell (World.block_lt_of_cell? w _ a2)).trans a2; replace a5 := (HB.out.cell (World.block_lt_of_cell? w _ a5)).trans a5; replace a6 := (HB.out.cell (World.block_lt_of_cell? w _ a6)).trans a6; replace a2 := (cell_far (p := ⟨a0, 0, none⟩) (by first | (rw [add_block]; exact a8) | (show (Addr.add _ _).block ≠ _; rw [add_block]; exact a8) | exact a8) (.int .i64 ((rd_T51 l0_2 a1).f0))).trans a2; replace a5 := (cell_far (p := ⟨a0, 0, none⟩) (by first | (rw [add_block]; exact a8) | (show (Addr.add _ _).block ≠ _; rw [add_block]; exact a8) | exact a8) (.int .i64 ((rd_T51 l0_2 a1).f0))).trans a5; replace a6 := (cell_far (p := ⟨a0, 0, none⟩) (by first | (rw [add_block]; exact a8) | (show (Addr.add _ _).block ≠ _; rw [add_block]; exact a8) | exact a8) (.int .i64 ((rd_T51 l0_2 a1).f0))).trans a6; replace a2 := (cell_far (p := ⟨a0, 1, none⟩) (by first | (rw [add_block]; exact a4) | (show (Addr.add _ _).block ≠ _; rw [add_block]; exact a4) | exact a4) (.int .i64 ((rd_T51 l0_2 a1).f1))).trans a2; replace a5 := (cell_far (p := ⟨a0, 1, none⟩) (by first | (rw [add_block]; exact a4) | (show (Addr.add _ _).block ≠ _; rw [add_block]; exact a4) | exact a4) (.int .i64 ((rd_T51 l0_2 a1).f1))).trans a5; replace a6 := (cell_far (p := ⟨a0, 1, none⟩) (by first | (rw [add_block]; exact a4) | (show (Addr.add _ _).block ≠ _; rw [add_block]; exact a4) | exact a4) (.int .i64 ((rd_T51 l0_2 a1).f1))).trans a6; replace a2 := (cell_far (p := ⟨a0, 2, none⟩) (by first | (rw [add_block]; exact a7) | (show (Addr.add _ _).block ≠ _; rw [add_block]; exact a7) | exact a7) (.int .i64 ((rd_T51 l0_2 a1).f2))).trans a2; replace a5 := (cell_far (p := ⟨a0, 2, none⟩) (by first | (rw [add_block]; exact a7) | (show (Addr.add _ _).block ≠ _; rw [add_block]; exact a7) | exact a7) (.int .i64 ((rd_T51 l0_2 a1).f2))).trans a5; replace a6 := (cell_far (p := ⟨a0, 2, none⟩) (by first | (rw [add_block]; exact a7) | (show (Addr.add _ _).block ≠ _; rw [add_block]; exact a7) | exact a7) (.int .i64 ((rd_T51 l0_2 a1).f2))).trans a6; (try have g1 := fun (n_ : Nat) => (show (((((e0.drewN n_).setCell ⟨a0, 0, none⟩ (.int .i64 ((rd_T51 l0_2 a1).f0))).setCell ⟨a0, 1, none⟩ (.int .i64 ((rd_T51 l0_2 a1).f1))).setCell ⟨a0, 2, none⟩ (.int .i64 ((rd_T51 l0_2 a1).f2)))).cell? _ = some _ from a2)); (try have f9 := fun (n_ : Nat) => (show (((((e0.drewN n_).setCell ⟨a0, 0, none⟩ (.int .i64 ((rd_T51 l0_2 a1).f0))).setCell ⟨a0, 1, none⟩ (.int .i64 ((rd_T51 l0_2 a1).f1))).setCell ⟨a0, 2, none⟩ (.int .i64 ((rd_T51 l0_2 a1).f2)))).cell? _ = some _ from a5)); (try have g0 := fun (n_ : Nat) => (show (((((e0.drewN n_).setCell ⟨a0, 0, none⟩ (.int .i64 ((rd_T51 l0_2 a1).f0))).setCell ⟨a0, 1, none⟩ (.int .i64 ((rd_T51 l0_2 a1).f1))).setCell ⟨a0, 2, none⟩ (.int .i64 ((rd_T51 l0_2 a1).f2)))).cell? _ = some _ from a6)); clear a8; clear a4; clear a7; replace d5 := eq_true d5; replace d6 := eq_true d6; have e9 : 0 ≤ ((d2) : Int) := of_decide_eq_true (by first | (with_reducible assumption) | assumption); have e8 : (d2) < (l0_2.length : Int) := of_decide_eq_true (by first | (with_reducible assumption) | assumption); obtain ⟨g2, g3, a9, b6, b5⟩ := at_T51 e1.out (d2) e9 e8; obtain rfl : b1 = g2 := (by injection g3); have b4 : b1.block ≠ a0 := Nat.ne_of_lt (Nat.lt_of_lt_of_le (by have := World.block_lt_of_cell? _ _ a9; first | rwa [add_block] at this | exact this) b9.out); have b3 : b1.block ≠ a0 := Nat.ne_of_lt (Nat.lt_of_lt_of_le (by have := World.block_lt_of_cell? _ _ a9; first | rwa [add_block] at this | exact this) b9.out); have b2 : b1.block ≠ a0 := Nat.ne_of_lt (Nat.lt_of_lt_of_le (by have := World.block_lt_of_cell? _ _ a9; first | rwa [add_block] at this | exact this) b9.out); replace a9 := (HB.out.cell (World.block_lt_of_cell? w _ a9)).trans a9; replace b6 := (HB.out.cell (World.block_lt_of_cell? w _ b6)).trans b6; replace b5 := (HB.out.cell (World.block_lt_of_cell? w _ b5)).trans b5; replace a9 := (cell_far (p := ⟨a0, 0, none⟩) (by first | (rw [add_block]; exact b4) | (show (Addr.add _ _).block ≠ _; rw [add_block]; exact b4) | exact b4) (.int .i64 ((rd_T51 l0_2 a1).f0))).trans a9; replace b6 := (cell_far (p := ⟨a0, 0, none⟩) (by first | (rw [add_block]; exact b4) | (show (Addr.add _ _).block ≠ _; rw [add_block]; exact b4) | exact b4) (.int .i64 ((rd_T51 l0_2 a1).f0))).trans b6; replace b5 := (cell_far (p := ⟨a0, 0, none⟩) (by first | (rw [add_block]; exact b4) | (show (Addr.add _ _).block ≠ _; rw [add_block]; exact b4) | exact b4) (.int .i64 ((rd_T51 l0_2 a1).f0))).trans b5; replace a9 := (cell_far (p := ⟨a0, 1, none⟩) (by first | (rw [add_block]; exact b3) | (show (Addr.add _ _).block ≠ _; rw [add_block]; exact b3) | exact b3) (.int .i64 ((rd_T51 l0_2 a1).f1))).trans a9; replace b6 := (cell_far (p := ⟨a0, 1, none⟩) (by first | (rw [add_block]; exact b3) | (show (Addr.add _ _).block ≠ _; rw [add_block]; exact b3) | exact b3) (.int .i64 ((rd_T51 l0_2 a1).f1))).trans b6; replace b5 := (cell_far (p := ⟨a0, 1, none⟩) (by first | (rw [add_block]; exact b3) | (show (Addr.add _ _).block ≠ _; rw [add_block]; exact b3) | exact b3) (.int .i64 ((rd_T51 l0_2 a1).f1))).trans b5; replace a9 := (cell_far (p := ⟨a0, 2, none⟩) (by first | (rw [add_block]; exact b2) | (show (Addr.add _ _).block ≠ _; rw [add_block]; exact b2) | exact b2) (.int .i64 ((rd_T51 l0_2 a1).f2))).trans a9; replace b6 := (cell_far (p := ⟨a0, 2, none⟩) (by first | (rw [add_block]; exact b2) | (show (Addr.add _ _).block ≠ _; rw [add_block]; exact b2) | exact b2) (.int .i64 ((rd_T51 l0_2 a1).f2))).trans b6; replace b5 := (cell_far (p := ⟨a0, 2, none⟩) (by first | (rw [add_block]; exact b2) | (show (Addr.add _ _).block ≠ _; rw [add_block]; exact b2) | exact b2) (.int .i64 ((rd_T51 l0_2 a1).f2))).trans b5; (try have g6 := fun (n_ : Nat) => (show (((((e0.drewN n_).setCell ⟨a0, 0, none⟩ (.int .i64 ((rd_T51 l0_2 a1).f0))).setCell ⟨a0, 1, none⟩ (.int .i64 ((rd_T51 l0_2 a1).f1))).setCell ⟨a0, 2, none⟩ (.int .i64 ((rd_T51 l0_2 a1).f2)))).cell? _ = some _ from a9)); (try have g5 := fun (n_ : Nat) => (show (((((e0.drewN n_).setCell ⟨a0, 0, none⟩ (.int .i64 ((rd_T51 l0_2 a1).f0))).setCell ⟨a0, 1, none⟩ (.int .i64 ((rd_T51 l0_2 a1).f1))).setCell ⟨a0, 2, none⟩ (.int .i64 ((rd_T51 l0_2 a1).f2)))).cell? _ = some _ from b6)); (try have g4 := fun (n_ : Nat) => (show (((((e0.drewN n_).setCell ⟨a0, 0, none⟩ (.int .i64 ((rd_T51 l0_2 a1).f0))).setCell ⟨a0, 1, none⟩ (.int .i64 ((rd_T51 l0_2 a1).f1))).setCell ⟨a0, 2, none⟩ (.int .i64 ((rd_T51 l0_2 a1).f2)))).cell? _ = some _ from b5)); clear b4; clear b3; clear b2; replace e9 := eq_true e9; replace e8 := eq_true e8)); try go_wp2_with (first | ((with_reducible refine gate_dst (N := 4) rfl ?_); refine box_event ?hg (N := 4) ?hd (cs := #[.int .i64 0, .int .i64 0, .int .i64 0]) (t := 51) ?hr ?_; (case hd => rfl); (case hg => rfl); (case hr => first | (go_simp; done) | (go_simp; rfl)); intro a0 hg e0 hbox hb; have d3 := Aside0.mk (blk_below (g := b0) (o := .cells #[.int .i64 a0_0, .slice A0_1 l0_1.length c0_1, .slice (some b1) l0_2.length c0_2] 25 (0, 0)) (by (with_reducible repeat (first | refine blk_drewN ?_ _ | refine blk_drew ?_ | refine blk_alloc ?_ _)); exact a3.out) hb); have d4 := Aside0.mk (below_step (by repeat (first | (with_reducible first | exact HB.out | apply below_alloc | apply pw_below_drewN | apply below_drew1 | refine below_set ?_ d0.out) | exact HB.out)) hb); have d7 := Aside0.mk (hbox); have d8 := Aside0.mk ((by rw [hg]; exact (below_size (by repeat (first | (with_reducible first | exact HB.out | apply below_alloc | apply pw_below_drewN | apply below_drew1 | refine below_set ?_ d0.out) | exact HB.out))) : w.heap.size ≤ a0)); have e6 := Aside0.mk ((by rw [hg]; exact (below_size (by repeat (first | (with_reducible first | exact HB.out | apply below_alloc | apply pw_below_drewN | apply below_drew1 | refine below_set ?_ d0.out) | exact HB.out))) : w.heap.size ≤ a0)); have e7 := Aside0.mk ((by rw [hg]; exact Nat.ne_of_lt (blk_lt (g := b0) (o := .cells #[.int .i64 a0_0, .slice A0_1 l0_1.length c0_1, .slice (some b1) l0_2.length c0_2] 25 (0, 0)) (by (with_reducible repeat (first | refine blk_drewN ?_ _ | refine blk_drew ?_ | refine blk_alloc ?_ _)); exact a3.out)) : b0 ≠ a0)); have e5 := Aside0.mk ((by rw [hg]; exact Nat.ne_of_gt (blk_lt (g := b0) (o := .cells #[.int .i64 a0_0, .slice A0_1 l0_1.length c0_1, .slice (some b1) l0_2.length c0_2] 25 (0, 0)) (by (with_reducible repeat (first | refine blk_drewN ?_ _ | refine blk_drew ?_ | refine blk_alloc ?_ _)); exact a3.out)) : a0 ≠ b0)); clear a3; clear HB; have a3 := d3; have HB := d4; have b7 := d7; have b9 := d8; have f5 := e6; have b8 := e7; have d1 := e5; clear d3 d4 d7 d8 e6 e7 e5; clear hb hbox hg; have n2 := d1.out; have n7 := b8.out; have k7 : e0.cell? ⟨a0, 0, none⟩ = some (.int .i64 0) := (blk_cell b7.out 0).trans rfl; have k2 : e0.cell? ⟨a0, 1, none⟩ = some (.int .i64 0) := (blk_cell b7.out 1).trans rfl; have l8 : e0.cell? ⟨a0, 2, none⟩ = some (.int .i64 0) := (blk_cell b7.out 2).trans rfl; have h9 := blk_frozen b7.out 0; have i3 := blk_frozen b7.out 1; have l9 := blk_frozen b7.out 2; have l6 : e0.cell? ⟨b0, 0, none⟩ = some (.int .i64 a0_0) := (blk_cell a3.out 0).trans rfl; have i9 : e0.cell? ⟨b0, 1, none⟩ = some (.slice A0_1 l0_1.length c0_1) := (blk_cell a3.out 1).trans rfl; have m2 : e0.cell? ⟨b0, 2, none⟩ = some (.slice (some b1) l0_2.length c0_2) := (blk_cell a3.out 2).trans rfl; have l5 := blk_frozen a3.out 0; have j6 := blk_frozen a3.out 1; have m0 := blk_frozen a3.out 2; have d5 : 0 ≤ ((d2) : Int) := of_decide_eq_true (by first | (with_reducible assumption) | assumption); have d6 : (d2) < (l0_2.length : Int) := of_decide_eq_true (by first | (with_reducible assumption) | assumption); obtain ⟨f4, f6, a2, a5, a6⟩ := at_T51 e1.out (d2) d5 d6; obtain rfl : b1 = f4 := (by injection f6); have a8 : b1.block ≠ a0 := Nat.ne_of_lt (Nat.lt_of_lt_of_le (by have := World.block_lt_of_cell? _ _ a2; first | rwa [add_block] at this | exact this) b9.out); have a4 : b1.block ≠ a0 := Nat.ne_of_lt (Nat.lt_of_lt_of_le (by have := World.block_lt_of_cell? _ _ a2; first | rwa [add_block] at this | exact this) b9.out); have a7 : b1.block ≠ a0 := Nat.ne_of_lt (Nat.lt_of_lt_of_le (by have := World.block_lt_of_cell? _ _ a2; first | rwa [add_block] at this | exact this) b9.out); replace a2 := (HB.out.cell (World.block_lt_of_cell? w _ a2)).trans a2; replace a5 := (HB.out.cell (World.block_lt_of_cell? w _ a5)).trans a5; replace a6 := (HB.out.cell (World.block_lt_of_cell? w _ a6)).trans a6; replace a2 := (cell_far (p := ⟨a0, 0, none⟩) (by first | (rw [add_block]; exact a8) | (show (Addr.add _ _).block ≠ _; rw [add_block]; exact a8) | exact a8) (.int .i64 ((rd_T51 l0_2 a1).f0))).trans a2; replace a5 := (cell_far (p := ⟨a0, 0, none⟩) (by first | (rw [add_block]; exact a8) | (show (Addr.add _ _).block ≠ _; rw [add_block]; exact a8) | exact a8) (.int .i64 ((rd_T51 l0_2 a1).f0))).trans a5; replace a6 := (cell_far (p := ⟨a0, 0, none⟩) (by first | (rw [add_block]; exact a8) | (show (Addr.add _ _).block ≠ _; rw [add_block]; exact a8) | exact a8) (.int .i64 ((rd_T51 l0_2 a1).f0))).trans a6; replace a2 := (cell_far (p := ⟨a0, 1, none⟩) (by first | (rw [add_block]; exact a4) | (show (Addr.add _ _).block ≠ _; rw [add_block]; exact a4) | exact a4) (.int .i64 ((rd_T51 l0_2 a1).f1))).trans a2; replace a5 := (cell_far (p := ⟨a0, 1, none⟩) (by first | (rw [add_block]; exact a4) | (show (Addr.add _ _).block ≠ _; rw [add_block]; exact a4) | exact a4) (.int .i64 ((rd_T51 l0_2 a1).f1))).trans a5; replace a6 := (cell_far (p := ⟨a0, 1, none⟩) (by first | (rw [add_block]; exact a4) | (show (Addr.add _ _).block ≠ _; rw [add_block]; exact a4) | exact a4) (.int .i64 ((rd_T51 l0_2 a1).f1))).trans a6; replace a2 := (cell_far (p := ⟨a0, 2, none⟩) (by first | (rw [add_block]; exact a7) | (show (Addr.add _ _).block ≠ _; rw [add_block]; exact a7) | exact a7) (.int .i64 ((rd_T51 l0_2 a1).f2))).trans a2; replace a5 := (cell_far (p := ⟨a0, 2, none⟩) (by first | (rw [add_block]; exact a7) | (show (Addr.add _ _).block ≠ _; rw [add_block]; exact a7) | exact a7) (.int .i64 ((rd_T51 l0_2 a1).f2))).trans a5; replace a6 := (cell_far (p := ⟨a0, 2, none⟩) (by first | (rw [add_block]; exact a7) | (show (Addr.add _ _).block ≠ _; rw [add_block]; exact a7) | exact a7) (.int .i64 ((rd_T51 l0_2 a1).f2))).trans a6; (try have g1 := fun (n_ : Nat) => (show (((((e0.drewN n_).setCell ⟨a0, 0, none⟩ (.int .i64 ((rd_T51 l0_2 a1).f0))).setCell ⟨a0, 1, none⟩ (.int .i64 ((rd_T51 l0_2 a1).f1))).setCell ⟨a0, 2, none⟩ (.int .i64 ((rd_T51 l0_2 a1).f2)))).cell? _ = some _ from a2)); (try have f9 := fun (n_ : Nat) => (show (((((e0.drewN n_).setCell ⟨a0, 0, none⟩ (.int .i64 ((rd_T51 l0_2 a1).f0))).setCell ⟨a0, 1, none⟩ (.int .i64 ((rd_T51 l0_2 a1).f1))).setCell ⟨a0, 2, none⟩ (.int .i64 ((rd_T51 l0_2 a1).f2)))).cell? _ = some _ from a5)); (try have g0 := fun (n_ : Nat) => (show (((((e0.drewN n_).setCell ⟨a0, 0, none⟩ (.int .i64 ((rd_T51 l0_2 a1).f0))).setCell ⟨a0, 1, none⟩ (.int .i64 ((rd_T51 l0_2 a1).f1))).setCell ⟨a0, 2, none⟩ (.int .i64 ((rd_T51 l0_2 a1).f2)))).cell? _ = some _ from a6)); clear a8; clear a4; clear a7; replace d5 := eq_true d5; replace d6 := eq_true d6; have e9 : 0 ≤ ((d2) : Int) := of_decide_eq_true (by first | (with_reducible assumption) | assumption); have e8 : (d2) < (l0_2.length : Int) := of_decide_eq_true (by first | (with_reducible assumption) | assumption); obtain ⟨g2, g3, a9, b6, b5⟩ := at_T51 e1.out (d2) e9 e8; obtain rfl : b1 = g2 := (by injection g3); have b4 : b1.block ≠ a0 := Nat.ne_of_lt (Nat.lt_of_lt_of_le (by have := World.block_lt_of_cell? _ _ a9; first | rwa [add_block] at this | exact this) b9.out); have b3 : b1.block ≠ a0 := Nat.ne_of_lt (Nat.lt_of_lt_of_le (by have := World.block_lt_of_cell? _ _ a9; first | rwa [add_block] at this | exact this) b9.out); have b2 : b1.block ≠ a0 := Nat.ne_of_lt (Nat.lt_of_lt_of_le (by have := World.block_lt_of_cell? _ _ a9; first | rwa [add_block] at this | exact this) b9.out); replace a9 := (HB.out.cell (World.block_lt_of_cell? w _ a9)).trans a9; replace b6 := (HB.out.cell (World.block_lt_of_cell? w _ b6)).trans b6; replace b5 := (HB.out.cell (World.block_lt_of_cell? w _ b5)).trans b5; replace a9 := (cell_far (p := ⟨a0, 0, none⟩) (by first | (rw [add_block]; exact b4) | (show (Addr.add _ _).block ≠ _; rw [add_block]; exact b4) | exact b4) (.int .i64 ((rd_T51 l0_2 a1).f0))).trans a9; replace b6 := (cell_far (p := ⟨a0, 0, none⟩) (by first | (rw [add_block]; exact b4) | (show (Addr.add _ _).block ≠ _; rw [add_block]; exact b4) | exact b4) (.int .i64 ((rd_T51 l0_2 a1).f0))).trans b6; replace b5 := (cell_far (p := ⟨a0, 0, none⟩) (by first | (rw [add_block]; exact b4) | (show (Addr.add _ _).block ≠ _; rw [add_block]; exact b4) | exact b4) (.int .i64 ((rd_T51 l0_2 a1).f0))).trans b5; replace a9 := (cell_far (p := ⟨a0, 1, none⟩) (by first | (rw [add_block]; exact b3) | (show (Addr.add _ _).block ≠ _; rw [add_block]; exact b3) | exact b3) (.int .i64 ((rd_T51 l0_2 a1).f1))).trans a9; replace b6 := (cell_far (p := ⟨a0, 1, none⟩) (by first | (rw [add_block]; exact b3) | (show (Addr.add _ _).block ≠ _; rw [add_block]; exact b3) | exact b3) (.int .i64 ((rd_T51 l0_2 a1).f1))).trans b6; replace b5 := (cell_far (p := ⟨a0, 1, none⟩) (by first | (rw [add_block]; exact b3) | (show (Addr.add _ _).block ≠ _; rw [add_block]; exact b3) | exact b3) (.int .i64 ((rd_T51 l0_2 a1).f1))).trans b5; replace a9 := (cell_far (p := ⟨a0, 2, none⟩) (by first | (rw [add_block]; exact b2) | (show (Addr.add _ _).block ≠ _; rw [add_block]; exact b2) | exact b2) (.int .i64 ((rd_T51 l0_2 a1).f2))).trans a9; replace b6 := (cell_far (p := ⟨a0, 2, none⟩) (by first | (rw [add_block]; exact b2) | (show (Addr.add _ _).block ≠ _; rw [add_block]; exact b2) | exact b2) (.int .i64 ((rd_T51 l0_2 a1).f2))).trans b6; replace b5 := (cell_far (p := ⟨a0, 2, none⟩) (by first | (rw [add_block]; exact b2) | (show (Addr.add _ _).block ≠ _; rw [add_block]; exact b2) | exact b2) (.int .i64 ((rd_T51 l0_2 a1).f2))).trans b5; (try have g6 := fun (n_ : Nat) => (show (((((e0.drewN n_).setCell ⟨a0, 0, none⟩ (.int .i64 ((rd_T51 l0_2 a1).f0))).setCell ⟨a0, 1, none⟩ (.int .i64 ((rd_T51 l0_2 a1).f1))).setCell ⟨a0, 2, none⟩ (.int .i64 ((rd_T51 l0_2 a1).f2)))).cell? _ = some _ from a9)); (try have g5 := fun (n_ : Nat) => (show (((((e0.drewN n_).setCell ⟨a0, 0, none⟩ (.int .i64 ((rd_T51 l0_2 a1).f0))).setCell ⟨a0, 1, none⟩ (.int .i64 ((rd_T51 l0_2 a1).f1))).setCell ⟨a0, 2, none⟩ (.int .i64 ((rd_T51 l0_2 a1).f2)))).cell? _ = some _ from b6)); (try have g4 := fun (n_ : Nat) => (show (((((e0.drewN n_).setCell ⟨a0, 0, none⟩ (.int .i64 ((rd_T51 l0_2 a1).f0))).setCell ⟨a0, 1, none⟩ (.int .i64 ((rd_T51 l0_2 a1).f1))).setCell ⟨a0, 2, none⟩ (.int .i64 ((rd_T51 l0_2 a1).f2)))).cell? _ = some _ from b5)); clear b4; clear b3; clear b2; replace e9 := eq_true e9; replace e8 := eq_true e8)))
           go_roundg k1
           case measure => have := k6.out; omega
           case rel => exact ⟨(wrap64 (a1 + 1)), (by first | rfl | (simp; done) | (simp [*]; done)), H', ⟨by have := k6.out; omega⟩, ⟨by (with_reducible repeat (first | refine blk_drewN ?_ _ | refine blk_drew ?_ | refine blk_alloc ?_ _)); refine blk_far ?_ b8.out _; (with_reducible repeat (first | refine blk_drewN ?_ _ | refine blk_drew ?_ | refine blk_alloc ?_ _)); refine blk_far ?_ b8.out _; (with_reducible repeat (first | refine blk_drewN ?_ _ | refine blk_drew ?_ | refine blk_alloc ?_ _)); refine blk_far ?_ b8.out _; (with_reducible repeat (first | refine blk_drewN ?_ _ | refine blk_drew ?_ | refine blk_alloc ?_ _)); exact a3.out⟩, ⟨by repeat (first | (with_reducible first | exact HB.out | apply below_alloc | apply pw_below_drewN | apply below_drew1 | refine below_set ?_ d0.out | refine below_set ?_ f5.out) | exact HB.out)⟩⟩
         ·rw [if_neg h0] at H
          have c11b0 : (((rd_T51 l0_2 (d2)).f0) == ((rd_T51 l0_2 a1).f0)) = false := beq_eq_false_iff_ne.mpr h0
          have c11b1 : (((rd_T51 l0_2 (d2)).f0) != ((rd_T51 l0_2 a1).f0)) = true := bne_iff_ne.mpr h0
          have H' := Aside0.mk H
          clear H
          have f7 : 0 ≤ (a1 : Int) := of_decide_eq_true (by first | (with_reducible assumption) | assumption)
          have f8 : a1 < (l0_2.length : Int) := of_decide_eq_true (by first | (with_reducible assumption) | assumption)
          obtain ⟨b1, g8, e3, e2, e4⟩ := at_T51 e1.out a1 f7 f8
          cases g8
          replace e3 := (HB.out.cell (World.block_lt_of_cell? w _ e3)).trans e3
          replace e2 := (HB.out.cell (World.block_lt_of_cell? w _ e2)).trans e2
          replace e4 := (HB.out.cell (World.block_lt_of_cell? w _ e4)).trans e4
          replace f7 := eq_true f7
          replace f8 := eq_true f8
          go_wp2_with (first | ((with_reducible refine gate_dst (N := 4) rfl ?_); refine box_event ?hg (N := 4) ?hd (cs := #[.int .i64 0, .int .i64 0, .int .i64 0]) (t := 51) ?hr ?_; (case hd => rfl); (case hg => rfl); (case hr => first | (go_simp; done) | (go_simp; rfl)); intro a0 hg f3 hbox hb; have d3 := Aside0.mk (blk_below (g := b0) (o := .cells #[.int .i64 a0_0, .slice A0_1 l0_1.length c0_1, .slice (some b1) l0_2.length c0_2] 25 (0, 0)) (by (with_reducible repeat (first | refine blk_drewN ?_ _ | refine blk_drew ?_ | refine blk_alloc ?_ _)); exact a3.out) hb); have d4 := Aside0.mk (below_step (by repeat (first | (with_reducible first | exact HB.out | apply below_alloc | apply pw_below_drewN | apply below_drew1 | refine below_set ?_ d0.out) | exact HB.out)) hb); have d7 := Aside0.mk (hbox); have d8 := Aside0.mk ((by rw [hg]; exact (below_size (by repeat (first | (with_reducible first | exact HB.out | apply below_alloc | apply pw_below_drewN | apply below_drew1 | refine below_set ?_ d0.out) | exact HB.out))) : w.heap.size ≤ a0)); have e6 := Aside0.mk ((by rw [hg]; exact (below_size (by repeat (first | (with_reducible first | exact HB.out | apply below_alloc | apply pw_below_drewN | apply below_drew1 | refine below_set ?_ d0.out) | exact HB.out))) : w.heap.size ≤ a0)); have e7 := Aside0.mk ((by rw [hg]; exact Nat.ne_of_lt (blk_lt (g := b0) (o := .cells #[.int .i64 a0_0, .slice A0_1 l0_1.length c0_1, .slice (some b1) l0_2.length c0_2] 25 (0, 0)) (by (with_reducible repeat (first | refine blk_drewN ?_ _ | refine blk_drew ?_ | refine blk_alloc ?_ _)); exact a3.out)) : b0 ≠ a0)); have e5 := Aside0.mk ((by rw [hg]; exact Nat.ne_of_gt (blk_lt (g := b0) (o := .cells #[.int .i64 a0_0, .slice A0_1 l0_1.length c0_1, .slice (some b1) l0_2.length c0_2] 25 (0, 0)) (by (with_reducible repeat (first | refine blk_drewN ?_ _ | refine blk_drew ?_ | refine blk_alloc ?_ _)); exact a3.out)) : a0 ≠ b0)); clear a3; clear HB; have a3 := d3; have HB := d4; have b7 := d7; have b9 := d8; have f5 := e6; have b8 := e7; have d1 := e5; clear d3 d4 d7 d8 e6 e7 e5; clear hb hbox hg; have n4 := d1.out; have n3 := b8.out; have i0 : f3.cell? ⟨a0, 0, none⟩ = some (.int .i64 0) := (blk_cell b7.out 0).trans rfl; have j2 : f3.cell? ⟨a0, 1, none⟩ = some (.int .i64 0) := (blk_cell b7.out 1).trans rfl; have l7 : f3.cell? ⟨a0, 2, none⟩ = some (.int .i64 0) := (blk_cell b7.out 2).trans rfl; have i5 := blk_frozen b7.out 0; have i6 := blk_frozen b7.out 1; have k5 := blk_frozen b7.out 2; have m4 : f3.cell? ⟨b0, 0, none⟩ = some (.int .i64 a0_0) := (blk_cell a3.out 0).trans rfl; have m1 : f3.cell? ⟨b0, 1, none⟩ = some (.slice A0_1 l0_1.length c0_1) := (blk_cell a3.out 1).trans rfl; have i2 : f3.cell? ⟨b0, 2, none⟩ = some (.slice (some b1) l0_2.length c0_2) := (blk_cell a3.out 2).trans rfl; have i8 := blk_frozen a3.out 0; have j7 := blk_frozen a3.out 1; have h8 := blk_frozen a3.out 2; have d5 : 0 ≤ ((d2) : Int) := of_decide_eq_true (by first | (with_reducible assumption) | assumption); have d6 : (d2) < (l0_2.length : Int) := of_decide_eq_true (by first | (with_reducible assumption) | assumption); obtain ⟨f4, f6, a2, a5, a6⟩ := at_T51 e1.out (d2) d5 d6; obtain rfl : b1 = f4 := (by injection f6); have a8 : b1.block ≠ a0 := Nat.ne_of_lt (Nat.lt_of_lt_of_le (by have := World.block_lt_of_cell? _ _ a2; first | rwa [add_block] at this | exact this) b9.out); have a4 : b1.block ≠ a0 := Nat.ne_of_lt (Nat.lt_of_lt_of_le (by have := World.block_lt_of_cell? _ _ a2; first | rwa [add_block] at this | exact this) b9.out); have a7 : b1.block ≠ a0 := Nat.ne_of_lt (Nat.lt_of_lt_of_le (by have := World.block_lt_of_cell? _ _ a2; first | rwa [add_block] at this | exact this) b9.out); replace a2 := (HB.out.cell (World.block_lt_of_cell? w _ a2)).trans a2; replace a5 := (HB.out.cell (World.block_lt_of_cell? w _ a5)).trans a5; replace a6 := (HB.out.cell (World.block_lt_of_cell? w _ a6)).trans a6; replace a2 := (cell_far (p := ⟨a0, 0, none⟩) (by first | (rw [add_block]; exact a8) | (show (Addr.add _ _).block ≠ _; rw [add_block]; exact a8) | exact a8) (.int .i64 ((rd_T51 l0_2 a1).f0))).trans a2; replace a5 := (cell_far (p := ⟨a0, 0, none⟩) (by first | (rw [add_block]; exact a8) | (show (Addr.add _ _).block ≠ _; rw [add_block]; exact a8) | exact a8) (.int .i64 ((rd_T51 l0_2 a1).f0))).trans a5; replace a6 := (cell_far (p := ⟨a0, 0, none⟩) (by first | (rw [add_block]; exact a8) | (show (Addr.add _ _).block ≠ _; rw [add_block]; exact a8) | exact a8) (.int .i64 ((rd_T51 l0_2 a1).f0))).trans a6; replace a2 := (cell_far (p := ⟨a0, 1, none⟩) (by first | (rw [add_block]; exact a4) | (show (Addr.add _ _).block ≠ _; rw [add_block]; exact a4) | exact a4) (.int .i64 ((rd_T51 l0_2 a1).f1))).trans a2; replace a5 := (cell_far (p := ⟨a0, 1, none⟩) (by first | (rw [add_block]; exact a4) | (show (Addr.add _ _).block ≠ _; rw [add_block]; exact a4) | exact a4) (.int .i64 ((rd_T51 l0_2 a1).f1))).trans a5; replace a6 := (cell_far (p := ⟨a0, 1, none⟩) (by first | (rw [add_block]; exact a4) | (show (Addr.add _ _).block ≠ _; rw [add_block]; exact a4) | exact a4) (.int .i64 ((rd_T51 l0_2 a1).f1))).trans a6; replace a2 := (cell_far (p := ⟨a0, 2, none⟩) (by first | (rw [add_block]; exact a7) | (show (Addr.add _ _).block ≠ _; rw [add_block]; exact a7) | exact a7) (.int .i64 ((rd_T51 l0_2 a1).f2))).trans a2; replace a5 := (cell_far (p := ⟨a0, 2, none⟩) (by first | (rw [add_block]; exact a7) | (show (Addr.add _ _).block ≠ _; rw [add_block]; exact a7) | exact a7) (.int .i64 ((rd_T51 l0_2 a1).f2))).trans a5; replace a6 := (cell_far (p := ⟨a0, 2, none⟩) (by first | (rw [add_block]; exact a7) | (show (Addr.add _ _).block ≠ _; rw [add_block]; exact a7) | exact a7) (.int .i64 ((rd_T51 l0_2 a1).f2))).trans a6; (try have g1 := fun (n_ : Nat) => (show (((((f3.drewN n_).setCell ⟨a0, 0, none⟩ (.int .i64 ((rd_T51 l0_2 a1).f0))).setCell ⟨a0, 1, none⟩ (.int .i64 ((rd_T51 l0_2 a1).f1))).setCell ⟨a0, 2, none⟩ (.int .i64 ((rd_T51 l0_2 a1).f2)))).cell? _ = some _ from a2)); (try have f9 := fun (n_ : Nat) => (show (((((f3.drewN n_).setCell ⟨a0, 0, none⟩ (.int .i64 ((rd_T51 l0_2 a1).f0))).setCell ⟨a0, 1, none⟩ (.int .i64 ((rd_T51 l0_2 a1).f1))).setCell ⟨a0, 2, none⟩ (.int .i64 ((rd_T51 l0_2 a1).f2)))).cell? _ = some _ from a5)); (try have g0 := fun (n_ : Nat) => (show (((((f3.drewN n_).setCell ⟨a0, 0, none⟩ (.int .i64 ((rd_T51 l0_2 a1).f0))).setCell ⟨a0, 1, none⟩ (.int .i64 ((rd_T51 l0_2 a1).f1))).setCell ⟨a0, 2, none⟩ (.int .i64 ((rd_T51 l0_2 a1).f2)))).cell? _ = some _ from a6)); clear a8; clear a4; clear a7; replace d5 := eq_true d5; replace d6 := eq_true d6))
          repeat (go_quiet (first | ((with_reducible refine gate_dst (N := 4) rfl ?_); refine box_event ?hg (N := 4) ?hd (cs := #[.int .i64 0, .int .i64 0, .int .i64 0]) (t := 51) ?hr ?_; (case hd => rfl); (case hg => rfl); (case hr => first | (go_simp; done) | (go_simp; rfl)); intro a0 hg f3 hbox hb; have d3 := Aside0.mk (blk_below (g := b0) (o := .cells #[.int .i64 a0_0, .slice A0_1 l0_1.length c0_1, .slice (some b1) l0_2.length c0_2] 25 (0, 0)) (by (with_reducible repeat (first | refine blk_drewN ?_ _ | refine blk_drew ?_ | refine blk_alloc ?_ _)); exact a3.out) hb); have d4 := Aside0.mk (below_step (by repeat (first | (with_reducible first | exact HB.out | apply below_alloc | apply pw_below_drewN | apply below_drew1 | refine below_set ?_ d0.out) | exact HB.out)) hb); have d7 := Aside0.mk (hbox); have d8 := Aside0.mk ((by rw [hg]; exact (below_size (by repeat (first | (with_reducible first | exact HB.out | apply below_alloc | apply pw_below_drewN | apply below_drew1 | refine below_set ?_ d0.out) | exact HB.out))) : w.heap.size ≤ a0)); have e6 := Aside0.mk ((by rw [hg]; exact (below_size (by repeat (first | (with_reducible first | exact HB.out | apply below_alloc | apply pw_below_drewN | apply below_drew1 | refine below_set ?_ d0.out) | exact HB.out))) : w.heap.size ≤ a0)); have e7 := Aside0.mk ((by rw [hg]; exact Nat.ne_of_lt (blk_lt (g := b0) (o := .cells #[.int .i64 a0_0, .slice A0_1 l0_1.length c0_1, .slice (some b1) l0_2.length c0_2] 25 (0, 0)) (by (with_reducible repeat (first | refine blk_drewN ?_ _ | refine blk_drew ?_ | refine blk_alloc ?_ _)); exact a3.out)) : b0 ≠ a0)); have e5 := Aside0.mk ((by rw [hg]; exact Nat.ne_of_gt (blk_lt (g := b0) (o := .cells #[.int .i64 a0_0, .slice A0_1 l0_1.length c0_1, .slice (some b1) l0_2.length c0_2] 25 (0, 0)) (by (with_reducible repeat (first | refine blk_drewN ?_ _ | refine blk_drew ?_ | refine blk_alloc ?_ _)); exact a3.out)) : a0 ≠ b0)); clear a3; clear HB; have a3 := d3; have HB := d4; have b7 := d7; have b9 := d8; have f5 := e6; have b8 := e7; have d1 := e5; clear d3 d4 d7 d8 e6 e7 e5; clear hb hbox hg; have n4 := d1.out; have n3 := b8.out; have i0 : f3.cell? ⟨a0, 0, none⟩ = some (.int .i64 0) := (blk_cell b7.out 0).trans rfl; have j2 : f3.cell? ⟨a0, 1, none⟩ = some (.int .i64 0) := (blk_cell b7.out 1).trans rfl; have l7 : f3.cell? ⟨a0, 2, none⟩ = some (.int .i64 0) := (blk_cell b7.out 2).trans rfl; have i5 := blk_frozen b7.out 0; have i6 := blk_frozen b7.out 1; have k5 := blk_frozen b7.out 2; have m4 : f3.cell? ⟨b0, 0, none⟩ = some (.int .i64 a0_0) := (blk_cell a3.out 0).trans rfl; have m1 : f3.cell? ⟨b0, 1, none⟩ = some (.slice A0_1 l0_1.length c0_1) := (blk_cell a3.out 1).trans rfl; have i2 : f3.cell? ⟨b0, 2, none⟩ = some (.slice (some b1) l0_2.length c0_2) := (blk_cell a3.out 2).trans rfl; have i8 := blk_frozen a3.out 0; have j7 := blk_frozen a3.out 1; have h8 := blk_frozen a3.out 2; have d5 : 0 ≤ ((d2) : Int) := of_decide_eq_true (by first | (with_reducible assumption) | assumption); have d6 : (d2) < (l0_2.length : Int) := of_decide_eq_true (by first | (with_reducible assumption) | assumption); obtain ⟨f4, f6, a2, a5, a6⟩ := at_T51 e1.out (d2) d5 d6; obtain rfl : b1 = f4 := (by injection f6); have a8 : b1.block ≠ a0 := Nat.ne_of_lt (Nat.lt_of_lt_of_le (by have := World.block_lt_of_cell? _ _ a2; first | rwa [add_block] at this | exact this) b9.out); have a4 : b1.block ≠ a0 := Nat.ne_of_lt (Nat.lt_of_lt_of_le (by have := World.block_lt_of_cell? _ _ a2; first | rwa [add_block] at this | exact this) b9.out); have a7 : b1.block ≠ a0 := Nat.ne_of_lt (Nat.lt_of_lt_of_le (by have := World.block_lt_of_cell? _ _ a2; first | rwa [add_block] at this | exact this) b9.out); replace a2 := (HB.out.cell (World.block_lt_of_cell? w _ a2)).trans a2; replace a5 := (HB.out.cell (World.block_lt_of_cell? w _ a5)).trans a5; replace a6 := (HB.out.cell (World.block_lt_of_cell? w _ a6)).trans a6; replace a2 := (cell_far (p := ⟨a0, 0, none⟩) (by first | (rw [add_block]; exact a8) | (show (Addr.add _ _).block ≠ _; rw [add_block]; exact a8) | exact a8) (.int .i64 ((rd_T51 l0_2 a1).f0))).trans a2; replace a5 := (cell_far (p := ⟨a0, 0, none⟩) (by first | (rw [add_block]; exact a8) | (show (Addr.add _ _).block ≠ _; rw [add_block]; exact a8) | exact a8) (.int .i64 ((rd_T51 l0_2 a1).f0))).trans a5; replace a6 := (cell_far (p := ⟨a0, 0, none⟩) (by first | (rw [add_block]; exact a8) | (show (Addr.add _ _).block ≠ _; rw [add_block]; exact a8) | exact a8) (.int .i64 ((rd_T51 l0_2 a1).f0))).trans a6; replace a2 := (cell_far (p := ⟨a0, 1, none⟩) (by first | (rw [add_block]; exact a4) | (show (Addr.add _ _).block ≠ _; rw [add_block]; exact a4) | exact a4) (.int .i64 ((rd_T51 l0_2 a1).f1))).trans a2; replace a5 := (cell_far (p := ⟨a0, 1, none⟩) (by first | (rw [add_block]; exact a4) | (show (Addr.add _ _).block ≠ _; rw [add_block]; exact a4) | exact a4) (.int .i64 ((rd_T51 l0_2 a1).f1))).trans a5; replace a6 := (cell_far (p := ⟨a0, 1, none⟩) (by first | (rw [add_block]; exact a4) | (show (Addr.add _ _).block ≠ _; rw [add_block]; exact a4) | exact a4) (.int .i64 ((rd_T51 l0_2 a1).f1))).trans a6; replace a2 := (cell_far (p := ⟨a0, 2, none⟩) (by first | (rw [add_block]; exact a7) | (show (Addr.add _ _).block ≠ _; rw [add_block]; exact a7) | exact a7) (.int .i64 ((rd_T51 l0_2 a1).f2))).trans a2; replace a5 := (cell_far (p := ⟨a0, 2, none⟩) (by first | (rw [add_block]; exact a7) | (show (Addr.add _ _).block ≠ _; rw [add_block]; exact a7) | exact a7) (.int .i64 ((rd_T51 l0_2 a1).f2))).trans a5; replace a6 := (cell_far (p := ⟨a0, 2, none⟩) (by first | (rw [add_block]; exact a7) | (show (Addr.add _ _).block ≠ _; rw [add_block]; exact a7) | exact a7) (.int .i64 ((rd_T51 l0_2 a1).f2))).trans a6; (try have g1 := fun (n_ : Nat) => (show (((((f3.drewN n_).setCell ⟨a0, 0, none⟩ (.int .i64 ((rd_T51 l0_2 a1).f0))).setCell ⟨a0, 1, none⟩ (.int .i64 ((rd_T51 l0_2 a1).f1))).setCell ⟨a0, 2, none⟩ (.int .i64 ((rd_T51 l0_2 a1).f2)))).cell? _ = some _ from a2)); (try have f9 := fun (n_ : Nat) => (show (((((f3.drewN n_).setCell ⟨a0, 0, none⟩ (.int .i64 ((rd_T51 l0_2 a1).f0))).setCell ⟨a0, 1, none⟩ (.int .i64 ((rd_T51 l0_2 a1).f1))).setCell ⟨a0, 2, none⟩ (.int .i64 ((rd_T51 l0_2 a1).f2)))).cell? _ = some _ from a5)); (try have g0 := fun (n_ : Nat) => (show (((((f3.drewN n_).setCell ⟨a0, 0, none⟩ (.int .i64 ((rd_T51 l0_2 a1).f0))).setCell ⟨a0, 1, none⟩ (.int .i64 ((rd_T51 l0_2 a1).f1))).setCell ⟨a0, 2, none⟩ (.int .i64 ((rd_T51 l0_2 a1).f2)))).cell? _ = some _ from a6)); clear a8; clear a4; clear a7; replace d5 := eq_true d5; replace d6 := eq_true d6)); try go_wp2_with (first | ((with_reducible refine gate_dst (N := 4) rfl ?_); refine box_event ?hg (N := 4) ?hd (cs := #[.int .i64 0, .int .i64 0, .int .i64 0]) (t := 51) ?hr ?_; (case hd => rfl); (case hg => rfl); (case hr => first | (go_simp; done) | (go_simp; rfl)); intro a0 hg f3 hbox hb; have d3 := Aside0.mk (blk_below (g := b0) (o := .cells #[.int .i64 a0_0, .slice A0_1 l0_1.length c0_1, .slice (some b1) l0_2.length c0_2] 25 (0, 0)) (by (with_reducible repeat (first | refine blk_drewN ?_ _ | refine blk_drew ?_ | refine blk_alloc ?_ _)); exact a3.out) hb); have d4 := Aside0.mk (below_step (by repeat (first | (with_reducible first | exact HB.out | apply below_alloc | apply pw_below_drewN | apply below_drew1 | refine below_set ?_ d0.out) | exact HB.out)) hb); have d7 := Aside0.mk (hbox); have d8 := Aside0.mk ((by rw [hg]; exact (below_size (by repeat (first | (with_reducible first | exact HB.out | apply below_alloc | apply pw_below_drewN | apply below_drew1 | refine below_set ?_ d0.out) | exact HB.out))) : w.heap.size ≤ a0)); have e6 := Aside0.mk ((by rw [hg]; exact (below_size (by repeat (first | (with_reducible first | exact HB.out | apply below_alloc | apply pw_below_drewN | apply below_drew1 | refine below_set ?_ d0.out) | exact HB.out))) : w.heap.size ≤ a0)); have e7 := Aside0.mk ((by rw [hg]; exact Nat.ne_of_lt (blk_lt (g := b0) (o := .cells #[.int .i64 a0_0, .slice A0_1 l0_1.length c0_1, .slice (some b1) l0_2.length c0_2] 25 (0, 0)) (by (with_reducible repeat (first | refine blk_drewN ?_ _ | refine blk_drew ?_ | refine blk_alloc ?_ _)); exact a3.out)) : b0 ≠ a0)); have e5 := Aside0.mk ((by rw [hg]; exact Nat.ne_of_gt (blk_lt (g := b0) (o := .cells #[.int .i64 a0_0, .slice A0_1 l0_1.length c0_1, .slice (some b1) l0_2.length c0_2] 25 (0, 0)) (by (with_reducible repeat (first | refine blk_drewN ?_ _ | refine blk_drew ?_ | refine blk_alloc ?_ _)); exact a3.out)) : a0 ≠ b0)); clear a3; clear HB; have a3 := d3; have HB := d4; have b7 := d7; have b9 := d8; have f5 := e6; have b8 := e7; have d1 := e5; clear d3 d4 d7 d8 e6 e7 e5; clear hb hbox hg; have n4 := d1.out; have n3 := b8.out; have i0 : f3.cell? ⟨a0, 0, none⟩ = some (.int .i64 0) := (blk_cell b7.out 0).trans rfl; have j2 : f3.cell? ⟨a0, 1, none⟩ = some (.int .i64 0) := (blk_cell b7.out 1).trans rfl; have l7 : f3.cell? ⟨a0, 2, none⟩ = some (.int .i64 0) := (blk_cell b7.out 2).trans rfl; have i5 := blk_frozen b7.out 0; have i6 := blk_frozen b7.out 1; have k5 := blk_frozen b7.out 2; have m4 : f3.cell? ⟨b0, 0, none⟩ = some (.int .i64 a0_0) := (blk_cell a3.out 0).trans rfl; have m1 : f3.cell? ⟨b0, 1, none⟩ = some (.slice A0_1 l0_1.length c0_1) := (blk_cell a3.out 1).trans rfl; have i2 : f3.cell? ⟨b0, 2, none⟩ = some (.slice (some b1) l0_2.length c0_2) := (blk_cell a3.out 2).trans rfl; have i8 := blk_frozen a3.out 0; have j7 := blk_frozen a3.out 1; have h8 := blk_frozen a3.out 2; have d5 : 0 ≤ ((d2) : Int) := of_decide_eq_true (by first | (with_reducible assumption) | assumption); have d6 : (d2) < (l0_2.length : Int) := of_decide_eq_true (by first | (with_reducible assumption) | assumption); obtain ⟨f4, f6, a2, a5, a6⟩ := at_T51 e1.out (d2) d5 d6; obtain rfl : b1 = f4 := (by injection f6); have a8 : b1.block ≠ a0 := Nat.ne_of_lt (Nat.lt_of_lt_of_le (by have := World.block_lt_of_cell? _ _ a2; first | rwa [add_block] at this | exact this) b9.out); have a4 : b1.block ≠ a0 := Nat.ne_of_lt (Nat.lt_of_lt_of_le (by have := World.block_lt_of_cell? _ _ a2; first | rwa [add_block] at this | exact this) b9.out); have a7 : b1.block ≠ a0 := Nat.ne_of_lt (Nat.lt_of_lt_of_le (by have := World.block_lt_of_cell? _ _ a2; first | rwa [add_block] at this | exact this) b9.out); replace a2 := (HB.out.cell (World.block_lt_of_cell? w _ a2)).trans a2; replace a5 := (HB.out.cell (World.block_lt_of_cell? w _ a5)).trans a5; replace a6 := (HB.out.cell (World.block_lt_of_cell? w _ a6)).trans a6; replace a2 := (cell_far (p := ⟨a0, 0, none⟩) (by first | (rw [add_block]; exact a8) | (show (Addr.add _ _).block ≠ _; rw [add_block]; exact a8) | exact a8) (.int .i64 ((rd_T51 l0_2 a1).f0))).trans a2; replace a5 := (cell_far (p := ⟨a0, 0, none⟩) (by first | (rw [add_block]; exact a8) | (show (Addr.add _ _).block ≠ _; rw [add_block]; exact a8) | exact a8) (.int .i64 ((rd_T51 l0_2 a1).f0))).trans a5; replace a6 := (cell_far (p := ⟨a0, 0, none⟩) (by first | (rw [add_block]; exact a8) | (show (Addr.add _ _).block ≠ _; rw [add_block]; exact a8) | exact a8) (.int .i64 ((rd_T51 l0_2 a1).f0))).trans a6; replace a2 := (cell_far (p := ⟨a0, 1, none⟩) (by first | (rw [add_block]; exact a4) | (show (Addr.add _ _).block ≠ _; rw [add_block]; exact a4) | exact a4) (.int .i64 ((rd_T51 l0_2 a1).f1))).trans a2; replace a5 := (cell_far (p := ⟨a0, 1, none⟩) (by first | (rw [add_block]; exact a4) | (show (Addr.add _ _).block ≠ _; rw [add_block]; exact a4) | exact a4) (.int .i64 ((rd_T51 l0_2 a1).f1))).trans a5; replace a6 := (cell_far (p := ⟨a0, 1, none⟩) (by first | (rw [add_block]; exact a4) | (show (Addr.add _ _).block ≠ _; rw [add_block]; exact a4) | exact a4) (.int .i64 ((rd_T51 l0_2 a1).f1))).trans a6; replace a2 := (cell_far (p := ⟨a0, 2, none⟩) (by first | (rw [add_block]; exact a7) | (show (Addr.add _ _).block ≠ _; rw [add_block]; exact a7) | exact a7) (.int .i64 ((rd_T51 l0_2 a1).f2))).trans a2; replace a5 := (cell_far (p := ⟨a0, 2, none⟩) (by first | (rw [add_block]; exact a7) | (show (Addr.add _ _).block ≠ _; rw [add_block]; exact a7) | exact a7) (.int .i64 ((rd_T51 l0_2 a1).f2))).trans a5; replace a6 := (cell_far (p := ⟨a0, 2, none⟩) (by first | (rw [add_block]; exact a7) | (show (Addr.add _ _).block ≠ _; rw [add_block]; exact a7) | exact a7) (.int .i64 ((rd_T51 l0_2 a1).f2))).trans a6; (try have g1 := fun (n_ : Nat) => (show (((((f3.drewN n_).setCell ⟨a0, 0, none⟩ (.int .i64 ((rd_T51 l0_2 a1).f0))).setCell ⟨a0, 1, none⟩ (.int .i64 ((rd_T51 l0_2 a1).f1))).setCell ⟨a0, 2, none⟩ (.int .i64 ((rd_T51 l0_2 a1).f2)))).cell? _ = some _ from a2)); (try have f9 := fun (n_ : Nat) => (show (((((f3.drewN n_).setCell ⟨a0, 0, none⟩ (.int .i64 ((rd_T51 l0_2 a1).f0))).setCell ⟨a0, 1, none⟩ (.int .i64 ((rd_T51 l0_2 a1).f1))).setCell ⟨a0, 2, none⟩ (.int .i64 ((rd_T51 l0_2 a1).f2)))).cell? _ = some _ from a5)); (try have g0 := fun (n_ : Nat) => (show (((((f3.drewN n_).setCell ⟨a0, 0, none⟩ (.int .i64 ((rd_T51 l0_2 a1).f0))).setCell ⟨a0, 1, none⟩ (.int .i64 ((rd_T51 l0_2 a1).f1))).setCell ⟨a0, 2, none⟩ (.int .i64 ((rd_T51 l0_2 a1).f2)))).cell? _ = some _ from a6)); clear a8; clear a4; clear a7; replace d5 := eq_true d5; replace d6 := eq_true d6)))
          go_roundg k1
          case measure => have := k6.out; omega
          case rel => exact ⟨(wrap64 (a1 + 1)), (by first | rfl | (simp; done) | (simp [*]; done)), H', ⟨by have := k6.out; omega⟩, ⟨by (with_reducible repeat (first | refine blk_drewN ?_ _ | refine blk_drew ?_ | refine blk_alloc ?_ _)); refine blk_far ?_ b8.out _; (with_reducible repeat (first | refine blk_drewN ?_ _ | refine blk_drew ?_ | refine blk_alloc ?_ _)); refine blk_far ?_ b8.out _; (with_reducible repeat (first | refine blk_drewN ?_ _ | refine blk_drew ?_ | refine blk_alloc ?_ _)); refine blk_far ?_ b8.out _; (with_reducible repeat (first | refine blk_drewN ?_ _ | refine blk_drew ?_ | refine blk_alloc ?_ _)); exact a3.out⟩, ⟨by repeat (first | (with_reducible first | exact HB.out | apply below_alloc | apply pw_below_drewN | apply below_drew1 | refine below_set ?_ d0.out | refine below_set ?_ f5.out) | exact HB.out)⟩⟩
        ·rw [if_neg c10] at H
         exact absurd H (by simp)
       ·rw [if_neg c9] at H
        exact absurd H (by simp)
      ·rw [if_neg c7] at H
       have c7b0 : decide (0 < a1) = false := decide_eq_false c7
       clear c7
       have H' := Aside0.mk H
       clear H
       have f7 : 0 ≤ (a1 : Int) := of_decide_eq_true (by first | (with_reducible assumption) | assumption)
       have f8 : a1 < (l0_2.length : Int) := of_decide_eq_true (by first | (with_reducible assumption) | assumption)
       obtain ⟨b1, g8, e3, e2, e4⟩ := at_T51 e1.out a1 f7 f8
       cases g8
       replace e3 := (HB.out.cell (World.block_lt_of_cell? w _ e3)).trans e3
       replace e2 := (HB.out.cell (World.block_lt_of_cell? w _ e2)).trans e2
       replace e4 := (HB.out.cell (World.block_lt_of_cell? w _ e4)).trans e4
       replace f7 := eq_true f7
       replace f8 := eq_true f8
       go_wp2_with (first | ((with_reducible refine gate_dst (N := 4) rfl ?_); refine box_event ?hg (N := 4) ?hd (cs := #[.int .i64 0, .int .i64 0, .int .i64 0]) (t := 51) ?hr ?_; (case hd => rfl); (case hg => rfl); (case hr => first | (go_simp; done) | (go_simp; rfl)); intro a0 hg g7 hbox hb; have d3 := Aside0.mk (blk_below (g := b0) (o := .cells #[.int .i64 a0_0, .slice A0_1 l0_1.length c0_1, .slice (some b1) l0_2.length c0_2] 25 (0, 0)) (by (with_reducible repeat (first | refine blk_drewN ?_ _ | refine blk_drew ?_ | refine blk_alloc ?_ _)); exact a3.out) hb); have d4 := Aside0.mk (below_step (by repeat (first | (with_reducible first | exact HB.out | apply below_alloc | apply pw_below_drewN | apply below_drew1 | refine below_set ?_ d0.out) | exact HB.out)) hb); have d7 := Aside0.mk (hbox); have d8 := Aside0.mk ((by rw [hg]; exact (below_size (by repeat (first | (with_reducible first | exact HB.out | apply below_alloc | apply pw_below_drewN | apply below_drew1 | refine below_set ?_ d0.out) | exact HB.out))) : w.heap.size ≤ a0)); have e6 := Aside0.mk ((by rw [hg]; exact (below_size (by repeat (first | (with_reducible first | exact HB.out | apply below_alloc | apply pw_below_drewN | apply below_drew1 | refine below_set ?_ d0.out) | exact HB.out))) : w.heap.size ≤ a0)); have e7 := Aside0.mk ((by rw [hg]; exact Nat.ne_of_lt (blk_lt (g := b0) (o := .cells #[.int .i64 a0_0, .slice A0_1 l0_1.length c0_1, .slice (some b1) l0_2.length c0_2] 25 (0, 0)) (by (with_reducible repeat (first | refine blk_drewN ?_ _ | refine blk_drew ?_ | refine blk_alloc ?_ _)); exact a3.out)) : b0 ≠ a0)); have e5 := Aside0.mk ((by rw [hg]; exact Nat.ne_of_gt (blk_lt (g := b0) (o := .cells #[.int .i64 a0_0, .slice A0_1 l0_1.length c0_1, .slice (some b1) l0_2.length c0_2] 25 (0, 0)) (by (with_reducible repeat (first | refine blk_drewN ?_ _ | refine blk_drew ?_ | refine blk_alloc ?_ _)); exact a3.out)) : a0 ≠ b0)); clear a3; clear HB; have a3 := d3; have HB := d4; have b7 := d7; have b9 := d8; have f5 := e6; have b8 := e7; have d1 := e5; clear d3 d4 d7 d8 e6 e7 e5; clear hb hbox hg; have n5 := d1.out; have n8 := b8.out; have k3 : g7.cell? ⟨a0, 0, none⟩ = some (.int .i64 0) := (blk_cell b7.out 0).trans rfl; have l4 : g7.cell? ⟨a0, 1, none⟩ = some (.int .i64 0) := (blk_cell b7.out 1).trans rfl; have k0 : g7.cell? ⟨a0, 2, none⟩ = some (.int .i64 0) := (blk_cell b7.out 2).trans rfl; have m5 := blk_frozen b7.out 0; have h7 := blk_frozen b7.out 1; have k8 := blk_frozen b7.out 2))
       repeat (go_quiet (first | ((with_reducible refine gate_dst (N := 4) rfl ?_); refine box_event ?hg (N := 4) ?hd (cs := #[.int .i64 0, .int .i64 0, .int .i64 0]) (t := 51) ?hr ?_; (case hd => rfl); (case hg => rfl); (case hr => first | (go_simp; done) | (go_simp; rfl)); intro a0 hg g7 hbox hb; have d3 := Aside0.mk (blk_below (g := b0) (o := .cells #[.int .i64 a0_0, .slice A0_1 l0_1.length c0_1, .slice (some b1) l0_2.length c0_2] 25 (0, 0)) (by (with_reducible repeat (first | refine blk_drewN ?_ _ | refine blk_drew ?_ | refine blk_alloc ?_ _)); exact a3.out) hb); have d4 := Aside0.mk (below_step (by repeat (first | (with_reducible first | exact HB.out | apply below_alloc | apply pw_below_drewN | apply below_drew1 | refine below_set ?_ d0.out) | exact HB.out)) hb); have d7 := Aside0.mk (hbox); have d8 := Aside0.mk ((by rw [hg]; exact (below_size (by repeat (first | (with_reducible first | exact HB.out | apply below_alloc | apply pw_below_drewN | apply below_drew1 | refine below_set ?_ d0.out) | exact HB.out))) : w.heap.size ≤ a0)); have e6 := Aside0.mk ((by rw [hg]; exact (below_size (by repeat (first | (with_reducible first | exact HB.out | apply below_alloc | apply pw_below_drewN | apply below_drew1 | refine below_set ?_ d0.out) | exact HB.out))) : w.heap.size ≤ a0)); have e7 := Aside0.mk ((by rw [hg]; exact Nat.ne_of_lt (blk_lt (g := b0) (o := .cells #[.int .i64 a0_0, .slice A0_1 l0_1.length c0_1, .slice (some b1) l0_2.length c0_2] 25 (0, 0)) (by (with_reducible repeat (first | refine blk_drewN ?_ _ | refine blk_drew ?_ | refine blk_alloc ?_ _)); exact a3.out)) : b0 ≠ a0)); have e5 := Aside0.mk ((by rw [hg]; exact Nat.ne_of_gt (blk_lt (g := b0) (o := .cells #[.int .i64 a0_0, .slice A0_1 l0_1.length c0_1, .slice (some b1) l0_2.length c0_2] 25 (0, 0)) (by (with_reducible repeat (first | refine blk_drewN ?_ _ | refine blk_drew ?_ | refine blk_alloc ?_ _)); exact a3.out)) : a0 ≠ b0)); clear a3; clear HB; have a3 := d3; have HB := d4; have b7 := d7; have b9 := d8; have f5 := e6; have b8 := e7; have d1 := e5; clear d3 d4 d7 d8 e6 e7 e5; clear hb hbox hg; have n5 := d1.out; have n8 := b8.out; have k3 : g7.cell? ⟨a0, 0, none⟩ = some (.int .i64 0) := (blk_cell b7.out 0).trans rfl; have l4 : g7.cell? ⟨a0, 1, none⟩ = some (.int .i64 0) := (blk_cell b7.out 1).trans rfl; have k0 : g7.cell? ⟨a0, 2, none⟩ = some (.int .i64 0) := (blk_cell b7.out 2).trans rfl; have m5 := blk_frozen b7.out 0; have h7 := blk_frozen b7.out 1; have k8 := blk_frozen b7.out 2)); try go_wp2_with (first | ((with_reducible refine gate_dst (N := 4) rfl ?_); refine box_event ?hg (N := 4) ?hd (cs := #[.int .i64 0, .int .i64 0, .int .i64 0]) (t := 51) ?hr ?_; (case hd => rfl); (case hg => rfl); (case hr => first | (go_simp; done) | (go_simp; rfl)); intro a0 hg g7 hbox hb; have d3 := Aside0.mk (blk_below (g := b0) (o := .cells #[.int .i64 a0_0, .slice A0_1 l0_1.length c0_1, .slice (some b1) l0_2.length c0_2] 25 (0, 0)) (by (with_reducible repeat (first | refine blk_drewN ?_ _ | refine blk_drew ?_ | refine blk_alloc ?_ _)); exact a3.out) hb); have d4 := Aside0.mk (below_step (by repeat (first | (with_reducible first | exact HB.out | apply below_alloc | apply pw_below_drewN | apply below_drew1 | refine below_set ?_ d0.out) | exact HB.out)) hb); have d7 := Aside0.mk (hbox); have d8 := Aside0.mk ((by rw [hg]; exact (below_size (by repeat (first | (with_reducible first | exact HB.out | apply below_alloc | apply pw_below_drewN | apply below_drew1 | refine below_set ?_ d0.out) | exact HB.out))) : w.heap.size ≤ a0)); have e6 := Aside0.mk ((by rw [hg]; exact (below_size (by repeat (first | (with_reducible first | exact HB.out | apply below_alloc | apply pw_below_drewN | apply below_drew1 | refine below_set ?_ d0.out) | exact HB.out))) : w.heap.size ≤ a0)); have e7 := Aside0.mk ((by rw [hg]; exact Nat.ne_of_lt (blk_lt (g := b0) (o := .cells #[.int .i64 a0_0, .slice A0_1 l0_1.length c0_1, .slice (some b1) l0_2.length c0_2] 25 (0, 0)) (by (with_reducible repeat (first | refine blk_drewN ?_ _ | refine blk_drew ?_ | refine blk_alloc ?_ _)); exact a3.out)) : b0 ≠ a0)); have e5 := Aside0.mk ((by rw [hg]; exact Nat.ne_of_gt (blk_lt (g := b0) (o := .cells #[.int .i64 a0_0, .slice A0_1 l0_1.length c0_1, .slice (some b1) l0_2.length c0_2] 25 (0, 0)) (by (with_reducible repeat (first | refine blk_drewN ?_ _ | refine blk_drew ?_ | refine blk_alloc ?_ _)); exact a3.out)) : a0 ≠ b0)); clear a3; clear HB; have a3 := d3; have HB := d4; have b7 := d7; have b9 := d8; have f5 := e6; have b8 := e7; have d1 := e5; clear d3 d4 d7 d8 e6 e7 e5; clear hb hbox hg; have n5 := d1.out; have n8 := b8.out; have k3 : g7.cell? ⟨a0, 0, none⟩ = some (.int .i64 0) := (blk_cell b7.out 0).trans rfl; have l4 : g7.cell? ⟨a0, 1, none⟩ = some (.int .i64 0) := (blk_cell b7.out 1).trans rfl; have k0 : g7.cell? ⟨a0, 2, none⟩ = some (.int .i64 0) := (blk_cell b7.out 2).trans rfl; have m5 := blk_frozen b7.out 0; have h7 := blk_frozen b7.out 1; have k8 := blk_frozen b7.out 2)))
       go_roundg k1
       case measure => have := k6.out; omega
       case rel => exact ⟨(wrap64 (a1 + 1)), (by first | rfl | (simp; done) | (simp [*]; done)), H', ⟨by have := k6.out; omega⟩, ⟨by (with_reducible repeat (first | refine blk_drewN ?_ _ | refine blk_drew ?_ | refine blk_alloc ?_ _)); refine blk_far ?_ b8.out _; (with_reducible repeat (first | refine blk_drewN ?_ _ | refine blk_drew ?_ | refine blk_alloc ?_ _)); refine blk_far ?_ b8.out _; (with_reducible repeat (first | refine blk_drewN ?_ _ | refine blk_drew ?_ | refine blk_alloc ?_ _)); refine blk_far ?_ b8.out _; (with_reducible repeat (first | refine blk_drewN ?_ _ | refine blk_drew ?_ | refine blk_alloc ?_ _)); exact a3.out⟩, ⟨by repeat (first | (with_reducible first | exact HB.out | apply below_alloc | apply pw_below_drewN | apply below_drew1 | refine below_set ?_ d0.out | refine below_set ?_ f5.out) | exact HB.out)⟩⟩
     ·rw [if_neg c6] at H
      exact absurd H (by simp)
    ·rw [if_neg c5] at H
     exact absurd H (by simp)
   ·rw [if_neg c4] at H
    have c4b0 : decide (a1 < (l0_2.length : Int)) = false := decide_eq_false c4
    clear c4
    replace H := Option.bind_eq_some_iff.mp H
    obtain ⟨m9, o5, H⟩ := H
    replace H : (some (m9 == 0)) = some r := H
    have o4 := Aside0.mk o5
    clear o5
    obtain rfl := Option.some.inj H
    have p1 : wr.cell? ⟨b0, 0, none⟩ = some (.int .i64 a0_0) := (blk_cell a3.out 0).trans rfl
    have o8 : wr.cell? ⟨b0, 1, none⟩ = some (.slice A0_1 l0_1.length c0_1) := (blk_cell a3.out 1).trans rfl
    have p3 : wr.cell? ⟨b0, 2, none⟩ = some (.slice A0_2 l0_2.length c0_2) := (blk_cell a3.out 2).trans rfl
    have p4 := blk_frozen a3.out 0
    have o9 := blk_frozen a3.out 1
    have p0 := blk_frozen a3.out 2
    go_wp2_with (first | (go_at_call 27; (with_reducible refine (Pxc.calls a0_0 _ _ l0_1 _ _ l0_2 m9 _ ?n1 ?o3 ?o2 ?o0 o4.out).mono ?_); (case n1 => repeat (first | exact (Kd.C_below n0.out HB.out) | (with_reducible refine Kd.C_alloc ?_ _) | (with_reducible refine Kd.C_drewN ?_ _) | (with_reducible refine Kd.C_drew ?_))); (case o3 => exact m8.out); (case o2 => repeat (first | exact (Kd.C_below e1.out HB.out) | (with_reducible refine Kd.C_alloc ?_ _) | (with_reducible refine Kd.C_drewN ?_ _) | (with_reducible refine Kd.C_drew ?_))); (case o0 => exact m7.out); rintro e o7 ⟨rfl, hb⟩; have d3 := Aside0.mk (blk_below (g := b0) (o := .cells #[.int .i64 a0_0, .slice A0_1 l0_1.length c0_1, .slice A0_2 l0_2.length c0_2] 25 (0, 0)) (by (with_reducible repeat (first | refine blk_drewN ?_ _ | refine blk_drew ?_ | refine blk_alloc ?_ _)); exact a3.out) hb); have d4 := Aside0.mk (below_step (by repeat (first | (with_reducible first | exact HB.out | apply below_alloc | apply pw_below_drewN | apply below_drew1 | refine below_set ?_ d0.out) | exact HB.out)) hb); clear a3; clear HB; have a3 := d3; have HB := d4; clear d3 d4; (try clear hb); (try clear o6); (try clear hk); (try clear hi)))
    repeat (go_quiet (first | (go_at_call 27; (with_reducible refine (Pxc.calls a0_0 _ _ l0_1 _ _ l0_2 m9 _ ?n1 ?o3 ?o2 ?o0 o4.out).mono ?_); (case n1 => repeat (first | exact (Kd.C_below n0.out HB.out) | (with_reducible refine Kd.C_alloc ?_ _) | (with_reducible refine Kd.C_drewN ?_ _) | (with_reducible refine Kd.C_drew ?_))); (case o3 => exact m8.out); (case o2 => repeat (first | exact (Kd.C_below e1.out HB.out) | (with_reducible refine Kd.C_alloc ?_ _) | (with_reducible refine Kd.C_drewN ?_ _) | (with_reducible refine Kd.C_drew ?_))); (case o0 => exact m7.out); rintro e o7 ⟨rfl, hb⟩; have d3 := Aside0.mk (blk_below (g := b0) (o := .cells #[.int .i64 a0_0, .slice A0_1 l0_1.length c0_1, .slice A0_2 l0_2.length c0_2] 25 (0, 0)) (by (with_reducible repeat (first | refine blk_drewN ?_ _ | refine blk_drew ?_ | refine blk_alloc ?_ _)); exact a3.out) hb); have d4 := Aside0.mk (below_step (by repeat (first | (with_reducible first | exact HB.out | apply below_alloc | apply pw_below_drewN | apply below_drew1 | refine below_set ?_ d0.out) | exact HB.out)) hb); clear a3; clear HB; have a3 := d3; have HB := d4; clear d3 d4; (try clear hb); (try clear o6); (try clear hk); (try clear hi))); try go_wp2_with (first | (go_at_call 27; (with_reducible refine (Pxc.calls a0_0 _ _ l0_1 _ _ l0_2 m9 _ ?n1 ?o3 ?o2 ?o0 o4.out).mono ?_); (case n1 => repeat (first | exact (Kd.C_below n0.out HB.out) | (with_reducible refine Kd.C_alloc ?_ _) | (with_reducible refine Kd.C_drewN ?_ _) | (with_reducible refine Kd.C_drew ?_))); (case o3 => exact m8.out); (case o2 => repeat (first | exact (Kd.C_below e1.out HB.out) | (with_reducible refine Kd.C_alloc ?_ _) | (with_reducible refine Kd.C_drewN ?_ _) | (with_reducible refine Kd.C_drew ?_))); (case o0 => exact m7.out); rintro e o7 ⟨rfl, hb⟩; have d3 := Aside0.mk (blk_below (g := b0) (o := .cells #[.int .i64 a0_0, .slice A0_1 l0_1.length c0_1, .slice A0_2 l0_2.length c0_2] 25 (0, 0)) (by (with_reducible repeat (first | refine blk_drewN ?_ _ | refine blk_drew ?_ | refine blk_alloc ?_ _)); exact a3.out) hb); have d4 := Aside0.mk (below_step (by repeat (first | (with_reducible first | exact HB.out | apply below_alloc | apply pw_below_drewN | apply below_drew1 | refine below_set ?_ d0.out) | exact HB.out)) hb); clear a3; clear HB; have a3 := d3; have HB := d4; clear d3 d4; (try clear hb); (try clear o6); (try clear hk); (try clear hi))))
    go_ret
    exact ⟨by first | rfl | (simp [errW_none, errW_some] <;> rfl) | (simp [*, errW_none, errW_some] <;> rfl), by repeat (first | (with_reducible first | exact HB.out | apply below_alloc | apply pw_below_drewN | apply below_drew1 | refine below_set ?_ d0.out) | exact HB.out)⟩
def Pr01b.l0 : Nat → List Int → List Int → Int → Option (Bool)
 | 0, _, _, _ => none
 | k + 1, x0, x1, x5 => if x5 < (x0.length : Int) then (if 0 ≤ x5 then (if x5 < (x1.length : Int) then (if (rd x0 x5) = (rd x1 x5) then (Pr01b.l0 k x0 x1 (wrap64 (x5 + 1))) else (some false)) else (none)) else (none)) else (some true)
def Pr01b.f (k : Nat) (l0 : List Int) (l1 : List Int) : Option (Bool) := if (l0.length : Int) = (l1.length : Int) then (Pr01b.l0 k l0 l1 0) else (some false)
theorem Pr01b.mono_l : ∀ k, (∀ y0 y1 y2, LeO (Pr01b.l0 k y0 y1 y2) (Pr01b.l0 (k + 1) y0 y1 y2))
 | 0 => fun _ _ _ r h => by simp [Pr01b.l0] at h
 | k + 1 => by
  have ih0 := Pr01b.mono_l k
  ·intro y0 y1 y2
   unfold Pr01b.l0
   repeat' first
   | (with_reducible exact ih0 _ _ _)
   | (with_reducible exact LeO.refl _)
   | (with_reducible exact LeO.none _)
   | (with_reducible refine LeO.ite ?_ ?_)
   | (with_reducible refine LeO.bind ?_ (fun _ => ?_))
   | exact ih0 _ _ _
   | exact LeO.none _
   | refine LeO.ite ?_ ?_
   | refine LeO.bind ?_ (fun _ => ?_)
theorem Pr01b.mono : ∀ a0 a1 k, LeO (Pr01b.f k a0 a1) (Pr01b.f (k + 1) a0 a1) := by
 intro a0 a1 k
 have ih0 := Pr01b.mono_l k
 unfold Pr01b.f
 repeat' first
   | (with_reducible exact ih0 _ _ _)
   | (with_reducible exact LeO.refl _)
   | (with_reducible exact LeO.none _)
   | (with_reducible refine LeO.ite ?_ ?_)
   | (with_reducible refine LeO.bind ?_ (fun _ => ?_))
   | exact ih0 _ _ _
   | exact LeO.none _
   | refine LeO.ite ?_ ?_
   | refine LeO.bind ?_ (fun _ => ?_)
set_option maxHeartbeats 8000000 in
set_option maxRecDepth 100000 in
theorem Pr01b.calls (k : Nat) (A0 : Option Addr) (c0 : Nat) (l0 : List Int) (A1 : Option Addr) (c1 : Nat) (l1 : List Int) (r : Bool) (w : World) (hr0 : Kd.C (Kd.int .i64) w A0 l0.length l0) (hc0 : l0.length ≤ c0) (hr1 : Kd.C (Kd.int .i64) w A1 l1.length l1) (hc1 : l1.length ≤ c1) (h : Pr01b.f k l0 l1 = some r) :
  Calls Try.prog 33 #[.slice A0 l0.length c0, .slice A1 l1.length c1] w fun e w' => e = .returned (.bool r) ∧ Drawn0 w w' := by
 have b2 := Aside0.mk hr0
 have b5 := Aside0.mk hc0
 clear hr0 hc0
 have b3 := Aside0.mk hr1
 have b4 := Aside0.mk hc1
 clear hr1 hc1
 have H : (if (l0.length : Int) = (l1.length : Int) then (Pr01b.l0 k l0 l1 0) else (some false)) = some r := h
 clear h
 by_cases c3 : (l0.length : Int) = (l1.length : Int)
 ·rw [if_pos c3] at H
  have c3b0 : ((l0.length : Int) == (l1.length : Int)) = true := beq_iff_eq.mpr c3
  have c3b1 : ((l0.length : Int) != (l1.length : Int)) = false := bne_eq_false_iff_eq.mpr c3
  have c3b2 : (l0.length == l1.length) = true := by first | simpa using c3 | (simp at c3 ⊢; omega)
  clear c3
  have H' := Aside0.mk H
  clear H
  go_enter Try.func33, Try.ntmps33
  go_wp2
  repeat (go_quiet (fail); try go_wp2)
  go_loopg [5] k (fun kq v5 w' => ∃ (a0 : Int), v5 = .int .i64 a0 ∧ Aside0 (Pr01b.l0 kq l0 l1 a0 = some r) ∧ Aside0 (kq ≤ k) ∧ Drawn0 w w')
  case atStart => exact ⟨(0), (by first | rfl | (simp; done) | (simp [*]; done)), H', ⟨Nat.le_refl _⟩, by repeat (first | exact Drawn0.refl _ | apply Drawn0.step)⟩
  case round =>
   clear H'
   try clear c1
   try clear p2
   try clear c3
   try clear c3b0
   try clear c3b1
   try clear c3b2
   obtain ⟨a0, rfl, HA, b1, ⟨m1, rfl⟩⟩ := hrel
   cases gk with
   | zero => exact absurd HA.out (by simp [Pr01b.l0])
   | succ k1 =>
    have H := HA.out
    clear HA
    simp only [Pr01b.l0] at H
    by_cases c4 : a0 < (l0.length : Int)
    ·rw [if_pos c4] at H
     have c4b0 : decide (a0 < (l0.length : Int)) = true := decide_eq_true c4
     clear c4
     by_cases c5 : 0 ≤ a0
     ·rw [if_pos c5] at H
      have c5b0 : decide (0 ≤ a0) = true := decide_eq_true c5
      clear c5
      by_cases c6 : a0 < (l1.length : Int)
      ·rw [if_pos c6] at H
       have c6b0 : decide (a0 < (l1.length : Int)) = true := decide_eq_true c6
       clear c6
       by_cases c7 : (rd l0 a0) = (rd l1 a0)
       ·rw [if_pos c7] at H
        have c7b0 : ((rd l0 a0) == (rd l1 a0)) = true := beq_iff_eq.mpr c7
        have c7b1 : ((rd l0 a0) != (rd l1 a0)) = false := bne_eq_false_iff_eq.mpr c7
        clear c7
        have H' := Aside0.mk H
        clear H
        have a3 : 0 ≤ (a0 : Int) := of_decide_eq_true (by first | (with_reducible assumption) | assumption)
        have a2 : a0 < (l0.length : Int) := of_decide_eq_true (by first | (with_reducible assumption) | assumption)
        obtain ⟨a9, a5, a7⟩ := Kd.at_int b2.out a0 a3 a2
        cases a5
        replace a3 := eq_true a3
        replace a2 := eq_true a2
        have a1 : 0 ≤ (a0 : Int) := of_decide_eq_true (by first | (with_reducible assumption) | assumption)
        have a4 : a0 < (l1.length : Int) := of_decide_eq_true (by first | (with_reducible assumption) | assumption)
        obtain ⟨b0, a6, a8⟩ := Kd.at_int b3.out a0 a1 a4
        cases a6
        replace a1 := eq_true a1
        replace a4 := eq_true a4
        go_wp2
        repeat (go_quiet (fail); try go_wp2)
        go_roundg k1
        case measure => have := b1.out; omega
        case rel => exact ⟨(wrap64 (a0 + 1)), (by first | rfl | (simp; done) | (simp [*]; done)), H', ⟨by have := b1.out; omega⟩, by repeat (first | exact Drawn0.refl _ | apply Drawn0.step)⟩
       ·rw [if_neg c7] at H
        have c7b0 : ((rd l0 a0) == (rd l1 a0)) = false := beq_eq_false_iff_ne.mpr c7
        have c7b1 : ((rd l0 a0) != (rd l1 a0)) = true := bne_iff_ne.mpr c7
        obtain rfl := Option.some.inj H
        have a3 : 0 ≤ (a0 : Int) := of_decide_eq_true (by first | (with_reducible assumption) | assumption)
        have a2 : a0 < (l0.length : Int) := of_decide_eq_true (by first | (with_reducible assumption) | assumption)
        obtain ⟨a9, a5, a7⟩ := Kd.at_int b2.out a0 a3 a2
        cases a5
        replace a3 := eq_true a3
        replace a2 := eq_true a2
        have a1 : 0 ≤ (a0 : Int) := of_decide_eq_true (by first | (with_reducible assumption) | assumption)
        have a4 : a0 < (l1.length : Int) := of_decide_eq_true (by first | (with_reducible assumption) | assumption)
        obtain ⟨b0, a6, a8⟩ := Kd.at_int b3.out a0 a1 a4
        cases a6
        replace a1 := eq_true a1
        replace a4 := eq_true a4
        go_wp2
        repeat (go_quiet (fail); try go_wp2)
        go_ret
        exact ⟨by first | rfl | (simp; done) | (simp [*]; done), by repeat (first | exact Drawn0.refl _ | apply Drawn0.step)⟩
      ·rw [if_neg c6] at H
       exact absurd H (by simp)
     ·rw [if_neg c5] at H
      exact absurd H (by simp)
    ·rw [if_neg c4] at H
     have c4b0 : decide (a0 < (l0.length : Int)) = false := decide_eq_false c4
     clear c4
     obtain rfl := Option.some.inj H
     go_wp2
     repeat (go_quiet (fail); try go_wp2)
     go_ret
     exact ⟨by first | rfl | (simp; done) | (simp [*]; done), by repeat (first | exact Drawn0.refl _ | apply Drawn0.step)⟩
 ·rw [if_neg c3] at H
  have c3b0 : ((l0.length : Int) == (l1.length : Int)) = false := beq_eq_false_iff_ne.mpr c3
  have c3b1 : ((l0.length : Int) != (l1.length : Int)) = true := bne_iff_ne.mpr c3
  have c3b2 : (l0.length == l1.length) = false := by first | simpa using c3 | (simp at c3 ⊢; omega)
  obtain rfl := Option.some.inj H
  go_enter Try.func33, Try.ntmps33
  go_wp2
  repeat (go_quiet (fail); try go_wp2)
  go_ret
  exact ⟨by first | rfl | (simp; done) | (simp [*]; done), by repeat (first | exact Drawn0.refl _ | apply Drawn0.step)⟩
end Go.Proofs.Ythaaockbapbooaa.Pr
set_option linter.unusedVariables false
set_option linter.unusedSimpArgs false
namespace Go.Proofs.Ythaaockbapbooaa.H
open Go.RowKit Go.Proofs.Ythaaockbapbooaa.Pr Go.Proofs.YthaaockbapbooaaW.PrintWords Go.Proofs.Ythaaockbapbooaa.Sem
theorem texts_ev (ls : List ByteArray) (hl : ls.length ≤ 1000000) : Ev (fun k => Pr01a.f k ls ls) true := by
 have key : ∀ d i : Nat, i + d = ls.length → Ev (fun k => Pr01a.l0 k ls ls (i : Int)) true := by
  intro d
  induction d with
  | zero => intro i h; exact Ev.step (fun k => Pr01a.l0.eq_2 ..) (Ev.neg (by omega) (Ev.now _))
  | succ d ih =>
   intro i h
   refine Ev.step (fun k => Pr01a.l0.eq_2 ..) (Ev.pos (by omega) (Ev.pos (by omega) (Ev.pos (by omega) (Ev.pos rfl ?_))))
   rw [w1n (by omega)]
   exact ih (i + 1) (by omega)
 exact Ev.pos rfl (key ls.length 0 (by omega))
theorem same26_refl (n : Int) (ls : List ByteArray) (xs : List Ed) (h1 : ls.length ≤ 1000000) (hl : xs.length ≤ 1000000) : Ev (fun k => Pr26b.f k n ls xs n ls xs) true := by
 have key : ∀ d i : Nat, i + d = xs.length → Ev (fun k => Pr26b.l0 k (i : Int) n ls xs n ls xs) true := by
  intro d
  induction d with
  | zero => intro i h; exact Ev.step (fun k => Pr26b.l0.eq_2 ..) (Ev.neg (by omega) (Ev.now _))
  | succ d ih =>
   intro i h
   refine Ev.step (fun k => Pr26b.l0.eq_2 ..) (Ev.pos (by omega) (Ev.pos (by omega) (Ev.pos (by omega) (Ev.neg (by simp) ?_))))
   rw [w1n (by omega)]
   exact ih (i + 1) (by omega)
 exact Ev.pos rfl (Ev.bind (texts_ev ls h1) (Ev.pos rfl (Ev.step (fun k => Pr26b.j0.eq_2 ..) (Ev.neg (by simp) (key xs.length 0 (by omega))))))
end Go.Proofs.Ythaaockbapbooaa.H
