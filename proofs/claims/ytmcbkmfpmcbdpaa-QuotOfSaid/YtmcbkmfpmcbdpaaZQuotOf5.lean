/-
  The law QuotOf: for every input the call returns true, and what came in reads as it read before.
  Condition: none.
-/
import Derived.Test.YtmcbkmfpmcbdpaaZQuotOf4
namespace Go.Proofs.Ytmcbkmfpmcbdpaa.Pr
open Go.RowKit Go.Proofs.YtmcbkmfpmcbdpaaW.PrintWords Go.Proofs.YtmcbkmfpmcbdpaaW.PrintLast Go.Proofs.YtmcbkmfpmcbdpaaW.PrintMore
attribute [local go_sem] max2_int min2_int max_two min_two max_three min_three max_four min_four
set_option linter.unusedVariables false
set_option linter.unusedSimpArgs false
def Pr31b.l0 : Nat → List Int → Int → Int → Option (Int)
 | 0, _, _, _ => none
 | k + 1, x0, x1, x5 => if x5 < x1 then (if 0 ≤ x5 then (if x5 < (x0.length : Int) then (if 0 ≤ x1 then (if x1 < (x0.length : Int) then (if (rd x0 x5) = (rd x0 x1) then (some x5) else (Pr31b.l0 k x0 x1 (wrap64 (x5 + 1)))) else (none)) else (none)) else (none)) else (none)) else (some x1)
def Pr31b.f (k : Nat) (l0 : List Int) (a1 : Int) : Option (Int) := Pr31b.l0 k l0 a1 0
theorem Pr31b.mono_l : ∀ k, (∀ y0 y1 y2, LeO (Pr31b.l0 k y0 y1 y2) (Pr31b.l0 (k + 1) y0 y1 y2))
 | 0 => fun _ _ _ r h => by simp [Pr31b.l0] at h
 | k + 1 => by
  have ih0 := Pr31b.mono_l k
  ·intro y0 y1 y2
   unfold Pr31b.l0
   repeat' first
   | (with_reducible exact ih0 _ _ _)
   | (with_reducible exact LeO.refl _)
   | (with_reducible exact LeO.none _)
   | (with_reducible refine LeO.ite ?_ ?_)
   | (with_reducible refine LeO.bind ?_ (fun _ => ?_))
   | exact ih0 _ _ _
   | exact LeO.none _
   | refine LeO.ite ?_ ?_
   | refine LeO.bind ?_ (fun _ => ?_)
theorem Pr31b.mono : ∀ a0 a1 k, LeO (Pr31b.f k a0 a1) (Pr31b.f (k + 1) a0 a1) := by
 intro a0 a1 k
 have ih0 := Pr31b.mono_l k
 unfold Pr31b.f
 repeat' first
   | (with_reducible exact ih0 _ _ _)
   | (with_reducible exact LeO.refl _)
   | (with_reducible exact LeO.none _)
   | (with_reducible refine LeO.ite ?_ ?_)
   | (with_reducible refine LeO.bind ?_ (fun _ => ?_))
   | exact ih0 _ _ _
   | exact LeO.none _
   | refine LeO.ite ?_ ?_
   | refine LeO.bind ?_ (fun _ => ?_)
set_option maxHeartbeats 8000000 in
set_option maxRecDepth 100000 in
theorem Pr31b.calls (k : Nat) (A0 : Option Addr) (c0 : Nat) (l0 : List Int) (a1 : Int) (r : Int) (w : World) (hr0 : Kd.C (Kd.int .i64) w A0 l0.length l0) (hc0 : l0.length ≤ c0) (h : Pr31b.f k l0 a1 = some r) :
  Calls Try.prog 105 #[.slice A0 l0.length c0, .int .i64 a1] w fun e w' => e = .returned (.int .i64 r) ∧ Drawn0 w w' := by
 have b0 := Aside0.mk hr0;have b4 := Aside0.mk hc0;clear hr0 hc0;have H : (Pr31b.l0 k l0 a1 0) = some r := h;clear h;have H' := Aside0.mk H;clear H;go_enter Try.func105, Try.ntmps105
 go_wp2
 repeat (go_quiet (fail); try go_wp2)
 go_loopg [5] k (fun kq v5 w' => ∃ (a0 : Int), v5 = .int .i64 a0 ∧ Aside0 (Pr31b.l0 kq l0 a1 a0 = some r) ∧ Aside0 (kq ≤ k) ∧ Drawn0 w w')
 case atStart => exact ⟨(0), (by first | rfl | (simp; done) | (simp [*]; done)), H', ⟨Nat.le_refl _⟩, by repeat (first | exact Drawn0.refl _ | apply Drawn0.step)⟩
 case round =>
  clear H';obtain ⟨a0, rfl, HA, b3, ⟨m1, rfl⟩⟩ := hrel
  cases gk with
  | zero => exact absurd HA.out (by simp [Pr31b.l0])
  | succ k1 =>
   have H := HA.out;clear HA;simp only [Pr31b.l0] at H;by_cases c3 : a0 < a1
   ·rw [if_pos c3] at H;have c3b0 : decide (a0 < a1) = true := decide_eq_true c3;clear c3;by_cases c4 : 0 ≤ a0
    ·rw [if_pos c4] at H;have c4b0 : decide (0 ≤ a0) = true := decide_eq_true c4;clear c4;by_cases c5 : a0 < (l0.length : Int)
     ·rw [if_pos c5] at H;have c5b0 : decide (a0 < (l0.length : Int)) = true := decide_eq_true c5;clear c5;by_cases c6 : 0 ≤ a1
      ·rw [if_pos c6] at H;have c6b0 : decide (0 ≤ a1) = true := decide_eq_true c6;clear c6;by_cases c7 : a1 < (l0.length : Int)
       ·rw [if_pos c7] at H;have c7b0 : decide (a1 < (l0.length : Int)) = true := decide_eq_true c7;clear c7;by_cases c8 : (rd l0 a0) = (rd l0 a1)
        ·rw [if_pos c8] at H;have c8b0 : ((rd l0 a0) == (rd l0 a1)) = true := beq_iff_eq.mpr c8;have c8b1 : ((rd l0 a0) != (rd l0 a1)) = false := bne_eq_false_iff_eq.mpr c8;clear c8;obtain rfl := Option.some.inj H;have a2 : 0 ≤ (a0 : Int) := of_decide_eq_true (by first | (with_reducible assumption) | assumption);have a4 : a0 < (l0.length : Int) := of_decide_eq_true (by first | (with_reducible assumption) | assumption);obtain ⟨a6, a8, b1⟩ := Kd.at_int b0.out a0 a2 a4
         cases a8;replace a2 := eq_true a2;replace a4 := eq_true a4;have a3 : 0 ≤ (a1 : Int) := of_decide_eq_true (by first | (with_reducible assumption) | assumption);have a5 : a1 < (l0.length : Int) := of_decide_eq_true (by first | (with_reducible assumption) | assumption);obtain ⟨a7, a9, b2⟩ := Kd.at_int b0.out a1 a3 a5;obtain rfl : a6 = a7 := (by injection a9)
         replace a3 := eq_true a3;replace a5 := eq_true a5;go_wp2
         repeat (go_quiet (fail); try go_wp2)
         go_ret
         exact ⟨by first | rfl | (simp; done) | (simp [*]; done), by repeat (first | exact Drawn0.refl _ | apply Drawn0.step)⟩
        ·rw [if_neg c8] at H;have c8b0 : ((rd l0 a0) == (rd l0 a1)) = false := beq_eq_false_iff_ne.mpr c8;have c8b1 : ((rd l0 a0) != (rd l0 a1)) = true := bne_iff_ne.mpr c8;have H' := Aside0.mk H;clear H;have a2 : 0 ≤ (a0 : Int) := of_decide_eq_true (by first | (with_reducible assumption) | assumption);have a4 : a0 < (l0.length : Int) := of_decide_eq_true (by first | (with_reducible assumption) | assumption);obtain ⟨a6, a8, b1⟩ := Kd.at_int b0.out a0 a2 a4
         cases a8;replace a2 := eq_true a2;replace a4 := eq_true a4;have a3 : 0 ≤ (a1 : Int) := of_decide_eq_true (by first | (with_reducible assumption) | assumption);have a5 : a1 < (l0.length : Int) := of_decide_eq_true (by first | (with_reducible assumption) | assumption);obtain ⟨a7, a9, b2⟩ := Kd.at_int b0.out a1 a3 a5;obtain rfl : a6 = a7 := (by injection a9)
         replace a3 := eq_true a3;replace a5 := eq_true a5;go_wp2
         repeat (go_quiet (fail); try go_wp2)
         go_roundg k1
         case measure => have := b3.out; omega
         case rel => exact ⟨(wrap64 (a0 + 1)), (by first | rfl | (simp; done) | (simp [*]; done)), H', ⟨by have := b3.out; omega⟩, by repeat (first | exact Drawn0.refl _ | apply Drawn0.step)⟩
       ·rw [if_neg c7] at H;exact absurd H (by simp)
      ·rw [if_neg c6] at H;exact absurd H (by simp)
     ·rw [if_neg c5] at H;exact absurd H (by simp)
    ·rw [if_neg c4] at H;exact absurd H (by simp)
   ·rw [if_neg c3] at H;have c3b0 : decide (a0 < a1) = false := decide_eq_false c3;clear c3;obtain rfl := Option.some.inj H;go_wp2
    repeat (go_quiet (fail); try go_wp2)
    go_ret
    exact ⟨by first | rfl | (simp; done) | (simp [*]; done), by repeat (first | exact Drawn0.refl _ | apply Drawn0.step)⟩
def Pr31a.l0 : Nat → List Int → Int → Int → Option (Int)
 | 0, _, _, _ => none
 | k + 1, x0, x3, x4 => if x4 < (x0.length : Int) then ((Pr31b.f k x0 x4).bind fun t103 => (if t103 = x4 then (Pr31a.l0 k x0 (wrap64 (x3 + 1)) (wrap64 (x4 + 1))) else (Pr31a.l0 k x0 x3 (wrap64 (x4 + 1))))) else (some x3)
def Pr31a.f (k : Nat) (l0 : List Int) : Option (Int) := Pr31a.l0 k l0 0 0
theorem Pr31a.mono_l : ∀ k, (∀ y0 y1 y2, LeO (Pr31a.l0 k y0 y1 y2) (Pr31a.l0 (k + 1) y0 y1 y2))
 | 0 => fun _ _ _ r h => by simp [Pr31a.l0] at h
 | k + 1 => by
  have ih0 := Pr31a.mono_l k
  ·intro y0 y1 y2
   unfold Pr31a.l0
   repeat' first
   | (with_reducible exact ih0 _ _ _)
   | (with_reducible exact Pr31b.mono _ _ _)
   | (with_reducible exact LeO.refl _)
   | (with_reducible exact LeO.none _)
   | (with_reducible refine LeO.ite ?_ ?_)
   | (with_reducible refine LeO.bind ?_ (fun _ => ?_))
   | exact ih0 _ _ _
   | exact Pr31b.mono _ _ _
   | exact LeO.none _
   | refine LeO.ite ?_ ?_
   | refine LeO.bind ?_ (fun _ => ?_)
theorem Pr31a.mono : ∀ a0 k, LeO (Pr31a.f k a0) (Pr31a.f (k + 1) a0) := by
 intro a0 k
 have ih0 := Pr31a.mono_l k
 unfold Pr31a.f
 repeat' first
   | (with_reducible exact ih0 _ _ _)
   | (with_reducible exact Pr31b.mono _ _ _)
   | (with_reducible exact LeO.refl _)
   | (with_reducible exact LeO.none _)
   | (with_reducible refine LeO.ite ?_ ?_)
   | (with_reducible refine LeO.bind ?_ (fun _ => ?_))
   | exact ih0 _ _ _
   | exact Pr31b.mono _ _ _
   | exact LeO.none _
   | refine LeO.ite ?_ ?_
   | refine LeO.bind ?_ (fun _ => ?_)
set_option maxHeartbeats 8000000 in
set_option maxRecDepth 100000 in
theorem Pr31a.calls (k : Nat) (A0 : Option Addr) (c0 : Nat) (l0 : List Int) (r : Int) (w : World) (hr0 : Kd.C (Kd.int .i64) w A0 l0.length l0) (hc0 : l0.length ≤ c0) (h : Pr31a.f k l0 = some r) :
  Calls Try.prog 50 #[.slice A0 l0.length c0] w fun e w' => e = .returned (.int .i64 r) ∧ Drawn0 w w' := by
 have a8 := Aside0.mk hr0;have a7 := Aside0.mk hc0;clear hr0 hc0;have H : (Pr31a.l0 k l0 0 0) = some r := h;clear h;have H' := Aside0.mk H;clear H;go_enter Try.func50, Try.ntmps50
 go_wp2
 go_loopg [3, 4] k (fun kq v3 v4 w' => ∃ (a2 : Int) (a0 : Int), v3 = .int .i64 a2 ∧ v4 = .int .i64 a0 ∧ Aside0 (Pr31a.l0 kq l0 a2 a0 = some r) ∧ Aside0 (kq ≤ k) ∧ Drawn0 w w')
 case atStart => exact ⟨(0), (0), (by first | rfl | (simp; done) | (simp [*]; done)), (by first | rfl | (simp; done) | (simp [*]; done)), H', ⟨Nat.le_refl _⟩, by repeat (first | exact Drawn0.refl _ | apply Drawn0.step)⟩
 case round =>
  clear H';obtain ⟨a2, a0, rfl, rfl, HA, a3, ⟨m1, rfl⟩⟩ := hrel
  cases gk with
  | zero => exact absurd HA.out (by simp [Pr31a.l0])
  | succ k1 =>
   have H := HA.out;clear HA;simp only [Pr31a.l0] at H;by_cases c2 : a0 < (l0.length : Int)
   ·rw [if_pos c2] at H;have c2b0 : decide (a0 < (l0.length : Int)) = true := decide_eq_true c2;clear c2;replace H := Option.bind_eq_some_iff.mp H;obtain ⟨a1, a6, H⟩ := H;replace H : (if a1 = a0 then (Pr31a.l0 k1 l0 (wrap64 (a2 + 1)) (wrap64 (a0 + 1))) else (Pr31a.l0 k1 l0 a2 (wrap64 (a0 + 1)))) = some r := H;have A3 := Aside0.mk a6;clear a6;by_cases c4 : a1 = a0
    ·rw [if_pos c4] at H;have c4b0 : (a1 == a0) = true := beq_iff_eq.mpr c4;have c4b1 : (a1 != a0) = false := bne_eq_false_iff_eq.mpr c4;clear c4;have H' := Aside0.mk H;clear H;go_wp2_with (first | ((with_reducible refine gate_callee (f := 105) rfl ?_); refine goesL_ (some 13) rfl rfl Try.func105 (by kernel_rfl) rfl #[.slice A0 l0.length c0, .int .i64 a0] rfl (by (try simp only [List.map_toArray, List.map_cons, List.map_nil]); first | done | rfl | (simp only [List.length_drop, List.length_take]; rfl)) ?_; (with_reducible refine (Pr31b.calls k1 _ _ l0 a0 a1 _ ?a4 ?a5 A3.out).mono ?_); (case a4 => repeat (first | exact a8.out | (with_reducible refine Kd.C_alloc ?_ _) | (with_reducible refine Kd.C_drewN ?_ _) | (with_reducible refine Kd.C_drew ?_))); (case a5 => exact a7.out); rintro e w' ⟨rfl, ⟨nd, rfl⟩⟩; refine ⟨_, rfl, ?_⟩))
     go_roundg k1
     case measure => have := a3.out; omega
     case rel => exact ⟨(wrap64 (a2 + 1)), (wrap64 (a0 + 1)), (by first | rfl | (simp; done) | (simp [*]; done)), (by first | rfl | (simp; done) | (simp [*]; done)), H', ⟨by have := a3.out; omega⟩, by repeat (first | exact Drawn0.refl _ | apply Drawn0.step)⟩
    ·rw [if_neg c4] at H;have c4b0 : (a1 == a0) = false := beq_eq_false_iff_ne.mpr c4;have c4b1 : (a1 != a0) = true := bne_iff_ne.mpr c4;have H' := Aside0.mk H;clear H;go_wp2_with (first | ((with_reducible refine gate_callee (f := 105) rfl ?_); refine goesL_ (some 13) rfl rfl Try.func105 (by kernel_rfl) rfl #[.slice A0 l0.length c0, .int .i64 a0] rfl (by (try simp only [List.map_toArray, List.map_cons, List.map_nil]); first | done | rfl | (simp only [List.length_drop, List.length_take]; rfl)) ?_; (with_reducible refine (Pr31b.calls k1 _ _ l0 a0 a1 _ ?a4 ?a5 A3.out).mono ?_); (case a4 => repeat (first | exact a8.out | (with_reducible refine Kd.C_alloc ?_ _) | (with_reducible refine Kd.C_drewN ?_ _) | (with_reducible refine Kd.C_drew ?_))); (case a5 => exact a7.out); rintro e w' ⟨rfl, ⟨nd, rfl⟩⟩; refine ⟨_, rfl, ?_⟩))
     go_roundg k1
     case measure => have := a3.out; omega
     case rel => exact ⟨(a2), (wrap64 (a0 + 1)), (by first | rfl | (simp; done) | (simp [*]; done)), (by first | rfl | (simp; done) | (simp [*]; done)), H', ⟨by have := a3.out; omega⟩, by repeat (first | exact Drawn0.refl _ | apply Drawn0.step)⟩
   ·rw [if_neg c2] at H;have c2b0 : decide (a0 < (l0.length : Int)) = false := decide_eq_false c2;clear c2;obtain rfl := Option.some.inj H;go_wp2
    go_ret
    exact ⟨by first | rfl | (simp; done) | (simp [*]; done), by repeat (first | exact Drawn0.refl _ | apply Drawn0.step)⟩
mutual
def Pr31c.l0 : Nat → List Int → List Int → Int → Option (List Int)
 | 0, _, _, _ => none
 | k + 1, x0, x3, x4 => if x4 < (x0.length : Int) then ((Pr31b.f k x0 x4).bind fun t107 => (Pr31c.l1 k x0 x3 x4 t107 0 0)) else (some x3)
def Pr31c.l1 : Nat → List Int → List Int → Int → Int → Int → Int → Option (List Int)
 | 0, _, _, _, _, _, _ => none
 | k + 1, x0, x3, x4, x5, x6, x7 => if x7 < x5 then ((Pr31b.f k x0 x7).bind fun t108 => (if t108 = x7 then (Pr31c.l1 k x0 x3 x4 x5 (wrap64 (x6 + 1)) (wrap64 (x7 + 1))) else (Pr31c.l1 k x0 x3 x4 x5 x6 (wrap64 (x7 + 1))))) else (if x3.length < 17592186044416 then (Pr31c.l0 k x0 (x3 ++ [x6]) (wrap64 (x4 + 1))) else (none))
end
def Pr31c.f (k : Nat) (l0 : List Int) : Option (List Int) := Pr31c.l0 k l0 (([] : List Int)) 0
theorem Pr31c.mono_l : ∀ k, (∀ y0 y1 y2, LeO (Pr31c.l0 k y0 y1 y2) (Pr31c.l0 (k + 1) y0 y1 y2)) ∧ (∀ y0 y1 y2 y3 y4 y5, LeO (Pr31c.l1 k y0 y1 y2 y3 y4 y5) (Pr31c.l1 (k + 1) y0 y1 y2 y3 y4 y5))
 | 0 => ⟨fun _ _ _ r h => by simp [Pr31c.l0] at h, fun _ _ _ _ _ _ r h => by simp [Pr31c.l1] at h⟩
 | k + 1 => by
  obtain ⟨ih0, ih1⟩ := Pr31c.mono_l k
  refine ⟨?_, ?_⟩
  ·intro y0 y1 y2
   unfold Pr31c.l0
   repeat' first
   | (with_reducible exact ih0 _ _ _)
   | (with_reducible exact ih1 _ _ _ _ _ _)
   | (with_reducible exact Pr31b.mono _ _ _)
   | (with_reducible exact LeO.refl _)
   | (with_reducible exact LeO.none _)
   | (with_reducible refine LeO.ite ?_ ?_)
   | (with_reducible refine LeO.bind ?_ (fun _ => ?_))
   | exact ih0 _ _ _
   | exact ih1 _ _ _ _ _ _
   | exact Pr31b.mono _ _ _
   | exact LeO.none _
   | refine LeO.ite ?_ ?_
   | refine LeO.bind ?_ (fun _ => ?_)
  ·intro y0 y1 y2 y3 y4 y5
   unfold Pr31c.l1
   repeat' first
   | (with_reducible exact ih0 _ _ _)
   | (with_reducible exact ih1 _ _ _ _ _ _)
   | (with_reducible exact Pr31b.mono _ _ _)
   | (with_reducible exact LeO.refl _)
   | (with_reducible exact LeO.none _)
   | (with_reducible refine LeO.ite ?_ ?_)
   | (with_reducible refine LeO.bind ?_ (fun _ => ?_))
   | exact ih0 _ _ _
   | exact ih1 _ _ _ _ _ _
   | exact Pr31b.mono _ _ _
   | exact LeO.none _
   | refine LeO.ite ?_ ?_
   | refine LeO.bind ?_ (fun _ => ?_)
theorem Pr31c.mono : ∀ a0 k, LeO (Pr31c.f k a0) (Pr31c.f (k + 1) a0) := by
 intro a0 k
 obtain ⟨ih0, ih1⟩ := Pr31c.mono_l k
 unfold Pr31c.f
 repeat' first
   | (with_reducible exact ih0 _ _ _)
   | (with_reducible exact ih1 _ _ _ _ _ _)
   | (with_reducible exact Pr31b.mono _ _ _)
   | (with_reducible exact LeO.refl _)
   | (with_reducible exact LeO.none _)
   | (with_reducible refine LeO.ite ?_ ?_)
   | (with_reducible refine LeO.bind ?_ (fun _ => ?_))
   | exact ih0 _ _ _
   | exact ih1 _ _ _ _ _ _
   | exact Pr31b.mono _ _ _
   | exact LeO.none _
   | refine LeO.ite ?_ ?_
   | refine LeO.bind ?_ (fun _ => ?_)
set_option maxHeartbeats 8000000 in
set_option maxRecDepth 100000 in
theorem Pr31c.calls (k : Nat) (A0 : Option Addr) (c0 : Nat) (l0 : List Int) (r : List Int) (w : World) (hr0 : Kd.C (Kd.int .i64) w A0 l0.length l0) (hc0 : l0.length ≤ c0) (h : Pr31c.f k l0 = some r) :
  Calls Try.prog 64 #[.slice A0 l0.length c0] w fun e w' => ∃ v0_ : Value, e = .returned (v0_) ∧ Kd.R (Kd.int .i64) 3 w' w.heap.size (fun _ => True) v0_ r ∧ Below w.heap.size w w' := by
 have b9 := Aside0.mk hr0;have b8 := Aside0.mk hc0;clear hr0 hc0;have HB := Aside0.mk (Below.refl w.heap.size w);have H : (Pr31c.l0 k l0 (([] : List Int)) 0) = some r := h;clear h;obtain ⟨d0, a7⟩ : ∃ y_ : List Int, y_ = (([] : List Int)) := ⟨_, rfl⟩
 replace H : (Pr31c.l0 k l0 d0 0) = some r := by first | (rw [a7]; with_reducible exact H) | (have a9 := (Option.bind_some _ _).symm.trans H; rw [a7]; with_reducible exact a9) | (have a9 := (Option.bind_some _ _).symm.trans H; with_reducible exact a9) | with_reducible exact H | (rw [a7]; exact H) | exact H
 have b5 := Aside0.mk a7;clear a7;have H' := Aside0.mk H;clear H;go_enter Try.func64, Try.ntmps64
 go_wp2_with (first | ((with_reducible refine gate_dst (N := 8) rfl ?_); refine Kd.R_lit (Kd.int .i64) _ 3 ?hg (N := 8) ?hd (xs := ([] : List Int)) (inner := []) (ok := fun _ => True) (okp := fun _ => True) ?hr ?hp (fun _ hk => hk) trivial (Below.refl _ _) (Nat.le_refl _) (by simp) ?_; (case hd => rfl); (case hg => rfl); (case hr => first | (go_simp; done) | (go_simp; rfl)); (case hp => exact (Reps.none _ _)); intro d8 w2 b2 hb hg_ hnew_; clear hg_ hnew_; (first | rw [← b5.out] at b2 | (simp only [Int.reduceToNat] at b2; rw [← b5.out] at b2)); have b3 := Aside0.mk (Kd.R_lower b2 (below_size (wz HB.out))); have b4 := Aside0.mk (below_step (wz HB.out) hb); clear HB; have d2 := b3; have HB := b4; clear b3 b4 hb b2))
 go_loopg [3, 4] k (fun kq v3 v4 w' => ∃ (a2 : List Int) (a1 : Int), v4 = .int .i64 a1 ∧ Aside0 (Pr31c.l0 kq l0 a2 a1 = some r) ∧ Aside0 (kq ≤ k) ∧ Aside0 (Kd.R (Kd.int .i64) 3 w' w.heap.size (fun _ => True) v3 a2) ∧ Aside0 (Below w.heap.size w w'))
 case atStart => exact ⟨(d0), (0), (by first | rfl | (simp; done) | (simp [*]; done)), H', ⟨Nat.le_refl _⟩, ⟨rz d2.out⟩, ⟨wz HB.out⟩⟩
 case round =>
  clear H';obtain ⟨a2, a1, rfl, HA, b0, a6, HB⟩ := hrel
  cases gk with
  | zero => exact absurd HA.out (by simp [Pr31c.l0])
  | succ k1 =>
   have H := HA.out;clear HA;simp only [Pr31c.l0] at H;by_cases c4 : a1 < (l0.length : Int)
   ·rw [if_pos c4] at H;have c4b0 : decide (a1 < (l0.length : Int)) = true := decide_eq_true c4;clear c4;replace H := Option.bind_eq_some_iff.mp H;obtain ⟨a4, d5, H⟩ := H;replace H : (Pr31c.l1 k1 l0 a2 a1 a4 0 0) = some r := H;have A5 := Aside0.mk d5;clear d5;have H' := Aside0.mk H;clear H;go_wp2_with (first | ((with_reducible refine gate_callee (f := 105) rfl ?_); refine goesL_ (some 17) rfl rfl Try.func105 (by kernel_rfl) rfl #[.slice A0 l0.length c0, .int .i64 a1] rfl (by (try simp only [List.map_toArray, List.map_cons, List.map_nil]); first | done | rfl | (simp only [List.length_drop, List.length_take]; rfl)) ?_; (with_reducible refine (Pr31b.calls k1 _ _ l0 a1 a4 _ ?b6 ?b7 A5.out).mono ?_); (case b6 => exact cz b9.out HB.out); (case b7 => exact b8.out); rintro e w' ⟨rfl, ⟨nd, rfl⟩⟩; refine ⟨_, rfl, ?_⟩))
    go_loopg [6, 7] k1 (fun kq v6 v7 w' => ∃ (a3 : Int) (a0 : Int), v6 = .int .i64 a3 ∧ v7 = .int .i64 a0 ∧ Aside0 (Pr31c.l1 kq l0 a2 a1 a4 a3 a0 = some r) ∧ Aside0 (kq ≤ k1) ∧ Aside0 (Kd.R (Kd.int .i64) 3 w' w.heap.size (fun _ => True) u3 a2) ∧ Aside0 (Below w.heap.size w w'))
    case atStart => exact ⟨(0), (0), (by first | rfl | (simp; done) | (simp [*]; done)), (by first | rfl | (simp; done) | (simp [*]; done)), H', ⟨Nat.le_refl _⟩, ⟨rz a6.out⟩, ⟨wz HB.out⟩⟩
    case round =>
     clear H';(try clear c4);(try clear c4b0);obtain ⟨a3, a0, rfl, rfl, HA, b1, a6, HB⟩ := hrel
     cases gk with
     | zero => exact absurd HA.out (by simp [Pr31c.l1])
     | succ k2 =>
      have H := HA.out;clear HA;simp only [Pr31c.l1] at H;by_cases c6 : a0 < a4
      ·rw [if_pos c6] at H;have c6b0 : decide (a0 < a4) = true := decide_eq_true c6;clear c6;replace H := Option.bind_eq_some_iff.mp H;obtain ⟨a5, d6, H⟩ := H;replace H : (if a5 = a0 then (Pr31c.l1 k2 l0 a2 a1 a4 (wrap64 (a3 + 1)) (wrap64 (a0 + 1))) else (Pr31c.l1 k2 l0 a2 a1 a4 a3 (wrap64 (a0 + 1)))) = some r := H;have A7 := Aside0.mk d6;clear d6;by_cases c8 : a5 = a0
       ·rw [if_pos c8] at H;have c8b0 : (a5 == a0) = true := beq_iff_eq.mpr c8;have c8b1 : (a5 != a0) = false := bne_eq_false_iff_eq.mpr c8;clear c8;have H' := Aside0.mk H;clear H;go_wp2_with (first | ((with_reducible refine gate_callee (f := 105) rfl ?_); refine goesL_ (some 25) rfl rfl Try.func105 (by kernel_rfl) rfl #[.slice A0 l0.length c0, .int .i64 a0] rfl (by (try simp only [List.map_toArray, List.map_cons, List.map_nil]); first | done | rfl | (simp only [List.length_drop, List.length_take]; rfl)) ?_; (with_reducible refine (Pr31b.calls k2 _ _ l0 a0 a5 _ ?b6 ?b7 A7.out).mono ?_); (case b6 => exact cz b9.out HB.out); (case b7 => exact b8.out); rintro e w' ⟨rfl, ⟨nd, rfl⟩⟩; refine ⟨_, rfl, ?_⟩))
        go_roundg k2
        case measure => have := b0.out; have := b1.out; omega
        case rel => exact ⟨(wrap64 (a3 + 1)), (wrap64 (a0 + 1)), (by first | rfl | (simp; done) | (simp [*]; done)), (by first | rfl | (simp; done) | (simp [*]; done)), H', ⟨by have := b0.out; have := b1.out; omega⟩, ⟨rz a6.out⟩, ⟨wz HB.out⟩⟩
       ·rw [if_neg c8] at H;have c8b0 : (a5 == a0) = false := beq_eq_false_iff_ne.mpr c8;have c8b1 : (a5 != a0) = true := bne_iff_ne.mpr c8;have H' := Aside0.mk H;clear H;go_wp2_with (first | ((with_reducible refine gate_callee (f := 105) rfl ?_); refine goesL_ (some 25) rfl rfl Try.func105 (by kernel_rfl) rfl #[.slice A0 l0.length c0, .int .i64 a0] rfl (by (try simp only [List.map_toArray, List.map_cons, List.map_nil]); first | done | rfl | (simp only [List.length_drop, List.length_take]; rfl)) ?_; (with_reducible refine (Pr31b.calls k2 _ _ l0 a0 a5 _ ?b6 ?b7 A7.out).mono ?_); (case b6 => exact cz b9.out HB.out); (case b7 => exact b8.out); rintro e w' ⟨rfl, ⟨nd, rfl⟩⟩; refine ⟨_, rfl, ?_⟩))
        go_roundg k2
        case measure => have := b0.out; have := b1.out; omega
        case rel => exact ⟨(a3), (wrap64 (a0 + 1)), (by first | rfl | (simp; done) | (simp [*]; done)), (by first | rfl | (simp; done) | (simp [*]; done)), H', ⟨by have := b0.out; have := b1.out; omega⟩, ⟨rz a6.out⟩, ⟨wz HB.out⟩⟩
      ·rw [if_neg c6] at H;have c6b0 : decide (a0 < a4) = false := decide_eq_false c6;clear c6;by_cases c9 : a2.length < 17592186044416
       ·rw [if_pos c9] at H;have d7 := Aside0.mk c9;clear c9;obtain ⟨d1, a8⟩ : ∃ y_ : List Int, y_ = (a2 ++ [a3]) := ⟨_, rfl⟩
        replace H : (Pr31c.l0 k2 l0 d1 (wrap64 (a1 + 1))) = some r := by first | (rw [a8]; with_reducible exact H) | (have a9 := (Option.bind_some _ _).symm.trans H; rw [a8]; with_reducible exact a9) | (have a9 := (Option.bind_some _ _).symm.trans H; with_reducible exact a9) | with_reducible exact H | (rw [a8]; exact H) | exact H
        have d4 := Aside0.mk a8;clear a8;have H' := Aside0.mk H;clear H;go_wp2_with (first | ((with_reducible refine gate_builtin (b := .append) (xs := #[.tmp 30, .tmp 32]) rfl ?_); at_builtin; refine Kd.R_append (Kd.int .i64) (w0 := w) w.heap.size rfl (.tmp 30) (.tmp 32) 28 3 (.int .i64 0) 8 rfl Try.underlying28 info3 rfl (by decide) (by omega) u3 a2 a3 [.int .i64 a3] (fun _ => True) (fun _ => False) rfl rfl ?aP (fun _ hk => hk.elim) ?aF ?aO ?aB ?aS ?aL ?_; (case aP => exact rfl); (case aB => exact (wz HB.out)); (case aF => exact (fun _ _ => trivial)); (case aO => exact (rz a6.out)); (case aS => exact (below_size (wz HB.out))); (case aL => have := d7.out; omega); intro d9 e0 ho hb hg hat; rw [← d4.out] at ho; have b3 := Aside0.mk (hb); have b4 := Aside0.mk (ho); clear HB a6; have HB := b3; have d3 := b4; clear b3 b4 ho hb hg hat))
        go_roundg k2
        case measure => have := b0.out; have := b1.out; omega
        case rel => exact ⟨(d1), (wrap64 (a1 + 1)), (by first | rfl | (simp; done) | (simp [*]; done)), H', ⟨by have := b0.out; have := b1.out; omega⟩, ⟨rz d3.out⟩, ⟨wz HB.out⟩⟩
       ·rw [if_neg c9] at H;exact absurd H (by simp)
   ·rw [if_neg c4] at H;have c4b0 : decide (a1 < (l0.length : Int)) = false := decide_eq_false c4;clear c4;obtain rfl := Option.some.inj H;go_wp2
    go_ret
    exact ⟨_, by first | rfl | (simp [errW_none, errW_some] <;> rfl) | (simp [*, errW_none, errW_some] <;> rfl), rz a6.out, wz HB.out⟩
mutual
def Pr36a.l0 : Nat → List Int → Int → Int → Int → List ByteArray → List (S80) → Int → List ByteArray → List (S80) → Option (Int × List ByteArray × (List (S80)))
 | 0, _, _, _, _, _, _, _, _, _ => none
 | k + 1, x1, x5, x7, x113000, x113001, x113002, x119000, x119001, x119002 => if x7 < x5 then (Pr36a.l1 k x1 x5 x7 0 x113000 x113001 x113002 x119000 x119001 x119002) else (some (x119000, x119001, x119002))
def Pr36a.l1 : Nat → List Int → Int → Int → Int → Int → List ByteArray → List (S80) → Int → List ByteArray → List (S80) → Option (Int × List ByteArray × (List (S80)))
 | 0, _, _, _, _, _, _, _, _, _, _ => none
 | k + 1, x1, x5, x7, x8, x113000, x113001, x113002, x119000, x119001, x119002 => if x8 < (x113001.length : Int) then (Pr36a.l2 k x1 x5 x7 x8 0 x113000 x113001 x113002 x119000 x119001 x119002) else (Pr36a.l0 k x1 x5 (wrap64 (x7 + 1)) x113000 x113001 x113002 x119000 x119001 x119002)
def Pr36a.l2 : Nat → List Int → Int → Int → Int → Int → Int → List ByteArray → List (S80) → Int → List ByteArray → List (S80) → Option (Int × List ByteArray × (List (S80)))
 | 0, _, _, _, _, _, _, _, _, _, _, _ => none
 | k + 1, x1, x5, x7, x8, x9, x113000, x113001, x113002, x119000, x119001, x119002 => if x9 < x5 then (Pr36a.l3 k x1 x5 x7 x8 x9 false 0 x113000 x113001 x113002 x119000 x119001 x119002) else (Pr36a.l1 k x1 x5 x7 (wrap64 (x8 + 1)) x113000 x113001 x113002 x119000 x119001 x119002)
def Pr36a.l3 : Nat → List Int → Int → Int → Int → Int → Bool → Int → Int → List ByteArray → List (S80) → Int → List ByteArray → List (S80) → Option (Int × List ByteArray × (List (S80)))
 | 0, _, _, _, _, _, _, _, _, _, _, _, _, _ => none
 | k + 1, x1, x5, x7, x8, x9, x10, x11, x113000, x113001, x113002, x119000, x119001, x119002 => if x11 < (x113002.length : Int) then (if 0 ≤ x11 then (if x10 = true then (Pr36a.l3 k x1 x5 x7 x8 x9 true (wrap64 (x11 + 1)) x113000 x113001 x113002 x119000 x119001 x119002) else (if ((rd_T80 x113002 x11).f1) = x8 then (if 0 ≤ ((rd_T80 x113002 x11).f0) then (if ((rd_T80 x113002 x11).f0) < (x1.length : Int) then (if (rd x1 ((rd_T80 x113002 x11).f0)) = x7 then (if 0 ≤ ((rd_T80 x113002 x11).f2) then (if ((rd_T80 x113002 x11).f2) < (x1.length : Int) then (Pr36a.l3 k x1 x5 x7 x8 x9 ((rd x1 ((rd_T80 x113002 x11).f2)) == x9) (wrap64 (x11 + 1)) x113000 x113001 x113002 x119000 x119001 x119002) else (none)) else (none)) else (Pr36a.l3 k x1 x5 x7 x8 x9 false (wrap64 (x11 + 1)) x113000 x113001 x113002 x119000 x119001 x119002)) else (none)) else (none)) else (Pr36a.l3 k x1 x5 x7 x8 x9 false (wrap64 (x11 + 1)) x113000 x113001 x113002 x119000 x119001 x119002))) else (none)) else (if x10 = true then (if x119002.length < 5864062014805 then (Pr36a.l2 k x1 x5 x7 x8 (wrap64 (x9 + 1)) x113000 x113001 x113002 x119000 x119001 (x119002 ++ [(⟨x7, x8, x9⟩ : S80)])) else (none)) else (Pr36a.l2 k x1 x5 x7 x8 (wrap64 (x9 + 1)) x113000 x113001 x113002 x119000 x119001 x119002))
end
def Pr36a.f (k : Nat) (a0_0 : Int) (l0_1 : List ByteArray) (l0_2 : List (S80)) (l1 : List Int) : Option (Int × List ByteArray × (List (S80))) := (Pr31c.f k l1).bind fun t114 => ((Pr31a.f k t114).bind fun t117 => (Pr36a.l0 k t114 t117 0 a0_0 l0_1 l0_2 t117 l0_1 ([] : List (S80))))
theorem Pr36a.mono_l : ∀ k, (∀ y0 y1 y2 y3 y4 y5 y6 y7 y8, LeO (Pr36a.l0 k y0 y1 y2 y3 y4 y5 y6 y7 y8) (Pr36a.l0 (k + 1) y0 y1 y2 y3 y4 y5 y6 y7 y8)) ∧ (∀ y0 y1 y2 y3 y4 y5 y6 y7 y8 y9, LeO (Pr36a.l1 k y0 y1 y2 y3 y4 y5 y6 y7 y8 y9) (Pr36a.l1 (k + 1) y0 y1 y2 y3 y4 y5 y6 y7 y8 y9)) ∧ (∀ y0 y1 y2 y3 y4 y5 y6 y7 y8 y9 y10, LeO (Pr36a.l2 k y0 y1 y2 y3 y4 y5 y6 y7 y8 y9 y10) (Pr36a.l2 (k + 1) y0 y1 y2 y3 y4 y5 y6 y7 y8 y9 y10)) ∧ (∀ y0 y1 y2 y3 y4 y5 y6 y7 y8 y9 y10 y11 y12, LeO (Pr36a.l3 k y0 y1 y2 y3 y4 y5 y6 y7 y8 y9 y10 y11 y12) (Pr36a.l3 (k + 1) y0 y1 y2 y3 y4 y5 y6 y7 y8 y9 y10 y11 y12))
 | 0 => ⟨fun _ _ _ _ _ _ _ _ _ r h => by simp [Pr36a.l0] at h, fun _ _ _ _ _ _ _ _ _ _ r h => by simp [Pr36a.l1] at h, fun _ _ _ _ _ _ _ _ _ _ _ r h => by simp [Pr36a.l2] at h, fun _ _ _ _ _ _ _ _ _ _ _ _ _ r h => by simp [Pr36a.l3] at h⟩
 | k + 1 => by
  obtain ⟨ih0, ih1, ih2, ih3⟩ := Pr36a.mono_l k
  refine ⟨?_, ?_, ?_, ?_⟩
  ·intro y0 y1 y2 y3 y4 y5 y6 y7 y8
   unfold Pr36a.l0
   repeat' first
   | (with_reducible exact ih0 _ _ _ _ _ _ _ _ _)
   | (with_reducible exact ih1 _ _ _ _ _ _ _ _ _ _)
   | (with_reducible exact ih2 _ _ _ _ _ _ _ _ _ _ _)
   | (with_reducible exact ih3 _ _ _ _ _ _ _ _ _ _ _ _ _)
   | (with_reducible exact Pr31a.mono _ _)
   | (with_reducible exact Pr31c.mono _ _)
   | (with_reducible exact LeO.refl _)
   | (with_reducible exact LeO.none _)
   | (with_reducible refine LeO.ite ?_ ?_)
   | (with_reducible refine LeO.bind ?_ (fun _ => ?_))
   | exact ih0 _ _ _ _ _ _ _ _ _
   | exact ih1 _ _ _ _ _ _ _ _ _ _
   | exact ih2 _ _ _ _ _ _ _ _ _ _ _
   | exact ih3 _ _ _ _ _ _ _ _ _ _ _ _ _
   | exact Pr31a.mono _ _
   | exact Pr31c.mono _ _
   | exact LeO.none _
   | refine LeO.ite ?_ ?_
   | refine LeO.bind ?_ (fun _ => ?_)
  ·intro y0 y1 y2 y3 y4 y5 y6 y7 y8 y9
   unfold Pr36a.l1
   repeat' first
   | (with_reducible exact ih0 _ _ _ _ _ _ _ _ _)
   | (with_reducible exact ih1 _ _ _ _ _ _ _ _ _ _)
   | (with_reducible exact ih2 _ _ _ _ _ _ _ _ _ _ _)
   | (with_reducible exact ih3 _ _ _ _ _ _ _ _ _ _ _ _ _)
   | (with_reducible exact Pr31a.mono _ _)
   | (with_reducible exact Pr31c.mono _ _)
   | (with_reducible exact LeO.refl _)
   | (with_reducible exact LeO.none _)
   | (with_reducible refine LeO.ite ?_ ?_)
   | (with_reducible refine LeO.bind ?_ (fun _ => ?_))
   | exact ih0 _ _ _ _ _ _ _ _ _
   | exact ih1 _ _ _ _ _ _ _ _ _ _
   | exact ih2 _ _ _ _ _ _ _ _ _ _ _
   | exact ih3 _ _ _ _ _ _ _ _ _ _ _ _ _
   | exact Pr31a.mono _ _
   | exact Pr31c.mono _ _
   | exact LeO.none _
   | refine LeO.ite ?_ ?_
   | refine LeO.bind ?_ (fun _ => ?_)
  ·intro y0 y1 y2 y3 y4 y5 y6 y7 y8 y9 y10
   unfold Pr36a.l2
   repeat' first
   | (with_reducible exact ih0 _ _ _ _ _ _ _ _ _)
   | (with_reducible exact ih1 _ _ _ _ _ _ _ _ _ _)
   | (with_reducible exact ih2 _ _ _ _ _ _ _ _ _ _ _)
   | (with_reducible exact ih3 _ _ _ _ _ _ _ _ _ _ _ _ _)
   | (with_reducible exact Pr31a.mono _ _)
   | (with_reducible exact Pr31c.mono _ _)
   | (with_reducible exact LeO.refl _)
   | (with_reducible exact LeO.none _)
   | (with_reducible refine LeO.ite ?_ ?_)
   | (with_reducible refine LeO.bind ?_ (fun _ => ?_))
   | exact ih0 _ _ _ _ _ _ _ _ _
   | exact ih1 _ _ _ _ _ _ _ _ _ _
   | exact ih2 _ _ _ _ _ _ _ _ _ _ _
   | exact ih3 _ _ _ _ _ _ _ _ _ _ _ _ _
   | exact Pr31a.mono _ _
   | exact Pr31c.mono _ _
   | exact LeO.none _
   | refine LeO.ite ?_ ?_
   | refine LeO.bind ?_ (fun _ => ?_)
  ·intro y0 y1 y2 y3 y4 y5 y6 y7 y8 y9 y10 y11 y12
   unfold Pr36a.l3
   repeat' first
   | (with_reducible exact ih0 _ _ _ _ _ _ _ _ _)
   | (with_reducible exact ih1 _ _ _ _ _ _ _ _ _ _)
   | (with_reducible exact ih2 _ _ _ _ _ _ _ _ _ _ _)
   | (with_reducible exact ih3 _ _ _ _ _ _ _ _ _ _ _ _ _)
   | (with_reducible exact Pr31a.mono _ _)
   | (with_reducible exact Pr31c.mono _ _)
   | (with_reducible exact LeO.refl _)
   | (with_reducible exact LeO.none _)
   | (with_reducible refine LeO.ite ?_ ?_)
   | (with_reducible refine LeO.bind ?_ (fun _ => ?_))
   | exact ih0 _ _ _ _ _ _ _ _ _
   | exact ih1 _ _ _ _ _ _ _ _ _ _
   | exact ih2 _ _ _ _ _ _ _ _ _ _ _
   | exact ih3 _ _ _ _ _ _ _ _ _ _ _ _ _
   | exact Pr31a.mono _ _
   | exact Pr31c.mono _ _
   | exact LeO.none _
   | refine LeO.ite ?_ ?_
   | refine LeO.bind ?_ (fun _ => ?_)
theorem Pr36a.mono : ∀ a0 a1 a2 a3 k, LeO (Pr36a.f k a0 a1 a2 a3) (Pr36a.f (k + 1) a0 a1 a2 a3) := by
 intro a0 a1 a2 a3 k
 obtain ⟨ih0, ih1, ih2, ih3⟩ := Pr36a.mono_l k
 unfold Pr36a.f
 repeat' first
   | (with_reducible exact ih0 _ _ _ _ _ _ _ _ _)
   | (with_reducible exact ih1 _ _ _ _ _ _ _ _ _ _)
   | (with_reducible exact ih2 _ _ _ _ _ _ _ _ _ _ _)
   | (with_reducible exact ih3 _ _ _ _ _ _ _ _ _ _ _ _ _)
   | (with_reducible exact Pr31a.mono _ _)
   | (with_reducible exact Pr31c.mono _ _)
   | (with_reducible exact LeO.refl _)
   | (with_reducible exact LeO.none _)
   | (with_reducible refine LeO.ite ?_ ?_)
   | (with_reducible refine LeO.bind ?_ (fun _ => ?_))
   | exact ih0 _ _ _ _ _ _ _ _ _
   | exact ih1 _ _ _ _ _ _ _ _ _ _
   | exact ih2 _ _ _ _ _ _ _ _ _ _ _
   | exact ih3 _ _ _ _ _ _ _ _ _ _ _ _ _
   | exact Pr31a.mono _ _
   | exact Pr31c.mono _ _
   | exact LeO.none _
   | refine LeO.ite ?_ ?_
   | refine LeO.bind ?_ (fun _ => ?_)
set_option maxHeartbeats 8000000 in
set_option maxRecDepth 100000 in
theorem Pr36a.calls (k : Nat) (a0_0 : Int) (P0_1_ : Nat → Prop) (A0_1 : Option Addr) (c0_1 : Nat) (l0_1 : List ByteArray) (A0_2 : Option Addr) (c0_2 : Nat) (l0_2 : List (S80)) (A1 : Option Addr) (c1 : Nat) (l1 : List Int) (r1 : Int) (r2 : List ByteArray) (r3 : List (S80)) (w0 w : World) (hB : Below w0.heap.size w0 w) (hr0_2 : ∀ W_, Kept w W_ (fun k_ => P0_1_ k_) → Kd.C k80 W_ A0_2 l0_2.length l0_2) (hc0_2 : l0_2.length ≤ c0_2) (hr1 : ∀ W_, Kept w W_ (fun k_ => P0_1_ k_) → Kd.C (Kd.int .i64) W_ A1 l1.length l1) (hc1 : l1.length ≤ c1) (h : Pr36a.f k a0_0 l0_1 l0_2 l1 = some (r1, r2, r3)) :
  Calls Try.prog 48 #[.agg #[.int .i64 a0_0, (.slice A0_1 l0_1.length c0_1), .slice A0_2 l0_2.length c0_2], .slice A1 l1.length c1] w fun e w' => ∃ v2_ : Value, e = .returned (.agg #[.int .i64 r1, .slice A0_1 l0_1.length c0_1, v2_]) ∧ r2 = l0_1 ∧ Kd.R k80 80 w' w0.heap.size (fun k_ => (P0_1_ k_ ∨ w.heap.size ≤ k_)) v2_ r3 ∧ Below w0.heap.size w0 w' ∧ Kept w w' (fun k_ => P0_1_ k_) := by
 have K0 := Try.underlying25;have K1 := Try.underlying80;have g7 := Aside0.mk trivial;have m0 := Aside0.mk hr0_2;have C6 := Aside0.mk hc0_2;clear hr0_2 hc0_2;have B9 := Aside0.mk hr1;have B7 := Aside0.mk hc1;clear hr1 hc1;have HK := Aside0.mk (Kept.refl w (fun k_ => P0_1_ k_));have K4 := Aside0.mk hB.size;have HB := Aside0.mk hB;clear hB;have H : ((Pr31c.f k l1).bind fun b1 => ((Pr31a.f k b1).bind fun a7 => (Pr36a.l0 k b1 a7 0 a0_0 l0_1 l0_2 a7 l0_1 ([] : List (S80))))) = some (r1, r2, r3) := h;clear h;replace H := Option.bind_eq_some_iff.mp H;obtain ⟨b1, q3, H⟩ := H;replace H : ((Pr31a.f k b1).bind fun a7 => (Pr36a.l0 k b1 a7 0 a0_0 l0_1 l0_2 a7 l0_1 ([] : List (S80)))) = some (r1, r2, r3) := H;have A3 := Aside0.mk q3;clear q3;replace H := Option.bind_eq_some_iff.mp H;obtain ⟨a7, q4, H⟩ := H;replace H : (Pr36a.l0 k b1 a7 0 a0_0 l0_1 l0_2 a7 l0_1 ([] : List (S80))) = some (r1, r2, r3) := H;have A4 := Aside0.mk q4;clear q4;have H' := Aside0.mk H;clear H;go_enter Try.func48, Try.ntmps48
 go_wp2_with (first | ((with_reducible refine gate_dst (N := 2) rfl ?_); refine box_event ?hg (N := 2) ?hd (cs := #[.int .i64 a0_0, .slice A0_1 l0_1.length c0_1, .slice A0_2 l0_2.length c0_2]) (t := 25) ?hr ?_; (case hd => rfl); (case hg => rfl); (case hr => first | (go_simp; done) | (go_simp; rfl)); intro a6 hg w6 hbox hb; have e1 := Aside0.mk trivial; have e2 := Aside0.mk (Kept.below (S := (fun k_ => P0_1_ k_)) (by repeat (first | (with_reducible first | exact HK.out | apply Kept.alloc | apply Kept.drewN | apply Kept.drew) | exact HK.out)) hb); have e3 := Aside0.mk (below_step (wz HB.out) hb); have e4 := Aside0.mk (hbox); have e5 := Aside0.mk ((by rw [hg]; exact (by first | exact HK.out.1 | exact (show Kept w _ (fun k_ => P0_1_ k_) from by repeat (first | (with_reducible first | exact HK.out | apply Kept.alloc | apply Kept.drewN | apply Kept.drew) | exact HK.out)).1) : w.heap.size ≤ a6)); have e6 := Aside0.mk ((by rw [hg]; exact (below_size (wz HB.out)) : w0.heap.size ≤ a6)); clear g7; clear HK; clear HB; have g7 := e1; have HK := e2; have HB := e3; have a0 := e4; have b5 := e5; have C3 := e6; clear e1 e2 e3 e4 e5 e6; clear hb hbox hg) | ((with_reducible refine gate_dst (N := 4) rfl ?_); refine box_event ?hg (N := 4) ?hd (cs := #[.int .i64 0, .slice none 0 0, .slice none 0 0]) (t := 25) ?hr ?_; (case hd => rfl); (case hg => rfl); (case hr => first | (go_simp; done) | (go_simp; rfl)); intro b2 hg w7 hbox hb; have e1 := Aside0.mk trivial; have e2 := Aside0.mk (blk_below (bz a0.out) hb); have e3 := Aside0.mk (Kept.below (S := (fun k_ => P0_1_ k_)) (by repeat (first | (with_reducible first | exact HK.out | apply Kept.alloc | apply Kept.drewN | apply Kept.drew | refine Kept.setCell ?_ (.inr b5.out) _) | exact HK.out)) hb); have e4 := Aside0.mk (below_step (wz HB.out) hb); have e5 := Aside0.mk (hbox); have e6 := Aside0.mk ((by rw [hg]; exact (by first | exact HK.out.1 | exact (show Kept w _ (fun k_ => P0_1_ k_) from by repeat (first | (with_reducible first | exact HK.out | apply Kept.alloc | apply Kept.drewN | apply Kept.drew | refine Kept.setCell ?_ (.inr b5.out) _) | exact HK.out)).1) : w.heap.size ≤ b2)); have f8 := Aside0.mk ((by rw [hg]; exact (below_size (wz HB.out)) : w0.heap.size ≤ b2)); have f9 := Aside0.mk ((by rw [hg]; exact Nat.ne_of_lt (blk_lt (g := a6) (o := .cells #[.int .i64 a0_0, .slice A0_1 l0_1.length c0_1, .slice A0_2 l0_2.length c0_2] 25 (0, 0)) (bz a0.out)) : a6 ≠ b2)); have g0 := Aside0.mk ((by rw [hg]; exact Nat.ne_of_gt (blk_lt (g := a6) (o := .cells #[.int .i64 a0_0, .slice A0_1 l0_1.length c0_1, .slice A0_2 l0_2.length c0_2] 25 (0, 0)) (bz a0.out)) : b2 ≠ a6)); clear g7; clear a0; clear HK; clear HB; have g7 := e1; have a0 := e2; have HK := e3; have HB := e4; have a5 := e5; have b6 := e6; have C4 := f8; have d6 := f9; have d7 := g0; clear e1 e2 e3 e4 e5 e6 f8 f9 g0; clear hb hbox hg) | ((with_reducible refine gate_callee (f := 64) rfl ?_); refine goesL_ (some 14) rfl rfl Try.func64 (by kernel_rfl) rfl #[.slice A1 l1.length c1] rfl (by (try simp only [List.map_toArray, List.map_cons, List.map_nil]); first | done | rfl | (simp only [List.length_drop, List.length_take]; rfl)) ?_; (with_reducible refine (Pr31c.calls k _ _ l1 b1 _ ?q1 ?q2 A3.out).mono ?_); (case q1 => exact Kd.C_kept_now B9.out (by repeat (first | (with_reducible first | exact HK.out | apply Kept.alloc | apply Kept.drewN | apply Kept.drew | refine Kept.setCell ?_ (.inr b5.out) _ | refine Kept.setCell ?_ (.inr b6.out) _) | exact HK.out))); (case q2 => exact B7.out); rintro e w8 ⟨K2, rfl, q5, hb⟩; refine ⟨_, rfl, ?_⟩; have e1 := Aside0.mk trivial; have e2 := Aside0.mk (Kd.R_lower (Kd.R_newM (M := fun k_ => (P0_1_ k_ ∨ w.heap.size ≤ k_)) q5 (by first | exact HK.out.1 | exact (show Kept w _ (fun k_ => P0_1_ k_) from by repeat (first | (with_reducible first | exact HK.out | apply Kept.alloc | apply Kept.drewN | apply Kept.drew | refine Kept.setCell ?_ (.inr b5.out) _ | refine Kept.setCell ?_ (.inr b6.out) _) | exact HK.out)).1) (fun k_ h_ => .inr h_)) (below_size (wz HB.out))); have e3 := Aside0.mk (blk_below (bz a0.out) hb); have e4 := Aside0.mk (blk_below (bz a5.out) hb); have e5 := Aside0.mk (Kept.below (S := (fun k_ => P0_1_ k_)) (by repeat (first | (with_reducible first | exact HK.out | apply Kept.alloc | apply Kept.drewN | apply Kept.drew | refine Kept.setCell ?_ (.inr b5.out) _ | refine Kept.setCell ?_ (.inr b6.out) _) | exact HK.out)) hb); have e6 := Aside0.mk (below_step (wz HB.out) hb); clear g7; clear a0; clear a5; clear HK; clear HB; have g7 := e1; have g8 := e2; have a0 := e3; have a5 := e4; have HK := e5; have HB := e6; clear e1 e2 e3 e4 e5 e6; (try clear hb); (try clear K5); (try clear hk); (try clear hi); (try clear q5); obtain ⟨m5, m7, C0⟩ := Kd.R_slice g8.out; subst C0) | ((with_reducible refine gate_callee (f := 50) rfl ?_); refine goesL_ (some 16) rfl rfl Try.func50 (by kernel_rfl) rfl #[.slice m5 b1.length m7] rfl (by (try simp only [List.map_toArray, List.map_cons, List.map_nil]); first | done | rfl | (simp only [List.length_drop, List.length_take]; rfl)) ?_; (with_reducible refine (Pr31a.calls k _ _ b1 a7 _ ?q1 ?q2 A4.out).mono ?_); (case q1 => repeat (first | exact (Kd.R_reads' g8.out).2.2 | (with_reducible refine Kd.C_alloc ?_ _) | (with_reducible refine Kd.C_drewN ?_ _) | (with_reducible refine Kd.C_drew ?_))); (case q2 => exact (Kd.R_reads' g8.out).2.1); rintro e w' ⟨rfl, ⟨nd, rfl⟩⟩; refine ⟨_, rfl, ?_⟩; (try (rw [drewN_self w8]; generalize hq_ : World.drewN w8 _ = w8; have e1 : Aside0 (True) := ⟨trivial⟩; have e2 : Aside0 (Kd.R (Kd.int .i64) 3 w8 w0.heap.size (fun k_ => (P0_1_ k_ ∨ w.heap.size ≤ k_)) (.slice m5 b1.length m7) b1) := ⟨by rw [← hq_]; exact (rz (Kd.R_mono g8.out (fun _ hk => hk.1)))⟩; have e3 : Aside0 (w8.heap[a6]? = some (.cells #[.int .i64 a0_0, .slice A0_1 l0_1.length c0_1, .slice A0_2 l0_2.length c0_2] 25 (0, 0))) := ⟨by rw [← hq_]; exact (bz a0.out)⟩; have e4 : Aside0 (w8.heap[b2]? = some (.cells #[.int .i64 0, .slice none 0 0, .slice none 0 0] 25 (0, 0))) := ⟨by rw [← hq_]; exact (bz a5.out)⟩; have e5 : Aside0 (Kept w w8 (fun k_ => P0_1_ k_)) := ⟨by rw [← hq_]; exact (by repeat (first | (with_reducible first | exact HK.out | apply Kept.alloc | apply Kept.drewN | apply Kept.drew | refine Kept.setCell ?_ (.inr b5.out) _ | refine Kept.setCell ?_ (.inr b6.out) _) | exact HK.out))⟩; have e6 : Aside0 (Below w0.heap.size w0 w8) := ⟨by rw [← hq_]; exact (wz HB.out)⟩; clear g7 g8 a0 a5 HK HB hq_; have g7 := e1; have g8 := e2; have a0 := e3; have a5 := e4; have HK := e5; have HB := e6; clear e1 e2 e3 e4 e5 e6)); have C7 := d6.out; have G4 := d7.out; have i4 : w8.cell? ⟨a6, 0, none⟩ = some (.int .i64 a0_0) := bcz a0 0 rfl; have i5 : w8.cell? ⟨a6, 1, none⟩ = some (.slice A0_1 l0_1.length c0_1) := bcz a0 1 rfl; have i7 : w8.cell? ⟨a6, 2, none⟩ = some (.slice A0_2 l0_2.length c0_2) := bcz a0 2 rfl; have j3 := blk_frozen a0.out 0; have j4 := blk_frozen a0.out 1; have j5 := blk_frozen a0.out 2) | ((with_reducible refine gate_dst (N := 6) rfl ?_); refine box_event ?hg (N := 6) ?hd (cs := #[.int .i64 0, .slice none 0 0, .slice none 0 0]) (t := 25) ?hr ?_; (case hd => rfl); (case hg => rfl); (case hr => first | (go_simp; done) | (go_simp; rfl)); intro a9 hg p2 hbox hb; have e1 := Aside0.mk trivial; have e2 := Aside0.mk (Kd.R_below (rz g8.out) hb); have e3 := Aside0.mk (blk_below (bz a0.out) hb); have e4 := Aside0.mk (blk_below (bz a5.out) hb); have e5 := Aside0.mk (Kept.below (S := (fun k_ => P0_1_ k_)) (by repeat (first | (with_reducible first | exact HK.out | apply Kept.alloc | apply Kept.drewN | apply Kept.drew | refine Kept.setCell ?_ (.inr b5.out) _ | refine Kept.setCell ?_ (.inr b6.out) _) | exact HK.out)) hb); have e6 := Aside0.mk (below_step (wz HB.out) hb); have f8 := Aside0.mk (hbox); have f9 := Aside0.mk ((by rw [hg]; exact (by first | exact HK.out.1 | exact (show Kept w _ (fun k_ => P0_1_ k_) from by repeat (first | (with_reducible first | exact HK.out | apply Kept.alloc | apply Kept.drewN | apply Kept.drew | refine Kept.setCell ?_ (.inr b5.out) _ | refine Kept.setCell ?_ (.inr b6.out) _) | exact HK.out)).1) : w.heap.size ≤ a9)); have g0 := Aside0.mk ((by rw [hg]; exact (below_size (wz HB.out)) : w0.heap.size ≤ a9)); have i0 := Aside0.mk ((by rw [hg]; exact Nat.ne_of_lt (blk_lt (g := a6) (o := .cells #[.int .i64 a0_0, .slice A0_1 l0_1.length c0_1, .slice A0_2 l0_2.length c0_2] 25 (0, 0)) (bz a0.out)) : a6 ≠ a9)); have g4 := Aside0.mk ((by rw [hg]; exact Nat.ne_of_gt (blk_lt (g := a6) (o := .cells #[.int .i64 a0_0, .slice A0_1 l0_1.length c0_1, .slice A0_2 l0_2.length c0_2] 25 (0, 0)) (bz a0.out)) : a9 ≠ a6)); have g5 := Aside0.mk ((by rw [hg]; exact Nat.ne_of_lt (blk_lt (g := b2) (o := .cells #[.int .i64 0, .slice none 0 0, .slice none 0 0] 25 (0, 0)) (bz a5.out)) : b2 ≠ a9)); have g6 := Aside0.mk ((by rw [hg]; exact Nat.ne_of_gt (blk_lt (g := b2) (o := .cells #[.int .i64 0, .slice none 0 0, .slice none 0 0] 25 (0, 0)) (bz a5.out)) : a9 ≠ b2)); clear g7; clear g8; clear a0; clear a5; clear HK; clear HB; have g7 := e1; have g8 := e2; have a0 := e3; have a5 := e4; have HK := e5; have HB := e6; have a3 := f8; have b9 := f9; have C5 := g0; have d0 := i0; have d8 := g4; have g9 := g5; have i3 := g6; clear e1 e2 e3 e4 e5 e6 f8 f9 g0 i0 g4 g5 g6; clear hb hbox hg; have C8 := d8.out; have G5 := d0.out; have C9 := i3.out; have G6 := g9.out; have i8 : p2.cell? ⟨a9, 0, none⟩ = some (.int .i64 0) := bcz a3 0 rfl; have i9 : p2.cell? ⟨a9, 1, none⟩ = some (.slice none 0 0) := bcz a3 1 rfl; have j2 : p2.cell? ⟨a9, 2, none⟩ = some (.slice none 0 0) := bcz a3 2 rfl; have j6 := blk_frozen a3.out 0; have j7 := blk_frozen a3.out 1; have j8 := blk_frozen a3.out 2))
 go_loopg [7] k (fun kq v7 w' => ∃ (d1 : Int) (g1 : List (S80)) (a8 : Value), v7 = .int .i64 d1 ∧ Aside0 (Pr36a.l0 kq b1 a7 d1 a0_0 l0_1 l0_2 a7 l0_1 g1 = some (r1, r2, r3)) ∧ Aside0 (kq ≤ k) ∧ Aside0 (Kd.R (Kd.int .i64) 3 w' w0.heap.size (fun k_ => (P0_1_ k_ ∨ w.heap.size ≤ k_)) (.slice m5 b1.length m7) b1) ∧ Aside0 (True) ∧ Aside0 (True) ∧ Aside0 (Kd.R k80 80 w' w0.heap.size (fun k_ => (P0_1_ k_ ∨ w.heap.size ≤ k_)) a8 g1) ∧ Aside0 (w'.heap[a6]? = some (.cells #[.int .i64 a0_0, (.slice A0_1 l0_1.length c0_1), (.slice A0_2 l0_2.length c0_2)] 25 (0, 0))) ∧ Aside0 (w'.heap[b2]? = some (.cells #[.int .i64 0, (.slice none 0 0), (.slice none 0 0)] 25 (0, 0))) ∧ Aside0 (w'.heap[a9]? = some (.cells #[.int .i64 a7, (.slice A0_1 l0_1.length c0_1), a8] 25 (0, 0))) ∧ Aside0 (Kept w w' (fun k_ => P0_1_ k_)) ∧ Aside0 (Below w0.heap.size w0 w'))
 case atStart => exact ⟨(0), (([] : List (S80))), (.slice none 0 0), (by first | rfl | (simp; done) | (simp [*]; done)), H', ⟨Nat.le_refl _⟩, ⟨rz (Kd.R_mono (Kd.R_far (p := ⟨a9, 2, none⟩) (Kd.R_far (p := ⟨a9, 1, none⟩) (Kd.R_far (p := ⟨a9, 0, none⟩) (Kd.R_types g8.out a3.out (by decide)) (fun _ hk => hk.2) (.int .i64 a7)) (fun _ hk => hk.2) (.slice A0_1 l0_1.length c0_1)) (fun _ hk => hk.2) (.slice none 0 0)) (fun _ hk => hk.1))⟩, ⟨trivial⟩, ⟨trivial⟩, ⟨by first | exact Kd.R_nil _ _ _ _ _ | exact Kd.N_nil _ _ _ _ _ | exact Kd.V_nil _ _ _ _ _ | exact Kd.Q_nil _ _ _ _ _ | exact Kd.S_nil _ _ _ _ _⟩, ⟨fz a0.out d0.out⟩, ⟨fz a5.out g9.out⟩, ⟨by (with_reducible repeat (first | refine blk_drewN ?_ _ | refine blk_drew ?_ | refine blk_alloc ?_ _)); refine blk_put (cs := #[.int .i64 a7, .slice A0_1 l0_1.length c0_1, .slice none 0 0]) ?_ 2 _ rfl; (with_reducible repeat (first | refine blk_drewN ?_ _ | refine blk_drew ?_ | refine blk_alloc ?_ _)); refine blk_put (cs := #[.int .i64 a7, .slice none 0 0, .slice none 0 0]) ?_ 1 _ rfl; (with_reducible repeat (first | refine blk_drewN ?_ _ | refine blk_drew ?_ | refine blk_alloc ?_ _)); refine blk_put (cs := #[.int .i64 0, .slice none 0 0, .slice none 0 0]) ?_ 0 _ rfl; (with_reducible repeat (first | refine blk_drewN ?_ _ | refine blk_drew ?_ | refine blk_alloc ?_ _)); exact a3.out⟩, ⟨by repeat (first | (with_reducible first | exact HK.out | apply Kept.alloc | apply Kept.drewN | apply Kept.drew | refine Kept.setCell ?_ (.inr b5.out) _ | refine Kept.setCell ?_ (.inr b6.out) _ | refine Kept.setCell ?_ (.inr b9.out) _) | exact HK.out)⟩, ⟨wz HB.out⟩⟩
 case round =>
  clear H';(try clear c1);(try clear i4);(try clear i5);(try clear i7);(try clear i8);(try clear i9);(try clear j2);(try clear j3);(try clear j4);(try clear j5);(try clear j6);(try clear j7);(try clear j8);obtain ⟨d1, g1, a8, rfl, HA, h1, b3, b7, b8, a4, a0, a5, a3, HK, HB⟩ := hrel
  cases gk with
  | zero => exact absurd HA.out (by simp [Pr36a.l0])
  | succ k1 =>
   have H := HA.out;clear HA;simp only [Pr36a.l0] at H;by_cases k9 : d1 < a7
   ·rw [if_pos k9] at H;have c16b0 : decide (d1 < a7) = true := decide_eq_true k9;clear k9;have H' := Aside0.mk H;clear H;go_wp2
    go_loopg [8] k1 (fun kq v8 w' => ∃ (d2 : Int) (h0 : List (S80)) (a8 : Value), v8 = .int .i64 d2 ∧ Aside0 (Pr36a.l1 kq b1 a7 d1 d2 a0_0 l0_1 l0_2 a7 l0_1 h0 = some (r1, r2, r3)) ∧ Aside0 (kq ≤ k1) ∧ Aside0 (Kd.R (Kd.int .i64) 3 w' w0.heap.size (fun k_ => (P0_1_ k_ ∨ w.heap.size ≤ k_)) (.slice m5 b1.length m7) b1) ∧ Aside0 (True) ∧ Aside0 (True) ∧ Aside0 (Kd.R k80 80 w' w0.heap.size (fun k_ => (P0_1_ k_ ∨ w.heap.size ≤ k_)) a8 h0) ∧ Aside0 (w'.heap[a6]? = some (.cells #[.int .i64 a0_0, (.slice A0_1 l0_1.length c0_1), (.slice A0_2 l0_2.length c0_2)] 25 (0, 0))) ∧ Aside0 (w'.heap[b2]? = some (.cells #[.int .i64 0, (.slice none 0 0), (.slice none 0 0)] 25 (0, 0))) ∧ Aside0 (w'.heap[a9]? = some (.cells #[.int .i64 a7, (.slice A0_1 l0_1.length c0_1), a8] 25 (0, 0))) ∧ Aside0 (Kept w w' (fun k_ => P0_1_ k_)) ∧ Aside0 (Below w0.heap.size w0 w'))
    case atStart => exact ⟨(0), (g1), (a8), (by first | rfl | (simp; done) | (simp [*]; done)), H', ⟨Nat.le_refl _⟩, ⟨rz b3.out⟩, ⟨trivial⟩, ⟨trivial⟩, ⟨rz a4.out⟩, ⟨bz a0.out⟩, ⟨bz a5.out⟩, ⟨bz a3.out⟩, ⟨by repeat (first | (with_reducible first | exact HK.out | apply Kept.alloc | apply Kept.drewN | apply Kept.drew | refine Kept.setCell ?_ (.inr b5.out) _ | refine Kept.setCell ?_ (.inr b6.out) _ | refine Kept.setCell ?_ (.inr b9.out) _) | exact HK.out)⟩, ⟨wz HB.out⟩⟩
    case round =>
     clear H';(try clear c1);(try clear k9);(try clear c16b0);(try clear i4);(try clear i5);(try clear i7);(try clear i8);(try clear i9);(try clear j2);(try clear j3);(try clear j4);(try clear j5);(try clear j6);(try clear j7);(try clear j8);obtain ⟨d2, h0, a8, rfl, HA, h2, b3, b7, b8, a4, a0, a5, a3, HK, HB⟩ := hrel
     cases gk with
     | zero => exact absurd HA.out (by simp [Pr36a.l1])
     | succ k2 =>
      have H := HA.out;clear HA;simp only [Pr36a.l1] at H;by_cases l9 : d2 < (l0_1.length : Int)
      ·rw [if_pos l9] at H;have c17b0 : decide (d2 < (l0_1.length : Int)) = true := decide_eq_true l9;clear l9;have H' := Aside0.mk H;clear H;have D0 := d6.out;have G7 := d7.out;have D1 := d0.out;have G8 := d8.out;have m8 : wr.cell? ⟨a6, 0, none⟩ = some (.int .i64 a0_0) := bcz a0 0 rfl;have m9 : wr.cell? ⟨a6, 1, none⟩ = some (.slice A0_1 l0_1.length c0_1) := bcz a0 1 rfl;have n0 : wr.cell? ⟨a6, 2, none⟩ = some (.slice A0_2 l0_2.length c0_2) := bcz a0 2 rfl;have n1 := blk_frozen a0.out 0;have n2 := blk_frozen a0.out 1;have n3 := blk_frozen a0.out 2;go_wp2
       go_loopg [9] k2 (fun kq v9 w' => ∃ (e0 : Int) (b4 : List (S80)) (a8 : Value), v9 = .int .i64 e0 ∧ Aside0 (Pr36a.l2 kq b1 a7 d1 d2 e0 a0_0 l0_1 l0_2 a7 l0_1 b4 = some (r1, r2, r3)) ∧ Aside0 (kq ≤ k2) ∧ Aside0 (Kd.R (Kd.int .i64) 3 w' w0.heap.size (fun k_ => (P0_1_ k_ ∨ w.heap.size ≤ k_)) (.slice m5 b1.length m7) b1) ∧ Aside0 (True) ∧ Aside0 (True) ∧ Aside0 (Kd.R k80 80 w' w0.heap.size (fun k_ => (P0_1_ k_ ∨ w.heap.size ≤ k_)) a8 b4) ∧ Aside0 (w'.heap[a6]? = some (.cells #[.int .i64 a0_0, (.slice A0_1 l0_1.length c0_1), (.slice A0_2 l0_2.length c0_2)] 25 (0, 0))) ∧ Aside0 (w'.heap[b2]? = some (.cells #[.int .i64 0, (.slice none 0 0), (.slice none 0 0)] 25 (0, 0))) ∧ Aside0 (w'.heap[a9]? = some (.cells #[.int .i64 a7, (.slice A0_1 l0_1.length c0_1), a8] 25 (0, 0))) ∧ Aside0 (Kept w w' (fun k_ => P0_1_ k_)) ∧ Aside0 (Below w0.heap.size w0 w'))
       case atStart => exact ⟨(0), (h0), (a8), (by first | rfl | (simp; done) | (simp [*]; done)), H', ⟨Nat.le_refl _⟩, ⟨rz b3.out⟩, ⟨trivial⟩, ⟨trivial⟩, ⟨rz a4.out⟩, ⟨bz a0.out⟩, ⟨bz a5.out⟩, ⟨bz a3.out⟩, ⟨by repeat (first | (with_reducible first | exact HK.out | apply Kept.alloc | apply Kept.drewN | apply Kept.drew | refine Kept.setCell ?_ (.inr b5.out) _ | refine Kept.setCell ?_ (.inr b6.out) _ | refine Kept.setCell ?_ (.inr b9.out) _) | exact HK.out)⟩, ⟨wz HB.out⟩⟩
       case round =>
        clear H';(try clear c1);(try clear k9);(try clear c16b0);(try clear l9);(try clear c17b0);(try clear i4);(try clear i5);(try clear i7);(try clear i8);(try clear i9);(try clear j2);(try clear m8);(try clear m9);(try clear n0);(try clear j3);(try clear j4);(try clear j5);(try clear j6);(try clear j7);(try clear j8);(try clear n1);(try clear n2);(try clear n3);obtain ⟨e0, b4, a8, rfl, HA, h9, b3, b7, b8, a4, a0, a5, a3, HK, HB⟩ := hrel
        cases gk with
        | zero => exact absurd HA.out (by simp [Pr36a.l2])
        | succ k3 =>
         have H := HA.out;clear HA;simp only [Pr36a.l2] at H;by_cases m1 : e0 < a7
         ·rw [if_pos m1] at H;have c21b0 : decide (e0 < a7) = true := decide_eq_true m1;clear m1;have H' := Aside0.mk H;clear H;go_wp2
          go_loopg [10, 11] k3 (fun kq C1 C2 w' => ∃ (l5 : Bool) (a2 : Int), C1 = .bool l5 ∧ C2 = .int .i64 a2 ∧ Aside0 (Pr36a.l3 kq b1 a7 d1 d2 e0 l5 a2 a0_0 l0_1 l0_2 a7 l0_1 b4 = some (r1, r2, r3)) ∧ Aside0 (kq ≤ k3) ∧ Aside0 (Kd.R (Kd.int .i64) 3 w' w0.heap.size (fun k_ => (P0_1_ k_ ∨ w.heap.size ≤ k_)) (.slice m5 b1.length m7) b1) ∧ Aside0 (True) ∧ Aside0 (True) ∧ Aside0 (Kd.R k80 80 w' w0.heap.size (fun k_ => (P0_1_ k_ ∨ w.heap.size ≤ k_)) a8 b4) ∧ Aside0 (w'.heap[a6]? = some (.cells #[.int .i64 a0_0, (.slice A0_1 l0_1.length c0_1), (.slice A0_2 l0_2.length c0_2)] 25 (0, 0))) ∧ Aside0 (w'.heap[b2]? = some (.cells #[.int .i64 0, (.slice none 0 0), (.slice none 0 0)] 25 (0, 0))) ∧ Aside0 (w'.heap[a9]? = some (.cells #[.int .i64 a7, (.slice A0_1 l0_1.length c0_1), a8] 25 (0, 0))) ∧ Aside0 (Kept w w' (fun k_ => P0_1_ k_)) ∧ Aside0 (Below w0.heap.size w0 w'))
          case atStart => exact ⟨(false), (0), (by first | rfl | (simp; done) | (simp [*]; done)), (by first | rfl | (simp; done) | (simp [*]; done)), H', ⟨Nat.le_refl _⟩, ⟨rz b3.out⟩, ⟨trivial⟩, ⟨trivial⟩, ⟨rz a4.out⟩, ⟨bz a0.out⟩, ⟨bz a5.out⟩, ⟨bz a3.out⟩, ⟨by repeat (first | (with_reducible first | exact HK.out | apply Kept.alloc | apply Kept.drewN | apply Kept.drew | refine Kept.setCell ?_ (.inr b5.out) _ | refine Kept.setCell ?_ (.inr b6.out) _ | refine Kept.setCell ?_ (.inr b9.out) _) | exact HK.out)⟩, ⟨wz HB.out⟩⟩
          case round =>
           clear H';(try clear c1);(try clear k9);(try clear c16b0);(try clear l9);(try clear c17b0);(try clear m1);(try clear c21b0);(try clear i4);(try clear i5);(try clear i7);(try clear i8);(try clear i9);(try clear j2);(try clear m8);(try clear m9);(try clear n0);(try clear j3);(try clear j4);(try clear j5);(try clear j6);(try clear j7);(try clear j8);(try clear n1);(try clear n2);(try clear n3);obtain ⟨l5, a2, rfl, rfl, HA, i2, b3, b7, b8, a4, a0, a5, a3, HK, HB⟩ := hrel
           cases gk with
           | zero => exact absurd HA.out (by simp [Pr36a.l3])
           | succ k4 =>
            have H := HA.out;clear HA;simp only [Pr36a.l3] at H;by_cases m6 : a2 < (l0_2.length : Int)
            ·rw [if_pos m6] at H;have c22b0 : decide (a2 < (l0_2.length : Int)) = true := decide_eq_true m6;clear m6;by_cases o1 : 0 ≤ a2
             ·rw [if_pos o1] at H;have c23b0 : decide (0 ≤ a2) = true := decide_eq_true o1;clear o1;by_cases o2 : l5 = true
              ·subst o2;have H1 : (Pr36a.l3 k4 b1 a7 d1 d2 e0 true (wrap64 (a2 + 1)) a0_0 l0_1 l0_2 a7 l0_1 b4) = some (r1, r2, r3) := by rw [if_pos rfl] at H; exact H
               clear H;have H := H1;clear H1;have H' := Aside0.mk H;clear H;have D2 := d6.out;have G9 := d7.out;have D3 := d0.out;have H0 := d8.out;have q9 : wr.cell? ⟨a6, 0, none⟩ = some (.int .i64 a0_0) := bcz a0 0 rfl;have r0 : wr.cell? ⟨a6, 1, none⟩ = some (.slice A0_1 l0_1.length c0_1) := bcz a0 1 rfl;have r4 : wr.cell? ⟨a6, 2, none⟩ = some (.slice A0_2 l0_2.length c0_2) := bcz a0 2 rfl;have w5 := blk_frozen a0.out 0;have w9 := blk_frozen a0.out 1;have x0 := blk_frozen a0.out 2;have f6 : 0 ≤ (a2 : Int) := of_decide_eq_true (by first | (with_reducible assumption) | assumption);have f7 : a2 < (l0_2.length : Int) := of_decide_eq_true (by first | (with_reducible assumption) | assumption);obtain ⟨g2, k6, l6, l7, l8⟩ := at_T80 (Kd.C_kept_now m0.out HK.out) a2 f6 f7
               cases k6;replace f6 := eq_true f6;replace f7 := eq_true f7;go_wp2_with (first | ((with_reducible refine gate_dst (N := 12) rfl ?_); refine box_event ?hg (N := 12) ?hd (cs := #[.int .i64 0, .int .i64 0, .int .i64 0]) (t := 80) ?hr ?_; (case hd => rfl); (case hg => rfl); (case hr => first | (go_simp; done) | (go_simp; rfl)); intro a1 hg p3 hbox hb; have e1 := Aside0.mk (Kd.R_below (rz b3.out) hb); have e2 := Aside0.mk trivial; have e3 := Aside0.mk trivial; have e4 := Aside0.mk (Kd.R_below (Kd.R_elderB (rz a4.out) a1 (Nat.le_of_eq hg.symm)) hb); have e5 := Aside0.mk (blk_below (bz a0.out) hb); have e6 := Aside0.mk (blk_below (bz a5.out) hb); have f8 := Aside0.mk (blk_below (bz a3.out) hb); have f9 := Aside0.mk (Kept.below (S := (fun k_ => P0_1_ k_)) (by repeat (first | (with_reducible first | exact HK.out | apply Kept.alloc | apply Kept.drewN | apply Kept.drew | refine Kept.setCell ?_ (.inr b5.out) _ | refine Kept.setCell ?_ (.inr b6.out) _ | refine Kept.setCell ?_ (.inr b9.out) _) | exact HK.out)) hb); have g0 := Aside0.mk (below_step (wz HB.out) hb); have i0 := Aside0.mk (hbox); have g4 := Aside0.mk ((by rw [hg]; exact (by first | exact HK.out.1 | exact (show Kept w _ (fun k_ => P0_1_ k_) from by repeat (first | (with_reducible first | exact HK.out | apply Kept.alloc | apply Kept.drewN | apply Kept.drew | refine Kept.setCell ?_ (.inr b5.out) _ | refine Kept.setCell ?_ (.inr b6.out) _ | refine Kept.setCell ?_ (.inr b9.out) _) | exact HK.out)).1) : w.heap.size ≤ a1)); have g5 := Aside0.mk ((by rw [hg]; exact (below_size (wz HB.out)) : w0.heap.size ≤ a1)); have g6 := Aside0.mk ((by rw [hg]; exact Nat.ne_of_lt (blk_lt (g := a6) (o := .cells #[.int .i64 a0_0, .slice A0_1 l0_1.length c0_1, .slice (some g2) l0_2.length c0_2] 25 (0, 0)) (bz a0.out)) : a6 ≠ a1)); have h4 := Aside0.mk ((by rw [hg]; exact Nat.ne_of_gt (blk_lt (g := a6) (o := .cells #[.int .i64 a0_0, .slice A0_1 l0_1.length c0_1, .slice (some g2) l0_2.length c0_2] 25 (0, 0)) (bz a0.out)) : a1 ≠ a6)); have h5 := Aside0.mk ((by rw [hg]; exact Nat.ne_of_lt (blk_lt (g := b2) (o := .cells #[.int .i64 0, .slice none 0 0, .slice none 0 0] 25 (0, 0)) (bz a5.out)) : b2 ≠ a1)); have h6 := Aside0.mk ((by rw [hg]; exact Nat.ne_of_gt (blk_lt (g := b2) (o := .cells #[.int .i64 0, .slice none 0 0, .slice none 0 0] 25 (0, 0)) (bz a5.out)) : a1 ≠ b2)); have h7 := Aside0.mk ((by rw [hg]; exact Nat.ne_of_lt (blk_lt (g := a9) (o := .cells #[.int .i64 a7, .slice A0_1 l0_1.length c0_1, a8] 25 (0, 0)) (bz a3.out)) : a9 ≠ a1)); have h8 := Aside0.mk ((by rw [hg]; exact Nat.ne_of_gt (blk_lt (g := a9) (o := .cells #[.int .i64 a7, .slice A0_1 l0_1.length c0_1, a8] 25 (0, 0)) (bz a3.out)) : a1 ≠ a9)); clear b3 b7 b8 a4 a0 a5 a3 HK HB; have b3 := e1; have b7 := e2; have b8 := e3; have a4 := e4; have a0 := e5; have a5 := e6; have a3 := f8; have HK := f9; have HB := g0; have b0 := i0; have i1 := g4; have n4 := g5; have d3 := g6; have e7 := h4; have d4 := h5; have e8 := h6; have d5 := h7; have e9 := h8; clear e1 e2 e3 e4 e5 e6 f8 f9 g0 i0 g4 g5 g6 h4 h5 h6 h7 h8 hb hbox hg; have D4 := e7.out; have H2 := d3.out; have D5 := e8.out; have H3 := d4.out; have D6 := e9.out; have H4 := d5.out; have r5 : p3.cell? ⟨a1, 0, none⟩ = some (.int .i64 0) := bcz b0 0 rfl; have r6 : p3.cell? ⟨a1, 1, none⟩ = some (.int .i64 0) := bcz b0 1 rfl; have r7 : p3.cell? ⟨a1, 2, none⟩ = some (.int .i64 0) := bcz b0 2 rfl; have x1 := blk_frozen b0.out 0; have x2 := blk_frozen b0.out 1; have x3 := blk_frozen b0.out 2))
               go_roundg k4
               case measure => have := h1.out; have := h2.out; have := h9.out; have := i2.out; omega
               case rel => exact ⟨(true), (wrap64 (a2 + 1)), (by first | rfl | (simp; done) | (simp [*]; done)), (by first | rfl | (simp; done) | (simp [*]; done)), H', ⟨by have := h1.out; have := h2.out; have := h9.out; have := i2.out; omega⟩, ⟨rz (Kd.R_mono (Kd.R_far (p := ⟨a1, 2, none⟩) (Kd.R_far (p := ⟨a1, 1, none⟩) (Kd.R_far (p := ⟨a1, 0, none⟩) (Kd.R_types b3.out b0.out (by decide)) (fun _ hk => hk.2) (.int .i64 ((rd_T80 l0_2 a2).f0))) (fun _ hk => hk.2) (.int .i64 ((rd_T80 l0_2 a2).f1))) (fun _ hk => hk.2) (.int .i64 ((rd_T80 l0_2 a2).f2))) (fun _ hk => hk.1))⟩, ⟨trivial⟩, ⟨trivial⟩, ⟨rz (Kd.R_mono (Kd.R_far (p := ⟨a1, 2, none⟩) (Kd.R_far (p := ⟨a1, 1, none⟩) (Kd.R_far (p := ⟨a1, 0, none⟩) (Kd.R_mono a4.out (fun k_ hk => (⟨hk, hk.2⟩ : _ ∧ k_ ≠ a1))) (fun _ hk => hk.2) (.int .i64 ((rd_T80 l0_2 a2).f0))) (fun _ hk => hk.2) (.int .i64 ((rd_T80 l0_2 a2).f1))) (fun _ hk => hk.2) (.int .i64 ((rd_T80 l0_2 a2).f2))) (fun _ hk => hk.1.1))⟩, ⟨fz a0.out d3.out⟩, ⟨fz a5.out d4.out⟩, ⟨fz a3.out d5.out⟩, ⟨by repeat (first | (with_reducible first | exact HK.out | apply Kept.alloc | apply Kept.drewN | apply Kept.drew | refine Kept.setCell ?_ (.inr b5.out) _ | refine Kept.setCell ?_ (.inr b6.out) _ | refine Kept.setCell ?_ (.inr b9.out) _ | refine Kept.setCell ?_ (.inr i1.out) _) | exact HK.out)⟩, ⟨wz HB.out⟩⟩
              ·replace o2 := Bool.eq_false_iff.mpr o2;subst o2;have H1 : (if ((rd_T80 l0_2 a2).f1) = d2 then (if 0 ≤ ((rd_T80 l0_2 a2).f0) then (if ((rd_T80 l0_2 a2).f0) < (b1.length : Int) then (if (rd b1 ((rd_T80 l0_2 a2).f0)) = d1 then (if 0 ≤ ((rd_T80 l0_2 a2).f2) then (if ((rd_T80 l0_2 a2).f2) < (b1.length : Int) then (Pr36a.l3 k4 b1 a7 d1 d2 e0 ((rd b1 ((rd_T80 l0_2 a2).f2)) == e0) (wrap64 (a2 + 1)) a0_0 l0_1 l0_2 a7 l0_1 b4) else (none)) else (none)) else (Pr36a.l3 k4 b1 a7 d1 d2 e0 false (wrap64 (a2 + 1)) a0_0 l0_1 l0_2 a7 l0_1 b4)) else (none)) else (none)) else (Pr36a.l3 k4 b1 a7 d1 d2 e0 false (wrap64 (a2 + 1)) a0_0 l0_1 l0_2 a7 l0_1 b4)) = some (r1, r2, r3) := by rw [if_neg (show ¬ (false = true) by decide)] at H; exact H
               clear H;have H := H1;clear H1;by_cases m2 : ((rd_T80 l0_2 a2).f1) = d2
               ·rw [if_pos m2] at H;have c33b0 : (((rd_T80 l0_2 a2).f1) == d2) = true := beq_iff_eq.mpr m2;have c33b1 : (((rd_T80 l0_2 a2).f1) != d2) = false := bne_eq_false_iff_eq.mpr m2;clear m2;by_cases o3 : 0 ≤ ((rd_T80 l0_2 a2).f0)
                ·rw [if_pos o3] at H;have c34b0 : decide (0 ≤ ((rd_T80 l0_2 a2).f0)) = true := decide_eq_true o3;clear o3;by_cases o4 : ((rd_T80 l0_2 a2).f0) < (b1.length : Int)
                 ·rw [if_pos o4] at H;have c35b0 : decide (((rd_T80 l0_2 a2).f0) < (b1.length : Int)) = true := decide_eq_true o4;clear o4;by_cases m3 : (rd b1 ((rd_T80 l0_2 a2).f0)) = d1
                  ·rw [if_pos m3] at H;have c36b0 : ((rd b1 ((rd_T80 l0_2 a2).f0)) == d1) = true := beq_iff_eq.mpr m3;have c36b1 : ((rd b1 ((rd_T80 l0_2 a2).f0)) != d1) = false := bne_eq_false_iff_eq.mpr m3;clear m3;by_cases o5 : 0 ≤ ((rd_T80 l0_2 a2).f2)
                   ·rw [if_pos o5] at H;have c37b0 : decide (0 ≤ ((rd_T80 l0_2 a2).f2)) = true := decide_eq_true o5;clear o5;by_cases o6 : ((rd_T80 l0_2 a2).f2) < (b1.length : Int)
                    ·rw [if_pos o6] at H;have c38b0 : decide (((rd_T80 l0_2 a2).f2) < (b1.length : Int)) = true := decide_eq_true o6;clear o6;have H' := Aside0.mk H;clear H;have D7 := d6.out;have H5 := d7.out;have D8 := d0.out;have H6 := d8.out;have r8 : wr.cell? ⟨a6, 0, none⟩ = some (.int .i64 a0_0) := bcz a0 0 rfl;have r9 : wr.cell? ⟨a6, 1, none⟩ = some (.slice A0_1 l0_1.length c0_1) := bcz a0 1 rfl;have s0 : wr.cell? ⟨a6, 2, none⟩ = some (.slice A0_2 l0_2.length c0_2) := bcz a0 2 rfl;have x4 := blk_frozen a0.out 0;have x5 := blk_frozen a0.out 1;have x6 := blk_frozen a0.out 2;have f6 : 0 ≤ (a2 : Int) := of_decide_eq_true (by first | (with_reducible assumption) | assumption);have f7 : a2 < (l0_2.length : Int) := of_decide_eq_true (by first | (with_reducible assumption) | assumption);obtain ⟨g2, k6, l6, l7, l8⟩ := at_T80 (Kd.C_kept_now m0.out HK.out) a2 f6 f7
                     cases k6;replace f6 := eq_true f6;replace f7 := eq_true f7;go_wp2_with (first | ((with_reducible refine gate_dst (N := 12) rfl ?_); refine box_event ?hg (N := 12) ?hd (cs := #[.int .i64 0, .int .i64 0, .int .i64 0]) (t := 80) ?hr ?_; (case hd => rfl); (case hg => rfl); (case hr => first | (go_simp; done) | (go_simp; rfl)); intro a1 hg p4 hbox hb; have e1 := Aside0.mk (Kd.R_below (rz b3.out) hb); have e2 := Aside0.mk trivial; have e3 := Aside0.mk trivial; have e4 := Aside0.mk (Kd.R_below (Kd.R_elderB (rz a4.out) a1 (Nat.le_of_eq hg.symm)) hb); have e5 := Aside0.mk (blk_below (bz a0.out) hb); have e6 := Aside0.mk (blk_below (bz a5.out) hb); have f8 := Aside0.mk (blk_below (bz a3.out) hb); have f9 := Aside0.mk (Kept.below (S := (fun k_ => P0_1_ k_)) (by repeat (first | (with_reducible first | exact HK.out | apply Kept.alloc | apply Kept.drewN | apply Kept.drew | refine Kept.setCell ?_ (.inr b5.out) _ | refine Kept.setCell ?_ (.inr b6.out) _ | refine Kept.setCell ?_ (.inr b9.out) _) | exact HK.out)) hb); have g0 := Aside0.mk (below_step (wz HB.out) hb); have i0 := Aside0.mk (hbox); have g4 := Aside0.mk ((by rw [hg]; exact (by first | exact HK.out.1 | exact (show Kept w _ (fun k_ => P0_1_ k_) from by repeat (first | (with_reducible first | exact HK.out | apply Kept.alloc | apply Kept.drewN | apply Kept.drew | refine Kept.setCell ?_ (.inr b5.out) _ | refine Kept.setCell ?_ (.inr b6.out) _ | refine Kept.setCell ?_ (.inr b9.out) _) | exact HK.out)).1) : w.heap.size ≤ a1)); have g5 := Aside0.mk ((by rw [hg]; exact (below_size (wz HB.out)) : w0.heap.size ≤ a1)); have g6 := Aside0.mk ((by rw [hg]; exact Nat.ne_of_lt (blk_lt (g := a6) (o := .cells #[.int .i64 a0_0, .slice A0_1 l0_1.length c0_1, .slice (some g2) l0_2.length c0_2] 25 (0, 0)) (bz a0.out)) : a6 ≠ a1)); have h4 := Aside0.mk ((by rw [hg]; exact Nat.ne_of_gt (blk_lt (g := a6) (o := .cells #[.int .i64 a0_0, .slice A0_1 l0_1.length c0_1, .slice (some g2) l0_2.length c0_2] 25 (0, 0)) (bz a0.out)) : a1 ≠ a6)); have h5 := Aside0.mk ((by rw [hg]; exact Nat.ne_of_lt (blk_lt (g := b2) (o := .cells #[.int .i64 0, .slice none 0 0, .slice none 0 0] 25 (0, 0)) (bz a5.out)) : b2 ≠ a1)); have h6 := Aside0.mk ((by rw [hg]; exact Nat.ne_of_gt (blk_lt (g := b2) (o := .cells #[.int .i64 0, .slice none 0 0, .slice none 0 0] 25 (0, 0)) (bz a5.out)) : a1 ≠ b2)); have h7 := Aside0.mk ((by rw [hg]; exact Nat.ne_of_lt (blk_lt (g := a9) (o := .cells #[.int .i64 a7, .slice A0_1 l0_1.length c0_1, a8] 25 (0, 0)) (bz a3.out)) : a9 ≠ a1)); have h8 := Aside0.mk ((by rw [hg]; exact Nat.ne_of_gt (blk_lt (g := a9) (o := .cells #[.int .i64 a7, .slice A0_1 l0_1.length c0_1, a8] 25 (0, 0)) (bz a3.out)) : a1 ≠ a9)); clear b3 b7 b8 a4 a0 a5 a3 HK HB; have b3 := e1; have b7 := e2; have b8 := e3; have a4 := e4; have a0 := e5; have a5 := e6; have a3 := f8; have HK := f9; have HB := g0; have b0 := i0; have i1 := g4; have n4 := g5; have d3 := g6; have e7 := h4; have d4 := h5; have e8 := h6; have d5 := h7; have e9 := h8; clear e1 e2 e3 e4 e5 e6 f8 f9 g0 i0 g4 g5 g6 h4 h5 h6 h7 h8 hb hbox hg; have D9 := e7.out; have H7 := d3.out; have E0 := e8.out; have H8 := d4.out; have E1 := e9.out; have H9 := d5.out; have s1 : p4.cell? ⟨a1, 0, none⟩ = some (.int .i64 0) := bcz b0 0 rfl; have s2 : p4.cell? ⟨a1, 1, none⟩ = some (.int .i64 0) := bcz b0 1 rfl; have s3 : p4.cell? ⟨a1, 2, none⟩ = some (.int .i64 0) := bcz b0 2 rfl; have x7 := blk_frozen b0.out 0; have x8 := blk_frozen b0.out 1; have x9 := blk_frozen b0.out 2; have k7 : 0 ≤ (((rd_T80 l0_2 a2).f0) : Int) := of_decide_eq_true (by first | (with_reducible assumption) | assumption); have k8 : ((rd_T80 l0_2 a2).f0) < (b1.length : Int) := of_decide_eq_true (by first | (with_reducible assumption) | assumption); obtain ⟨g3, n7, d9⟩ := Kd.at_int (Kd.R_reads' b3.out).2.2 ((rd_T80 l0_2 a2).f0) k7 k8; cases n7; have f3 : g3.block ≠ a1 := Kd.own_blk (Kd.R_ne b3.out b0.out (by decide)); have f4 : g3.block ≠ a1 := Kd.own_blk (Kd.R_ne b3.out b0.out (by decide)); have f5 : g3.block ≠ a1 := Kd.own_blk (Kd.R_ne b3.out b0.out (by decide)); replace d9 := (cell_far (p := ⟨a1, 0, none⟩) (by first | (rw [add_block]; exact f3) | (show (Addr.add _ _).block ≠ _; rw [add_block]; exact f3) | exact f3) (.int .i64 ((rd_T80 l0_2 a2).f0))).trans d9; replace d9 := (cell_far (p := ⟨a1, 1, none⟩) (by first | (rw [add_block]; exact f4) | (show (Addr.add _ _).block ≠ _; rw [add_block]; exact f4) | exact f4) (.int .i64 ((rd_T80 l0_2 a2).f1))).trans d9; replace d9 := (cell_far (p := ⟨a1, 2, none⟩) (by first | (rw [add_block]; exact f5) | (show (Addr.add _ _).block ≠ _; rw [add_block]; exact f5) | exact f5) (.int .i64 ((rd_T80 l0_2 a2).f2))).trans d9; clear f3 f4 f5; replace k7 := eq_true k7; replace k8 := eq_true k8; have n8 : 0 ≤ (((rd_T80 l0_2 a2).f2) : Int) := of_decide_eq_true (by first | (with_reducible assumption) | assumption); have n9 : ((rd_T80 l0_2 a2).f2) < (b1.length : Int) := of_decide_eq_true (by first | (with_reducible assumption) | assumption); obtain ⟨q0, q6, h3⟩ := Kd.at_int (Kd.R_reads' b3.out).2.2 ((rd_T80 l0_2 a2).f2) n8 n9; obtain rfl : g3 = q0 := (by injection q6); have j9 : g3.block ≠ a1 := Kd.own_blk (Kd.R_ne b3.out b0.out (by decide)); have k0 : g3.block ≠ a1 := Kd.own_blk (Kd.R_ne b3.out b0.out (by decide)); have k5 : g3.block ≠ a1 := Kd.own_blk (Kd.R_ne b3.out b0.out (by decide)); replace h3 := (cell_far (p := ⟨a1, 0, none⟩) (by first | (rw [add_block]; exact j9) | (show (Addr.add _ _).block ≠ _; rw [add_block]; exact j9) | exact j9) (.int .i64 ((rd_T80 l0_2 a2).f0))).trans h3; replace h3 := (cell_far (p := ⟨a1, 1, none⟩) (by first | (rw [add_block]; exact k0) | (show (Addr.add _ _).block ≠ _; rw [add_block]; exact k0) | exact k0) (.int .i64 ((rd_T80 l0_2 a2).f1))).trans h3; replace h3 := (cell_far (p := ⟨a1, 2, none⟩) (by first | (rw [add_block]; exact k5) | (show (Addr.add _ _).block ≠ _; rw [add_block]; exact k5) | exact k5) (.int .i64 ((rd_T80 l0_2 a2).f2))).trans h3; clear j9 k0 k5; replace n8 := eq_true n8; replace n9 := eq_true n9))
                     go_roundg k4
                     case measure => have := h1.out; have := h2.out; have := h9.out; have := i2.out; omega
                     case rel => exact ⟨(((rd b1 ((rd_T80 l0_2 a2).f2)) == e0)), (wrap64 (a2 + 1)), (by first | rfl | (simp; done) | (simp [*]; done)), (by first | rfl | (simp; done) | (simp [*]; done)), H', ⟨by have := h1.out; have := h2.out; have := h9.out; have := i2.out; omega⟩, ⟨rz (Kd.R_mono (Kd.R_far (p := ⟨a1, 2, none⟩) (Kd.R_far (p := ⟨a1, 1, none⟩) (Kd.R_far (p := ⟨a1, 0, none⟩) (Kd.R_types b3.out b0.out (by decide)) (fun _ hk => hk.2) (.int .i64 ((rd_T80 l0_2 a2).f0))) (fun _ hk => hk.2) (.int .i64 ((rd_T80 l0_2 a2).f1))) (fun _ hk => hk.2) (.int .i64 ((rd_T80 l0_2 a2).f2))) (fun _ hk => hk.1))⟩, ⟨trivial⟩, ⟨trivial⟩, ⟨rz (Kd.R_mono (Kd.R_far (p := ⟨a1, 2, none⟩) (Kd.R_far (p := ⟨a1, 1, none⟩) (Kd.R_far (p := ⟨a1, 0, none⟩) (Kd.R_mono a4.out (fun k_ hk => (⟨hk, hk.2⟩ : _ ∧ k_ ≠ a1))) (fun _ hk => hk.2) (.int .i64 ((rd_T80 l0_2 a2).f0))) (fun _ hk => hk.2) (.int .i64 ((rd_T80 l0_2 a2).f1))) (fun _ hk => hk.2) (.int .i64 ((rd_T80 l0_2 a2).f2))) (fun _ hk => hk.1.1))⟩, ⟨fz a0.out d3.out⟩, ⟨fz a5.out d4.out⟩, ⟨fz a3.out d5.out⟩, ⟨by repeat (first | (with_reducible first | exact HK.out | apply Kept.alloc | apply Kept.drewN | apply Kept.drew | refine Kept.setCell ?_ (.inr b5.out) _ | refine Kept.setCell ?_ (.inr b6.out) _ | refine Kept.setCell ?_ (.inr b9.out) _ | refine Kept.setCell ?_ (.inr i1.out) _) | exact HK.out)⟩, ⟨wz HB.out⟩⟩
                    ·rw [if_neg o6] at H;exact absurd H (by simp)
                   ·rw [if_neg o5] at H;exact absurd H (by simp)
                  ·rw [if_neg m3] at H;have c36b0 : ((rd b1 ((rd_T80 l0_2 a2).f0)) == d1) = false := beq_eq_false_iff_ne.mpr m3;have c36b1 : ((rd b1 ((rd_T80 l0_2 a2).f0)) != d1) = true := bne_iff_ne.mpr m3;have H' := Aside0.mk H;clear H;have E2 := d6.out;have I0 := d7.out;have E3 := d0.out;have I1 := d8.out;have s4 : wr.cell? ⟨a6, 0, none⟩ = some (.int .i64 a0_0) := bcz a0 0 rfl;have s5 : wr.cell? ⟨a6, 1, none⟩ = some (.slice A0_1 l0_1.length c0_1) := bcz a0 1 rfl;have s6 : wr.cell? ⟨a6, 2, none⟩ = some (.slice A0_2 l0_2.length c0_2) := bcz a0 2 rfl;have y0 := blk_frozen a0.out 0;have y1 := blk_frozen a0.out 1;have y2 := blk_frozen a0.out 2;have f6 : 0 ≤ (a2 : Int) := of_decide_eq_true (by first | (with_reducible assumption) | assumption);have f7 : a2 < (l0_2.length : Int) := of_decide_eq_true (by first | (with_reducible assumption) | assumption);obtain ⟨g2, k6, l6, l7, l8⟩ := at_T80 (Kd.C_kept_now m0.out HK.out) a2 f6 f7
                   cases k6;replace f6 := eq_true f6;replace f7 := eq_true f7;go_wp2_with (first | ((with_reducible refine gate_dst (N := 12) rfl ?_); refine box_event ?hg (N := 12) ?hd (cs := #[.int .i64 0, .int .i64 0, .int .i64 0]) (t := 80) ?hr ?_; (case hd => rfl); (case hg => rfl); (case hr => first | (go_simp; done) | (go_simp; rfl)); intro a1 hg p5 hbox hb; have e1 := Aside0.mk (Kd.R_below (rz b3.out) hb); have e2 := Aside0.mk trivial; have e3 := Aside0.mk trivial; have e4 := Aside0.mk (Kd.R_below (Kd.R_elderB (rz a4.out) a1 (Nat.le_of_eq hg.symm)) hb); have e5 := Aside0.mk (blk_below (bz a0.out) hb); have e6 := Aside0.mk (blk_below (bz a5.out) hb); have f8 := Aside0.mk (blk_below (bz a3.out) hb); have f9 := Aside0.mk (Kept.below (S := (fun k_ => P0_1_ k_)) (by repeat (first | (with_reducible first | exact HK.out | apply Kept.alloc | apply Kept.drewN | apply Kept.drew | refine Kept.setCell ?_ (.inr b5.out) _ | refine Kept.setCell ?_ (.inr b6.out) _ | refine Kept.setCell ?_ (.inr b9.out) _) | exact HK.out)) hb); have g0 := Aside0.mk (below_step (wz HB.out) hb); have i0 := Aside0.mk (hbox); have g4 := Aside0.mk ((by rw [hg]; exact (by first | exact HK.out.1 | exact (show Kept w _ (fun k_ => P0_1_ k_) from by repeat (first | (with_reducible first | exact HK.out | apply Kept.alloc | apply Kept.drewN | apply Kept.drew | refine Kept.setCell ?_ (.inr b5.out) _ | refine Kept.setCell ?_ (.inr b6.out) _ | refine Kept.setCell ?_ (.inr b9.out) _) | exact HK.out)).1) : w.heap.size ≤ a1)); have g5 := Aside0.mk ((by rw [hg]; exact (below_size (wz HB.out)) : w0.heap.size ≤ a1)); have g6 := Aside0.mk ((by rw [hg]; exact Nat.ne_of_lt (blk_lt (g := a6) (o := .cells #[.int .i64 a0_0, .slice A0_1 l0_1.length c0_1, .slice (some g2) l0_2.length c0_2] 25 (0, 0)) (bz a0.out)) : a6 ≠ a1)); have h4 := Aside0.mk ((by rw [hg]; exact Nat.ne_of_gt (blk_lt (g := a6) (o := .cells #[.int .i64 a0_0, .slice A0_1 l0_1.length c0_1, .slice (some g2) l0_2.length c0_2] 25 (0, 0)) (bz a0.out)) : a1 ≠ a6)); have h5 := Aside0.mk ((by rw [hg]; exact Nat.ne_of_lt (blk_lt (g := b2) (o := .cells #[.int .i64 0, .slice none 0 0, .slice none 0 0] 25 (0, 0)) (bz a5.out)) : b2 ≠ a1)); have h6 := Aside0.mk ((by rw [hg]; exact Nat.ne_of_gt (blk_lt (g := b2) (o := .cells #[.int .i64 0, .slice none 0 0, .slice none 0 0] 25 (0, 0)) (bz a5.out)) : a1 ≠ b2)); have h7 := Aside0.mk ((by rw [hg]; exact Nat.ne_of_lt (blk_lt (g := a9) (o := .cells #[.int .i64 a7, .slice A0_1 l0_1.length c0_1, a8] 25 (0, 0)) (bz a3.out)) : a9 ≠ a1)); have h8 := Aside0.mk ((by rw [hg]; exact Nat.ne_of_gt (blk_lt (g := a9) (o := .cells #[.int .i64 a7, .slice A0_1 l0_1.length c0_1, a8] 25 (0, 0)) (bz a3.out)) : a1 ≠ a9)); clear b3 b7 b8 a4 a0 a5 a3 HK HB; have b3 := e1; have b7 := e2; have b8 := e3; have a4 := e4; have a0 := e5; have a5 := e6; have a3 := f8; have HK := f9; have HB := g0; have b0 := i0; have i1 := g4; have n4 := g5; have d3 := g6; have e7 := h4; have d4 := h5; have e8 := h6; have d5 := h7; have e9 := h8; clear e1 e2 e3 e4 e5 e6 f8 f9 g0 i0 g4 g5 g6 h4 h5 h6 h7 h8 hb hbox hg; have E4 := e7.out; have I2 := d3.out; have E5 := e8.out; have I3 := d4.out; have E6 := e9.out; have I4 := d5.out; have s7 : p5.cell? ⟨a1, 0, none⟩ = some (.int .i64 0) := bcz b0 0 rfl; have s8 : p5.cell? ⟨a1, 1, none⟩ = some (.int .i64 0) := bcz b0 1 rfl; have s9 : p5.cell? ⟨a1, 2, none⟩ = some (.int .i64 0) := bcz b0 2 rfl; have y3 := blk_frozen b0.out 0; have y4 := blk_frozen b0.out 1; have y5 := blk_frozen b0.out 2; have k7 : 0 ≤ (((rd_T80 l0_2 a2).f0) : Int) := of_decide_eq_true (by first | (with_reducible assumption) | assumption); have k8 : ((rd_T80 l0_2 a2).f0) < (b1.length : Int) := of_decide_eq_true (by first | (with_reducible assumption) | assumption); obtain ⟨g3, n7, d9⟩ := Kd.at_int (Kd.R_reads' b3.out).2.2 ((rd_T80 l0_2 a2).f0) k7 k8; cases n7; have f3 : g3.block ≠ a1 := Kd.own_blk (Kd.R_ne b3.out b0.out (by decide)); have f4 : g3.block ≠ a1 := Kd.own_blk (Kd.R_ne b3.out b0.out (by decide)); have f5 : g3.block ≠ a1 := Kd.own_blk (Kd.R_ne b3.out b0.out (by decide)); replace d9 := (cell_far (p := ⟨a1, 0, none⟩) (by first | (rw [add_block]; exact f3) | (show (Addr.add _ _).block ≠ _; rw [add_block]; exact f3) | exact f3) (.int .i64 ((rd_T80 l0_2 a2).f0))).trans d9; replace d9 := (cell_far (p := ⟨a1, 1, none⟩) (by first | (rw [add_block]; exact f4) | (show (Addr.add _ _).block ≠ _; rw [add_block]; exact f4) | exact f4) (.int .i64 ((rd_T80 l0_2 a2).f1))).trans d9; replace d9 := (cell_far (p := ⟨a1, 2, none⟩) (by first | (rw [add_block]; exact f5) | (show (Addr.add _ _).block ≠ _; rw [add_block]; exact f5) | exact f5) (.int .i64 ((rd_T80 l0_2 a2).f2))).trans d9; clear f3 f4 f5; replace k7 := eq_true k7; replace k8 := eq_true k8))
                   go_roundg k4
                   case measure => have := h1.out; have := h2.out; have := h9.out; have := i2.out; omega
                   case rel => exact ⟨(false), (wrap64 (a2 + 1)), (by first | rfl | (simp; done) | (simp [*]; done)), (by first | rfl | (simp; done) | (simp [*]; done)), H', ⟨by have := h1.out; have := h2.out; have := h9.out; have := i2.out; omega⟩, ⟨rz (Kd.R_mono (Kd.R_far (p := ⟨a1, 2, none⟩) (Kd.R_far (p := ⟨a1, 1, none⟩) (Kd.R_far (p := ⟨a1, 0, none⟩) (Kd.R_types b3.out b0.out (by decide)) (fun _ hk => hk.2) (.int .i64 ((rd_T80 l0_2 a2).f0))) (fun _ hk => hk.2) (.int .i64 ((rd_T80 l0_2 a2).f1))) (fun _ hk => hk.2) (.int .i64 ((rd_T80 l0_2 a2).f2))) (fun _ hk => hk.1))⟩, ⟨trivial⟩, ⟨trivial⟩, ⟨rz (Kd.R_mono (Kd.R_far (p := ⟨a1, 2, none⟩) (Kd.R_far (p := ⟨a1, 1, none⟩) (Kd.R_far (p := ⟨a1, 0, none⟩) (Kd.R_mono a4.out (fun k_ hk => (⟨hk, hk.2⟩ : _ ∧ k_ ≠ a1))) (fun _ hk => hk.2) (.int .i64 ((rd_T80 l0_2 a2).f0))) (fun _ hk => hk.2) (.int .i64 ((rd_T80 l0_2 a2).f1))) (fun _ hk => hk.2) (.int .i64 ((rd_T80 l0_2 a2).f2))) (fun _ hk => hk.1.1))⟩, ⟨fz a0.out d3.out⟩, ⟨fz a5.out d4.out⟩, ⟨fz a3.out d5.out⟩, ⟨by repeat (first | (with_reducible first | exact HK.out | apply Kept.alloc | apply Kept.drewN | apply Kept.drew | refine Kept.setCell ?_ (.inr b5.out) _ | refine Kept.setCell ?_ (.inr b6.out) _ | refine Kept.setCell ?_ (.inr b9.out) _ | refine Kept.setCell ?_ (.inr i1.out) _) | exact HK.out)⟩, ⟨wz HB.out⟩⟩
                 ·rw [if_neg o4] at H;exact absurd H (by simp)
                ·rw [if_neg o3] at H;exact absurd H (by simp)
               ·rw [if_neg m2] at H;have c33b0 : (((rd_T80 l0_2 a2).f1) == d2) = false := beq_eq_false_iff_ne.mpr m2;have c33b1 : (((rd_T80 l0_2 a2).f1) != d2) = true := bne_iff_ne.mpr m2;have H' := Aside0.mk H;clear H;have E7 := d6.out;have I5 := d7.out;have E8 := d0.out;have I6 := d8.out;have t2 : wr.cell? ⟨a6, 0, none⟩ = some (.int .i64 a0_0) := bcz a0 0 rfl;have t4 : wr.cell? ⟨a6, 1, none⟩ = some (.slice A0_1 l0_1.length c0_1) := bcz a0 1 rfl;have t5 : wr.cell? ⟨a6, 2, none⟩ = some (.slice A0_2 l0_2.length c0_2) := bcz a0 2 rfl;have y6 := blk_frozen a0.out 0;have y7 := blk_frozen a0.out 1;have y8 := blk_frozen a0.out 2;have f6 : 0 ≤ (a2 : Int) := of_decide_eq_true (by first | (with_reducible assumption) | assumption);have f7 : a2 < (l0_2.length : Int) := of_decide_eq_true (by first | (with_reducible assumption) | assumption);obtain ⟨g2, k6, l6, l7, l8⟩ := at_T80 (Kd.C_kept_now m0.out HK.out) a2 f6 f7
                cases k6;replace f6 := eq_true f6;replace f7 := eq_true f7;go_wp2_with (first | ((with_reducible refine gate_dst (N := 12) rfl ?_); refine box_event ?hg (N := 12) ?hd (cs := #[.int .i64 0, .int .i64 0, .int .i64 0]) (t := 80) ?hr ?_; (case hd => rfl); (case hg => rfl); (case hr => first | (go_simp; done) | (go_simp; rfl)); intro a1 hg p6 hbox hb; have e1 := Aside0.mk (Kd.R_below (rz b3.out) hb); have e2 := Aside0.mk trivial; have e3 := Aside0.mk trivial; have e4 := Aside0.mk (Kd.R_below (Kd.R_elderB (rz a4.out) a1 (Nat.le_of_eq hg.symm)) hb); have e5 := Aside0.mk (blk_below (bz a0.out) hb); have e6 := Aside0.mk (blk_below (bz a5.out) hb); have f8 := Aside0.mk (blk_below (bz a3.out) hb); have f9 := Aside0.mk (Kept.below (S := (fun k_ => P0_1_ k_)) (by repeat (first | (with_reducible first | exact HK.out | apply Kept.alloc | apply Kept.drewN | apply Kept.drew | refine Kept.setCell ?_ (.inr b5.out) _ | refine Kept.setCell ?_ (.inr b6.out) _ | refine Kept.setCell ?_ (.inr b9.out) _) | exact HK.out)) hb); have g0 := Aside0.mk (below_step (wz HB.out) hb); have i0 := Aside0.mk (hbox); have g4 := Aside0.mk ((by rw [hg]; exact (by first | exact HK.out.1 | exact (show Kept w _ (fun k_ => P0_1_ k_) from by repeat (first | (with_reducible first | exact HK.out | apply Kept.alloc | apply Kept.drewN | apply Kept.drew | refine Kept.setCell ?_ (.inr b5.out) _ | refine Kept.setCell ?_ (.inr b6.out) _ | refine Kept.setCell ?_ (.inr b9.out) _) | exact HK.out)).1) : w.heap.size ≤ a1)); have g5 := Aside0.mk ((by rw [hg]; exact (below_size (wz HB.out)) : w0.heap.size ≤ a1)); have g6 := Aside0.mk ((by rw [hg]; exact Nat.ne_of_lt (blk_lt (g := a6) (o := .cells #[.int .i64 a0_0, .slice A0_1 l0_1.length c0_1, .slice (some g2) l0_2.length c0_2] 25 (0, 0)) (bz a0.out)) : a6 ≠ a1)); have h4 := Aside0.mk ((by rw [hg]; exact Nat.ne_of_gt (blk_lt (g := a6) (o := .cells #[.int .i64 a0_0, .slice A0_1 l0_1.length c0_1, .slice (some g2) l0_2.length c0_2] 25 (0, 0)) (bz a0.out)) : a1 ≠ a6)); have h5 := Aside0.mk ((by rw [hg]; exact Nat.ne_of_lt (blk_lt (g := b2) (o := .cells #[.int .i64 0, .slice none 0 0, .slice none 0 0] 25 (0, 0)) (bz a5.out)) : b2 ≠ a1)); have h6 := Aside0.mk ((by rw [hg]; exact Nat.ne_of_gt (blk_lt (g := b2) (o := .cells #[.int .i64 0, .slice none 0 0, .slice none 0 0] 25 (0, 0)) (bz a5.out)) : a1 ≠ b2)); have h7 := Aside0.mk ((by rw [hg]; exact Nat.ne_of_lt (blk_lt (g := a9) (o := .cells #[.int .i64 a7, .slice A0_1 l0_1.length c0_1, a8] 25 (0, 0)) (bz a3.out)) : a9 ≠ a1)); have h8 := Aside0.mk ((by rw [hg]; exact Nat.ne_of_gt (blk_lt (g := a9) (o := .cells #[.int .i64 a7, .slice A0_1 l0_1.length c0_1, a8] 25 (0, 0)) (bz a3.out)) : a1 ≠ a9)); clear b3 b7 b8 a4 a0 a5 a3 HK HB; have b3 := e1; have b7 := e2; have b8 := e3; have a4 := e4; have a0 := e5; have a5 := e6; have a3 := f8; have HK := f9; have HB := g0; have b0 := i0; have i1 := g4; have n4 := g5; have d3 := g6; have e7 := h4; have d4 := h5; have e8 := h6; have d5 := h7; have e9 := h8; clear e1 e2 e3 e4 e5 e6 f8 f9 g0 i0 g4 g5 g6 h4 h5 h6 h7 h8 hb hbox hg; have E9 := e7.out; have I7 := d3.out; have F0 := e8.out; have I8 := d4.out; have F1 := e9.out; have I9 := d5.out; have t6 : p6.cell? ⟨a1, 0, none⟩ = some (.int .i64 0) := bcz b0 0 rfl; have t7 : p6.cell? ⟨a1, 1, none⟩ = some (.int .i64 0) := bcz b0 1 rfl; have t8 : p6.cell? ⟨a1, 2, none⟩ = some (.int .i64 0) := bcz b0 2 rfl; have y9 := blk_frozen b0.out 0; have z0 := blk_frozen b0.out 1; have z1 := blk_frozen b0.out 2))
                go_roundg k4
                case measure => have := h1.out; have := h2.out; have := h9.out; have := i2.out; omega
                case rel => exact ⟨(false), (wrap64 (a2 + 1)), (by first | rfl | (simp; done) | (simp [*]; done)), (by first | rfl | (simp; done) | (simp [*]; done)), H', ⟨by have := h1.out; have := h2.out; have := h9.out; have := i2.out; omega⟩, ⟨rz (Kd.R_mono (Kd.R_far (p := ⟨a1, 2, none⟩) (Kd.R_far (p := ⟨a1, 1, none⟩) (Kd.R_far (p := ⟨a1, 0, none⟩) (Kd.R_types b3.out b0.out (by decide)) (fun _ hk => hk.2) (.int .i64 ((rd_T80 l0_2 a2).f0))) (fun _ hk => hk.2) (.int .i64 ((rd_T80 l0_2 a2).f1))) (fun _ hk => hk.2) (.int .i64 ((rd_T80 l0_2 a2).f2))) (fun _ hk => hk.1))⟩, ⟨trivial⟩, ⟨trivial⟩, ⟨rz (Kd.R_mono (Kd.R_far (p := ⟨a1, 2, none⟩) (Kd.R_far (p := ⟨a1, 1, none⟩) (Kd.R_far (p := ⟨a1, 0, none⟩) (Kd.R_mono a4.out (fun k_ hk => (⟨hk, hk.2⟩ : _ ∧ k_ ≠ a1))) (fun _ hk => hk.2) (.int .i64 ((rd_T80 l0_2 a2).f0))) (fun _ hk => hk.2) (.int .i64 ((rd_T80 l0_2 a2).f1))) (fun _ hk => hk.2) (.int .i64 ((rd_T80 l0_2 a2).f2))) (fun _ hk => hk.1.1))⟩, ⟨fz a0.out d3.out⟩, ⟨fz a5.out d4.out⟩, ⟨fz a3.out d5.out⟩, ⟨by repeat (first | (with_reducible first | exact HK.out | apply Kept.alloc | apply Kept.drewN | apply Kept.drew | refine Kept.setCell ?_ (.inr b5.out) _ | refine Kept.setCell ?_ (.inr b6.out) _ | refine Kept.setCell ?_ (.inr b9.out) _ | refine Kept.setCell ?_ (.inr i1.out) _) | exact HK.out)⟩, ⟨wz HB.out⟩⟩
             ·rw [if_neg o1] at H;exact absurd H (by simp)
            ·rw [if_neg m6] at H;have c22b0 : decide (a2 < (l0_2.length : Int)) = false := decide_eq_false m6;clear m6;by_cases o7 : l5 = true
             ·subst o7;have H1 : (if b4.length < 5864062014805 then (Pr36a.l2 k4 b1 a7 d1 d2 (wrap64 (e0 + 1)) a0_0 l0_1 l0_2 a7 l0_1 (b4 ++ [(⟨d1, d2, e0⟩ : S80)])) else (none)) = some (r1, r2, r3) := by rw [if_pos rfl] at H; exact H
              clear H;have H := H1;clear H1;by_cases o8 : b4.length < 5864062014805
              ·rw [if_pos o8] at H;have p8 := Aside0.mk o8;clear o8;obtain ⟨m4, l4⟩ : ∃ y_ : List (S80), y_ = (b4 ++ [(⟨d1, d2, e0⟩ : S80)]) := ⟨_, rfl⟩
               replace H : (Pr36a.l2 k4 b1 a7 d1 d2 (wrap64 (e0 + 1)) a0_0 l0_1 l0_2 a7 l0_1 m4) = some (r1, r2, r3) := by first | (rw [l4]; with_reducible exact H) | (have p0 := (Option.bind_some _ _).symm.trans H; rw [l4]; with_reducible exact p0) | (have p0 := (Option.bind_some _ _).symm.trans H; with_reducible exact p0) | with_reducible exact H | (rw [l4]; exact H) | exact H
               have p9 := Aside0.mk l4;clear l4;have H' := Aside0.mk H;clear H;have F2 := d6.out;have J0 := d7.out;have F3 := d0.out;have J1 := d8.out;have t9 : wr.cell? ⟨a6, 0, none⟩ = some (.int .i64 a0_0) := bcz a0 0 rfl;have u0 : wr.cell? ⟨a6, 1, none⟩ = some (.slice A0_1 l0_1.length c0_1) := bcz a0 1 rfl;have u1 : wr.cell? ⟨a6, 2, none⟩ = some (.slice A0_2 l0_2.length c0_2) := bcz a0 2 rfl;have z2 := blk_frozen a0.out 0;have z3 := blk_frozen a0.out 1;have z4 := blk_frozen a0.out 2;have F4 := i3.out;have J2 := g9.out;have u2 : wr.cell? ⟨a9, 0, none⟩ = some (.int .i64 a7) := bcz a3 0 rfl;have u3 : wr.cell? ⟨a9, 1, none⟩ = some (.slice A0_1 l0_1.length c0_1) := bcz a3 1 rfl;have u4 : wr.cell? ⟨a9, 2, none⟩ = some (a8) := bcz a3 2 rfl;have z5 := blk_frozen a3.out 0;have z6 := blk_frozen a3.out 1;have z7 := blk_frozen a3.out 2;go_wp2_with (first | ((with_reducible refine gate_builtin (b := .append) (xs := #[.tmp 77, .tmp 82]) rfl ?_); at_builtin; refine Kd.R_append k80 (w0 := w0) w0.heap.size rfl (.tmp 77) (.tmp 82) 23 80 (.agg #[(.int .i64 0), (.int .i64 0), (.int .i64 0)]) 24 rfl Try.underlying23 info80 rfl (by decide) (by omega) a8 b4 (⟨d1, d2, e0⟩ : S80) [.int .i64 d1, .int .i64 d2, .int .i64 e0] (fun k_ => (P0_1_ k_ ∨ w.heap.size ≤ k_)) (fun _ => False) rfl rfl ?aP (fun _ hk => hk.elim) ?aF ?aO ?aB ?aS ?aL ?_; (case aP => exact k80_mkM _ _ _ (⟨d1, d2, e0⟩ : S80)); (case aB => exact (wz HB.out)); (case aF => exact (fun k_ hk => (.inr (Nat.le_trans (by first | exact HK.out.1 | exact (show Kept w _ (fun k_ => P0_1_ k_) from by repeat (first | (with_reducible first | exact HK.out | apply Kept.alloc | apply Kept.drewN | apply Kept.drew | refine Kept.setCell ?_ (.inr b5.out) _ | refine Kept.setCell ?_ (.inr b6.out) _ | refine Kept.setCell ?_ (.inr b9.out) _) | exact HK.out)).1) hk)))); (case aO => exact (rz a4.out)); (case aS => exact (below_size (wz HB.out))); (case aL => have := p8.out; omega); intro K3 p7 ho hb hg hat; rw [← p9.out] at ho; have e1 := Aside0.mk (Kd.R_over' (rz b3.out) (Kd.R_typed (rz a4.out)) (by decide) hg); have e2 := Aside0.mk trivial; have e3 := Aside0.mk trivial; have e4 := Aside0.mk (blk_grown (bz a0.out) hg (Kd.R_ne a4.out a0.out (by decide))); have e5 := Aside0.mk (blk_grown (bz a5.out) hg (Kd.R_ne a4.out a5.out (by decide))); have e6 := Aside0.mk (blk_grown (bz a3.out) hg (Kd.R_ne a4.out a3.out (by decide))); have f8 := Aside0.mk (hb); have f9 := Aside0.mk (Kept.of_grown (S := (fun k_ => P0_1_ k_)) hg (by repeat (first | (with_reducible first | exact HK.out | apply Kept.alloc | apply Kept.drewN | apply Kept.drew | refine Kept.setCell ?_ (.inr b5.out) _ | refine Kept.setCell ?_ (.inr b6.out) _ | refine Kept.setCell ?_ (.inr b9.out) _) | exact HK.out)) (fun k_ e_ => (a4.out.1 k_ e_))); have g0 := Aside0.mk (ho); clear b3 b7 b8 a0 a5 a3 HB HK a4; have b3 := e1; have b7 := e2; have b8 := e3; have a0 := e4; have a5 := e5; have a3 := e6; have HB := f8; have HK := f9; have o0 := g0; clear e1 e2 e3 e4 e5 e6 f8 f9 g0 ho hb hg hat; obtain ⟨n5, n6, q7⟩ := Kd.R_slice o0.out; subst q7; have u5 : p7.cell? ⟨a9, 0, none⟩ = some (.int .i64 a7) := bcz a3 0 rfl; have u6 : p7.cell? ⟨a9, 1, none⟩ = some (.slice A0_1 l0_1.length c0_1) := bcz a3 1 rfl; have u7 : p7.cell? ⟨a9, 2, none⟩ = some (a8) := bcz a3 2 rfl; have z8 := blk_frozen a3.out 0; have z9 := blk_frozen a3.out 1; have A0 := blk_frozen a3.out 2))
               go_roundg k4
               case measure => have := h1.out; have := h2.out; have := h9.out; have := i2.out; omega
               case rel => exact ⟨(wrap64 (e0 + 1)), (m4), (.slice n5 m4.length n6), (by first | rfl | (simp; done) | (simp [*]; done)), H', ⟨by have := h1.out; have := h2.out; have := h9.out; have := i2.out; omega⟩, ⟨rz (Kd.R_mono (Kd.R_far (p := ⟨a9, 2, none⟩) (Kd.R_types b3.out a3.out (by decide)) (fun _ hk => hk.2) (.slice n5 m4.length n6)) (fun _ hk => hk.1))⟩, ⟨trivial⟩, ⟨trivial⟩, ⟨rz (Kd.R_mono (Kd.R_far (p := ⟨a9, 2, none⟩) (Kd.R_types o0.out a3.out (by decide)) (fun _ hk => hk.2) (.slice n5 m4.length n6)) (fun _ hk => hk.1))⟩, ⟨fz a0.out d0.out⟩, ⟨fz a5.out g9.out⟩, ⟨by (with_reducible repeat (first | refine blk_drewN ?_ _ | refine blk_drew ?_ | refine blk_alloc ?_ _)); refine blk_put (cs := #[.int .i64 a7, .slice A0_1 l0_1.length c0_1, a8]) ?_ 2 _ rfl; (with_reducible repeat (first | refine blk_drewN ?_ _ | refine blk_drew ?_ | refine blk_alloc ?_ _)); exact a3.out⟩, ⟨by repeat (first | (with_reducible first | exact HK.out | apply Kept.alloc | apply Kept.drewN | apply Kept.drew | refine Kept.setCell ?_ (.inr b5.out) _ | refine Kept.setCell ?_ (.inr b6.out) _ | refine Kept.setCell ?_ (.inr b9.out) _) | exact HK.out)⟩, ⟨wz HB.out⟩⟩
              ·rw [if_neg o8] at H;exact absurd H (by simp)
             ·replace o7 := Bool.eq_false_iff.mpr o7;subst o7;have H1 : (Pr36a.l2 k4 b1 a7 d1 d2 (wrap64 (e0 + 1)) a0_0 l0_1 l0_2 a7 l0_1 b4) = some (r1, r2, r3) := by rw [if_neg (show ¬ (false = true) by decide)] at H; exact H
              clear H;have H := H1;clear H1;have H' := Aside0.mk H;clear H;have F5 := d6.out;have J3 := d7.out;have F6 := d0.out;have J4 := d8.out;have u8 : wr.cell? ⟨a6, 0, none⟩ = some (.int .i64 a0_0) := bcz a0 0 rfl;have u9 : wr.cell? ⟨a6, 1, none⟩ = some (.slice A0_1 l0_1.length c0_1) := bcz a0 1 rfl;have v0 : wr.cell? ⟨a6, 2, none⟩ = some (.slice A0_2 l0_2.length c0_2) := bcz a0 2 rfl;have A2 := blk_frozen a0.out 0;have A5 := blk_frozen a0.out 1;have A6 := blk_frozen a0.out 2;go_wp2
              go_roundg k4
              case measure => have := h1.out; have := h2.out; have := h9.out; have := i2.out; omega
              case rel => exact ⟨(wrap64 (e0 + 1)), (b4), (a8), (by first | rfl | (simp; done) | (simp [*]; done)), H', ⟨by have := h1.out; have := h2.out; have := h9.out; have := i2.out; omega⟩, ⟨rz b3.out⟩, ⟨trivial⟩, ⟨trivial⟩, ⟨rz a4.out⟩, ⟨bz a0.out⟩, ⟨bz a5.out⟩, ⟨bz a3.out⟩, ⟨by repeat (first | (with_reducible first | exact HK.out | apply Kept.alloc | apply Kept.drewN | apply Kept.drew | refine Kept.setCell ?_ (.inr b5.out) _ | refine Kept.setCell ?_ (.inr b6.out) _ | refine Kept.setCell ?_ (.inr b9.out) _) | exact HK.out)⟩, ⟨wz HB.out⟩⟩
         ·rw [if_neg m1] at H;have c21b0 : decide (e0 < a7) = false := decide_eq_false m1;clear m1;have H' := Aside0.mk H;clear H;go_wp2
          go_roundg k3
          case measure => have := h1.out; have := h2.out; have := h9.out; omega
          case rel => exact ⟨(wrap64 (d2 + 1)), (b4), (a8), (by first | rfl | (simp; done) | (simp [*]; done)), H', ⟨by have := h1.out; have := h2.out; have := h9.out; omega⟩, ⟨rz b3.out⟩, ⟨trivial⟩, ⟨trivial⟩, ⟨rz a4.out⟩, ⟨bz a0.out⟩, ⟨bz a5.out⟩, ⟨bz a3.out⟩, ⟨by repeat (first | (with_reducible first | exact HK.out | apply Kept.alloc | apply Kept.drewN | apply Kept.drew | refine Kept.setCell ?_ (.inr b5.out) _ | refine Kept.setCell ?_ (.inr b6.out) _ | refine Kept.setCell ?_ (.inr b9.out) _) | exact HK.out)⟩, ⟨wz HB.out⟩⟩
      ·rw [if_neg l9] at H;have c17b0 : decide (d2 < (l0_1.length : Int)) = false := decide_eq_false l9;clear l9;have H' := Aside0.mk H;clear H;have F7 := d6.out;have J5 := d7.out;have F8 := d0.out;have J6 := d8.out;have v1 : wr.cell? ⟨a6, 0, none⟩ = some (.int .i64 a0_0) := bcz a0 0 rfl;have v2 : wr.cell? ⟨a6, 1, none⟩ = some (.slice A0_1 l0_1.length c0_1) := bcz a0 1 rfl;have v3 : wr.cell? ⟨a6, 2, none⟩ = some (.slice A0_2 l0_2.length c0_2) := bcz a0 2 rfl;have A7 := blk_frozen a0.out 0;have A8 := blk_frozen a0.out 1;have A9 := blk_frozen a0.out 2;go_wp2
       go_roundg k2
       case measure => have := h1.out; have := h2.out; omega
       case rel => exact ⟨(wrap64 (d1 + 1)), (h0), (a8), (by first | rfl | (simp; done) | (simp [*]; done)), H', ⟨by have := h1.out; have := h2.out; omega⟩, ⟨rz b3.out⟩, ⟨trivial⟩, ⟨trivial⟩, ⟨rz a4.out⟩, ⟨bz a0.out⟩, ⟨bz a5.out⟩, ⟨bz a3.out⟩, ⟨by repeat (first | (with_reducible first | exact HK.out | apply Kept.alloc | apply Kept.drewN | apply Kept.drew | refine Kept.setCell ?_ (.inr b5.out) _ | refine Kept.setCell ?_ (.inr b6.out) _ | refine Kept.setCell ?_ (.inr b9.out) _) | exact HK.out)⟩, ⟨wz HB.out⟩⟩
   ·rw [if_neg k9] at H;have c16b0 : decide (d1 < a7) = false := decide_eq_false k9;clear k9;simp only [Option.some.injEq, Prod.mk.injEq] at H;obtain ⟨rfl, rfl, rfl⟩ := H;have F9 := d8.out;have J7 := d0.out;have G0 := i3.out;have J8 := g9.out;have v4 : wr.cell? ⟨a9, 0, none⟩ = some (.int .i64 a7) := bcz a3 0 rfl;have v5 : wr.cell? ⟨a9, 1, none⟩ = some (.slice A0_1 l0_1.length c0_1) := bcz a3 1 rfl;have v6 : wr.cell? ⟨a9, 2, none⟩ = some (a8) := bcz a3 2 rfl;have B0 := blk_frozen a3.out 0;have B1 := blk_frozen a3.out 1;have B2 := blk_frozen a3.out 2;have G3 := d7.out;have J9 := d6.out;have w2 : wr.cell? ⟨b2, 0, none⟩ = some (.int .i64 0) := bcz a5 0 rfl;have w3 : wr.cell? ⟨b2, 1, none⟩ = some (.slice none 0 0) := bcz a5 1 rfl;have w4 : wr.cell? ⟨b2, 2, none⟩ = some (.slice none 0 0) := bcz a5 2 rfl;have B3 := blk_frozen a5.out 0;have B4 := blk_frozen a5.out 1;have B5 := blk_frozen a5.out 2;obtain ⟨o9, p1, q8⟩ := Kd.R_slice a4.out;subst q8;go_wp2
    refine bodyPost_ret (results_cell_row rfl _ _ b2 25 #[.int .i64 a7, .slice A0_1 l0_1.length c0_1, .slice o9 g1.length p1] (0, 0) _ rfl (by (with_reducible repeat (first | refine blk_drewN ?_ _ | refine blk_drew ?_ | refine blk_alloc ?_ _)); refine blk_put (cs := #[.int .i64 a7, .slice A0_1 l0_1.length c0_1, .slice none 0 0]) ?_ 2 _ rfl; (with_reducible repeat (first | refine blk_drewN ?_ _ | refine blk_drew ?_ | refine blk_alloc ?_ _)); refine blk_put (cs := #[.int .i64 a7, .slice none 0 0, .slice none 0 0]) ?_ 1 _ rfl; (with_reducible repeat (first | refine blk_drewN ?_ _ | refine blk_drew ?_ | refine blk_alloc ?_ _)); refine blk_put (cs := #[.int .i64 0, .slice none 0 0, .slice none 0 0]) ?_ 0 _ rfl; (with_reducible repeat (first | refine blk_drewN ?_ _ | refine blk_drew ?_ | refine blk_alloc ?_ _)); exact a5.out) Try.underlying25 rfl (by kernel_rfl)) rfl ?_;exact ⟨_, by first | rfl | (simp [errW_none, errW_some] <;> rfl) | (simp [*, errW_none, errW_some] <;> rfl), rz (Kd.R_mono (Kd.R_far (p := ⟨b2, 2, none⟩) (Kd.R_far (p := ⟨b2, 1, none⟩) (Kd.R_far (p := ⟨b2, 0, none⟩) (Kd.R_types a4.out a5.out (by decide)) (fun _ hk => hk.2) (.int .i64 a7)) (fun _ hk => hk.2) (.slice A0_1 l0_1.length c0_1)) (fun _ hk => hk.2) (.slice o9 g1.length p1)) (fun _ hk => hk.1)), wz HB.out, by repeat (first | (with_reducible first | exact HK.out | apply Kept.alloc | apply Kept.drewN | apply Kept.drew | refine Kept.setCell ?_ (.inr b5.out) _ | refine Kept.setCell ?_ (.inr b6.out) _ | refine Kept.setCell ?_ (.inr b9.out) _) | exact HK.out)⟩
end Go.Proofs.Ytmcbkmfpmcbdpaa.Pr
set_option linter.unusedVariables false
set_option linter.unusedSimpArgs false
namespace Go.Proofs.Ytmcbkmfpmcbdpaa.H
open Go.RowKit Go.Proofs.Ytmcbkmfpmcbdpaa.Pr Go.Proofs.YtmcbkmfpmcbdpaaW.PrintWords Go.Proofs.Ytmcbkmfpmcbdpaa.Sem Go.Proofs.Ytmcbkmfpmcbdpaa.PL
theorem rdI (ks : List Int) {i : Nat} (hi : i < ks.length) : rd ks (i : Int) = ks[i] := by
 show ks.getD (i : Int).toNat 0 = _
 rw [Int.toNat_natCast, List.getD_eq_getElem?_getD, List.getElem?_eq_getElem hi]
 rfl
theorem firstN_of {ks : List Int} {i j : Nat} (hi : i < ks.length) (hj : j ≤ i) (h : ks[j]'(by omega) = ks[i]) (hb : ∀ m (hm : m < j), ks[m]'(by omega) ≠ ks[i]) : firstN ks i = j := by
 have hle := firstN_le hi
 rcases Nat.lt_trichotomy (firstN ks i) j with q | q | q
 ·exact absurd (firstN_same hi) (hb _ q)
 ·exact q
 ·exact absurd h (firstN_least hi q)
theorem first_ev (ks : List Int) {i : Nat} (hi : i < ks.length) (hl : ks.length ≤ 1000000000) : Ev (fun k => Pr31b.f k ks (i : Int)) (firstN ks i : Int) := by
 have key : ∀ (d j : Nat) (hji : j + d = i), (∀ m (hm : m < j), ks[m]'(by omega) ≠ ks[i]) → Ev (fun k => Pr31b.l0 k ks (i : Int) (j : Int)) (firstN ks i : Int) := by
  intro d
  induction d with
  | zero =>
   intro j h hb
   obtain rfl : j = i := by omega
   rw [firstN_of hi (Nat.le_refl _) rfl hb]
   exact Ev.step (fun k => Pr31b.l0.eq_2 ..) (Ev.neg (by omega) (Ev.now _))
  | succ d ih =>
   intro j h hb
   refine Ev.step (fun k => Pr31b.l0.eq_2 ..) (Ev.pos (by omega) (Ev.pos (by omega) (Ev.pos (by omega) (Ev.pos (by omega) (Ev.pos (by omega) ?_)))))
   rw [rdI ks (show j < ks.length by omega), rdI ks hi]
   by_cases q : ks[j]'(by omega) = ks[i]
   ·rw [firstN_of hi (by omega) q hb]
    exact Ev.pos q (Ev.now _)
   ·refine Ev.neg q ?_
    rw [w1n (by omega)]
    refine ih (j + 1) (by omega) fun m hm => ?_
    rcases Nat.lt_succ_iff_lt_or_eq.1 hm with h1 | h1
    ·exact hb m h1
    ·subst h1; exact q
 exact key i 0 (by omega) fun m hm => by omega
theorem newN_succ (ks : List Int) (m : Nat) : newN ks (m + 1) = newN ks m + if firstN ks m = m then 1 else 0 := by
 unfold newN
 rw [List.range_succ, List.filter_append, List.length_append]
 congr 1
 by_cases q : firstN ks m = m
 ·simp [q]
 ·simp [q]
theorem newN_le (ks : List Int) (m : Nat) : newN ks m ≤ m := by
 unfold newN
 have := List.length_filter_le (fun k => firstN ks k == k) (List.range m)
 simpa using this
theorem count_ev (ks : List Int) (hl : ks.length ≤ 1000000000) : Ev (fun k => Pr31a.f k ks) ((fstK ks).length : Int) := by
 have key : ∀ d i : Nat, i + d = ks.length → Ev (fun k => Pr31a.l0 k ks (newN ks i : Int) (i : Int)) ((fstK ks).length : Int) := by
  intro d
  induction d with
  | zero =>
   intro i h
   obtain rfl : i = ks.length := by omega
   rw [count_new]
   exact Ev.step (fun k => Pr31a.l0.eq_2 ..) (Ev.neg (by omega) (Ev.now _))
  | succ d ih =>
   intro i h
   have hi : i < ks.length := by omega
   have hn := newN_le ks i
   have ih' := ih (i + 1) (by omega)
   rw [newN_succ] at ih'
   refine Ev.step (fun k => Pr31a.l0.eq_2 ..) (Ev.pos (by omega) (Ev.bind (first_ev ks hi hl) ?_))
   rw [w1n (by omega), w1n (by omega)]
   by_cases q : firstN ks i = i
   ·rw [if_pos q] at ih'
    exact Ev.pos (by omega) ih'
   ·rw [if_neg q] at ih'
    exact Ev.neg (by omega) ih'
 exact key ks.length 0 (by omega)
theorem plain_ev (ks : List Int) (hl : ks.length ≤ 1000000000) : Ev (fun k => Pr31c.f k ks) (numK ks) := by
 have key : ∀ d i : Nat, i + d = ks.length → Ev (fun k => Pr31c.l0 k ks ((numK ks).take i) (i : Int)) (numK ks) := by
  intro d
  induction d with
  | zero =>
   intro i h;rw [List.take_of_length_le (by rw [numK_length]; omega)];exact Ev.step (fun k => Pr31c.l0.eq_2 ..) (Ev.neg (by omega) (Ev.now _))
  | succ d ih =>
   intro i h;have hi : i < ks.length := by omega
   have hf := firstN_le hi;have ih' := ih (i + 1) (by omega);rw [take_snocD (0 : Int) (show i < (numK ks).length by rw [numK_length]; exact hi), numK_new hi] at ih';have hlen : ((numK ks).take i).length < 17592186044416 := by rw [List.length_take]; omega
   have inner : ∀ d2 m : Nat, m + d2 = firstN ks i → Ev (fun k => Pr31c.l1 k ks ((numK ks).take i) (i : Int) (firstN ks i : Int) (newN ks m : Int) (m : Int)) (numK ks) := by
    intro d2
    induction d2 with
    | zero =>
     intro m h2;obtain rfl : m = firstN ks i := by omega
     refine Ev.step (fun k => Pr31c.l1.eq_2 ..) (Ev.neg (by omega) (Ev.pos hlen ?_));rw [w1n (by omega)];exact ih'
    | succ d2 ih2 =>
     intro m h2;have hn := newN_le ks m;have ih2' := ih2 (m + 1) (by omega);rw [newN_succ] at ih2';refine Ev.step (fun k => Pr31c.l1.eq_2 ..) (Ev.pos (by omega) (Ev.bind (first_ev ks (show m < ks.length by omega) hl) ?_));rw [w1n (by omega), w1n (by omega)];by_cases q : firstN ks m = m
     ·rw [if_pos q] at ih2';exact Ev.pos (by omega) ih2'
     ·rw [if_neg q] at ih2';exact Ev.neg (by omega) ih2'
   exact Ev.step (fun k => Pr31c.l0.eq_2 ..) (Ev.pos (by omega) (Ev.bind (first_ev ks hi hl) (inner (firstN ks i) 0 (by omega))))
 exact key ks.length 0 (by omega)
theorem sortE_sorted (es : List Ed) : (sortE es).Pairwise elt := (fold_ins es [] List.Pairwise.nil).1
theorem sortE_mem (es : List Ed) (x : Ed) : x ∈ sortE es ↔ x ∈ es := by
 have := (fold_ins es [] List.Pairwise.nil).2 x
 rw [show sortE es = es.foldl (fun o e => insE e o) [] from rfl, this]
 simp
def imE (c : List Int) (e : Ed) : Ed := ⟨c.getD e.f0.toNat 0, e.f1, c.getD e.f2.toNat 0⟩
theorem numK_numK (ks : List Int) : numK (numK ks) = numK ks ∧ (fstK (numK ks)).length = (fstK ks).length := numK_ker _ _ (ker_numK ks)
theorem inW_numK (ks : List Int) (hl : ks.length ≤ 1000000000) : inW (numK ks) = true := by
 unfold inW
 rw [Bool.and_eq_true, List.all_eq_true, decide_eq_true_eq]
 refine ⟨fun x hx => ?_, by rw [numK_length]; exact hl⟩
 have h1 := numK_range ks x hx
 have h2 := fstK_length_le ks
 simp only [Bool.and_eq_true, decide_eq_true_eq]
 omega
theorem cls_in {ks : List Int} {x : Int} (h0 : 0 ≤ x) (h1 : x < (ks.length : Int)) : 0 ≤ (numK ks).getD x.toNat 0 ∧ (numK ks).getD x.toNat 0 < ((fstK ks).length : Int) := by
 refine numK_range ks _ ?_
 have : x.toNat < (numK ks).length := by rw [numK_length]; omega
 rw [List.getD_eq_getElem?_getD, List.getElem?_eq_getElem this]
 exact List.getElem_mem this
theorem may_quot {n : Nat} {ls : List ByteArray} {es : List Ed} {ks : List Int} (hm : mayR n ls es = true) (hl : ks.length = n) : mayR ((fstK ks).length : Int) ls (sortE (es.map (imE (numK ks)))) = true := by
 have hn := lt_n hm
 have hf := fstK_length_le ks
 have h0 : 1 ≤ (fstK ks).length := by
  have hmem : ks[0]'(by omega) ∈ fstK ks := (fstK_mem _ _).2 (List.getElem_mem _)
  exact List.length_pos_of_mem hmem
 refine may_of ⟨by omega, by omega⟩ (may_lab hm).1 (may_rise hm) (may_lab hm).2 ?_ (sortE_sorted _) fun e he => ?_
 ·have h1 := sortE_length (es.map (imE (numK ks)))
  rw [List.length_map] at h1
  have := es_le hm
  omega
 ·obtain ⟨f, hf, rfl⟩ := List.mem_map.1 ((sortE_mem _ _).1 he)
  have h1 := may_edge hm f hf
  exact ⟨cls_in h1.1.1 (by omega), cls_in h1.2.1.1 (by omega), h1.2.2⟩
theorem quotOf_ev {n : Nat} {ls : List ByteArray} {es : List Ed} {ks : List Int} (hm : mayR n ls es = true) (hl : ks.length = n) (hw : inW ks = true) : Ev (fun k => Pxg.f k (n : Int) ls es ks) (((fstK ks).length : Int), ls, sortE (es.map (imE (numK ks))), 0) := by
 have hn := lt_n hm;have hel := es_le hm;have hc := numK_length ks;have hkk := numK_numK ks
 have key : ∀ d i : Nat, i + d = es.length → Ev (fun k => Pxg.l0 k (numK ks) es (es.length : Int) (i : Int) ((fstK ks).length : Int) ls ((es.take i).map (imE (numK ks)))) (((fstK ks).length : Int), ls, sortE (es.map (imE (numK ks))), (0 : Int)) := by
  intro d
  induction d with
  | zero =>
   intro i h;rw [List.take_of_length_le (by omega)];refine Ev.step (fun k => Pxg.l0.eq_2 ..) (Ev.neg (by omega) (Ev.bindS (a := (((fstK ks).length : Int), ls, sortE (es.map (imE (numK ks))), (0 : Int))) ?_ (Ev.now _)));unfold Pxf.f;rw [if_pos ⟨by rw [List.length_map]; exact hel, by have := (may_lab hm).1; omega⟩, if_pos (may_quot hm hl)]
  | succ d ih =>
   intro i h;have hi : i < es.length := by omega
   have ih' := ih (i + 1) (by omega);have hmem : es[i] ∈ es := List.getElem_mem hi;have he := may_edge hm _ hmem;rw [take_snocD z80 hi, List.map_append] at ih';have hd : es.getD i z80 = es[i] := getD_get hi
   have hr : rd_T80 es (i : Int) = es[i] := by
    show es.getD (i : Int).toNat _ = _;rw [Int.toNat_natCast, hd]
   rw [hd] at ih';refine Ev.step (fun k => Pxg.l0.eq_2 ..) (Ev.pos (by omega) (Ev.pos (by omega) (Ev.pos (by omega) ?_)));rw [hr, w1n (by omega)];exact Ev.pos he.1.1 (Ev.pos (by omega) (Ev.pos he.2.1.1 (Ev.pos (by omega) (Ev.pos (by rw [List.length_map, List.length_take]; omega) ih'))))
 refine Ev.bindS (a := 0) (by unfold Pxe.f; rw [hm]; rfl) (Ev.pos rfl (Ev.step (fun k => Pxg.j0.eq_2 ..) (Ev.neg (by simp; omega) (Ev.bindS (a := numK ks) (by unfold Pxd.f; rw [if_pos hw]) (Ev.bindS (a := ((fstK ks).length : Int)) ?_ (key es.length 0 (by omega)))))));unfold Pxc.f;rw [if_pos (inW_numK ks (by omega)), hkk.2]
end Go.Proofs.Ytmcbkmfpmcbdpaa.H
set_option linter.unusedVariables false
set_option linter.unusedSimpArgs false
namespace Go.Proofs.Ytmcbkmfpmcbdpaa.H
open Go.RowKit Go.Proofs.Ytmcbkmfpmcbdpaa.Pr Go.Proofs.YtmcbkmfpmcbdpaaW.PrintWords Go.Proofs.Ytmcbkmfpmcbdpaa.Sem Go.Proofs.Ytmcbkmfpmcbdpaa.PL
def hitE (c : List Int) (f b t : Nat) (e : Ed) : Bool := decide (e.f1 = (b : Int)) && (decide (c.getD e.f0.toNat 0 = (f : Int)) && decide (c.getD e.f2.toNat 0 = (t : Int)))
def rowT (c : List Int) (es : List Ed) (f b T : Nat) : List Ed := ((List.range T).filter fun t => es.any (hitE c f b t)).map fun t : Nat => (⟨(f : Int), (b : Int), (t : Int)⟩ : Ed)
def rowB (c : List Int) (es : List Ed) (m f B : Nat) : List Ed := (List.range B).flatMap fun b => rowT c es f b m
def rowF (c : List Int) (es : List Ed) (m L F : Nat) : List Ed := (List.range F).flatMap fun f => rowB c es m f L
theorem rowT_succ (c : List Int) (es : List Ed) (f b T : Nat) : rowT c es f b (T + 1) = rowT c es f b T ++ (if es.any (hitE c f b T) then [(⟨(f : Int), (b : Int), (T : Int)⟩ : Ed)] else []) := by
 unfold rowT
 rw [List.range_succ, List.filter_append, List.map_append]
 congr 1
 rw [List.filter_cons]
 split <;> rfl
theorem rowB_succ (c : List Int) (es : List Ed) (m f B : Nat) : rowB c es m f (B + 1) = rowB c es m f B ++ rowT c es f B m := by
 unfold rowB
 rw [List.range_succ, List.flatMap_append]
 simp
theorem rowF_succ (c : List Int) (es : List Ed) (m L F : Nat) : rowF c es m L (F + 1) = rowF c es m L F ++ rowB c es m F L := by
 unfold rowF
 rw [List.range_succ, List.flatMap_append]
 simp
theorem rowT_len (c : List Int) (es : List Ed) (f b : Nat) : ∀ T, (rowT c es f b T).length ≤ T := fun T => by
 unfold rowT
 rw [List.length_map]
 exact Nat.le_trans (List.length_filter_le _ _) (by rw [List.length_range]; exact Nat.le_refl _)
theorem rowB_len (c : List Int) (es : List Ed) (m f : Nat) : ∀ B, (rowB c es m f B).length ≤ B * m
 | 0 => by simp [rowB]
 | B + 1 => by
  rw [rowB_succ, List.length_append, Nat.succ_mul]
  exact Nat.add_le_add (rowB_len c es m f B) (rowT_len c es f B m)
theorem rowF_len (c : List Int) (es : List Ed) (m L : Nat) : ∀ F, (rowF c es m L F).length ≤ F * (L * m)
 | 0 => by simp [rowF]
 | F + 1 => by
  rw [rowF_succ, List.length_append, Nat.succ_mul]
  exact Nat.add_le_add (rowF_len c es m L F) (rowB_len c es m F L)
theorem rowT_mem (c : List Int) (es : List Ed) (f b T : Nat) (x : Ed) : x ∈ rowT c es f b T ↔ ∃ t, t < T ∧ es.any (hitE c f b t) = true ∧ x = ⟨(f : Int), (b : Int), (t : Int)⟩ := by
 unfold rowT
 simp only [List.mem_map, List.mem_filter, List.mem_range]
 constructor
 ·rintro ⟨t, ⟨h1, h2⟩, rfl⟩
  exact ⟨t, h1, h2, rfl⟩
 ·rintro ⟨t, h1, h2, rfl⟩
  exact ⟨t, ⟨h1, h2⟩, rfl⟩
theorem rowF_mem (c : List Int) (es : List Ed) (m L F : Nat) (x : Ed) : x ∈ rowF c es m L F ↔ ∃ f b t, f < F ∧ b < L ∧ t < m ∧ es.any (hitE c f b t) = true ∧ x = ⟨(f : Int), (b : Int), (t : Int)⟩ := by
 unfold rowF rowB
 simp only [List.mem_flatMap, List.mem_range, rowT_mem]
 constructor
 ·rintro ⟨f, h1, b, h2, t, h3, h4, rfl⟩
  exact ⟨f, b, t, h1, h2, h3, h4, rfl⟩
 ·rintro ⟨f, b, t, h1, h2, h3, h4, rfl⟩
  exact ⟨f, h1, b, h2, t, h3, h4, rfl⟩
theorem rowT_sorted (c : List Int) (es : List Ed) (f b T : Nat) : (rowT c es f b T).Pairwise elt := by
 unfold rowT
 rw [List.pairwise_map]
 refine List.Pairwise.filter _ (List.pairwise_lt_range.imp fun h => ?_)
 exact .inr ⟨rfl, .inr ⟨rfl, by show ((_ : Nat) : Int) < ((_ : Nat) : Int); omega⟩⟩
theorem rowB_sorted (c : List Int) (es : List Ed) (m f B : Nat) : (rowB c es m f B).Pairwise elt := by
 unfold rowB
 rw [List.pairwise_flatMap]
 refine ⟨fun b _ => rowT_sorted c es f b m, List.pairwise_lt_range.imp fun h => fun x hx y hy => ?_⟩
 obtain ⟨t, _, _, rfl⟩ := (rowT_mem ..).1 hx
 obtain ⟨u, _, _, rfl⟩ := (rowT_mem ..).1 hy
 exact .inr ⟨rfl, .inl (by show ((_ : Nat) : Int) < ((_ : Nat) : Int); omega)⟩
theorem rowF_sorted (c : List Int) (es : List Ed) (m L F : Nat) : (rowF c es m L F).Pairwise elt := by
 unfold rowF
 rw [List.pairwise_flatMap]
 refine ⟨fun f _ => rowB_sorted c es m f L, List.pairwise_lt_range.imp fun h => fun x hx y hy => ?_⟩
 unfold rowB at hx hy
 simp only [List.mem_flatMap, rowT_mem] at hx hy
 obtain ⟨b, _, t, _, _, rfl⟩ := hx
 obtain ⟨d, _, u, _, _, rfl⟩ := hy
 exact .inl (by show ((_ : Nat) : Int) < ((_ : Nat) : Int); omega)
theorem rowF_sortE {n : Nat} {ls : List ByteArray} {es : List Ed} {ks : List Int} (hm : mayR n ls es = true) (hl : ks.length = n) : rowF (numK ks) es (fstK ks).length ls.length (fstK ks).length = sortE (es.map (imE (numK ks))) := by
 refine strict_unique _ _ (rowF_sorted ..) (sortE_sorted _) fun x => ?_
 rw [rowF_mem, sortE_mem, List.mem_map]
 constructor
 ·rintro ⟨f, b, t, h1, h2, h3, h4, rfl⟩
  obtain ⟨e, he, hh⟩ := List.any_eq_true.1 h4
  unfold hitE at hh
  simp only [Bool.and_eq_true, decide_eq_true_eq] at hh
  refine ⟨e, he, ?_⟩
  unfold imE
  rw [hh.1, hh.2.1, hh.2.2]
 ·rintro ⟨e, he, rfl⟩
  have h1 := may_edge hm e he
  have ha := cls_in (ks := ks) h1.1.1 (by omega)
  have hb := cls_in (ks := ks) h1.2.1.1 (by omega)
  have hc := h1.2.2
  refine ⟨((numK ks).getD e.f0.toNat 0).toNat, e.f1.toNat, ((numK ks).getD e.f2.toNat 0).toNat, by omega, by omega, by omega, List.any_eq_true.2 ⟨e, he, ?_⟩, ?_⟩
  ·unfold hitE
   simp only [Bool.and_eq_true, decide_eq_true_eq]
   exact ⟨by omega, by omega, by omega⟩
  ·unfold imE
   rw [Int.toNat_of_nonneg ha.1, Int.toNat_of_nonneg hb.1, Int.toNat_of_nonneg (by omega)]
section
variable {n : Nat} {ls : List ByteArray} {es : List Ed} {c : List Int} {m : Nat}
theorem any_snoc {p : Ed → Bool} {i : Nat} (h : i < es.length) : (es.take (i + 1)).any p = ((es.take i).any p || p es[i]) := by
 rw [take_snocD z80 h, List.any_append, show es.getD i z80 = es[i] from getD_get h]
 simp
theorem lead_ev (hm : mayR n ls es = true) (hc : c.length = n) (N x5 X : Int) (ls0 LS : List ByteArray) (f b t : Nat) (out : List Ed) (ho : out.length < 5864062014805) {r : Int × List ByteArray × List Ed}
  (h : Ev (fun k => Pr36a.l2 k c x5 (f : Int) (b : Int) (wrap64 ((t : Int) + 1)) N ls0 es X LS (out ++ if es.any (hitE c f b t) then [(⟨(f : Int), (b : Int), (t : Int)⟩ : Ed)] else [])) r) :
  ∀ d i : Nat, i + d = es.length → Ev (fun k => Pr36a.l3 k c x5 (f : Int) (b : Int) (t : Int) ((es.take i).any (hitE c f b t)) (i : Int) N ls0 es X LS out) r := by
 have hel := es_le hm;intro d
 induction d with
 | zero =>
  intro i hi;refine Ev.step (fun k => Pr36a.l3.eq_2 ..) (Ev.neg (by omega) ?_);rw [List.take_of_length_le (by omega)]
  cases q : es.any (hitE c f b t) with
  | false =>
   rw [q, if_neg (by simp), List.append_nil] at h;exact Ev.neg (by simp) h
  | true =>
   rw [q, if_pos rfl] at h;exact Ev.pos rfl (Ev.pos ho h)
 | succ d ih =>
  intro i hi;have hlt : i < es.length := by omega
  have ih' := ih (i + 1) (by omega);have hmem : es[i] ∈ es := List.getElem_mem hlt;have he := may_edge hm _ hmem
  have hr : rd_T80 es (i : Int) = es[i] := by
   show es.getD (i : Int).toNat _ = _;rw [Int.toNat_natCast, getD_get hlt]
  rw [any_snoc hlt] at ih';refine Ev.step (fun k => Pr36a.l3.eq_2 ..) (Ev.pos (by omega) (Ev.pos (by omega) ?_));rw [hr, w1n (by omega)];generalize hq : (es.take i).any (hitE c f b t) = q at ih' ⊢
  cases q with
  | true =>
   rw [Bool.true_or] at ih';exact Ev.pos rfl ih'
  | false =>
   rw [Bool.false_or] at ih';refine Ev.neg (by simp) ?_;by_cases hb : es[i].f1 = (b : Int)
   ·refine Ev.pos hb (Ev.pos he.1.1 (Ev.pos (by omega) ?_));by_cases hf : rd c es[i].f0 = (f : Int)
    ·refine Ev.pos hf (Ev.pos he.2.1.1 (Ev.pos (by omega) ?_))
     rw [show hitE c f b t es[i] = (rd c es[i].f2 == (t : Int)) by
      unfold hitE;rw [decide_eq_true hb, decide_eq_true (show c.getD es[i].f0.toNat 0 = (f : Int) from hf), Bool.true_and, Bool.true_and];rfl] at ih'
     exact ih'
    ·rw [show hitE c f b t es[i] = false by
      unfold hitE;rw [decide_eq_false (show ¬ c.getD es[i].f0.toNat 0 = (f : Int) from hf), Bool.false_and, Bool.and_false]] at ih'
     exact Ev.neg hf ih'
   ·rw [show hitE c f b t es[i] = false by unfold hitE; rw [decide_eq_false hb, Bool.false_and]] at ih';exact Ev.neg hb ih'
theorem to_ev (hm : mayR n ls es = true) (hc : c.length = n) (hmn : m ≤ 2048) (N X : Int) (ls0 LS : List ByteArray) (f b : Nat) (out : List Ed) (ho : out.length + m < 5864062014805) {r : Int × List ByteArray × List Ed}
  (h : Ev (fun k => Pr36a.l1 k c (m : Int) (f : Int) (wrap64 ((b : Int) + 1)) N ls0 es X LS (out ++ rowT c es f b m)) r) :
  ∀ d t : Nat, t + d = m → Ev (fun k => Pr36a.l2 k c (m : Int) (f : Int) (b : Int) (t : Int) N ls0 es X LS (out ++ rowT c es f b t)) r := by
 intro d
 induction d with
 | zero =>
  intro t ht
  obtain rfl : t = m := by omega
  exact Ev.step (fun k => Pr36a.l2.eq_2 ..) (Ev.neg (by omega) h)
 | succ d ih =>
  intro t ht
  have ih' := ih (t + 1) (by omega)
  have hT := rowT_len c es f b t
  refine Ev.step (fun k => Pr36a.l2.eq_2 ..) (Ev.pos (by omega) ?_)
  rw [rowT_succ, ← List.append_assoc] at ih'
  exact lead_ev hm hc N m X ls0 LS f b t _ (by rw [List.length_append]; omega) (by rw [w1n (by omega)]; exact ih') es.length 0 (by omega)
theorem lab_ev (hm : mayR n ls es = true) (hc : c.length = n) (hmn : m ≤ 2048) (N X : Int) (LS : List ByteArray) (f : Nat) (out : List Ed) (ho : out.length + (ls.length + 1) * m < 5864062014805) {r : Int × List ByteArray × List Ed}
  (h : Ev (fun k => Pr36a.l0 k c (m : Int) (wrap64 ((f : Int) + 1)) N ls es X LS (out ++ rowB c es m f ls.length)) r) :
  ∀ d b : Nat, b + d = ls.length → Ev (fun k => Pr36a.l1 k c (m : Int) (f : Int) (b : Int) N ls es X LS (out ++ rowB c es m f b)) r := by
 have hL := (may_lab hm).1
 intro d
 induction d with
 | zero =>
  intro b hb
  obtain rfl : b = ls.length := by omega
  exact Ev.step (fun k => Pr36a.l1.eq_2 ..) (Ev.neg (by omega) h)
 | succ d ih =>
  intro b hb
  have ih' := ih (b + 1) (by omega)
  have hB := rowB_len c es m f b
  have h1 : b * m ≤ ls.length * m := Nat.mul_le_mul_right m (by omega)
  rw [Nat.succ_mul] at ho
  refine Ev.step (fun k => Pr36a.l1.eq_2 ..) (Ev.pos (by omega) ?_)
  rw [rowB_succ, ← List.append_assoc] at ih'
  have := to_ev (m := m) hm hc hmn N X ls LS f b (out ++ rowB c es m f b) (by rw [List.length_append]; omega) (by rw [w1n (by omega)]; exact ih') m 0 (by omega)
  rw [show rowT c es f b 0 = [] from rfl, List.append_nil] at this
  exact this
theorem from_ev (hm : mayR n ls es = true) (hc : c.length = n) (hmn : m ≤ 2048) (N X : Int) (LS : List ByteArray) :
  ∀ d f : Nat, f + d = m → Ev (fun k => Pr36a.l0 k c (m : Int) (f : Int) N ls es X LS (rowF c es m ls.length f)) (X, LS, rowF c es m ls.length m) := by
 have hL := (may_lab hm).1
 intro d
 induction d with
 | zero =>
  intro f hf
  obtain rfl : f = m := by omega
  exact Ev.step (fun k => Pr36a.l0.eq_2 ..) (Ev.neg (by omega) (Ev.now _))
 | succ d ih =>
  intro f hf
  have ih' := ih (f + 1) (by omega)
  have hF := rowF_len c es m ls.length f
  have h1 : ls.length * m ≤ 64 * 2048 := Nat.mul_le_mul hL hmn
  have h2 : f * (ls.length * m) ≤ 2048 * (64 * 2048) := Nat.mul_le_mul (by omega) h1
  refine Ev.step (fun k => Pr36a.l0.eq_2 ..) (Ev.pos (by omega) ?_)
  rw [rowF_succ] at ih'
  have := lab_ev (m := m) hm hc hmn N X LS f (rowF c es m ls.length f) (by rw [Nat.succ_mul]; omega) (by rw [w1n (by omega)]; exact ih') ls.length 0 (by omega)
  rw [show rowB c es m f 0 = [] from rfl, List.append_nil] at this
  exact this
end
theorem of36_ev {n : Nat} {ls : List ByteArray} {es : List Ed} {ks : List Int} (hm : mayR n ls es = true) (hl : ks.length = n) : Ev (fun k => Pr36a.f k (n : Int) ls es ks) (((fstK ks).length : Int), ls, sortE (es.map (imE (numK ks)))) := by
 have hn := lt_n hm
 have hf := fstK_length_le ks
 have hkk := numK_numK ks
 have hC := count_ev (numK ks) (by rw [numK_length]; omega)
 rw [hkk.2] at hC
 have := from_ev (m := (fstK ks).length) (c := numK ks) hm (by rw [numK_length, hl]) (by omega) (n : Int) ((fstK ks).length : Int) ls (fstK ks).length 0 (by omega)
 rw [rowF_sortE hm hl] at this
 exact Ev.bind (plain_ev ks (by omega)) (Ev.bind hC this)
end Go.Proofs.Ytmcbkmfpmcbdpaa.H
set_option linter.unusedVariables false
set_option linter.unusedSimpArgs false
namespace Go.Proofs.Ytmcbkmfpmcbdpaa.Pr
open Go.RowKit Go.Proofs.YtmcbkmfpmcbdpaaW.PrintWords Go.Proofs.YtmcbkmfpmcbdpaaW.PrintLast Go.Proofs.YtmcbkmfpmcbdpaaW.PrintMore Go.Proofs.Ytmcbkmfpmcbdpaa.Sem
def Pr36b.f (a0_0 : Int) (l0_1 : List ByteArray) (l0_2 : List S80) (l1 : List Int) : Option (Int × List ByteArray × List S80) :=
 if H.mayR a0_0 l0_1 l0_2 = true ∧ (l1.length : Int) = a0_0 then some (((PL.fstK l1).length : Int), l0_1, sortE (l0_2.map (H.imE (PL.numK l1)))) else none
theorem Pr36b.callsC (a0_0 : Int) (A0_1 : Option Addr) (c0_1 : Nat) (l0_1 : List ByteArray) (A0_2 : Option Addr) (c0_2 : Nat) (l0_2 : List S80) (A1 : Option Addr) (c1 : Nat) (l1 : List Int) (r1 : Int) (r2 : List ByteArray) (r3 : List S80) (w : World) (hr0_2 : Kd.C k80 w A0_2 l0_2.length l0_2) (hc0_2 : l0_2.length ≤ c0_2) (hr1 : Kd.C (Kd.int .i64) w A1 l1.length l1) (hc1 : l1.length ≤ c1) (h : Pr36b.f a0_0 l0_1 l0_2 l1 = some (r1, r2, r3)) :
  Calls Try.prog 48 #[.agg #[.int .i64 a0_0, .slice A0_1 l0_1.length c0_1, .slice A0_2 l0_2.length c0_2], .slice A1 l1.length c1] w fun e w' => r2 = l0_1 ∧ ∃ v2_ : Value, e = .returned (.agg #[.int .i64 r1, .slice A0_1 l0_1.length c0_1, v2_]) ∧ Kd.R k80 80 w' w.heap.size (fun _ => True) v2_ r3 ∧ Below w.heap.size w w' := by
 unfold Pr36b.f at h;split at h
 ·rename_i hm;obtain ⟨hm, hl⟩ := hm;obtain ⟨m, rfl⟩ : ∃ m : Nat, (m : Int) = a0_0 := ⟨l1.length, hl⟩
  simp only [Option.some.injEq, Prod.mk.injEq] at h;obtain ⟨rfl, rfl, rfl⟩ := h;obtain ⟨k, hk⟩ := (H.of36_ev (ks := l1) hm (by omega)).rounds;refine (Pr36a.calls k (m : Int) (fun _ => False) A0_1 c0_1 l0_1 A0_2 c0_2 l0_2 A1 c1 l1 _ l0_1 _ w w (Below.refl _ _) (Kd.C_kept_came (Kd.heap_iso _ (Kd.heap_pair (Kd.heap_int _) (Kd.heap_pair (Kd.heap_int _) (Kd.heap_int _)))) hr0_2 (Below.refl _ _) (fun _ h => h.elim)) hc0_2 (Kd.C_kept_came (Kd.heap_int _) hr1 (Below.refl _ _) (fun _ h => h.elim)) hc1 hk).mono ?_;rintro e w' ⟨v2, rfl, h⟩;obtain ⟨-, hR, hB, -⟩ := h;exact ⟨rfl, v2, rfl, Kd.R_mono hR (fun _ _ => trivial), hB⟩
 ·cases h
end Go.Proofs.Ytmcbkmfpmcbdpaa.Pr
namespace Go.Proofs.Ytmcbkmfpmcbdpaa.Pr
open Go.RowKit Go.Proofs.YtmcbkmfpmcbdpaaW.PrintWords Go.Proofs.YtmcbkmfpmcbdpaaW.PrintLast Go.Proofs.YtmcbkmfpmcbdpaaW.PrintMore
attribute [local go_sem] max2_int min2_int max_two min_two max_three min_three max_four min_four
set_option linter.unusedVariables false
set_option linter.unusedSimpArgs false
mutual
def Pl36a.j0 : Nat → List Int → Bool → Int → List ByteArray → List (S80) → Option (Bool)
 | 0, _, _, _, _, _ => none
 | k + 1, x1, x14, x189000, x189001, x189002 => if x14 = true then ((Pl36b.f k).bind fun t190 => (some t190)) else ((Pxg.f k x189000 x189001 x189002 x1).bind fun bt191 => ((Pr26b.f x189000 x189001 x189002).bind fun t200 => (if t200 = true then (Pl36a.j1 k x1 bt191.2.2.2 ((x1.length : Int) != x189000) x189000 x189001 x189002 bt191.1 bt191.2.1 bt191.2.2.1) else (Pl36a.j1 k x1 bt191.2.2.2 true x189000 x189001 x189002 bt191.1 bt191.2.1 bt191.2.2.1))))
def Pl36a.j1 : Nat → List Int → Int → Bool → Int → List ByteArray → List (S80) → Int → List ByteArray → List (S80) → Option (Bool)
 | 0, _, _, _, _, _, _, _, _, _ => none
 | k + 1, x1, x6, x31, x189000, x189001, x189002, x200000, x200001, x200002 => if x31 = true then ((Pr26a.f k x200000 x200001 x200002 0 ([] : List ByteArray) ([] : List (S80))).bind fun t201 => (if t201 = true then (if x6 = 1 then ((Pl36b.f k).bind fun t202 => (some t202)) else (some false)) else (some false))) else ((Pr36b.f x189000 x189001 x189002 x1).bind fun bt203 => ((Pr26a.f k x200000 x200001 x200002 bt203.1 bt203.2.1 bt203.2.2).bind fun t210 => (if t210 = true then (if x6 = 0 then ((Pl36b.f k).bind fun t211 => (some t211)) else (some false)) else (some false))))
end
def Pl36a.f (k : Nat) (a0_0 : Int) (l0_1 : List ByteArray) (l0_2 : List (S80)) (l1 : List Int) : Option (Bool) := (Pl33a.f k a0_0 l0_1 l0_2).bind fun t189 => (if t189 = true then (Pl36a.j0 k l1 (decide ((l1.length : Int) > 30)) a0_0 l0_1 l0_2) else (Pl36a.j0 k l1 true a0_0 l0_1 l0_2))
theorem Pl36a.mono_l : ∀ k, (∀ y0 y1 y2 y3 y4, LeO (Pl36a.j0 k y0 y1 y2 y3 y4) (Pl36a.j0 (k + 1) y0 y1 y2 y3 y4)) ∧ (∀ y0 y1 y2 y3 y4 y5 y6 y7 y8, LeO (Pl36a.j1 k y0 y1 y2 y3 y4 y5 y6 y7 y8) (Pl36a.j1 (k + 1) y0 y1 y2 y3 y4 y5 y6 y7 y8))
 | 0 => ⟨fun _ _ _ _ _ r h => by simp [Pl36a.j0] at h, fun _ _ _ _ _ _ _ _ _ r h => by simp [Pl36a.j1] at h⟩
 | k + 1 => by
  obtain ⟨ih0, ih1⟩ := Pl36a.mono_l k
  refine ⟨?_, ?_⟩
  ·intro y0 y1 y2 y3 y4
   unfold Pl36a.j0
   repeat' first
   | (with_reducible exact ih0 _ _ _ _ _)
   | (with_reducible exact ih1 _ _ _ _ _ _ _ _ _)
   | (with_reducible exact Pxg.mono _ _ _ _ _)
   | (with_reducible exact Pl33a.mono _ _ _ _)
   | (with_reducible exact Pl36b.mono _)
   | (with_reducible exact Pr26a.mono _ _ _ _ _ _ _)
   | (with_reducible exact LeO.refl _)
   | (with_reducible exact LeO.none _)
   | (with_reducible refine LeO.ite ?_ ?_)
   | (with_reducible refine LeO.bind ?_ (fun _ => ?_))
   | exact ih0 _ _ _ _ _
   | exact ih1 _ _ _ _ _ _ _ _ _
   | exact Pxg.mono _ _ _ _ _
   | exact Pl33a.mono _ _ _ _
   | exact Pl36b.mono _
   | exact Pr26a.mono _ _ _ _ _ _ _
   | exact LeO.none _
   | refine LeO.ite ?_ ?_
   | refine LeO.bind ?_ (fun _ => ?_)
  ·intro y0 y1 y2 y3 y4 y5 y6 y7 y8
   unfold Pl36a.j1
   repeat' first
   | (with_reducible exact ih0 _ _ _ _ _)
   | (with_reducible exact ih1 _ _ _ _ _ _ _ _ _)
   | (with_reducible exact Pxg.mono _ _ _ _ _)
   | (with_reducible exact Pl33a.mono _ _ _ _)
   | (with_reducible exact Pl36b.mono _)
   | (with_reducible exact Pr26a.mono _ _ _ _ _ _ _)
   | (with_reducible exact LeO.refl _)
   | (with_reducible exact LeO.none _)
   | (with_reducible refine LeO.ite ?_ ?_)
   | (with_reducible refine LeO.bind ?_ (fun _ => ?_))
   | exact ih0 _ _ _ _ _
   | exact ih1 _ _ _ _ _ _ _ _ _
   | exact Pxg.mono _ _ _ _ _
   | exact Pl33a.mono _ _ _ _
   | exact Pl36b.mono _
   | exact Pr26a.mono _ _ _ _ _ _ _
   | exact LeO.none _
   | refine LeO.ite ?_ ?_
   | refine LeO.bind ?_ (fun _ => ?_)
theorem Pl36a.mono : ∀ a0 a1 a2 a3 k, LeO (Pl36a.f k a0 a1 a2 a3) (Pl36a.f (k + 1) a0 a1 a2 a3) := by
 intro a0 a1 a2 a3 k
 obtain ⟨ih0, ih1⟩ := Pl36a.mono_l k
 unfold Pl36a.f
 repeat' first
   | (with_reducible exact ih0 _ _ _ _ _)
   | (with_reducible exact ih1 _ _ _ _ _ _ _ _ _)
   | (with_reducible exact Pxg.mono _ _ _ _ _)
   | (with_reducible exact Pl33a.mono _ _ _ _)
   | (with_reducible exact Pl36b.mono _)
   | (with_reducible exact Pr26a.mono _ _ _ _ _ _ _)
   | (with_reducible exact LeO.refl _)
   | (with_reducible exact LeO.none _)
   | (with_reducible refine LeO.ite ?_ ?_)
   | (with_reducible refine LeO.bind ?_ (fun _ => ?_))
   | exact ih0 _ _ _ _ _
   | exact ih1 _ _ _ _ _ _ _ _ _
   | exact Pxg.mono _ _ _ _ _
   | exact Pl33a.mono _ _ _ _
   | exact Pl36b.mono _
   | exact Pr26a.mono _ _ _ _ _ _ _
   | exact LeO.none _
   | refine LeO.ite ?_ ?_
   | refine LeO.bind ?_ (fun _ => ?_)
def Pl36a.T6 : Bool × List (List Nat × List Nat) := (true, [([], []), ([], []), ([], []), ([1, 2], [1, 2]), ([0, 3, 3], [0, 3]), ([4, 4], [4]), ([5], [5]), ([6, 5], [5, 6]), ([5, 7], [5, 7]), ([8, 5], [8]), ([9, 9], [9]), ([9, 10], [9, 10]), ([11, 10, 0, 1, 2, 3, 4, 5, 6, 7, 8, 9, 10, 11], [11])])
def Pl36a.B6 : List Nat := [0, 0, 0, 6, 15, 31, 63, 127, 255, 511, 1023, 2047, 4095]
theorem Pl36a.tab6 : rtab .any (opsOf Try.f8 6) = Pl36a.T6 := by kernel_rfl
theorem Pl36a.bits6 : waitsOk Pl36a.T6.2 Pl36a.B6 = true := by kernel_rfl
set_option maxHeartbeats 8000000 in
set_option maxRecDepth 100000 in
theorem Pl36a.calls (k : Nat) (a0_0 : Int) (A0_1 : Option Addr) (c0_1 : Nat) (l0_1 : List ByteArray) (A0_2 : Option Addr) (c0_2 : Nat) (l0_2 : List (S80)) (A1 : Option Addr) (c1 : Nat) (l1 : List Int) (r : Bool) (w : World) (hr0_1 : Kd.C Kd.string w A0_1 l0_1.length l0_1) (hc0_1 : l0_1.length ≤ c0_1) (hr0_2 : Kd.C k80 w A0_2 l0_2.length l0_2) (hc0_2 : l0_2.length ≤ c0_2) (hr1 : Kd.C (Kd.int .i64) w A1 l1.length l1) (hc1 : l1.length ≤ c1) (h : Pl36a.f k a0_0 l0_1 l0_2 l1 = some r) (hr_ : Aside0 (r = true)) :
  Calls Try.prog 8 #[.agg #[.int .i64 a0_0, .slice A0_1 l0_1.length c0_1, .slice A0_2 l0_2.length c0_2], .slice A1 l1.length c1] w fun e w' => e = .returned (.bool r) ∧ Below w.heap.size w w' := by
 have r4 := Try.underlying25;have e3 := Aside0.mk hr0_1;have e1 := Aside0.mk hc0_1;clear hr0_1 hc0_1;have e4 := Aside0.mk hr0_2;have e2 := Aside0.mk hc0_2;clear hr0_2 hc0_2;have n9 := Aside0.mk hr1;have n7 := Aside0.mk hc1;clear hr1 hc1;have HB := Aside0.mk (Below.refl w.heap.size w);have H : ((Pl33a.f k a0_0 l0_1 l0_2).bind fun g0 => (if g0 = true then (Pl36a.j0 k l1 (decide ((l1.length : Int) > 30)) a0_0 l0_1 l0_2) else (Pl36a.j0 k l1 true a0_0 l0_1 l0_2))) = some r := h;clear h;have m9 := Aside0.mk H;clear H;go_enter Try.func8, Try.ntmps8
 go_upto_region 1 with (first | ((with_reducible refine gate_dst (N := 2) rfl ?_); (try (refine gate_guard (by rfl) ?_; dsimp only)); refine box_event ?hg (N := 2) ?hd (cs := #[.int .i64 a0_0, .slice A0_1 l0_1.length c0_1, .slice A0_2 l0_2.length c0_2]) (t := 25) ?hr ?_; (case hd => rfl); (case hg => rfl); (case hr => first | (go_simp; done) | (go_simp; rfl)); intro a4 hg w4 hbox hb; have a6 := Aside0.mk (below_step (wz HB.out) hb); have a7 := Aside0.mk (hbox); have b2 := Aside0.mk ((by rw [hg]; exact (below_size (wz HB.out)) : w.heap.size ≤ a4)); have b3 := Aside0.mk ((by rw [hg]; exact (below_size (wz HB.out)) : w.heap.size ≤ a4)); clear HB; have HB := a6; have a0 := a7; have q3 := b2; have q1 := b3; clear a6 a7 b2 b3 hb hbox hg))
 (try simp only [Act.put, qz1, qz2, qz3])
 go_cut [14] (fun p9 wc => ∃ (kq : Nat) (f3 : Bool), p9 = .bool f3 ∧ Aside0 (Pl36a.j0 kq l1 f3 a0_0 l0_1 l0_2 = some r) ∧ Aside0 (kq ≤ k) ∧ Aside0 (wc.heap[a4]? = some (.cells #[.int .i64 a0_0, (.slice A0_1 l0_1.length c0_1), (.slice A0_2 l0_2.length c0_2)] 25 (0, 0))) ∧ Aside0 (Below w.heap.size w wc))
 case first =>
  have H := m9.out;clear m9;replace H := Option.bind_eq_some_iff.mp H;obtain ⟨g0, n6, H⟩ := H;replace H : (if g0 = true then (Pl36a.j0 k l1 (decide ((l1.length : Int) > 30)) a0_0 l0_1 l0_2) else (Pl36a.j0 k l1 true a0_0 l0_1 l0_2)) = some r := H;have A5 := Aside0.mk n6;clear n6;by_cases c6 : g0 = true
  ·subst c6;have H1 : (Pl36a.j0 k l1 (decide ((l1.length : Int) > 30)) a0_0 l0_1 l0_2) = some r := by rw [if_pos rfl] at H; exact H
   clear H;have H := H1;clear H1;have H' := Aside0.mk H;clear H;have g7 : w4.cell? ⟨a4, 0, none⟩ = some (.int .i64 a0_0) := bcz a0 0 rfl;have g8 : w4.cell? ⟨a4, 1, none⟩ = some (.slice A0_1 l0_1.length c0_1) := bcz a0 1 rfl;have g9 : w4.cell? ⟨a4, 2, none⟩ = some (.slice A0_2 l0_2.length c0_2) := bcz a0 2 rfl;have h3 := blk_frozen a0.out 0;have h4 := blk_frozen a0.out 1;have h5 := blk_frozen a0.out 2;go_wp2_with (first | ((with_reducible refine gate_callee (f := 15) rfl ?_); refine goesL_ (some 8) rfl rfl Try.func15 (by kernel_rfl) rfl #[.agg #[.int .i64 a0_0, .slice A0_1 l0_1.length c0_1, .slice A0_2 l0_2.length c0_2]] rfl (by (try simp only [List.map_toArray, List.map_cons, List.map_nil]); first | done | rfl | (simp only [List.length_drop, List.length_take]; rfl)) ?_; (with_reducible refine (Pl33a.calls k a0_0 _ _ l0_1 _ _ l0_2 true _ ?e5 ?e6 ?d6 ?d7 A5.out).mono ?_); (case e5 => exact cz e3.out HB.out); (case e6 => exact e1.out); (case d6 => exact cz e4.out HB.out); (case d7 => exact e2.out); rintro e w8 ⟨rfl, hb⟩; refine ⟨_, rfl, ?_⟩; have a6 := Aside0.mk (blk_below (bz a0.out) hb); have a7 := Aside0.mk (below_step (wz HB.out) hb); clear a0; clear HB; have a0 := a6; have HB := a7; clear a6 a7; (try clear hb); (try clear e7); (try clear hk); (try clear hi)))
   go_meet
   case rel => exact ⟨_, (decide ((l1.length : Int) > 30)), (by first | rfl | (simp; done) | (simp [*]; done)), H', ⟨by first | omega | exact Nat.le_refl _⟩, ⟨bz a0.out⟩, ⟨wz HB.out⟩⟩
  ·replace c6 := Bool.eq_false_iff.mpr c6;subst c6;have H1 : (Pl36a.j0 k l1 true a0_0 l0_1 l0_2) = some r := by rw [if_neg (show ¬ (false = true) by decide)] at H; exact H
   clear H;have H := H1;clear H1;have H' := Aside0.mk H;clear H;have h0 : w4.cell? ⟨a4, 0, none⟩ = some (.int .i64 a0_0) := bcz a0 0 rfl;have h1 : w4.cell? ⟨a4, 1, none⟩ = some (.slice A0_1 l0_1.length c0_1) := bcz a0 1 rfl;have h2 : w4.cell? ⟨a4, 2, none⟩ = some (.slice A0_2 l0_2.length c0_2) := bcz a0 2 rfl;have h6 := blk_frozen a0.out 0;have h7 := blk_frozen a0.out 1;have h8 := blk_frozen a0.out 2;go_wp2_with (first | ((with_reducible refine gate_callee (f := 15) rfl ?_); refine goesL_ (some 8) rfl rfl Try.func15 (by kernel_rfl) rfl #[.agg #[.int .i64 a0_0, .slice A0_1 l0_1.length c0_1, .slice A0_2 l0_2.length c0_2]] rfl (by (try simp only [List.map_toArray, List.map_cons, List.map_nil]); first | done | rfl | (simp only [List.length_drop, List.length_take]; rfl)) ?_; (with_reducible refine (Pl33a.calls k a0_0 _ _ l0_1 _ _ l0_2 false _ ?e5 ?e6 ?d6 ?d7 A5.out).mono ?_); (case e5 => exact cz e3.out HB.out); (case e6 => exact e1.out); (case d6 => exact cz e4.out HB.out); (case d7 => exact e2.out); rintro e r8 ⟨rfl, hb⟩; refine ⟨_, rfl, ?_⟩; have a6 := Aside0.mk (blk_below (bz a0.out) hb); have a7 := Aside0.mk (below_step (wz HB.out) hb); clear a0; clear HB; have a0 := a6; have HB := a7; clear a6 a7; (try clear hb); (try clear e7); (try clear hk); (try clear hi)))
   go_meet
   case rel => exact ⟨_, (true), (by first | rfl | (simp; done) | (simp [*]; done)), H', ⟨by first | omega | exact Nat.le_refl _⟩, ⟨bz a0.out⟩, ⟨wz HB.out⟩⟩
 case rest =>
  clear m9;(try clear c1);(try clear c6);(try clear g7);(try clear g8);(try clear g9);(try clear h0);(try clear h1);(try clear h2);(try clear h3);(try clear h4);(try clear h5);(try clear h6);(try clear h7);(try clear h8);obtain ⟨kq, f3, rfl, HA, n8, a0, HB⟩ := hcut
  cases kq with
  | zero => exact absurd HA.out (by simp [Pl36a.j0])
  | succ kj2 =>
   have H := HA.out;clear HA;simp only [Pl36a.j0] at H;by_cases g5 : f3 = true
   ·subst g5;have H1 : ((Pl36b.f kj2).bind fun g1 => (some g1)) = some r := by rw [if_pos rfl] at H; exact H
    clear H;have H := H1;clear H1;replace H := Option.bind_eq_some_iff.mp H;obtain ⟨g1, m1, H⟩ := H;replace H : (some g1) = some r := H;have p2 := Aside0.mk m1;clear m1;obtain rfl := Option.some.inj H;go_wp2_with (first | ((with_reducible refine gate_callee (f := 46) rfl ?_); refine goesL_ (some 15) rfl rfl Try.func46 (by kernel_rfl) rfl #[] rfl (by (try simp only [List.map_toArray, List.map_cons, List.map_nil]); first | done | rfl | (simp only [List.length_drop, List.length_take]; rfl)) ?_; (with_reducible refine (Pl36b.calls kj2  g1 _ p2.out hr_).mono ?_); rintro e r9 ⟨rfl, hb⟩; refine ⟨_, rfl, ?_⟩; have a6 := Aside0.mk (blk_below (bz a0.out) hb); have a7 := Aside0.mk (below_step (wz HB.out) hb); clear a0; clear HB; have a0 := a6; have HB := a7; clear a6 a7; (try clear hb); (try clear e7); (try clear hk); (try clear hi)))
    go_ret
    exact ⟨by first | rfl | (simp [errW_none, errW_some] <;> rfl) | (simp [*, errW_none, errW_some] <;> rfl), wz HB.out⟩
   ·replace g5 := Bool.eq_false_iff.mpr g5;subst g5;have H1 : ((Pxg.f kj2 a0_0 l0_1 l0_2 l1).bind fun d4 => ((Pr26b.f a0_0 l0_1 l0_2).bind fun f0 => (if f0 = true then (Pl36a.j1 kj2 l1 d4.2.2.2 ((l1.length : Int) != a0_0) a0_0 l0_1 l0_2 d4.1 d4.2.1 d4.2.2.1) else (Pl36a.j1 kj2 l1 d4.2.2.2 true a0_0 l0_1 l0_2 d4.1 d4.2.1 d4.2.2.1)))) = some r := by rw [if_neg (show ¬ (false = true) by decide)] at H; exact H
    clear H;have H := H1;clear H1;replace H := Option.bind_eq_some_iff.mp H;obtain ⟨⟨a8, a9, b0, b1⟩, m2, H⟩ := H;replace H : ((Pr26b.f a0_0 l0_1 l0_2).bind fun f0 => (if f0 = true then (Pl36a.j1 kj2 l1 b1 ((l1.length : Int) != a0_0) a0_0 l0_1 l0_2 a8 a9 b0) else (Pl36a.j1 kj2 l1 b1 true a0_0 l0_1 l0_2 a8 a9 b0))) = some r := H;have p3 := Aside0.mk m2;clear m2;have h9 := Aside0.mk H;clear H;have i4 : wc.cell? ⟨a4, 0, none⟩ = some (.int .i64 a0_0) := bcz a0 0 rfl;have i5 : wc.cell? ⟨a4, 1, none⟩ = some (.slice A0_1 l0_1.length c0_1) := bcz a0 1 rfl;have i7 : wc.cell? ⟨a4, 2, none⟩ = some (.slice A0_2 l0_2.length c0_2) := bcz a0 2 rfl;have k2 := blk_frozen a0.out 0;have k3 := blk_frozen a0.out 1;have k4 := blk_frozen a0.out 2;go_upto_region 4 with (first | ((with_reducible refine gate_callee (f := 47) rfl ?_); refine goesL_ (some 19) rfl rfl Try.func47 (by kernel_rfl) rfl #[.agg #[.int .i64 a0_0, .slice A0_1 l0_1.length c0_1, .slice A0_2 l0_2.length c0_2], .slice A1 l1.length c1] rfl (by (try simp only [List.map_toArray, List.map_cons, List.map_nil]); first | done | rfl | (simp only [List.length_drop, List.length_take]; rfl)) ?_; (with_reducible refine (Pxg.calls kj2 a0_0 _ _ l0_1 _ _ l0_2 _ _ l1 a8 a9 b0 b1 _ ?e5 ?e6 ?d6 ?d7 ?f8 ?f9 p3.out).mono ?_); (case e5 => exact cz e3.out HB.out); (case e6 => exact e1.out); (case d6 => exact cz e4.out HB.out); (case d7 => exact e2.out); (case f8 => exact cz n9.out HB.out); (case f9 => exact n7.out); rintro e s6 ⟨r5, r6, rfl, n1, f6, hb⟩; refine ⟨_, rfl, ?_⟩; have a6 := Aside0.mk (Kd.R_lower n1 (below_size (wz HB.out))); have a7 := Aside0.mk (Kd.R_lower f6 (below_size (wz HB.out))); have b2 := Aside0.mk (blk_below (bz a0.out) hb); have b3 := Aside0.mk (below_step (wz HB.out) hb); clear a0; clear HB; have b5 := a6; have b6 := a7; have a0 := b2; have HB := b3; clear a6 a7 b2 b3; (try clear hb); (try clear e7); (try clear hk); (try clear hi); (try clear n1); (try clear f6)) | ((with_reducible refine gate_dst (N := 5) rfl ?_); (try (refine gate_guard (by rfl) ?_; dsimp only)); refine box_event ?hg (N := 5) ?hd (cs := #[.int .i64 0, .slice none 0 0, .slice none 0 0]) (t := 25) ?hr ?_; (case hd => rfl); (case hg => rfl); (case hr => first | (go_simp; done) | (go_simp; rfl)); intro a5 hg e8 hbox hb; have a6 := Aside0.mk (Kd.R_below (rz b5.out) hb); have a7 := Aside0.mk (Kd.R_below (rz b6.out) hb); have b2 := Aside0.mk (blk_below (bz a0.out) hb); have b3 := Aside0.mk (below_step (wz HB.out) hb); have b4 := Aside0.mk (hbox); have d8 := Aside0.mk ((by rw [hg]; exact (below_size (wz HB.out)) : w.heap.size ≤ a5)); have d9 := Aside0.mk ((by rw [hg]; exact (below_size (wz HB.out)) : w.heap.size ≤ a5)); have o0 := Aside0.mk ((by rw [hg]; exact Nat.ne_of_lt (blk_lt (g := a4) (o := .cells #[.int .i64 a0_0, .slice A0_1 l0_1.length c0_1, .slice A0_2 l0_2.length c0_2] 25 (0, 0)) (bz a0.out)) : a4 ≠ a5)); have o1 := Aside0.mk ((by rw [hg]; exact Nat.ne_of_gt (blk_lt (g := a4) (o := .cells #[.int .i64 a0_0, .slice A0_1 l0_1.length c0_1, .slice A0_2 l0_2.length c0_2] 25 (0, 0)) (bz a0.out)) : a5 ≠ a4)); clear b5; clear b6; clear a0; clear HB; have b5 := a6; have b6 := a7; have a0 := b2; have HB := b3; have a1 := b4; have q4 := d8; have q2 := d9; have b7 := o0; have d3 := o1; clear a6 a7 b2 b3 b4 d8 d9 o0 o1; clear hb hbox hg; have q5 := d3.out; have q9 := b7.out; have i8 : e8.cell? ⟨a5, 0, none⟩ = some (.int .i64 0) := bcz a1 0 rfl; have i9 : e8.cell? ⟨a5, 1, none⟩ = some (.slice none 0 0) := bcz a1 1 rfl; have j2 : e8.cell? ⟨a5, 2, none⟩ = some (.slice none 0 0) := bcz a1 2 rfl; have k5 := blk_frozen a1.out 0; have k6 := blk_frozen a1.out 1; have k7 := blk_frozen a1.out 2; obtain ⟨b8, b9, o4⟩ := Kd.R_slice b5.out; subst o4; obtain ⟨d0, d1, o5⟩ := Kd.R_slice b6.out; subst o5))
    (try simp only [Act.put, qz1, qz2, qz3])
    go_cut [31] (fun q0 wc => ∃ (kq : Nat) (e9 : Bool), q0 = .bool e9 ∧ Aside0 (Pl36a.j1 kq l1 b1 e9 a0_0 l0_1 l0_2 a8 a9 b0 = some r) ∧ Aside0 (kq ≤ kj2) ∧ Aside0 (Kd.R Kd.string 9 wc w.heap.size (fun _ => True) (.slice b8 a9.length b9) a9) ∧ Aside0 (Kd.R k80 80 wc w.heap.size (fun _ => True) (.slice d0 b0.length d1) b0) ∧ Aside0 (wc.heap[a4]? = some (.cells #[.int .i64 a0_0, (.slice A0_1 l0_1.length c0_1), (.slice A0_2 l0_2.length c0_2)] 25 (0, 0))) ∧ Aside0 (wc.heap[a5]? = some (.cells #[.int .i64 a8, (.slice b8 a9.length b9), (.slice d0 b0.length d1)] 25 (0, 0))) ∧ Aside0 (Below w.heap.size w wc))
    case first =>
     have H := h9.out;clear h9;replace H := Option.bind_eq_some_iff.mp H;obtain ⟨f0, m3, H⟩ := H;replace H : (if f0 = true then (Pl36a.j1 kj2 l1 b1 ((l1.length : Int) != a0_0) a0_0 l0_1 l0_2 a8 a9 b0) else (Pl36a.j1 kj2 l1 b1 true a0_0 l0_1 l0_2 a8 a9 b0)) = some r := H;have n5 := Aside0.mk m3;clear m3;by_cases g6 : f0 = true
     ·subst g6;have H1 : (Pl36a.j1 kj2 l1 b1 ((l1.length : Int) != a0_0) a0_0 l0_1 l0_2 a8 a9 b0) = some r := by rw [if_pos rfl] at H; exact H
      clear H;have H := H1;clear H1;have H' := Aside0.mk H;clear H;have q6 := b7.out;have r0 := d3.out;have j3 : e8.cell? ⟨a4, 0, none⟩ = some (.int .i64 a0_0) := bcz a0 0 rfl;have j4 : e8.cell? ⟨a4, 1, none⟩ = some (.slice A0_1 l0_1.length c0_1) := bcz a0 1 rfl;have j5 : e8.cell? ⟨a4, 2, none⟩ = some (.slice A0_2 l0_2.length c0_2) := bcz a0 2 rfl;have k8 := blk_frozen a0.out 0;have k9 := blk_frozen a0.out 1;have l4 := blk_frozen a0.out 2;go_wp2_with (first | ((with_reducible refine gate_callee (f := 18) rfl ?_); refine goesL_ (some 23) rfl rfl Try.func18 (by kernel_rfl) rfl #[.agg #[.int .i64 a0_0, .slice A0_1 l0_1.length c0_1, .slice A0_2 l0_2.length c0_2]] rfl (by (try simp only [List.map_toArray, List.map_cons, List.map_nil]); first | done | rfl | (simp only [List.length_drop, List.length_take]; rfl)) ?_; (with_reducible refine (Pr26b.calls a0_0 _ _ l0_1 _ _ l0_2 true _ ?e5 ?e6 ?d6 ?d7 n5.out).mono ?_); (case e5 => exact Kd.C_below e3.out (wz HB.out)); (case e6 => exact e1.out); (case d6 => exact Kd.C_below e4.out (wz HB.out)); (case d7 => exact e2.out); rintro e n2 ⟨rfl, hb⟩; refine ⟨_, rfl, ?_⟩; have a6 := Aside0.mk (Kd.R_below (rz (Kd.R_mono (Kd.R_far (p := ⟨a5, 2, none⟩) (Kd.R_far (p := ⟨a5, 1, none⟩) (Kd.R_far (p := ⟨a5, 0, none⟩) (Kd.R_types b5.out a1.out (by decide)) (fun _ hk => hk.2) (.int .i64 a8)) (fun _ hk => hk.2) (.slice b8 a9.length b9)) (fun _ hk => hk.2) (.slice d0 b0.length d1)) (fun _ h_ => h_.1))) hb); have a7 := Aside0.mk (Kd.R_below (rz (Kd.R_mono (Kd.R_far (p := ⟨a5, 2, none⟩) (Kd.R_far (p := ⟨a5, 1, none⟩) (Kd.R_far (p := ⟨a5, 0, none⟩) (Kd.R_types b6.out a1.out (by decide)) (fun _ hk => hk.2) (.int .i64 a8)) (fun _ hk => hk.2) (.slice b8 a9.length b9)) (fun _ hk => hk.2) (.slice d0 b0.length d1)) (fun _ h_ => h_.1))) hb); have b2 := Aside0.mk (blk_below (g := a4) (o := .cells #[.int .i64 a0_0, .slice A0_1 l0_1.length c0_1, .slice A0_2 l0_2.length c0_2] 25 (0, 0)) (fz a0.out b7.out) hb); have b3 := Aside0.mk (blk_below (g := a5) (o := .cells #[.int .i64 a8, .slice b8 a9.length b9, .slice d0 b0.length d1] 25 (0, 0)) (by (with_reducible repeat (first | refine blk_drewN ?_ _ | refine blk_drew ?_ | refine blk_alloc ?_ _)); refine blk_put (cs := #[.int .i64 a8, .slice b8 a9.length b9, .slice none 0 0]) ?_ 2 _ rfl; (with_reducible repeat (first | refine blk_drewN ?_ _ | refine blk_drew ?_ | refine blk_alloc ?_ _)); refine blk_put (cs := #[.int .i64 a8, .slice none 0 0, .slice none 0 0]) ?_ 1 _ rfl; (with_reducible repeat (first | refine blk_drewN ?_ _ | refine blk_drew ?_ | refine blk_alloc ?_ _)); refine blk_put (cs := #[.int .i64 0, .slice none 0 0, .slice none 0 0]) ?_ 0 _ rfl; (with_reducible repeat (first | refine blk_drewN ?_ _ | refine blk_drew ?_ | refine blk_alloc ?_ _)); exact a1.out) hb); have b4 := Aside0.mk (below_step (wz HB.out) hb); clear b5; clear b6; clear a0; clear a1; clear HB; have b5 := a6; have b6 := a7; have a0 := b2; have a1 := b3; have HB := b4; clear a6 a7 b2 b3 b4; (try clear hb); (try clear e7); (try clear hk); (try clear hi); have j6 : n2.cell? ⟨a4, 0, none⟩ = some (.int .i64 a0_0) := bcz a0 0 rfl; have j7 : n2.cell? ⟨a4, 1, none⟩ = some (.slice A0_1 l0_1.length c0_1) := bcz a0 1 rfl; have j8 : n2.cell? ⟨a4, 2, none⟩ = some (.slice A0_2 l0_2.length c0_2) := bcz a0 2 rfl; have l5 := blk_frozen a0.out 0; have l6 := blk_frozen a0.out 1; have l7 := blk_frozen a0.out 2))
      go_meet
      case rel => exact ⟨_, (((l1.length : Int) != a0_0)), (by first | rfl | (simp; done) | (simp [*]; done)), H', ⟨by have := n8.out; first | omega | exact Nat.le_refl _⟩, ⟨rz b5.out⟩, ⟨rz b6.out⟩, ⟨bz a0.out⟩, ⟨bz a1.out⟩, ⟨wz HB.out⟩⟩
     ·replace g6 := Bool.eq_false_iff.mpr g6;subst g6;have H1 : (Pl36a.j1 kj2 l1 b1 true a0_0 l0_1 l0_2 a8 a9 b0) = some r := by rw [if_neg (show ¬ (false = true) by decide)] at H; exact H
      clear H;have H := H1;clear H1;have H' := Aside0.mk H;clear H;have q7 := b7.out;have r1 := d3.out;have j9 : e8.cell? ⟨a4, 0, none⟩ = some (.int .i64 a0_0) := bcz a0 0 rfl;have k0 : e8.cell? ⟨a4, 1, none⟩ = some (.slice A0_1 l0_1.length c0_1) := bcz a0 1 rfl;have k1 : e8.cell? ⟨a4, 2, none⟩ = some (.slice A0_2 l0_2.length c0_2) := bcz a0 2 rfl;have l8 := blk_frozen a0.out 0;have l9 := blk_frozen a0.out 1;have m0 := blk_frozen a0.out 2;go_wp2_with (first | ((with_reducible refine gate_callee (f := 18) rfl ?_); refine goesL_ (some 23) rfl rfl Try.func18 (by kernel_rfl) rfl #[.agg #[.int .i64 a0_0, .slice A0_1 l0_1.length c0_1, .slice A0_2 l0_2.length c0_2]] rfl (by (try simp only [List.map_toArray, List.map_cons, List.map_nil]); first | done | rfl | (simp only [List.length_drop, List.length_take]; rfl)) ?_; (with_reducible refine (Pr26b.calls a0_0 _ _ l0_1 _ _ l0_2 false _ ?e5 ?e6 ?d6 ?d7 n5.out).mono ?_); (case e5 => exact Kd.C_below e3.out (wz HB.out)); (case e6 => exact e1.out); (case d6 => exact Kd.C_below e4.out (wz HB.out)); (case d7 => exact e2.out); rintro e s7 ⟨rfl, hb⟩; refine ⟨_, rfl, ?_⟩; have a6 := Aside0.mk (Kd.R_below (rz (Kd.R_mono (Kd.R_far (p := ⟨a5, 2, none⟩) (Kd.R_far (p := ⟨a5, 1, none⟩) (Kd.R_far (p := ⟨a5, 0, none⟩) (Kd.R_types b5.out a1.out (by decide)) (fun _ hk => hk.2) (.int .i64 a8)) (fun _ hk => hk.2) (.slice b8 a9.length b9)) (fun _ hk => hk.2) (.slice d0 b0.length d1)) (fun _ h_ => h_.1))) hb); have a7 := Aside0.mk (Kd.R_below (rz (Kd.R_mono (Kd.R_far (p := ⟨a5, 2, none⟩) (Kd.R_far (p := ⟨a5, 1, none⟩) (Kd.R_far (p := ⟨a5, 0, none⟩) (Kd.R_types b6.out a1.out (by decide)) (fun _ hk => hk.2) (.int .i64 a8)) (fun _ hk => hk.2) (.slice b8 a9.length b9)) (fun _ hk => hk.2) (.slice d0 b0.length d1)) (fun _ h_ => h_.1))) hb); have b2 := Aside0.mk (blk_below (g := a4) (o := .cells #[.int .i64 a0_0, .slice A0_1 l0_1.length c0_1, .slice A0_2 l0_2.length c0_2] 25 (0, 0)) (fz a0.out b7.out) hb); have b3 := Aside0.mk (blk_below (g := a5) (o := .cells #[.int .i64 a8, .slice b8 a9.length b9, .slice d0 b0.length d1] 25 (0, 0)) (by (with_reducible repeat (first | refine blk_drewN ?_ _ | refine blk_drew ?_ | refine blk_alloc ?_ _)); refine blk_put (cs := #[.int .i64 a8, .slice b8 a9.length b9, .slice none 0 0]) ?_ 2 _ rfl; (with_reducible repeat (first | refine blk_drewN ?_ _ | refine blk_drew ?_ | refine blk_alloc ?_ _)); refine blk_put (cs := #[.int .i64 a8, .slice none 0 0, .slice none 0 0]) ?_ 1 _ rfl; (with_reducible repeat (first | refine blk_drewN ?_ _ | refine blk_drew ?_ | refine blk_alloc ?_ _)); refine blk_put (cs := #[.int .i64 0, .slice none 0 0, .slice none 0 0]) ?_ 0 _ rfl; (with_reducible repeat (first | refine blk_drewN ?_ _ | refine blk_drew ?_ | refine blk_alloc ?_ _)); exact a1.out) hb); have b4 := Aside0.mk (below_step (wz HB.out) hb); clear b5; clear b6; clear a0; clear a1; clear HB; have b5 := a6; have b6 := a7; have a0 := b2; have a1 := b3; have HB := b4; clear a6 a7 b2 b3 b4; (try clear hb); (try clear e7); (try clear hk); (try clear hi)))
      go_meet
      case rel => exact ⟨_, (true), (by first | rfl | (simp; done) | (simp [*]; done)), H', ⟨by have := n8.out; first | omega | exact Nat.le_refl _⟩, ⟨rz b5.out⟩, ⟨rz b6.out⟩, ⟨bz a0.out⟩, ⟨bz a1.out⟩, ⟨wz HB.out⟩⟩
    case rest =>
     clear h9;(try clear c1);(try clear c6);(try clear g5);(try clear g6);(try clear i4);(try clear i5);(try clear i7);(try clear i8);(try clear i9);(try clear j2);(try clear j3);(try clear j4);(try clear j5);(try clear j6);(try clear j7);(try clear j8);(try clear j9);(try clear k0);(try clear k1);(try clear g7);(try clear g8);(try clear g9);(try clear h0);(try clear h1);(try clear h2);(try clear k2);(try clear k3);(try clear k4);(try clear k5);(try clear k6);(try clear k7);(try clear k8);(try clear k9);(try clear l4);(try clear l5);(try clear l6);(try clear l7);(try clear l8);(try clear l9);(try clear m0);(try clear h3);(try clear h4);(try clear h5);(try clear h6);(try clear h7);(try clear h8);obtain ⟨kq, e9, rfl, HA, r3, a3, a2, a0, a1, HB⟩ := hcut
     cases kq with
     | zero => exact absurd HA.out (by simp [Pl36a.j1])
     | succ kj14 =>
      have H := HA.out;clear HA;simp only [Pl36a.j1] at H;by_cases i1 : e9 = true
      ·subst i1;have H1 : ((Pr26a.f kj14 a8 a9 b0 0 ([] : List ByteArray) ([] : List (S80))).bind fun g2 => (if g2 = true then (if b1 = 1 then ((Pl36b.f kj14).bind fun e0 => (some e0)) else (some false)) else (some false))) = some r := by rw [if_pos rfl] at H; exact H
       clear H;have H := H1;clear H1;replace H := Option.bind_eq_some_iff.mp H;obtain ⟨g2, m4, H⟩ := H;replace H : (if g2 = true then (if b1 = 1 then ((Pl36b.f kj14).bind fun e0 => (some e0)) else (some false)) else (some false)) = some r := H;have p4 := Aside0.mk m4;clear m4;by_cases i2 : g2 = true
       ·subst i2;have H1 : (if b1 = 1 then ((Pl36b.f kj14).bind fun e0 => (some e0)) else (some false)) = some r := by rw [if_pos rfl] at H; exact H
        clear H;have H := H1;clear H1;by_cases f4 : b1 = 1
        ·rw [if_pos f4] at H;have c35b0 : (b1 == 1) = true := beq_iff_eq.mpr f4;have c35b1 : (b1 != 1) = false := bne_eq_false_iff_eq.mpr f4;clear f4;replace H := Option.bind_eq_some_iff.mp H;obtain ⟨e0, m5, H⟩ := H;replace H : (some e0) = some r := H;have p5 := Aside0.mk m5;clear m5;obtain rfl := Option.some.inj H;have q8 := d3.out;have r2 := b7.out;have o6 : wc.cell? ⟨a5, 0, none⟩ = some (.int .i64 a8) := bcz a1 0 rfl;have o7 : wc.cell? ⟨a5, 1, none⟩ = some (.slice b8 a9.length b9) := bcz a1 1 rfl;have o8 : wc.cell? ⟨a5, 2, none⟩ = some (.slice d0 b0.length d1) := bcz a1 2 rfl;have o9 := blk_frozen a1.out 0;have p0 := blk_frozen a1.out 1;have p1 := blk_frozen a1.out 2;go_wp2_with (first | ((with_reducible refine gate_callee (f := 44) rfl ?_); refine goesL_ (some 34) rfl rfl Try.func44 (by kernel_rfl) rfl #[.agg #[.int .i64 a8, .slice b8 a9.length b9, .slice d0 b0.length d1], .agg #[.int .i64 0, .slice none 0 0, .slice none 0 0]] rfl (by (try simp only [List.map_toArray, List.map_cons, List.map_nil]); first | done | rfl | (simp only [List.length_drop, List.length_take]; rfl)) ?_; (refine (Pr26a.calls kj14 a8 _ _ a9 _ _ b0 0 _ _ ([] : List ByteArray) _ _ ([] : List (S80)) true _ ?e5 ?e6 ?d6 ?d7 ?f8 ?f9 ?n3 ?n4 p4.out).mono ?_); (case e5 => repeat (first | exact (Kd.R_reads' a3.out).2.2 | (with_reducible refine Kd.C_alloc ?_ _) | (with_reducible refine Kd.C_drewN ?_ _) | (with_reducible refine Kd.C_drew ?_))); (case e6 => exact (Kd.R_reads' a3.out).2.1); (case d6 => repeat (first | exact (Kd.R_reads' a2.out).2.2 | (with_reducible refine Kd.C_alloc ?_ _) | (with_reducible refine Kd.C_drewN ?_ _) | (with_reducible refine Kd.C_drew ?_))); (case d7 => exact (Kd.R_reads' a2.out).2.1); (case f8 => exact Kd.C_nil _ _); (case f9 => exact Nat.le_refl _); (case n3 => exact Kd.C_nil _ _); (case n4 => exact Nat.le_refl _); rintro e s8 ⟨rfl, hb⟩; refine ⟨_, rfl, ?_⟩; have a6 := Aside0.mk (Kd.R_below (rz a3.out) hb); have a7 := Aside0.mk (Kd.R_below (rz a2.out) hb); have b2 := Aside0.mk (blk_below (bz a0.out) hb); have b3 := Aside0.mk (blk_below (bz a1.out) hb); have b4 := Aside0.mk (below_step (wz HB.out) hb); clear a3; clear a2; clear a0; clear a1; clear HB; have a3 := a6; have a2 := a7; have a0 := b2; have a1 := b3; have HB := b4; clear a6 a7 b2 b3 b4; (try clear hb); (try clear e7); (try clear hk); (try clear hi)) | (go_at_call 46; (with_reducible refine (Pl36b.calls kj14  e0 _ p5.out hr_).mono ?_); rintro e s9 ⟨rfl, hb⟩; have a6 := Aside0.mk (Kd.R_below (rz a3.out) hb); have a7 := Aside0.mk (Kd.R_below (rz a2.out) hb); have b2 := Aside0.mk (blk_below (bz a0.out) hb); have b3 := Aside0.mk (blk_below (bz a1.out) hb); have b4 := Aside0.mk (below_step (wz HB.out) hb); clear a3; clear a2; clear a0; clear a1; clear HB; have a3 := a6; have a2 := a7; have a0 := b2; have a1 := b3; have HB := b4; clear a6 a7 b2 b3 b4; (try clear hb); (try clear e7); (try clear hk); (try clear hi)))
         go_ret
         exact ⟨by first | rfl | (simp [errW_none, errW_some] <;> rfl) | (simp [*, errW_none, errW_some] <;> rfl), wz HB.out⟩
        ·rw [if_neg f4] at H;have c35b0 : (b1 == 1) = false := beq_eq_false_iff_ne.mpr f4;have c35b1 : (b1 != 1) = true := bne_iff_ne.mpr f4;obtain rfl := Option.some.inj H;exact absurd hr_.out (by decide)
       ·replace i2 := Bool.eq_false_iff.mpr i2;subst i2;have H1 : (some false) = some r := by rw [if_neg (show ¬ (false = true) by decide)] at H; exact H
        clear H;have H := H1;clear H1;obtain rfl := Option.some.inj H;exact absurd hr_.out (by decide)
      ·replace i1 := Bool.eq_false_iff.mpr i1;subst i1;have H1 : ((Pr36b.f a0_0 l0_1 l0_2 l1).bind fun f7 => ((Pr26a.f kj14 a8 a9 b0 f7.1 f7.2.1 f7.2.2).bind fun f1 => (if f1 = true then (if b1 = 0 then ((Pl36b.f kj14).bind fun d5 => (some d5)) else (some false)) else (some false)))) = some r := by rw [if_neg (show ¬ (false = true) by decide)] at H; exact H
       clear H;have H := H1;clear H1;replace H := Option.bind_eq_some_iff.mp H;obtain ⟨⟨g3, i0, g4⟩, m6, H⟩ := H;replace H : ((Pr26a.f kj14 a8 a9 b0 g3 i0 g4).bind fun f1 => (if f1 = true then (if b1 = 0 then ((Pl36b.f kj14).bind fun d5 => (some d5)) else (some false)) else (some false))) = some r := H;have p6 := Aside0.mk m6;clear m6;replace H := Option.bind_eq_some_iff.mp H;obtain ⟨f1, m7, H⟩ := H;replace H : (if f1 = true then (if b1 = 0 then ((Pl36b.f kj14).bind fun d5 => (some d5)) else (some false)) else (some false)) = some r := H;have p7 := Aside0.mk m7;clear m7;by_cases i3 : f1 = true
       ·subst i3;have H1 : (if b1 = 0 then ((Pl36b.f kj14).bind fun d5 => (some d5)) else (some false)) = some r := by rw [if_pos rfl] at H; exact H
        clear H;have H := H1;clear H1;by_cases f5 : b1 = 0
        ·rw [if_pos f5] at H;have c50b0 : (b1 == 0) = true := beq_iff_eq.mpr f5;have c50b1 : (b1 != 0) = false := bne_eq_false_iff_eq.mpr f5;clear f5;replace H := Option.bind_eq_some_iff.mp H;obtain ⟨d5, m8, H⟩ := H;replace H : (some d5) = some r := H;have p8 := Aside0.mk m8;clear m8;obtain rfl := Option.some.inj H;try go_wp2
         have a6 := Aside0.mk (Kd.R_drew a3.out);have a7 := Aside0.mk (Kd.R_drew a2.out);have b2 := Aside0.mk (blk_drew a0.out);have b3 := Aside0.mk (blk_drew a1.out);have b4 := Aside0.mk (below_drew1 HB.out);clear a3 a2 a0 a1 HB;have a3 := a6;have a2 := a7;have a0 := b2;have a1 := b3;have HB := b4;clear a6 a7 b2 b3 b4;refine start_ (n := 13) (S := fun w' => w'.cell? ⟨a5, 0, none⟩ = some (.int .i64 a8) ∧ w'.cell? ⟨a5, 1, none⟩ = some (.slice b8 a9.length b9) ∧ w'.cell? ⟨a5, 2, none⟩ = some (.slice d0 b0.length d1) ∧ w'.cell? ⟨a4, 0, none⟩ = some (.int .i64 a0_0) ∧ w'.cell? ⟨a4, 1, none⟩ = some (.slice A0_1 l0_1.length c0_1) ∧ w'.cell? ⟨a4, 2, none⟩ = some (.slice A0_2 l0_2.length c0_2)) (ds := []) (bqz 13 0) (by kernel_rfl) rfl rfl ⟨bcz a1 0 rfl, bcz a1 1 rfl, bcz a1 2 rfl, bcz a0 0 rfl, bcz a0 1 rfl, bcz a0 2 rfl⟩ (fun hHeld => ?_); refine with_tabW Pl36a.tab6 Pl36a.bits6 (fun HT_ HW_ => ?_)
         generalize wc.drew = w52 at a3 a2 a0 a1 HB hHeld ⊢;refine pqz 2 (some 44) (bqz 13 4) rfl rfl (any_of HT_.out (by kernel_rfl)) ?_ ?_ (fun _ _ _ h => h) (by rfl) ?_ ?_ ?_;rotate_left 2;intro w';go_simp;(with_reducible rfl);simp only [Act.put, qz1, qz2, qz3, i64_w, i32_w];rfl
         refine tqz 0 (some 42) (bqz 13 5) rfl rfl (take_ofW HT_.out HW_.out (by kernel_rfl)) ?_ ?_ (fun _ _ _ h => h) (by rfl) ?_ hHeld ?_ ?_;rotate_left 2;rintro w' ⟨s0, s1, s2, s3, s4, s5⟩;go_simp;(with_reducible rfl);simp only [Act.put, qz1, qz2, qz3, i64_w, i32_w];rfl
         refine tqz 1 (some 43) (bqz 13 7) rfl rfl (take_ofW HT_.out HW_.out (by kernel_rfl)) ?_ ?_ (fun _ _ _ h => h) (by rfl) ?_ hHeld ?_ ?_;rotate_left 2;rintro w' ⟨s0, s1, s2, s3, s4, s5⟩;go_simp;(with_reducible rfl);simp only [Act.put, qz1, qz2, qz3, i64_w, i32_w];rfl
         refine one_ (i := 3) (N := some 45) (bqz 13 15) rfl rfl (one_of HT_.out (by kernel_rfl)) (by decide) (fun K hK => ?_);refine goes_ Try.func48 (by kernel_rfl) rfl #[.agg #[.int .i64 a0_0, .slice A0_1 l0_1.length c0_1, .slice A0_2 l0_2.length c0_2], .slice A1 l1.length c1] (by rfl) rfl rfl (by (try simp only [List.map_toArray, List.map_cons, List.map_nil]); first | done | rfl | (simp only [List.length_drop, List.length_take]; rfl)) ?_;with_reducible refine (Pr36b.callsC a0_0 _ _ l0_1 _ _ l0_2 _ _ l1 g3 i0 g4 _ ?d6 ?d7 ?f8 ?f9 p6.out).mono ?_
         (case d6 => exact cz e4.out HB.out)
         (case d7 => exact e2.out)
         (case f8 => exact cz n9.out HB.out)
         (case f9 => exact n7.out)
         rintro e t2 ⟨eq_, r7, rfl, f6, hb⟩;subst i0;refine ⟨_, rfl, ?_⟩;have a6 := Aside0.mk (Kd.R_below (rz a3.out) hb);have a7 := Aside0.mk (Kd.R_elder' (rz a2.out) (Kd.R_base f6) hb);have b2 := Aside0.mk trivial;have b3 := Aside0.mk (Kd.R_lower (Kd.R_new' f6 (Kd.R_lt (rz a2.out))) (below_size (wz HB.out)));have b4 := Aside0.mk (blk_below (bz a0.out) hb);have d8 := Aside0.mk (blk_below (bz a1.out) hb);have d9 := Aside0.mk (below_step (wz HB.out) hb);clear a3 a2 a0 a1 HB;have a3 := a6;have a2 := a7;have f2 := b2;have d2 := b3;have a0 := b4;have a1 := d8;have HB := d9;clear a6 a7 b2 b3 b4 d8 d9
         (try clear hb)
         (try clear e7)
         (try clear hk)
         (try clear hi)
         (try clear n1)
         (try clear f6)
         obtain ⟨o2, o3, n0⟩ := Kd.R_slice d2.out
         (first | subst n0 | (injection n0 with f1_ f2_ f3_; have f4_ := f1_.symm; have f5_ := f3_.symm; clear f1_ f2_ f3_; subst f4_; subst f5_))
         refine hK.out _ _ ⟨bcz a1 0 rfl, bcz a1 1 rfl, bcz a1 2 rfl, bcz a0 0 rfl, bcz a0 1 rfl, bcz a0 2 rfl⟩ (fun hHeld => ?_);clear hK K;refine norm_ (a' := ?_) ?_ ?_;rotate_left
         ·show Act.put _ (some 45) _ = _;simp only [Act.put, qz1, qz2, qz3, i64_w, i32_w];rfl
         refine one_ (i := 4) (N := some 46) (bqz 13 31) rfl rfl (one_of HT_.out (by kernel_rfl)) (by decide) (fun K hK => ?_);refine goes_ Try.func44 (by kernel_rfl) rfl #[.agg #[.int .i64 a8, .slice b8 a9.length b9, .slice d0 b0.length d1], .agg #[.int .i64 g3, .slice A0_1 l0_1.length c0_1, .slice o2 g4.length o3]] (by rfl) rfl rfl (by (try simp only [List.map_toArray, List.map_cons, List.map_nil]); first | done | rfl | (simp only [List.length_drop, List.length_take]; rfl)) ?_;with_reducible refine (Pr26a.calls kj14 a8 _ _ a9 _ _ b0 g3 _ _ l0_1 _ _ g4 true _ ?e5 ?e6 ?d6 ?d7 ?f8 ?f9 ?n3 ?n4 p7.out).mono ?_
         (case e5 => repeat (first | exact (Kd.R_reads' a3.out).2.2 | (with_reducible refine Kd.C_alloc ?_ _) | (with_reducible refine Kd.C_drewN ?_ _) | (with_reducible refine Kd.C_drew ?_)))
         (case e6 => exact (Kd.R_reads' a3.out).2.1)
         (case d6 => repeat (first | exact (Kd.R_reads' a2.out).2.2 | (with_reducible refine Kd.C_alloc ?_ _) | (with_reducible refine Kd.C_drewN ?_ _) | (with_reducible refine Kd.C_drew ?_)))
         (case d7 => exact (Kd.R_reads' a2.out).2.1)
         (case f8 => exact cz e3.out HB.out)
         (case f9 => exact e1.out)
         (case n3 => repeat (first | exact (Kd.R_reads' d2.out).2.2 | (with_reducible refine Kd.C_alloc ?_ _) | (with_reducible refine Kd.C_drewN ?_ _) | (with_reducible refine Kd.C_drew ?_)))
         (case n4 => exact (Kd.R_reads' d2.out).2.1)
         rintro e t4 ⟨rfl, hb⟩;refine ⟨_, rfl, ?_⟩;have a6 := Aside0.mk (Kd.R_below (rz a3.out) hb);have a7 := Aside0.mk (Kd.R_below (rz a2.out) hb);have b2 := Aside0.mk trivial;have b3 := Aside0.mk (Kd.R_below (rz d2.out) hb);have b4 := Aside0.mk (blk_below (bz a0.out) hb);have d8 := Aside0.mk (blk_below (bz a1.out) hb);have d9 := Aside0.mk (below_step (wz HB.out) hb);clear a3 a2 f2 d2 a0 a1 HB;have a3 := a6;have a2 := a7;have f2 := b2;have d2 := b3;have a0 := b4;have a1 := d8;have HB := d9;clear a6 a7 b2 b3 b4 d8 d9
         (try clear hb)
         (try clear e7)
         (try clear hk)
         (try clear hi)
         refine hK.out _ _ ⟨bcz a1 0 rfl, bcz a1 1 rfl, bcz a1 2 rfl, bcz a0 0 rfl, bcz a0 1 rfl, bcz a0 2 rfl⟩ (fun hHeld => ?_);clear hK K;refine norm_ (a' := ?_) ?_ ?_;rotate_left
         ·show Act.put _ (some 46) _ = _;simp only [Act.put, qz1, qz2, qz3, i64_w, i32_w];rfl
         refine pqz 5 (some 47) (bqz 13 63) rfl rfl (any_of HT_.out (by kernel_rfl)) ?_ ?_ (fun _ _ _ h => h) (by rfl) ?_ ?_ ?_;rotate_left 2;intro w';go_simp;(with_reducible rfl);simp only [Act.put, qz1, qz2, qz3, i64_w, i32_w];rfl
         refine pqz 6 (some 48) (bqz 13 127) rfl rfl (any_of HT_.out (by kernel_rfl)) ?_ ?_ (fun _ _ _ h => h) (by rfl) ?_ ?_ ?_;rotate_left 2;intro w';go_simp;(with_reducible rfl);simp only [Act.put, qz1, qz2, qz3, i64_w, i32_w];rfl
         refine pqz 7 (some 49) (bqz 13 255) rfl rfl (any_of HT_.out (by kernel_rfl)) ?_ ?_ (fun _ _ _ h => h) (by rfl) ?_ ?_ ?_;rotate_left 2;intro w';go_simp;(with_reducible rfl);simp only [Act.put, qz1, qz2, qz3, i64_w, i32_w];rfl
         refine pqz 8 (some 50) (bqz 13 511) rfl rfl (any_of HT_.out (by kernel_rfl)) ?_ ?_ (fun _ _ _ h => h) (by rfl) ?_ ?_ ?_;rotate_left 2;intro w';go_simp;(with_reducible rfl);simp only [Act.put, qz1, qz2, qz3, i64_w, i32_w];rfl
         refine pqz 9 (some 51) (bqz 13 1023) rfl rfl (any_of HT_.out (by kernel_rfl)) ?_ ?_ (fun _ _ _ h => h) (by rfl) ?_ ?_ ?_;rotate_left 2;intro w';go_simp;(with_reducible rfl);simp only [Act.put, qz1, qz2, qz3, i64_w, i32_w];rfl
         refine one_ (i := 10) (N := some 52) (bqz 13 2047) rfl rfl (one_of HT_.out (by kernel_rfl)) (by decide) (fun K hK => ?_);refine goes_ Try.func46 (by kernel_rfl) rfl #[] (by rfl) rfl rfl (by (try simp only [List.map_toArray, List.map_cons, List.map_nil]); first | done | rfl | (simp only [List.length_drop, List.length_take]; rfl)) ?_;with_reducible refine (Pl36b.calls kj14  d5 _ p8.out hr_).mono ?_
         rintro e t5 ⟨rfl, hb⟩;refine ⟨_, rfl, ?_⟩;have a6 := Aside0.mk (Kd.R_below (rz a3.out) hb);have a7 := Aside0.mk (Kd.R_below (rz a2.out) hb);have b2 := Aside0.mk trivial;have b3 := Aside0.mk (Kd.R_below (rz d2.out) hb);have b4 := Aside0.mk (blk_below (bz a0.out) hb);have d8 := Aside0.mk (blk_below (bz a1.out) hb);have d9 := Aside0.mk (below_step (wz HB.out) hb);clear a3 a2 f2 d2 a0 a1 HB;have a3 := a6;have a2 := a7;have f2 := b2;have d2 := b3;have a0 := b4;have a1 := d8;have HB := d9;clear a6 a7 b2 b3 b4 d8 d9
         (try clear hb)
         (try clear e7)
         (try clear hk)
         (try clear hi)
         refine hK.out _ _ ⟨bcz a1 0 rfl, bcz a1 1 rfl, bcz a1 2 rfl, bcz a0 0 rfl, bcz a0 1 rfl, bcz a0 2 rfl⟩ (fun hHeld => ?_);clear hK K;refine norm_ (a' := ?_) ?_ ?_;rotate_left
         ·show Act.put _ (some 52) _ = _;simp only [Act.put, qz1, qz2, qz3, i64_w, i32_w];rfl
         refine pqz 11 (some 53) (bqz 13 4095) rfl rfl (any_of HT_.out (by kernel_rfl)) ?_ ?_ (fun _ _ _ h => h) (by rfl) ?_ ?_ ?_;rotate_left 2;intro w';go_simp;(with_reducible rfl);simp only [Act.put, qz1, qz2, qz3, i64_w, i32_w];rfl
         refine pqz 12 (some 4) (bqz 13 8191) rfl rfl (any_of HT_.out (by kernel_rfl)) ?_ ?_ (fun _ _ _ h => h) (by rfl) ?_ ?_ ?_;rotate_left 2;intro w';go_simp;(with_reducible rfl);simp only [Act.put, qz1, qz2, qz3, i64_w, i32_w];rfl
         refine done_ (done_of HT_.out (by kernel_rfl)) ?_;try go_wp2
         go_ret
         exact ⟨by first | rfl | (simp [errW_none, errW_some] <;> rfl) | (simp [*, errW_none, errW_some] <;> rfl), wz HB.out⟩
        ·rw [if_neg f5] at H;have c50b0 : (b1 == 0) = false := beq_eq_false_iff_ne.mpr f5;have c50b1 : (b1 != 0) = true := bne_iff_ne.mpr f5;obtain rfl := Option.some.inj H;exact absurd hr_.out (by decide)
       ·replace i3 := Bool.eq_false_iff.mpr i3;subst i3;have H1 : (some false) = some r := by rw [if_neg (show ¬ (false = true) by decide)] at H; exact H
        clear H;have H := H1;clear H1;obtain rfl := Option.some.inj H;exact absurd hr_.out (by decide)
end Go.Proofs.Ytmcbkmfpmcbdpaa.Pr
set_option linter.unusedVariables false
set_option linter.unusedSimpArgs false
namespace Go.Proofs.Ytmcbkmfpmcbdpaa.H
open Go.RowKit Go.Proofs.Ytmcbkmfpmcbdpaa.Pr Go.Proofs.YtmcbkmfpmcbdpaaW.PrintWords Go.Proofs.Ytmcbkmfpmcbdpaa.Sem Go.Proofs.Ytmcbkmfpmcbdpaa.PL
theorem texts_ev (ls : List ByteArray) (hl : ls.length ≤ 1000000) : Ev (fun k => Pr01a.f k ls ls) true := by
 have key : ∀ d i : Nat, i + d = ls.length → Ev (fun k => Pr01a.l0 k ls ls (i : Int)) true := by
  intro d
  induction d with
  | zero => intro i h; exact Ev.step (fun k => Pr01a.l0.eq_2 ..) (Ev.neg (by omega) (Ev.now _))
  | succ d ih =>
   intro i h
   refine Ev.step (fun k => Pr01a.l0.eq_2 ..) (Ev.pos (by omega) (Ev.pos (by omega) (Ev.pos (by omega) (Ev.pos rfl ?_))))
   rw [w1n (by omega)]
   exact ih (i + 1) (by omega)
 exact Ev.pos rfl (key ls.length 0 (by omega))
theorem same26_refl (n : Int) (ls : List ByteArray) (xs : List Ed) (h1 : ls.length ≤ 1000000) (hl : xs.length ≤ 1000000) : Ev (fun k => Pr26a.f k n ls xs n ls xs) true := by
 have key : ∀ d i : Nat, i + d = xs.length → Ev (fun k => Pr26a.l0 k (i : Int) n ls xs n ls xs) true := by
  intro d
  induction d with
  | zero => intro i h; exact Ev.step (fun k => Pr26a.l0.eq_2 ..) (Ev.neg (by omega) (Ev.now _))
  | succ d ih =>
   intro i h
   refine Ev.step (fun k => Pr26a.l0.eq_2 ..) (Ev.pos (by omega) (Ev.pos (by omega) (Ev.pos (by omega) (Ev.neg (by simp) ?_))))
   rw [w1n (by omega)]
   exact ih (i + 1) (by omega)
 exact Ev.pos rfl (Ev.bind (texts_ev ls h1) (Ev.pos rfl (Ev.step (fun k => Pr26a.j0.eq_2 ..) (Ev.neg (by simp) (key xs.length 0 (by omega))))))
theorem same0 : Ev (fun k => Pr26a.f k 0 [] [] 0 [] []) true := same26_refl 0 [] [] (by simp) (by simp)
theorem aw36 : Ev (fun k => Pl36b.f k) true := Ev.of Pl36b.mono (k := 20) (by kernel_rfl)
theorem quotOf_no {n : Int} {ls : List ByteArray} {es : List Ed} {ks : List Int} (h : mayR n ls es = false ∨ (ks.length : Int) ≠ n) : Ev (fun k => Pxg.f k n ls es ks) (0, [], [], 1) := by
 have jt : ∀ N L E, Ev (fun k => Pxg.j0 k ks true N L E) (0, [], [], 1) := fun N L E => Ev.step (fun k => Pxg.j0.eq_2 ..) (Ev.pos rfl (Ev.now _))
 cases hm : mayR n ls es with
 | false => exact Ev.bindS (a := 1) (by unfold Pxe.f; rw [hm]; rfl) (Ev.neg (by decide) (jt _ _ _))
 | true =>
  have hl : (ks.length : Int) ≠ n := h.resolve_left (by rw [hm]; simp)
  refine Ev.bindS (a := 0) (by unfold Pxe.f; rw [hm]; rfl) (Ev.pos rfl ?_)
  rw [show ((ks.length : Int) != n) = true by simpa using hl]
  exact jt _ _ _
theorem quotOf_true (n : Int) (ls : List ByteArray) (es : List Ed) (ks : List Int) (hw : ∀ x ∈ ks, (Lit.int .i64 x).wf = true) : Ev (fun k => Pl36a.f k n ls es ks) true := by
 have jt : ∀ N L E, Ev (fun k => Pl36a.j0 k ks true N L E) true := fun N L E => Ev.step (fun k => Pl36a.j0.eq_2 ..) (Ev.pos rfl (Ev.last aw36))
 have hL : Ev (fun k => Pl33a.f k n ls es) (light33 n ls es) := Ev.now _;refine Ev.bind hL ?_
 cases light33 n ls es with
 | false => exact Ev.neg (by simp) (jt _ _ _)
 | true =>
  refine Ev.pos rfl ?_;by_cases h30 : (ks.length : Int) > 30
  ·rw [decide_eq_true h30];exact jt _ _ _
  rw [decide_eq_false h30];have j1t : ∀ N L E, Ev (fun k => Pl36a.j1 k ks 1 true N L E 0 [] []) true := fun N L E => Ev.step (fun k => Pl36a.j1.eq_2 ..) (Ev.pos rfl (Ev.bind same0 (Ev.pos rfl (Ev.pos rfl (Ev.last aw36)))))
  cases hm : mayR n ls es with
  | false =>
   exact Ev.step (fun k => Pl36a.j0.eq_2 ..) (Ev.neg (by simp) (Ev.bind (quotOf_no (.inl hm)) (Ev.bindS (a := false) (by unfold Pr26b.f; rw [hm]) (Ev.neg (by simp) (j1t _ _ _)))))
  | true =>
   by_cases hl : (ks.length : Int) = n
   ·obtain ⟨m, rfl⟩ : ∃ m : Nat, (m : Int) = n := ⟨ks.length, hl⟩
    have hl' : ks.length = m := by omega
    have hiw : inW ks = true := by
     unfold inW;rw [Bool.and_eq_true, List.all_eq_true, decide_eq_true_eq];refine ⟨fun x hx => ?_, by omega⟩;have := wf_in (hw x hx);unfold i64in at this;simp only [Bool.and_eq_true, decide_eq_true_eq];exact this
    have hs := sortE_length (es.map (imE (numK ks)));rw [List.length_map] at hs;have hel := es_le hm;have hS := same26_refl ((fstK ks).length : Int) ls (sortE (es.map (imE (numK ks)))) (by have := (may_lab hm).1; omega) (by omega);refine Ev.step (fun k => Pl36a.j0.eq_2 ..) (Ev.neg (by simp) (Ev.bind (quotOf_ev hm hl' hiw) (Ev.bindS (a := true) (by unfold Pr26b.f; rw [hm]) (Ev.pos rfl ?_))));rw [show ((ks.length : Int) != (m : Int)) = false by simpa using hl];refine Ev.step (fun k => Pl36a.j1.eq_2 ..) (Ev.neg (by simp) (Ev.bindS (a := (((fstK ks).length : Int), ls, sortE (es.map (imE (numK ks))))) ?_ (Ev.bind hS (Ev.pos rfl (Ev.pos rfl (Ev.last aw36))))));unfold Pr36b.f;rw [if_pos ⟨hm, hl⟩]
   ·refine Ev.step (fun k => Pl36a.j0.eq_2 ..) (Ev.neg (by simp) (Ev.bind (quotOf_no (.inr hl)) (Ev.bindS (a := true) (by unfold Pr26b.f; rw [hm]) (Ev.pos rfl ?_))));rw [show ((ks.length : Int) != n) = true by simpa using hl];exact j1t _ _ _
end Go.Proofs.Ytmcbkmfpmcbdpaa.H
set_option linter.unusedVariables false
set_option linter.unusedSimpArgs false
namespace Go.Proofs.Ytmcbkmfpmcbdpaa.quotOf
open Go.ChangeShapes Go.WideShapes Go.ChangeAt Go.RowKit Go.Proofs.Ytmcbkmfpmcbdpaa.Pr Go.Proofs.YtmcbkmfpmcbdpaaW.PrintWords Go.Proofs.Ytmcbkmfpmcbdpaa.H
theorem own : ownKnob Try.prog.godebug = none := by kernel_rfl
set_option maxRecDepth 100000 in
theorem lifted (os : Os) (started : os.Started) (H : Type) (enc : TypeId × Value → H) :
  ReturnsInHanded {} Try.checked os 8 .any (Rows.quotOfSpec.pre6 enc Try.prog Try.f8 Rows.quotOfRow.domain false) (Rows.quotOfSpec.post enc Try.prog Try.f8 false true false false) := by
 refine returnsInHanded_of_change_sized (C := Try.checked) own started (by kernel_rfl) Try.func8
  (ChangeSpec.witness6 (enc := enc) (C := Try.checked) false ⟨#[], #[.agg #[.int .i64 0, .slice none 0 0, .slice none 0 0], .slice none 0 0], []⟩ 8 (by kernel_rfl) (by kernel_rfl) (by kernel_rfl) (by kernel_rfl)) ?_
 intro W base args ds gs before hval0 hW hcnd hsz0 _;have hval : ∀ (j : Nat) t v, Try.f8.params[j]? = some t → args[j]? = some v → Value.okWide Try.prog W .any base t v := hval0;have hW' := hW;obtain ⟨p, q, hA0, hV, rfl, hfz, hnd⟩ := hW;have hA : DataW.TrodAll enc Try.prog W 0 (fun _ => true) true Try.f8.params.toList args.toList ds p := hA0;rw [Try.params8] at hA hval;obtain ⟨v0, vs0, d0, ds0, p0, q0, hargs, rfl, rfl, h0, r0⟩ := trodAll_cons hA;obtain ⟨v1, vs1, d1, ds1, p1, q1, rfl, rfl, rfl, h1, r1⟩ := trodAll_cons r0;obtain ⟨rfl, rfl, rfl⟩ := trodAll_nil r1;obtain rfl : args = #[v0, v1] := by cases args; simp_all
 obtain ⟨rfl, rfl⟩ := trodVars_none hV;have k0 := h0;have lt0 : ∀ x ∈ p0, x.block < W.heap.size := by obtain ⟨m, hm⟩ := k0; exact DataW.trod_lt m _ _ _ hm
 obtain ⟨n0, ls0, es0, A0, B0, c0, e0, rfl, wf0, rl0, cl0, re0, ce0⟩ := open_lts2 (hval 0 25 v0 rfl rfl) h0;have k1 := h1;have lt1 : ∀ x ∈ p1, x.block < W.heap.size := by obtain ⟨m, hm⟩ := k1; exact DataW.trod_lt m _ _ _ hm
 obtain ⟨A1, x1, c1, rfl, rx1, cx1, wx1⟩ := open_ints (hval 1 28 v1 rfl rfl) h1;clear hA0 hval0 hsz0;obtain ⟨k, hk⟩ := (quotOf_true n0 ls0 es0 x1 wx1).rounds;refine (Pr.Pl36a.calls (k := k) (r := true) (w := W) (hr0_1 := rl0) (hc0_1 := cl0) (hr0_2 := re0) (hc0_2 := ce0) (hr1 := rx1) (hc1 := cx1) (h := hk) (hr_ := ⟨rfl⟩)).mono fun e W' ⟨he, bel⟩ => ?_
 subst he;exact ⟨_, rfl, _, _, _, [], _, [], hW', trodAll_mk1 (shut_bool Try.underlying4 _), (trodAll_cons_mk (Below.trod laid_out (by kernel_rfl) (of_decide_eq_true (by kernel_rfl)) k0 bel lt0) (trodAll_cons_mk (Below.trod laid_out (by kernel_rfl) (of_decide_eq_true (by kernel_rfl)) k1 bel lt1) trodAll_mk0)), rfl, bel.frame _, fun h => by cases h⟩
theorem over : Rows.quotOfRow.holds Try.pinned (OpenSpec.ofChange Rows.quotOfSpec) :=
 OpenClaim.holds_of_wide 8 Try.f8 rfl rfl rfl rfl rfl rfl rfl ⟨rfl, rfl, rfl, rfl, rfl⟩ rfl rfl rfl rfl rfl (by kernel_rfl) Try.func8 (by kernel_rfl)
  (of_decide_eq_true (by kernel_rfl)) (by unfold Func.isWrapper; first | (rw [if_pos (by decide +kernel)]; kernel_rfl) | (rw [if_neg (by decide +kernel)]; exact ⟨rfl, rfl⟩))
  (fun os started H enc _ => lifted os started H enc)
theorem proved : Rows.QuotOfSaid := over
#print axioms proved
end Go.Proofs.Ytmcbkmfpmcbdpaa.quotOf
namespace Go.Proofs.Ytmcbkmfpmcbdpaa
theorem quotOf_holds : Rows.QuotOfSaid := quotOf.proved
end Go.Proofs.Ytmcbkmfpmcbdpaa
