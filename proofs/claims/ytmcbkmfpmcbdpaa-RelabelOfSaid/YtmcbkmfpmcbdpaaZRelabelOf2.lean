/-
  Parts of the proof of RelabelOf (joined by wip/tools/bundle.py), part 2: plain words and walks of the functions that the law reaches.
-/
import Derived.Test.YtmcbkmfpmcbdpaaZRelabelOf1
namespace Go.Proofs.Ytmcbkmfpmcbdpaa.Pr
open Go.RowKit Go.Proofs.YtmcbkmfpmcbdpaaW.PrintWords Go.Proofs.YtmcbkmfpmcbdpaaW.PrintLast Go.Proofs.YtmcbkmfpmcbdpaaW.PrintMore
attribute [local go_sem] max2_int min2_int max_two min_two max_three min_three max_four min_four
set_option linter.unusedVariables false
set_option linter.unusedSimpArgs false
def Pxa.l0 : Nat → List ByteArray → ByteArray → Int → Int → Option (Int)
 | 0, _, _, _, _ => none
 | k + 1, x0, x1, x7, x8 => if x8 < x7 then (if 0 ≤ x8 then (if x8 < (x0.length : Int) then (if x1.toList = (rdOf ByteArray.empty x0 x8).toList then (some x8) else (Pxa.l0 k x0 x1 x7 (wrap64 (x8 + 1)))) else (none)) else (none)) else (some (-1))
def Pxa.f (k : Nat) (l0 : List ByteArray) (a1 : ByteArray) : Option (Int) := Pxa.l0 k l0 a1 (l0.length : Int) 0
theorem Pxa.mono_l : ∀ k, (∀ y0 y1 y2 y3, LeO (Pxa.l0 k y0 y1 y2 y3) (Pxa.l0 (k + 1) y0 y1 y2 y3))
 | 0 => fun _ _ _ _ r h => by simp [Pxa.l0] at h
 | k + 1 => by
  have ih0 := Pxa.mono_l k
  ·intro y0 y1 y2 y3
   unfold Pxa.l0
   repeat' first
   | (with_reducible exact ih0 _ _ _ _)
   | (with_reducible exact LeO.refl _)
   | (with_reducible exact LeO.none _)
   | (with_reducible refine LeO.ite ?_ ?_)
   | (with_reducible refine LeO.bind ?_ (fun _ => ?_))
   | exact ih0 _ _ _ _
   | exact LeO.none _
   | refine LeO.ite ?_ ?_
   | refine LeO.bind ?_ (fun _ => ?_)
theorem Pxa.mono : ∀ a0 a1 k, LeO (Pxa.f k a0 a1) (Pxa.f (k + 1) a0 a1) := by
 intro a0 a1 k
 have ih0 := Pxa.mono_l k
 unfold Pxa.f
 repeat' first
   | (with_reducible exact ih0 _ _ _ _)
   | (with_reducible exact LeO.refl _)
   | (with_reducible exact LeO.none _)
   | (with_reducible refine LeO.ite ?_ ?_)
   | (with_reducible refine LeO.bind ?_ (fun _ => ?_))
   | exact ih0 _ _ _ _
   | exact LeO.none _
   | refine LeO.ite ?_ ?_
   | refine LeO.bind ?_ (fun _ => ?_)
set_option maxHeartbeats 8000000 in
set_option maxRecDepth 100000 in
theorem Pxa.calls (k : Nat) (A0 : Option Addr) (c0 : Nat) (l0 : List ByteArray) (a1 : ByteArray) (r : Int) (w : World) (hr0 : Kd.C Kd.string w A0 l0.length l0) (hc0 : l0.length ≤ c0) (h : Pxa.f k l0 a1 = some r) :
  Calls Try.prog 130 #[.slice A0 l0.length c0, .string a1] w fun e w' => e = .returned (.int .i64 r) ∧ Drawn0 w w' := by
 have HR0 := Aside0.mk hr0;have HC0 := Aside0.mk hc0;clear hr0 hc0;have H : (Pxa.l0 k l0 a1 (l0.length : Int) 0) = some r := h;clear h;have H' := Aside0.mk H;clear H;go_enter Try.func130, Try.ntmps130
 go_wp2
 go_loopg [8] k (fun kq v8 w' => ∃ (x8_1 : Int), v8 = .int .i64 x8_1 ∧ Aside0 (Pxa.l0 kq l0 a1 (l0.length : Int) x8_1 = some r) ∧ Aside0 (kq ≤ k) ∧ Drawn0 w w')
 case atStart => exact ⟨(0), (by first | rfl | (simp; done) | (simp [*]; done)), H', ⟨Nat.le_refl _⟩, by repeat (first | exact Drawn0.refl _ | apply Drawn0.step)⟩
 case round =>
  clear H';obtain ⟨x8_1, rfl, HA, HK1, ⟨m1, rfl⟩⟩ := hrel
  cases gk with
  | zero => exact absurd HA.out (by simp [Pxa.l0])
  | succ k1 =>
   have H := HA.out;clear HA;simp only [Pxa.l0] at H;by_cases c3 : x8_1 < (l0.length : Int)
   ·rw [if_pos c3] at H;have c3b0 : decide (x8_1 < (l0.length : Int)) = true := decide_eq_true c3;clear c3;by_cases c4 : 0 ≤ x8_1
    ·rw [if_pos c4] at H;have c4b0 : decide (0 ≤ x8_1) = true := decide_eq_true c4;clear c4;by_cases c5 : x8_1 < (l0.length : Int)
     ·rw [if_pos c5] at H;have c5b0 : decide (x8_1 < (l0.length : Int)) = true := decide_eq_true c5;clear c5;by_cases c6 : a1.toList = (rdOf ByteArray.empty l0 x8_1).toList
      ·rw [if_pos c6] at H;have c6b0 : (a1.toList == (rdOf ByteArray.empty l0 x8_1).toList) = true := beq_iff_eq.mpr c6;have c6b1 : (a1.toList != (rdOf ByteArray.empty l0 x8_1).toList) = false := bne_eq_false_iff_eq.mpr c6;clear c6;obtain rfl := Option.some.inj H;have p101 : 0 ≤ (x8_1 : Int) := of_decide_eq_true (by first | (with_reducible assumption) | assumption);have q101 : x8_1 < (l0.length : Int) := of_decide_eq_true (by first | (with_reducible assumption) | assumption);obtain ⟨ad101, e101, hx101_0⟩ := Kd.at_string HR0.out x8_1 p101 q101
       cases e101;replace p101 := eq_true p101;replace q101 := eq_true q101;go_wp2
       go_ret
       exact ⟨by first | rfl | (simp; done) | (simp [*]; done), by repeat (first | exact Drawn0.refl _ | apply Drawn0.step)⟩
      ·rw [if_neg c6] at H;have c6b0 : (a1.toList == (rdOf ByteArray.empty l0 x8_1).toList) = false := beq_eq_false_iff_ne.mpr c6;have c6b1 : (a1.toList != (rdOf ByteArray.empty l0 x8_1).toList) = true := bne_iff_ne.mpr c6;have H' := Aside0.mk H;clear H;have p101 : 0 ≤ (x8_1 : Int) := of_decide_eq_true (by first | (with_reducible assumption) | assumption);have q101 : x8_1 < (l0.length : Int) := of_decide_eq_true (by first | (with_reducible assumption) | assumption);obtain ⟨ad101, e101, hx101_0⟩ := Kd.at_string HR0.out x8_1 p101 q101
       cases e101;replace p101 := eq_true p101;replace q101 := eq_true q101;go_wp2
       go_roundg k1
       case measure => have := HK1.out; omega
       case rel => exact ⟨(wrap64 (x8_1 + 1)), (by first | rfl | (simp; done) | (simp [*]; done)), H', ⟨by have := HK1.out; omega⟩, by repeat (first | exact Drawn0.refl _ | apply Drawn0.step)⟩
     ·rw [if_neg c5] at H;exact absurd H (by simp)
    ·rw [if_neg c4] at H;exact absurd H (by simp)
   ·rw [if_neg c3] at H;have c3b0 : decide (x8_1 < (l0.length : Int)) = false := decide_eq_false c3;clear c3;obtain rfl := Option.some.inj H;go_wp2
    go_ret
    exact ⟨by first | rfl | (simp; done) | (simp [*]; done), by repeat (first | exact Drawn0.refl _ | apply Drawn0.step)⟩
def Pxg.f (k : Nat) (l0 : List ByteArray) (a1 : ByteArray) : Option (Int) := (Pxa.f k l0 a1).bind fun t102 => (some t102)
theorem Pxg.mono : ∀ a0 a1 k, LeO (Pxg.f k a0 a1) (Pxg.f (k + 1) a0 a1) := by
 intro a0 a1 k
 unfold Pxg.f
 repeat' first
   | (with_reducible exact Pxa.mono _ _ _)
   | (with_reducible exact LeO.refl _)
   | (with_reducible exact LeO.none _)
   | (with_reducible refine LeO.ite ?_ ?_)
   | (with_reducible refine LeO.bind ?_ (fun _ => ?_))
   | exact Pxa.mono _ _ _
   | exact LeO.none _
   | refine LeO.ite ?_ ?_
   | refine LeO.bind ?_ (fun _ => ?_)
set_option maxHeartbeats 8000000 in
set_option maxRecDepth 100000 in
theorem Pxg.calls (k : Nat) (A0 : Option Addr) (c0 : Nat) (l0 : List ByteArray) (a1 : ByteArray) (r : Int) (w : World) (hr0 : Kd.C Kd.string w A0 l0.length l0) (hc0 : l0.length ≤ c0) (h : Pxg.f k l0 a1 = some r) :
  Calls Try.prog 97 #[.slice A0 l0.length c0, .string a1] w fun e w' => e = .returned (.int .i64 r) ∧ Drawn0 w w' := by
 have HR0 := Aside0.mk hr0;have HC0 := Aside0.mk hc0;clear hr0 hc0;have H : ((Pxa.f k l0 a1).bind fun t102 => (some t102)) = some r := h;clear h;replace H := Option.bind_eq_some_iff.mp H;obtain ⟨t102, A30, H⟩ := H;replace H : (some t102) = some r := H;have A3 := Aside0.mk A30;clear A30;obtain rfl := Option.some.inj H;go_enter Try.func97, Try.ntmps97
 go_wp2_with (first | ((with_reducible refine gate_callee (f := 130) rfl ?_); refine goesL_ (some 7) rfl rfl Try.func130 (by kernel_rfl) rfl #[.slice A0 l0.length c0, .string a1] rfl (by (try simp only [List.map_toArray, List.map_cons, List.map_nil]); first | done | rfl | (simp only [List.length_drop, List.length_take]; rfl)) ?_; (with_reducible refine (Pxa.calls k _ _ l0 a1 t102 _ ?side1 ?side2 A3.out).mono ?_); (case side1 => repeat (first | exact HR0.out | (with_reducible refine Kd.C_alloc ?_ _) | (with_reducible refine Kd.C_drewN ?_ _) | (with_reducible refine Kd.C_drew ?_))); (case side2 => exact HC0.out); rintro e w' ⟨rfl, ⟨nd, rfl⟩⟩; refine ⟨_, rfl, ?_⟩))
 go_ret
 exact ⟨by first | rfl | (simp; done) | (simp [*]; done), by repeat (first | exact Drawn0.refl _ | apply Drawn0.step)⟩
def Pr02b.l0 : Nat → List ByteArray → ByteArray → Int → Option (Int)
 | 0, _, _, _ => none
 | k + 1, x0, x1, x5 => if x5 < (x0.length : Int) then (if 0 ≤ x5 then (if (rdOf ByteArray.empty x0 x5).toList = x1.toList then (some x5) else (Pr02b.l0 k x0 x1 (wrap64 (x5 + 1)))) else (none)) else (some (-1))
def Pr02b.f (k : Nat) (l0 : List ByteArray) (a1 : ByteArray) : Option (Int) := Pr02b.l0 k l0 a1 0
theorem Pr02b.mono_l : ∀ k, (∀ y0 y1 y2, LeO (Pr02b.l0 k y0 y1 y2) (Pr02b.l0 (k + 1) y0 y1 y2))
 | 0 => fun _ _ _ r h => by simp [Pr02b.l0] at h
 | k + 1 => by
  have ih0 := Pr02b.mono_l k
  ·intro y0 y1 y2
   unfold Pr02b.l0
   repeat' first
   | (with_reducible exact ih0 _ _ _)
   | (with_reducible exact LeO.refl _)
   | (with_reducible exact LeO.none _)
   | (with_reducible refine LeO.ite ?_ ?_)
   | (with_reducible refine LeO.bind ?_ (fun _ => ?_))
   | exact ih0 _ _ _
   | exact LeO.none _
   | refine LeO.ite ?_ ?_
   | refine LeO.bind ?_ (fun _ => ?_)
theorem Pr02b.mono : ∀ a0 a1 k, LeO (Pr02b.f k a0 a1) (Pr02b.f (k + 1) a0 a1) := by
 intro a0 a1 k
 have ih0 := Pr02b.mono_l k
 unfold Pr02b.f
 repeat' first
   | (with_reducible exact ih0 _ _ _)
   | (with_reducible exact LeO.refl _)
   | (with_reducible exact LeO.none _)
   | (with_reducible refine LeO.ite ?_ ?_)
   | (with_reducible refine LeO.bind ?_ (fun _ => ?_))
   | exact ih0 _ _ _
   | exact LeO.none _
   | refine LeO.ite ?_ ?_
   | refine LeO.bind ?_ (fun _ => ?_)
set_option maxHeartbeats 8000000 in
set_option maxRecDepth 100000 in
theorem Pr02b.calls (k : Nat) (A0 : Option Addr) (c0 : Nat) (l0 : List ByteArray) (a1 : ByteArray) (r : Int) (w : World) (hr0 : Kd.C Kd.string w A0 l0.length l0) (hc0 : l0.length ≤ c0) (h : Pr02b.f k l0 a1 = some r) :
  Calls Try.prog 99 #[.slice A0 l0.length c0, .string a1] w fun e w' => e = .returned (.int .i64 r) ∧ Drawn0 w w' := by
 have HR0 := Aside0.mk hr0;have HC0 := Aside0.mk hc0;clear hr0 hc0;have H : (Pr02b.l0 k l0 a1 0) = some r := h;clear h;have H' := Aside0.mk H;clear H;go_enter Try.func99, Try.ntmps99
 go_wp2
 go_loopg [5] k (fun kq v5 w' => ∃ (x5_1 : Int), v5 = .int .i64 x5_1 ∧ Aside0 (Pr02b.l0 kq l0 a1 x5_1 = some r) ∧ Aside0 (kq ≤ k) ∧ Drawn0 w w')
 case atStart => exact ⟨(0), (by first | rfl | (simp; done) | (simp [*]; done)), H', ⟨Nat.le_refl _⟩, by repeat (first | exact Drawn0.refl _ | apply Drawn0.step)⟩
 case round =>
  clear H';obtain ⟨x5_1, rfl, HA, HK1, ⟨m1, rfl⟩⟩ := hrel
  cases gk with
  | zero => exact absurd HA.out (by simp [Pr02b.l0])
  | succ k1 =>
   have H := HA.out;clear HA;simp only [Pr02b.l0] at H;by_cases c3 : x5_1 < (l0.length : Int)
   ·rw [if_pos c3] at H;have c3b0 : decide (x5_1 < (l0.length : Int)) = true := decide_eq_true c3;clear c3;by_cases c4 : 0 ≤ x5_1
    ·rw [if_pos c4] at H;have c4b0 : decide (0 ≤ x5_1) = true := decide_eq_true c4;clear c4;by_cases c5 : (rdOf ByteArray.empty l0 x5_1).toList = a1.toList
     ·rw [if_pos c5] at H;have c5b0 : ((rdOf ByteArray.empty l0 x5_1).toList == a1.toList) = true := beq_iff_eq.mpr c5;have c5b1 : ((rdOf ByteArray.empty l0 x5_1).toList != a1.toList) = false := bne_eq_false_iff_eq.mpr c5;clear c5;obtain rfl := Option.some.inj H;have p103 : 0 ≤ (x5_1 : Int) := of_decide_eq_true (by first | (with_reducible assumption) | assumption);have q103 : x5_1 < (l0.length : Int) := of_decide_eq_true (by first | (with_reducible assumption) | assumption);obtain ⟨ad103, e103, hx103_0⟩ := Kd.at_string HR0.out x5_1 p103 q103
      cases e103;replace p103 := eq_true p103;replace q103 := eq_true q103;go_wp2
      go_ret
      exact ⟨by first | rfl | (simp; done) | (simp [*]; done), by repeat (first | exact Drawn0.refl _ | apply Drawn0.step)⟩
     ·rw [if_neg c5] at H;have c5b0 : ((rdOf ByteArray.empty l0 x5_1).toList == a1.toList) = false := beq_eq_false_iff_ne.mpr c5;have c5b1 : ((rdOf ByteArray.empty l0 x5_1).toList != a1.toList) = true := bne_iff_ne.mpr c5;have H' := Aside0.mk H;clear H;have p103 : 0 ≤ (x5_1 : Int) := of_decide_eq_true (by first | (with_reducible assumption) | assumption);have q103 : x5_1 < (l0.length : Int) := of_decide_eq_true (by first | (with_reducible assumption) | assumption);obtain ⟨ad103, e103, hx103_0⟩ := Kd.at_string HR0.out x5_1 p103 q103
      cases e103;replace p103 := eq_true p103;replace q103 := eq_true q103;go_wp2
      go_roundg k1
      case measure => have := HK1.out; omega
      case rel => exact ⟨(wrap64 (x5_1 + 1)), (by first | rfl | (simp; done) | (simp [*]; done)), H', ⟨by have := HK1.out; omega⟩, by repeat (first | exact Drawn0.refl _ | apply Drawn0.step)⟩
    ·rw [if_neg c4] at H;exact absurd H (by simp)
   ·rw [if_neg c3] at H;have c3b0 : decide (x5_1 < (l0.length : Int)) = false := decide_eq_false c3;clear c3;obtain rfl := Option.some.inj H;go_wp2
    go_ret
    exact ⟨by first | rfl | (simp; done) | (simp [*]; done), by repeat (first | exact Drawn0.refl _ | apply Drawn0.step)⟩
mutual
def Pr02a.l0 : Nat → List ByteArray → List ByteArray → List ByteArray → Int → Option (List ByteArray)
 | 0, _, _, _, _ => none
 | k + 1, x0, x1, x5, x6 => if x6 < (wrap64 ((x0.length : Int) + (x1.length : Int))) then (if x6 < (x0.length : Int) then (if 0 ≤ x6 then (Pr02a.j1 k x0 x1 x5 x6 (rdOf ByteArray.empty x0 x6)) else (none)) else (if 0 ≤ (wrap64 (x6 - (x0.length : Int))) then (if (wrap64 (x6 - (x0.length : Int))) < (x1.length : Int) then (Pr02a.j1 k x0 x1 x5 x6 (rdOf ByteArray.empty x1 (wrap64 (x6 - (x0.length : Int))))) else (none)) else (none))) else (some x5)
def Pr02a.j1 : Nat → List ByteArray → List ByteArray → List ByteArray → Int → ByteArray → Option (List ByteArray)
 | 0, _, _, _, _, _ => none
 | k + 1, x0, x1, x5, x6, x7 => (Pr02b.f k x5 x7).bind fun t109 => (if t109 ≥ 0 then (Pr02a.l0 k x0 x1 x5 (wrap64 (x6 + 1))) else (Pr02a.l1 k x0 x1 x5 x6 x7 0))
def Pr02a.l1 : Nat → List ByteArray → List ByteArray → List ByteArray → Int → ByteArray → Int → Option (List ByteArray)
 | 0, _, _, _, _, _, _ => none
 | k + 1, x0, x1, x5, x6, x7, x8 => if x8 < (x5.length : Int) then (if 0 ≤ x8 then (if (Op.bytesLess ((rdOf ByteArray.empty x5 x8).toList) x7.toList) = true then (Pr02a.l1 k x0 x1 x5 x6 x7 (wrap64 (x8 + 1))) else ((some (([] : List ByteArray) : List ByteArray)).bind fun y111 => (if x8 ≤ (x5.length : Int) then ((some (x5.drop (x8 : Int).toNat : List ByteArray)).bind fun y114 => (if y111.length + y114.length < 8796093022208 then ((some (y111 ++ y114 : List ByteArray)).bind fun y118 => ((some (([] : List ByteArray) : List ByteArray)).bind fun y121 => ((some (x5.take (x8 : Int).toNat : List ByteArray)).bind fun y124 => (if y121.length + y124.length < 8796093022208 then ((some (y121 ++ y124 : List ByteArray)).bind fun y128 => (if y128.length < 8796093022208 then ((some (y128 ++ [x7] : List ByteArray)).bind fun y131 => (if y131.length + y118.length < 8796093022208 then (Pr02a.l0 k x0 x1 (y131 ++ y118) (wrap64 (x6 + 1))) else (none))) else (none))) else (none))))) else (none))) else (none)))) else (none)) else ((some (([] : List ByteArray) : List ByteArray)).bind fun y137 => (if 0 ≤ x8 then (if x8 ≤ (x5.length : Int) then ((some (x5.drop (x8 : Int).toNat : List ByteArray)).bind fun y140 => (if y137.length + y140.length < 8796093022208 then ((some (y137 ++ y140 : List ByteArray)).bind fun y144 => ((some (([] : List ByteArray) : List ByteArray)).bind fun y147 => ((some (x5.take (x8 : Int).toNat : List ByteArray)).bind fun y150 => (if y147.length + y150.length < 8796093022208 then ((some (y147 ++ y150 : List ByteArray)).bind fun y154 => (if y154.length < 8796093022208 then ((some (y154 ++ [x7] : List ByteArray)).bind fun y157 => (if y157.length + y144.length < 8796093022208 then (Pr02a.l0 k x0 x1 (y157 ++ y144) (wrap64 (x6 + 1))) else (none))) else (none))) else (none))))) else (none))) else (none)) else (none)))
end
def Pr02a.f (k : Nat) (l0 : List ByteArray) (l1 : List ByteArray) : Option (List ByteArray) := Pr02a.l0 k l0 l1 (([] : List ByteArray)) 0
theorem Pr02a.mono_l : ∀ k, (∀ y0 y1 y2 y3, LeO (Pr02a.l0 k y0 y1 y2 y3) (Pr02a.l0 (k + 1) y0 y1 y2 y3)) ∧ (∀ y0 y1 y2 y3 y4, LeO (Pr02a.j1 k y0 y1 y2 y3 y4) (Pr02a.j1 (k + 1) y0 y1 y2 y3 y4)) ∧ (∀ y0 y1 y2 y3 y4 y5, LeO (Pr02a.l1 k y0 y1 y2 y3 y4 y5) (Pr02a.l1 (k + 1) y0 y1 y2 y3 y4 y5))
 | 0 => ⟨fun _ _ _ _ r h => by simp [Pr02a.l0] at h, fun _ _ _ _ _ r h => by simp [Pr02a.j1] at h, fun _ _ _ _ _ _ r h => by simp [Pr02a.l1] at h⟩
 | k + 1 => by
  obtain ⟨ih0, ih1, ih2⟩ := Pr02a.mono_l k
  refine ⟨?_, ?_, ?_⟩
  ·intro y0 y1 y2 y3
   unfold Pr02a.l0
   repeat' first
   | (with_reducible exact ih0 _ _ _ _)
   | (with_reducible exact ih1 _ _ _ _ _)
   | (with_reducible exact ih2 _ _ _ _ _ _)
   | (with_reducible exact Pr02b.mono _ _ _)
   | (with_reducible exact LeO.refl _)
   | (with_reducible exact LeO.none _)
   | (with_reducible refine LeO.ite ?_ ?_)
   | (with_reducible refine LeO.bind ?_ (fun _ => ?_))
   | exact ih0 _ _ _ _
   | exact ih1 _ _ _ _ _
   | exact ih2 _ _ _ _ _ _
   | exact Pr02b.mono _ _ _
   | exact LeO.none _
   | refine LeO.ite ?_ ?_
   | refine LeO.bind ?_ (fun _ => ?_)
  ·intro y0 y1 y2 y3 y4
   unfold Pr02a.j1
   repeat' first
   | (with_reducible exact ih0 _ _ _ _)
   | (with_reducible exact ih1 _ _ _ _ _)
   | (with_reducible exact ih2 _ _ _ _ _ _)
   | (with_reducible exact Pr02b.mono _ _ _)
   | (with_reducible exact LeO.refl _)
   | (with_reducible exact LeO.none _)
   | (with_reducible refine LeO.ite ?_ ?_)
   | (with_reducible refine LeO.bind ?_ (fun _ => ?_))
   | exact ih0 _ _ _ _
   | exact ih1 _ _ _ _ _
   | exact ih2 _ _ _ _ _ _
   | exact Pr02b.mono _ _ _
   | exact LeO.none _
   | refine LeO.ite ?_ ?_
   | refine LeO.bind ?_ (fun _ => ?_)
  ·intro y0 y1 y2 y3 y4 y5
   unfold Pr02a.l1
   repeat' first
   | (with_reducible exact ih0 _ _ _ _)
   | (with_reducible exact ih1 _ _ _ _ _)
   | (with_reducible exact ih2 _ _ _ _ _ _)
   | (with_reducible exact Pr02b.mono _ _ _)
   | (with_reducible exact LeO.refl _)
   | (with_reducible exact LeO.none _)
   | (with_reducible refine LeO.ite ?_ ?_)
   | (with_reducible refine LeO.bind ?_ (fun _ => ?_))
   | exact ih0 _ _ _ _
   | exact ih1 _ _ _ _ _
   | exact ih2 _ _ _ _ _ _
   | exact Pr02b.mono _ _ _
   | exact LeO.none _
   | refine LeO.ite ?_ ?_
   | refine LeO.bind ?_ (fun _ => ?_)
theorem Pr02a.mono : ∀ a0 a1 k, LeO (Pr02a.f k a0 a1) (Pr02a.f (k + 1) a0 a1) := by
 intro a0 a1 k
 obtain ⟨ih0, ih1, ih2⟩ := Pr02a.mono_l k
 unfold Pr02a.f
 repeat' first
   | (with_reducible exact ih0 _ _ _ _)
   | (with_reducible exact ih1 _ _ _ _ _)
   | (with_reducible exact ih2 _ _ _ _ _ _)
   | (with_reducible exact Pr02b.mono _ _ _)
   | (with_reducible exact LeO.refl _)
   | (with_reducible exact LeO.none _)
   | (with_reducible refine LeO.ite ?_ ?_)
   | (with_reducible refine LeO.bind ?_ (fun _ => ?_))
   | exact ih0 _ _ _ _
   | exact ih1 _ _ _ _ _
   | exact ih2 _ _ _ _ _ _
   | exact Pr02b.mono _ _ _
   | exact LeO.none _
   | refine LeO.ite ?_ ?_
   | refine LeO.bind ?_ (fun _ => ?_)
set_option maxHeartbeats 8000000 in
set_option maxRecDepth 100000 in
theorem Pr02a.calls (k : Nat) (A0 : Option Addr) (c0 : Nat) (l0 : List ByteArray) (A1 : Option Addr) (c1 : Nat) (l1 : List ByteArray) (r : List ByteArray) (w : World) (hr0 : Kd.C Kd.string w A0 l0.length l0) (hc0 : l0.length ≤ c0) (hr1 : Kd.C Kd.string w A1 l1.length l1) (hc1 : l1.length ≤ c1) (h : Pr02a.f k l0 l1 = some r) :
  Calls Try.prog 101 #[.slice A0 l0.length c0, .slice A1 l1.length c1] w fun e w' => ∃ v0_ : Value, e = .returned (v0_) ∧ Kd.R Kd.string 9 w' w.heap.size (fun _ => True) v0_ r ∧ Below w.heap.size w w' := by
 have x5 := Aside0.mk hr0;have z8 := Aside0.mk hc0;clear hr0 hc0;have x6 := Aside0.mk hr1;have z9 := Aside0.mk hc1;clear hr1 hc1;have HB := Aside0.mk (Below.refl w.heap.size w);have H : (Pr02a.l0 k l0 l1 (([] : List ByteArray)) 0) = some r := h;clear h;obtain ⟨r3, f9⟩ : ∃ y_ : List ByteArray, y_ = (([] : List ByteArray)) := ⟨_, rfl⟩
 replace H : (Pr02a.l0 k l0 l1 r3 0) = some r := by first | (rw [f9]; with_reducible exact H) | (have a3 := (Option.bind_some _ _).symm.trans H; rw [f9]; with_reducible exact a3) | (have a3 := (Option.bind_some _ _).symm.trans H; with_reducible exact a3) | with_reducible exact H | (rw [f9]; exact H) | exact H
 have n8 := Aside0.mk f9;clear f9;have H' := Aside0.mk H;clear H;go_enter Try.func101, Try.ntmps101
 go_wp2_with (first | ((with_reducible refine gate_dst (N := 10) rfl ?_); refine Kd.R_lit Kd.string _ 9 ?hg (N := 10) ?hd (xs := ([] : List ByteArray)) (inner := []) (ok := fun _ => True) (okp := fun _ => True) ?hr ?hp (fun _ hk => hk) trivial (Below.refl _ _) (Nat.le_refl _) (by simp) ?_; (case hd => rfl); (case hg => rfl); (case hr => first | (go_simp; done) | (go_simp; rfl)); (case hp => exact (Reps.none _ _)); intro z5 w3 m0 hb hg_ hnew_; clear hg_ hnew_; (first | rw [← n8.out] at m0 | (simp only [Int.reduceToNat] at m0; rw [← n8.out] at m0)); have a7 := Aside0.mk (Kd.R_lower m0 (below_size (by repeat (first | (with_reducible first | exact HB.out | apply below_alloc | apply pw_below_drewN | apply below_drew1) | exact HB.out)))); have a8 := Aside0.mk (below_step (by repeat (first | (with_reducible first | exact HB.out | apply below_alloc | apply pw_below_drewN | apply below_drew1) | exact HB.out)) hb); clear HB; have r6 := a7; have HB := a8; clear a7 a8 hb m0))
 go_loopg [5, 6] k (fun kq v5 v6 w' => ∃ (a2 : List ByteArray) (a4 : Int), v6 = .int .i64 a4 ∧ Aside0 (Pr02a.l0 kq l0 l1 a2 a4 = some r) ∧ Aside0 (kq ≤ k) ∧ Aside0 (Kd.R Kd.string 9 w' w.heap.size (fun _ => True) v5 a2) ∧ Aside0 (Below w.heap.size w w'))
 case atStart => exact ⟨(r3), (0), (by first | rfl | (simp; done) | (simp [*]; done)), H', ⟨Nat.le_refl _⟩, ⟨by (with_reducible repeat (first | apply Kd.R_alloc | apply Kd.R_drewN | apply Kd.R_drew)); exact r6.out⟩, ⟨by repeat (first | (with_reducible first | exact HB.out | apply below_alloc | apply pw_below_drewN | apply below_drew1) | exact HB.out)⟩⟩
 case round =>
  clear H';(try clear c1);obtain ⟨a2, a4, rfl, HA, f0, a0, HB⟩ := hrel
  cases gk with
  | zero => exact absurd HA.out (by simp [Pr02a.l0])
  | succ k1 =>
   have H := HA.out;clear HA;simp only [Pr02a.l0] at H;by_cases c5 : a4 < (wrap64 ((l0.length : Int) + (l1.length : Int)))
   ·rw [if_pos c5] at H;have c5b0 : decide (a4 < (wrap64 ((l0.length : Int) + (l1.length : Int)))) = true := decide_eq_true c5;clear c5;have q0 := Aside0.mk H;clear H;go_upto_if 23 with (fail)
    go_cut [7] (fun v7 wc => ∃ (kq : Nat) (a6 : ByteArray), v7 = .string a6 ∧ Aside0 (Pr02a.j1 kq l0 l1 a2 a4 a6 = some r) ∧ Aside0 (kq ≤ k1) ∧ Aside0 (Kd.R Kd.string 9 wc w.heap.size (fun _ => True) u5 a2) ∧ Aside0 (Below w.heap.size w wc))
    case first =>
     have H := q0.out;clear q0;by_cases c7 : a4 < (l0.length : Int)
     ·rw [if_pos c7] at H;have c7b0 : decide (a4 < (l0.length : Int)) = true := decide_eq_true c7;clear c7
      (first | rw [c7b0] | (simp only [i64_w, i32_w]; rw [c7b0]) | skip)
      by_cases c8 : 0 ≤ a4
      ·rw [if_pos c8] at H;have c8b0 : decide (0 ≤ a4) = true := decide_eq_true c8;clear c8;have H' := Aside0.mk H;clear H;have j3 : 0 ≤ (a4 : Int) := of_decide_eq_true (by first | (with_reducible assumption) | assumption);have j5 : a4 < (l0.length : Int) := of_decide_eq_true (by first | (with_reducible assumption) | assumption);obtain ⟨y5, v2, e5⟩ := Kd.at_string x5.out a4 j3 j5
       cases v2;replace e5 := (HB.out.cell (World.block_lt_of_cell? w _ e5)).trans e5;replace j3 := eq_true j3;replace j5 := eq_true j5;go_wp2
       go_meet
       case rel => exact ⟨_, (rdOf ByteArray.empty l0 a4), (by first | rfl | (simp; done) | (simp [*]; done)), H', ⟨by have := f0.out; first | omega | exact Nat.le_refl _⟩, ⟨by (with_reducible repeat (first | apply Kd.R_alloc | apply Kd.R_drewN | apply Kd.R_drew)); exact a0.out⟩, ⟨by repeat (first | (with_reducible first | exact HB.out | apply below_alloc | apply pw_below_drewN | apply below_drew1) | exact HB.out)⟩⟩
      ·rw [if_neg c8] at H;exact absurd H (by simp)
     ·rw [if_neg c7] at H;have c7b0 : decide (a4 < (l0.length : Int)) = false := decide_eq_false c7;clear c7
      (first | rw [c7b0] | (simp only [i64_w, i32_w]; rw [c7b0]) | skip)
      obtain ⟨e7, i8⟩ : ∃ j_ : Int, (wrap64 (a4 - (l0.length : Int))) = j_ := ⟨_, rfl⟩
      replace H : (if 0 ≤ (e7) then (if (e7) < (l1.length : Int) then (Pr02a.j1 k1 l0 l1 a2 a4 (rdOf ByteArray.empty l1 (e7))) else (none)) else (none)) = some r := by first | (rw [i8] at H; exact H) | (simp only [i8] at H ⊢; exact H)
      have hji9w : (IntKind.i64.wrap (a4 - (l0.length : Int))) = e7 := (i64_w _).trans i8;by_cases c10 : 0 ≤ (e7)
      ·rw [if_pos c10] at H;have c10b0 : decide (0 ≤ (e7)) = true := decide_eq_true c10;clear c10;by_cases j8 : (e7) < (l1.length : Int)
       ·rw [if_pos j8] at H;have c11b0 : decide ((e7) < (l1.length : Int)) = true := decide_eq_true j8;clear j8;have H' := Aside0.mk H;clear H;have j4 : 0 ≤ ((e7) : Int) := of_decide_eq_true (by first | (with_reducible assumption) | assumption);have j6 : (e7) < (l1.length : Int) := of_decide_eq_true (by first | (with_reducible assumption) | assumption);obtain ⟨y6, v3, e6⟩ := Kd.at_string x6.out (e7) j4 j6
        cases v3;replace e6 := (HB.out.cell (World.block_lt_of_cell? w _ e6)).trans e6;replace j4 := eq_true j4;replace j6 := eq_true j6;go_wp2
        go_meet
        case rel => exact ⟨_, (rdOf ByteArray.empty l1 (e7)), (by first | rfl | (simp; done) | (simp only [← i8] <;> (first | rfl | simp)) | (simp [*]; done)), H', ⟨by have := f0.out; first | omega | exact Nat.le_refl _⟩, ⟨by (with_reducible repeat (first | apply Kd.R_alloc | apply Kd.R_drewN | apply Kd.R_drew)); exact a0.out⟩, ⟨by repeat (first | (with_reducible first | exact HB.out | apply below_alloc | apply pw_below_drewN | apply below_drew1) | exact HB.out)⟩⟩
       ·rw [if_neg j8] at H;exact absurd H (by simp)
      ·rw [if_neg c10] at H;exact absurd H (by simp)
    case rest =>
     clear q0;(try clear c1);(try clear c5);(try clear c5b0);(try clear c7);(try clear c7b0);(try clear c8);(try clear c8b0);(try clear c10);(try clear c10b0);(try clear j8);(try clear c11b0);(try clear e5);(try clear e6);(try clear j3);(try clear j4);(try clear j5);(try clear j6);obtain ⟨kq, a6, rfl, HA, i1, a0, HB⟩ := hcut
     cases kq with
     | zero => exact absurd HA.out (by simp [Pr02a.j1])
     | succ kj5 =>
      have H := HA.out;clear HA;simp only [Pr02a.j1] at H;replace H := Option.bind_eq_some_iff.mp H;obtain ⟨i0, p9, H⟩ := H;replace H : (if i0 ≥ 0 then (Pr02a.l0 kj5 l0 l1 a2 (wrap64 (a4 + 1))) else (Pr02a.l1 kj5 l0 l1 a2 a4 a6 0)) = some r := H;have u2 := Aside0.mk p9;clear p9;by_cases i4 : i0 ≥ 0
      ·rw [if_pos i4] at H;have c13b0 : decide (0 ≤ i0) = true := decide_eq_true i4;clear i4;have H' := Aside0.mk H;clear H;obtain ⟨v0, v1, v4⟩ := Kd.R_slice a0.out;subst v4;go_wp2_with (first | ((with_reducible refine gate_callee (f := 99) rfl ?_); refine goesL_ (some 37) rfl rfl Try.func99 (by kernel_rfl) rfl #[.slice v0 a2.length v1, .string a6] rfl (by (try simp only [List.map_toArray, List.map_cons, List.map_nil]); first | done | rfl | (simp only [List.length_drop, List.length_take]; rfl)) ?_; (with_reducible refine (Pr02b.calls kj5 _ _ a2 a6 i0 _ ?u0 ?u1 u2.out).mono ?_); (case u0 => repeat (first | exact (Kd.R_reads' a0.out).2.2 | (with_reducible refine Kd.C_alloc ?_ _) | (with_reducible refine Kd.C_drewN ?_ _) | (with_reducible refine Kd.C_drew ?_))); (case u1 => exact (Kd.R_reads' a0.out).2.1); rintro e w' ⟨rfl, ⟨nd, rfl⟩⟩; refine ⟨_, rfl, ?_⟩))
       go_roundg kj5
       case measure => have := f0.out; have := i1.out; omega
       case rel => exact ⟨(a2), (wrap64 (a4 + 1)), (by first | rfl | (simp; done) | (simp [*]; done)), H', ⟨by have := f0.out; have := i1.out; omega⟩, ⟨by (with_reducible repeat (first | apply Kd.R_alloc | apply Kd.R_drewN | apply Kd.R_drew)); exact a0.out⟩, ⟨by repeat (first | (with_reducible first | exact HB.out | apply below_alloc | apply pw_below_drewN | apply below_drew1) | exact HB.out)⟩⟩
      ·rw [if_neg i4] at H;have c13b0 : decide (0 ≤ i0) = false := decide_eq_false i4;clear i4;have H' := Aside0.mk H;clear H;obtain ⟨d4, a5, v9⟩ := Kd.R_slice a0.out;subst v9;go_wp2_with (first | ((with_reducible refine gate_callee (f := 99) rfl ?_); refine goesL_ (some 37) rfl rfl Try.func99 (by kernel_rfl) rfl #[.slice d4 a2.length a5, .string a6] rfl (by (try simp only [List.map_toArray, List.map_cons, List.map_nil]); first | done | rfl | (simp only [List.length_drop, List.length_take]; rfl)) ?_; (with_reducible refine (Pr02b.calls kj5 _ _ a2 a6 i0 _ ?u0 ?u1 u2.out).mono ?_); (case u0 => repeat (first | exact (Kd.R_reads' a0.out).2.2 | (with_reducible refine Kd.C_alloc ?_ _) | (with_reducible refine Kd.C_drewN ?_ _) | (with_reducible refine Kd.C_drew ?_))); (case u1 => exact (Kd.R_reads' a0.out).2.1); rintro e w' ⟨rfl, ⟨nd, rfl⟩⟩; refine ⟨_, rfl, ?_⟩))
       go_loopg [8] kj5 (fun kq v8 w' => ∃ (a1 : Int), v8 = .int .i64 a1 ∧ Aside0 (Pr02a.l1 kq l0 l1 a2 a4 a6 a1 = some r) ∧ Aside0 (kq ≤ kj5) ∧ Aside0 (Kd.R Kd.string 9 w' w.heap.size (fun _ => True) (.slice d4 a2.length a5) a2) ∧ Aside0 (Below w.heap.size w w'))
       case atStart => exact ⟨(0), (by first | rfl | (simp; done) | (simp [*]; done)), H', ⟨Nat.le_refl _⟩, ⟨by (with_reducible repeat (first | apply Kd.R_alloc | apply Kd.R_drewN | apply Kd.R_drew)); exact a0.out⟩, ⟨by repeat (first | (with_reducible first | exact HB.out | apply below_alloc | apply pw_below_drewN | apply below_drew1) | exact HB.out)⟩⟩
       case round =>
        (try clear hji9w);(try clear i8);clear H';(try clear c1);(try clear c5);(try clear c5b0);(try clear c7);(try clear c7b0);(try clear c8);(try clear c8b0);(try clear c10);(try clear c10b0);(try clear j8);(try clear c11b0);(try clear i4);(try clear c13b0);(try clear e5);(try clear e6);(try clear j3);(try clear j4);(try clear j5);(try clear j6);obtain ⟨a1, rfl, HA, j7, a0, HB⟩ := hrel
        cases gk with
        | zero => exact absurd HA.out (by simp [Pr02a.l1])
        | succ k3 =>
         have H := HA.out;clear HA;simp only [Pr02a.l1] at H;by_cases j9 : a1 < (a2.length : Int)
         ·rw [if_pos j9] at H;have c16b0 : decide (a1 < (a2.length : Int)) = true := decide_eq_true j9;clear j9;by_cases o3 : 0 ≤ a1
          ·rw [if_pos o3] at H;have c17b0 : decide (0 ≤ a1) = true := decide_eq_true o3;clear o3;by_cases k0 : (Op.bytesLess ((rdOf ByteArray.empty a2 a1).toList) a6.toList) = true
           ·rw [if_pos k0] at H;have c18b0 : (Op.bytesLess ((rdOf ByteArray.empty a2 a1).toList) a6.toList) = true := k0;clear k0;have H' := Aside0.mk H;clear H;have f3 : 0 ≤ (a1 : Int) := of_decide_eq_true (by first | (with_reducible assumption) | assumption);have f4 : a1 < (a2.length : Int) := of_decide_eq_true (by first | (with_reducible assumption) | assumption);obtain ⟨b8, m3, p8⟩ := Kd.at_string (Kd.R_reads' a0.out).2.2 a1 f3 f4
            cases m3;replace f3 := eq_true f3;replace f4 := eq_true f4;go_wp2
            go_roundg k3
            case measure => have := f0.out; have := i1.out; have := j7.out; omega
            case rel => exact ⟨(wrap64 (a1 + 1)), (by first | rfl | (simp; done) | (simp [*]; done)), H', ⟨by have := f0.out; have := i1.out; have := j7.out; omega⟩, ⟨by (with_reducible repeat (first | apply Kd.R_alloc | apply Kd.R_drewN | apply Kd.R_drew)); exact a0.out⟩, ⟨by repeat (first | (with_reducible first | exact HB.out | apply below_alloc | apply pw_below_drewN | apply below_drew1) | exact HB.out)⟩⟩
           ·rw [if_neg k0] at H;have c18b0 : (Op.bytesLess ((rdOf ByteArray.empty a2 a1).toList) a6.toList) = false := by simpa using k0
            clear k0;obtain ⟨f5, g0⟩ : ∃ y_ : List ByteArray, y_ = (([] : List ByteArray)) := ⟨_, rfl⟩
            replace H : (if a1 ≤ (a2.length : Int) then ((some (a2.drop (a1 : Int).toNat : List ByteArray)).bind fun d0 => (if f5.length + d0.length < 8796093022208 then ((some (f5 ++ d0 : List ByteArray)).bind fun b2 => ((some (([] : List ByteArray) : List ByteArray)).bind fun d8 => ((some (a2.take (a1 : Int).toNat : List ByteArray)).bind fun b0 => (if d8.length + b0.length < 8796093022208 then ((some (d8 ++ b0 : List ByteArray)).bind fun d2 => (if d2.length < 8796093022208 then ((some (d2 ++ [a6] : List ByteArray)).bind fun b4 => (if b4.length + b2.length < 8796093022208 then (Pr02a.l0 k3 l0 l1 (b4 ++ b2) (wrap64 (a4 + 1))) else (none))) else (none))) else (none))))) else (none))) else (none)) = some r := by first | (rw [g0]; with_reducible exact H) | (have a3 := (Option.bind_some _ _).symm.trans H; rw [g0]; with_reducible exact a3) | (have a3 := (Option.bind_some _ _).symm.trans H; with_reducible exact a3) | with_reducible exact H | (rw [g0]; exact H) | exact H
            have n9 := Aside0.mk g0;clear g0;have c19b0 := eq_true (of_decide_eq_true (by first | (with_reducible assumption) | assumption) : 0 ≤ a1);by_cases l7 : a1 ≤ (a2.length : Int)
            ·rw [if_pos l7] at H;have c20b0 := eq_true l7;have c20b1 : decide (a1 ≤ (a2.length : Int)) = true := decide_eq_true l7;clear l7;obtain ⟨d0, g1⟩ : ∃ y_ : List ByteArray, y_ = (a2.drop (a1 : Int).toNat) := ⟨_, rfl⟩
             replace H : (if f5.length + d0.length < 8796093022208 then ((some (f5 ++ d0 : List ByteArray)).bind fun b2 => ((some (([] : List ByteArray) : List ByteArray)).bind fun d8 => ((some (a2.take (a1 : Int).toNat : List ByteArray)).bind fun b0 => (if d8.length + b0.length < 8796093022208 then ((some (d8 ++ b0 : List ByteArray)).bind fun d2 => (if d2.length < 8796093022208 then ((some (d2 ++ [a6] : List ByteArray)).bind fun b4 => (if b4.length + b2.length < 8796093022208 then (Pr02a.l0 k3 l0 l1 (b4 ++ b2) (wrap64 (a4 + 1))) else (none))) else (none))) else (none))))) else (none)) = some r := by first | (rw [g1]; with_reducible exact H) | (have a3 := (Option.bind_some _ _).symm.trans H; rw [g1]; with_reducible exact a3) | (have a3 := (Option.bind_some _ _).symm.trans H; with_reducible exact a3) | with_reducible exact H | (rw [g1]; exact H) | exact H
             have e8 := Aside0.mk g1;clear g1;by_cases o4 : f5.length + d0.length < 8796093022208
             ·rw [if_pos o4] at H;have r9 := Aside0.mk o4;clear o4;obtain ⟨b2, g2⟩ : ∃ y_ : List ByteArray, y_ = (f5 ++ d0) := ⟨_, rfl⟩
              replace H : ((some (([] : List ByteArray) : List ByteArray)).bind fun d8 => ((some (a2.take (a1 : Int).toNat : List ByteArray)).bind fun b0 => (if d8.length + b0.length < 8796093022208 then ((some (d8 ++ b0 : List ByteArray)).bind fun d2 => (if d2.length < 8796093022208 then ((some (d2 ++ [a6] : List ByteArray)).bind fun b4 => (if b4.length + b2.length < 8796093022208 then (Pr02a.l0 k3 l0 l1 (b4 ++ b2) (wrap64 (a4 + 1))) else (none))) else (none))) else (none)))) = some r := by first | (rw [g2]; with_reducible exact H) | (have a3 := (Option.bind_some _ _).symm.trans H; rw [g2]; with_reducible exact a3) | (have a3 := (Option.bind_some _ _).symm.trans H; with_reducible exact a3) | with_reducible exact H | (rw [g2]; exact H) | exact H
              have s7 := Aside0.mk g2;clear g2;obtain ⟨d8, g3⟩ : ∃ y_ : List ByteArray, y_ = (([] : List ByteArray)) := ⟨_, rfl⟩
              replace H : ((some (a2.take (a1 : Int).toNat : List ByteArray)).bind fun b0 => (if d8.length + b0.length < 8796093022208 then ((some (d8 ++ b0 : List ByteArray)).bind fun d2 => (if d2.length < 8796093022208 then ((some (d2 ++ [a6] : List ByteArray)).bind fun b4 => (if b4.length + b2.length < 8796093022208 then (Pr02a.l0 k3 l0 l1 (b4 ++ b2) (wrap64 (a4 + 1))) else (none))) else (none))) else (none))) = some r := by first | (rw [g3]; with_reducible exact H) | (have a3 := (Option.bind_some _ _).symm.trans H; rw [g3]; with_reducible exact a3) | (have a3 := (Option.bind_some _ _).symm.trans H; with_reducible exact a3) | with_reducible exact H | (rw [g3]; exact H) | exact H
              have o0 := Aside0.mk g3;clear g3;have c22b0 := eq_true (of_decide_eq_true (by first | (with_reducible assumption) | assumption) : 0 ≤ a1);have c23b0 := eq_true (of_decide_eq_true (by first | (with_reducible assumption) | assumption) : a1 ≤ (a2.length : Int));obtain ⟨b0, g4⟩ : ∃ y_ : List ByteArray, y_ = (a2.take (a1 : Int).toNat) := ⟨_, rfl⟩
              replace H : (if d8.length + b0.length < 8796093022208 then ((some (d8 ++ b0 : List ByteArray)).bind fun d2 => (if d2.length < 8796093022208 then ((some (d2 ++ [a6] : List ByteArray)).bind fun b4 => (if b4.length + b2.length < 8796093022208 then (Pr02a.l0 k3 l0 l1 (b4 ++ b2) (wrap64 (a4 + 1))) else (none))) else (none))) else (none)) = some r := by first | (rw [g4]; with_reducible exact H) | (have a3 := (Option.bind_some _ _).symm.trans H; rw [g4]; with_reducible exact a3) | (have a3 := (Option.bind_some _ _).symm.trans H; with_reducible exact a3) | with_reducible exact H | (rw [g4]; exact H) | exact H
              have f7 := Aside0.mk g4;clear g4;by_cases o5 : d8.length + b0.length < 8796093022208
              ·rw [if_pos o5] at H;have s0 := Aside0.mk o5;clear o5;obtain ⟨d2, g5⟩ : ∃ y_ : List ByteArray, y_ = (d8 ++ b0) := ⟨_, rfl⟩
               replace H : (if d2.length < 8796093022208 then ((some (d2 ++ [a6] : List ByteArray)).bind fun b4 => (if b4.length + b2.length < 8796093022208 then (Pr02a.l0 k3 l0 l1 (b4 ++ b2) (wrap64 (a4 + 1))) else (none))) else (none)) = some r := by first | (rw [g5]; with_reducible exact H) | (have a3 := (Option.bind_some _ _).symm.trans H; rw [g5]; with_reducible exact a3) | (have a3 := (Option.bind_some _ _).symm.trans H; with_reducible exact a3) | with_reducible exact H | (rw [g5]; exact H) | exact H
               have s8 := Aside0.mk g5;clear g5;by_cases o6 : d2.length < 8796093022208
               ·rw [if_pos o6] at H;have s1 := Aside0.mk o6;clear o6;obtain ⟨b4, g6⟩ : ∃ y_ : List ByteArray, y_ = (d2 ++ [a6]) := ⟨_, rfl⟩
                replace H : (if b4.length + b2.length < 8796093022208 then (Pr02a.l0 k3 l0 l1 (b4 ++ b2) (wrap64 (a4 + 1))) else (none)) = some r := by first | (rw [g6]; with_reducible exact H) | (have a3 := (Option.bind_some _ _).symm.trans H; rw [g6]; with_reducible exact a3) | (have a3 := (Option.bind_some _ _).symm.trans H; with_reducible exact a3) | with_reducible exact H | (rw [g6]; exact H) | exact H
                have s9 := Aside0.mk g6;clear g6;by_cases o7 : b4.length + b2.length < 8796093022208
                ·rw [if_pos o7] at H;have s2 := Aside0.mk o7;clear o7;obtain ⟨r4, g7⟩ : ∃ y_ : List ByteArray, y_ = (b4 ++ b2) := ⟨_, rfl⟩
                 replace H : (Pr02a.l0 k3 l0 l1 r4 (wrap64 (a4 + 1))) = some r := by first | (rw [g7]; with_reducible exact H) | (have a3 := (Option.bind_some _ _).symm.trans H; rw [g7]; with_reducible exact a3) | (have a3 := (Option.bind_some _ _).symm.trans H; with_reducible exact a3) | with_reducible exact H | (rw [g7]; exact H) | exact H
                 have t2 := Aside0.mk g7;clear g7;have H' := Aside0.mk H;clear H;have f3 : 0 ≤ (a1 : Int) := of_decide_eq_true (by first | (with_reducible assumption) | assumption);have f4 : a1 < (a2.length : Int) := of_decide_eq_true (by first | (with_reducible assumption) | assumption);obtain ⟨b8, m3, p8⟩ := Kd.at_string (Kd.R_reads' a0.out).2.2 a1 f3 f4
                 cases m3;replace f3 := eq_true f3;replace f4 := eq_true f4;go_wp2_with (first | ((with_reducible refine gate_dst (N := 53) rfl ?_); refine Kd.R_lit Kd.string _ 9 ?hg (N := 53) ?hd (xs := ([] : List ByteArray)) (inner := []) (ok := fun _ => True) (okp := fun _ => True) ?hr ?hp (fun _ hk => hk) trivial (Below.refl _ _) (Nat.le_refl _) (by simp) ?_; (case hd => rfl); (case hg => rfl); (case hr => first | (go_simp; done) | (go_simp; rfl)); (case hp => exact (Reps.none _ _)); intro w7 A2 h6 hb hg_ hnew_; clear hg_ hnew_; (first | rw [← n9.out] at h6 | (simp only [Int.reduceToNat] at h6; rw [← n9.out] at h6)); have a7 := Aside0.mk (Kd.R_elder' (by (with_reducible repeat (first | apply Kd.R_alloc | apply Kd.R_drewN | apply Kd.R_drew)); exact a0.out) (Kd.R_base h6) hb); have a8 := Aside0.mk (Kd.R_lower (Kd.R_new' h6 (Kd.R_lt (by (with_reducible repeat (first | apply Kd.R_alloc | apply Kd.R_drewN | apply Kd.R_drew)); exact a0.out))) (below_size (by repeat (first | (with_reducible first | exact HB.out | apply below_alloc | apply pw_below_drewN | apply below_drew1) | exact HB.out)))); have a9 := Aside0.mk (below_step (by repeat (first | (with_reducible first | exact HB.out | apply below_alloc | apply pw_below_drewN | apply below_drew1) | exact HB.out)) hb); clear a0 HB; have a0 := a7; have n0 := a8; have HB := a9; clear a7 a8 a9 hb h6; have q9 : (a1 : Int) ≤ ((a2.length : Int) : Int) := of_decide_eq_true (by first | (with_reducible assumption) | assumption); obtain ⟨z1, p2, _, p6, _⟩ := info_parts info9; have h8 : a2.length ≤ a5 := (Kd.R_reads' a0.out).2.1; have q1 : Kd.C Kd.string _ (some b8) a2.length a2 := (Kd.R_reads' a0.out).2.2; have w5 : (0 : Int) ≤ (a1 : Int) := of_decide_eq_true (by first | (with_reducible assumption) | assumption); have q5 := cut_from (P := Try.prog) 22 9 .i64 Try.underlying22 p2 1 p6 (some b8) a2.length a5 a1 w5 q9; have i9 := Kd.C_drop (m := (a1 : Int).toNat) (c := a5) q1 (by omega) h8; obtain ⟨l5, k9⟩ : ∃ A1, A1 = (if a5 = (a1 : Int).toNat then (some b8) else ((some b8) : Option Addr).map (·.add ((a1 : Int).toNat * 1))) := ⟨_, rfl⟩; obtain ⟨x7, m4⟩ : ∃ c1, c1 = a5 - (a1 : Int).toNat := ⟨_, rfl⟩; have l3 : d0.length = a2.length - (a1 : Int).toNat := (by rw [e8.out, List.length_drop] <;> omega); rw [show (a2).drop (a1 : Int).toNat = d0 from e8.out.symm] at i9; replace i9 : Kd.C Kd.string _ l5 d0.length d0 := (by rw [k9]; exact i9); rw [← l3, ← k9, ← m4] at q5; have d5 := Aside0.mk i9; have y1 := Aside0.mk (show d0.length ≤ x7 from by rw [l3, m4]; exact Nat.sub_le_sub_right h8 _); clear i9 q1 h8 p2 p6 m4; have y7 := Aside0.mk l3; have k5 := Aside0.mk k9; clear l3 k9; have k7 := Aside0.mk (show (a1 : Int).toNat ≤ a2.length from by omega); replace q9 := eq_true q9) | ((with_reducible refine gate_builtin (b := .append) (xs := #[.tmp 53, .tmp 56]) rfl ?_); at_builtin; refine Kd.R_append_rows Kd.string (w0 := w) w.heap.size rfl (.tmp 53) (.tmp 56) 22 9 (.string ⟨#[]⟩) 16 rfl Try.underlying22 info9 rfl (by decide) (by omega) w7 f5 d0 _ _ _ (fun k_ => some k_ ≠ (.slice (some b8) a2.length a5 : Value).ownBlock) (fun _ => False) rfl rfl ?aO ?aR (fun _ _ h => h) (fun _ h => h.elim) ?aF ?aB ?aS ?aL ?_; (case aR => repeat (first | exact (by repeat (first | (with_reducible exact d5.out) | (with_reducible refine Kd.C_alloc ?_ _) | (with_reducible refine Kd.C_drewN ?_ _) | (with_reducible refine Kd.C_drew ?_) | exact d5.out)) | (with_reducible refine Kd.C_alloc ?_ _) | (with_reducible refine Kd.C_drewN ?_ _) | (with_reducible refine Kd.C_drew ?_))); (case aB => exact (by repeat (first | (with_reducible first | exact HB.out | apply below_alloc | apply pw_below_drewN | apply below_drew1) | exact HB.out))); (case aF => exact (fun k_ hk => Kd.fresh' (Kd.R_lt (by (with_reducible repeat (first | apply Kd.R_alloc | apply Kd.R_drewN | apply Kd.R_drew)); exact a0.out)) k_ hk)); (case aO => exact (by (with_reducible repeat (first | apply Kd.R_alloc | apply Kd.R_drewN | apply Kd.R_drew)); exact Kd.R_mono n0.out (fun _ hk => hk.2))); (case aS => exact (below_size (by repeat (first | (with_reducible first | exact HB.out | apply below_alloc | apply pw_below_drewN | apply below_drew1) | exact HB.out)))); (case aL => have := r9.out; omega); intro e3 x9 ho hb hg hat; rw [← s7.out] at ho; have a7 := Aside0.mk (Kd.R_after (ok := (fun _ => True)) (by (with_reducible repeat (first | apply Kd.R_alloc | apply Kd.R_drewN | apply Kd.R_drew)); exact a0.out) hg hat); have a8 := Aside0.mk (hb); have a9 := Aside0.mk ((show Kd.C Kd.string x9 l5 d0.length d0 from by rw [e8.out, k5.out]; exact Kd.C_drop (m := (a1 : Int).toNat) (c := a5) ((Kd.R_reads' (Kd.R_after (ok := (fun _ => True)) (by (with_reducible repeat (first | apply Kd.R_alloc | apply Kd.R_drewN | apply Kd.R_drew)); exact a0.out) hg hat)).2.2) k7.out ((Kd.R_reads' (Kd.R_after (ok := (fun _ => True)) (by (with_reducible repeat (first | apply Kd.R_alloc | apply Kd.R_drewN | apply Kd.R_drew)); exact a0.out) hg hat)).2.1))); have b9 := Aside0.mk (ho); clear a0 HB d5 n0; have a0 := a7; have HB := a8; have d5 := a9; have b6 := b9; clear a7 a8 a9 b9 ho hb hg hat) | ((with_reducible refine gate_dst (N := 58) rfl ?_); refine Kd.R_lit Kd.string _ 9 ?hg (N := 58) ?hd (xs := ([] : List ByteArray)) (inner := []) (ok := fun _ => True) (okp := fun _ => True) ?hr ?hp (fun _ hk => hk) trivial (Below.refl _ _) (Nat.le_refl _) (by simp) ?_; (case hd => rfl); (case hg => rfl); (case hr => first | (go_simp; done) | (go_simp; rfl)); (case hp => exact (Reps.none _ _)); intro w8 A3 f1 hb hg_ hnew_; clear hg_ hnew_; (first | rw [← o0.out] at f1 | (simp only [Int.reduceToNat] at f1; rw [← o0.out] at f1)); have a7 := Aside0.mk (Kd.R_elder' (by (with_reducible repeat (first | apply Kd.R_alloc | apply Kd.R_drewN | apply Kd.R_drew)); exact a0.out) (Kd.R_base f1) hb); have a8 := Aside0.mk (Kd.R_elder' (by (with_reducible repeat (first | apply Kd.R_alloc | apply Kd.R_drewN | apply Kd.R_drew)); exact b6.out) (Kd.R_base f1) hb); have a9 := Aside0.mk (Kd.R_lower (Kd.R_new' (Kd.R_new' f1 (Kd.R_lt (by (with_reducible repeat (first | apply Kd.R_alloc | apply Kd.R_drewN | apply Kd.R_drew)); exact a0.out))) (Kd.R_lt (by (with_reducible repeat (first | apply Kd.R_alloc | apply Kd.R_drewN | apply Kd.R_drew)); exact b6.out))) (below_size (by repeat (first | (with_reducible first | exact HB.out | apply below_alloc | apply pw_below_drewN | apply below_drew1) | exact HB.out)))); have b9 := Aside0.mk (Kd.C_below (by repeat (first | (with_reducible exact d5.out) | (with_reducible refine Kd.C_alloc ?_ _) | (with_reducible refine Kd.C_drewN ?_ _) | (with_reducible refine Kd.C_drew ?_) | exact d5.out)) hb); have d7 := Aside0.mk (below_step (by repeat (first | (with_reducible first | exact HB.out | apply below_alloc | apply pw_below_drewN | apply below_drew1) | exact HB.out)) hb); clear a0 b6 d5 HB; have a0 := a7; have b6 := a8; have n1 := a9; have d5 := b9; have HB := d7; clear a7 a8 a9 b9 d7 hb f1; have r0 : (a1 : Int) ≤ ((a2.length : Int) : Int) := of_decide_eq_true (by first | (with_reducible assumption) | assumption); obtain ⟨z2, p3, _, t8, _⟩ := info_parts info9; have k2 : a2.length ≤ a5 := (Kd.R_reads' a0.out).2.1; have q2 : Kd.C Kd.string _ (some b8) a2.length a2 := (Kd.R_reads' a0.out).2.2; have q6 := cut_to (P := Try.prog) 22 9 .i64 Try.underlying22 p3 (some b8) a2.length a5 a1 (of_decide_eq_true (by first | (with_reducible assumption) | assumption)) r0 k2; have m6 := Kd.C_take (m := (a1 : Int).toNat) q2 (by omega); have m8 : b0.length = (a1 : Int).toNat := (by rw [f7.out, List.length_take]; omega); rw [← f7.out] at m6; rw [← m8] at q6; have e1 := Aside0.mk m6; have y2 := Aside0.mk (show b0.length ≤ a5 from by omega); clear m6 q2 k2 p3 t8; have y8 := Aside0.mk m8; clear m8; have m1 := Aside0.mk (show (a1 : Int).toNat ≤ a2.length from by omega); replace r0 := eq_true r0) | ((with_reducible refine gate_builtin (b := .append) (xs := #[.tmp 58, .tmp 61]) rfl ?_); at_builtin; refine Kd.R_append_rows Kd.string (w0 := w) w.heap.size rfl (.tmp 58) (.tmp 61) 22 9 (.string ⟨#[]⟩) 16 rfl Try.underlying22 info9 rfl (by decide) (by omega) w8 d8 b0 _ _ _ (fun k_ => some k_ ≠ (.slice (some b8) a2.length a5 : Value).ownBlock ∧ some k_ ≠ (e3 : Value).ownBlock) (fun _ => False) rfl rfl ?aO ?aR (fun _ _ h => h) (fun _ h => h.elim) ?aF ?aB ?aS ?aL ?_; (case aR => repeat (first | exact (by repeat (first | (with_reducible exact e1.out) | (with_reducible refine Kd.C_alloc ?_ _) | (with_reducible refine Kd.C_drewN ?_ _) | (with_reducible refine Kd.C_drew ?_) | exact e1.out)) | (with_reducible refine Kd.C_alloc ?_ _) | (with_reducible refine Kd.C_drewN ?_ _) | (with_reducible refine Kd.C_drew ?_))); (case aB => exact (by repeat (first | (with_reducible first | exact HB.out | apply below_alloc | apply pw_below_drewN | apply below_drew1) | exact HB.out))); (case aF => exact (fun k_ hk => ⟨Kd.fresh' (Kd.R_lt (by (with_reducible repeat (first | apply Kd.R_alloc | apply Kd.R_drewN | apply Kd.R_drew)); exact a0.out)) k_ hk, Kd.fresh' (Kd.R_lt (by (with_reducible repeat (first | apply Kd.R_alloc | apply Kd.R_drewN | apply Kd.R_drew)); exact b6.out)) k_ hk⟩)); (case aO => exact (by (with_reducible repeat (first | apply Kd.R_alloc | apply Kd.R_drewN | apply Kd.R_drew)); exact Kd.R_mono n1.out (fun _ hk => ⟨hk.1.2, hk.2⟩))); (case aS => exact (below_size (by repeat (first | (with_reducible first | exact HB.out | apply below_alloc | apply pw_below_drewN | apply below_drew1) | exact HB.out)))); (case aL => have := s0.out; omega); intro w9 u3 ho hb hg hat; rw [← s8.out] at ho; have a7 := Aside0.mk (Kd.R_after (ok := (fun k_ => some k_ ≠ (e3 : Value).ownBlock)) (by (with_reducible repeat (first | apply Kd.R_alloc | apply Kd.R_drewN | apply Kd.R_drew)); exact Kd.R_mono a0.out (fun _ hk => ⟨hk.1.2, hk.2⟩)) hg hat); have a8 := Aside0.mk (Kd.R_after (ok := (fun k_ => some k_ ≠ (.slice (some b8) a2.length a5 : Value).ownBlock)) (by (with_reducible repeat (first | apply Kd.R_alloc | apply Kd.R_drewN | apply Kd.R_drew)); exact b6.out) hg hat); have a9 := Aside0.mk (hb); have b9 := Aside0.mk ((show Kd.C Kd.string u3 l5 d0.length d0 from by rw [e8.out, k5.out]; exact Kd.C_drop (m := (a1 : Int).toNat) (c := a5) ((Kd.R_reads' (Kd.R_after (ok := (fun k_ => some k_ ≠ (e3 : Value).ownBlock)) (by (with_reducible repeat (first | apply Kd.R_alloc | apply Kd.R_drewN | apply Kd.R_drew)); exact Kd.R_mono a0.out (fun _ hk => ⟨hk.1.2, hk.2⟩)) hg hat)).2.2) k7.out ((Kd.R_reads' (Kd.R_after (ok := (fun k_ => some k_ ≠ (e3 : Value).ownBlock)) (by (with_reducible repeat (first | apply Kd.R_alloc | apply Kd.R_drewN | apply Kd.R_drew)); exact Kd.R_mono a0.out (fun _ hk => ⟨hk.1.2, hk.2⟩)) hg hat)).2.1))); have d7 := Aside0.mk ((show Kd.C Kd.string u3 (some b8) b0.length b0 from by rw [f7.out]; exact Kd.C_take (m := (a1 : Int).toNat) ((Kd.R_reads' (Kd.R_after (ok := (fun k_ => some k_ ≠ (e3 : Value).ownBlock)) (by (with_reducible repeat (first | apply Kd.R_alloc | apply Kd.R_drewN | apply Kd.R_drew)); exact Kd.R_mono a0.out (fun _ hk => ⟨hk.1.2, hk.2⟩)) hg hat)).2.2) m1.out)); have e0 := Aside0.mk (ho); clear a0 b6 HB d5 e1 n1; have a0 := a7; have b6 := a8; have HB := a9; have d5 := b9; have e1 := d7; have n2 := e0; clear a7 a8 a9 b9 d7 e0 ho hb hg hat) | ((with_reducible refine gate_builtin (b := .append) (xs := #[.tmp 62, .tmp 64]) rfl ?_); at_builtin; refine Kd.R_append Kd.string (w0 := w) w.heap.size rfl (.tmp 62) (.tmp 64) 22 9 (.string ⟨#[]⟩) 16 rfl Try.underlying22 info9 rfl (by decide) (by omega) w9 d2 a6 [.string a6] (fun k_ => some k_ ≠ (.slice (some b8) a2.length a5 : Value).ownBlock ∧ some k_ ≠ (e3 : Value).ownBlock) (fun _ => False) rfl rfl ?aP (fun _ hk => hk.elim) ?aF ?aO ?aB ?aS ?aL ?_; (case aP => exact rfl); (case aB => exact (by repeat (first | (with_reducible first | exact HB.out | apply below_alloc | apply pw_below_drewN | apply below_drew1) | exact HB.out))); (case aF => exact (fun k_ hk => ⟨Kd.fresh' (Kd.R_lt (by (with_reducible repeat (first | apply Kd.R_alloc | apply Kd.R_drewN | apply Kd.R_drew)); exact a0.out)) k_ hk, Kd.fresh' (Kd.R_lt (by (with_reducible repeat (first | apply Kd.R_alloc | apply Kd.R_drewN | apply Kd.R_drew)); exact b6.out)) k_ hk⟩)); (case aO => exact (by (with_reducible repeat (first | apply Kd.R_alloc | apply Kd.R_drewN | apply Kd.R_drew)); exact n2.out)); (case aS => exact (below_size (by repeat (first | (with_reducible first | exact HB.out | apply below_alloc | apply pw_below_drewN | apply below_drew1) | exact HB.out)))); (case aL => have := s1.out; omega); intro x0 u4 ho hb hg hat; rw [← s9.out] at ho; have a7 := Aside0.mk (Kd.R_after (ok := (fun k_ => some k_ ≠ (e3 : Value).ownBlock)) (by (with_reducible repeat (first | apply Kd.R_alloc | apply Kd.R_drewN | apply Kd.R_drew)); exact a0.out) hg hat); have a8 := Aside0.mk (Kd.R_after (ok := (fun k_ => some k_ ≠ (.slice (some b8) a2.length a5 : Value).ownBlock)) (by (with_reducible repeat (first | apply Kd.R_alloc | apply Kd.R_drewN | apply Kd.R_drew)); exact b6.out) hg hat); have a9 := Aside0.mk (hb); have b9 := Aside0.mk ((show Kd.C Kd.string u4 l5 d0.length d0 from by rw [e8.out, k5.out]; exact Kd.C_drop (m := (a1 : Int).toNat) (c := a5) ((Kd.R_reads' (Kd.R_after (ok := (fun k_ => some k_ ≠ (e3 : Value).ownBlock)) (by (with_reducible repeat (first | apply Kd.R_alloc | apply Kd.R_drewN | apply Kd.R_drew)); exact a0.out) hg hat)).2.2) k7.out ((Kd.R_reads' (Kd.R_after (ok := (fun k_ => some k_ ≠ (e3 : Value).ownBlock)) (by (with_reducible repeat (first | apply Kd.R_alloc | apply Kd.R_drewN | apply Kd.R_drew)); exact a0.out) hg hat)).2.1))); have d7 := Aside0.mk ((show Kd.C Kd.string u4 (some b8) b0.length b0 from by rw [f7.out]; exact Kd.C_take (m := (a1 : Int).toNat) ((Kd.R_reads' (Kd.R_after (ok := (fun k_ => some k_ ≠ (e3 : Value).ownBlock)) (by (with_reducible repeat (first | apply Kd.R_alloc | apply Kd.R_drewN | apply Kd.R_drew)); exact a0.out) hg hat)).2.2) m1.out)); have e0 := Aside0.mk (ho); clear a0 b6 HB d5 e1 n2; have a0 := a7; have b6 := a8; have HB := a9; have d5 := b9; have e1 := d7; have n3 := e0; clear a7 a8 a9 b9 d7 e0 ho hb hg hat; obtain ⟨i2, i5, w2⟩ := Kd.R_slice b6.out; subst w2) | ((with_reducible refine gate_builtin (b := .append) (xs := #[.tmp 65, .tmp 66]) rfl ?_); at_builtin; refine Kd.R_append_rows Kd.string (w0 := w) w.heap.size rfl (.tmp 65) (.tmp 66) 22 9 (.string ⟨#[]⟩) 16 rfl Try.underlying22 info9 rfl (by decide) (by omega) x0 b4 b2 _ _ _ (fun k_ => some k_ ≠ (.slice (some b8) a2.length a5 : Value).ownBlock ∧ some k_ ≠ (.slice i2 b2.length i5 : Value).ownBlock) (fun _ => False) rfl rfl ?aO ?aR (fun _ _ h => h) (fun _ h => h.elim) ?aF ?aB ?aS ?aL ?_; (case aR => repeat (first | exact (Kd.R_reads' b6.out).2.2 | (with_reducible refine Kd.C_alloc ?_ _) | (with_reducible refine Kd.C_drewN ?_ _) | (with_reducible refine Kd.C_drew ?_))); (case aB => exact (by repeat (first | (with_reducible first | exact HB.out | apply below_alloc | apply pw_below_drewN | apply below_drew1) | exact HB.out))); (case aF => exact (fun k_ hk => ⟨Kd.fresh' (Kd.R_lt (by (with_reducible repeat (first | apply Kd.R_alloc | apply Kd.R_drewN | apply Kd.R_drew)); exact a0.out)) k_ hk, Kd.fresh' (Kd.R_lt (by (with_reducible repeat (first | apply Kd.R_alloc | apply Kd.R_drewN | apply Kd.R_drew)); exact b6.out)) k_ hk⟩)); (case aO => exact (by (with_reducible repeat (first | apply Kd.R_alloc | apply Kd.R_drewN | apply Kd.R_drew)); exact n3.out)); (case aS => exact (below_size (by repeat (first | (with_reducible first | exact HB.out | apply below_alloc | apply pw_below_drewN | apply below_drew1) | exact HB.out)))); (case aL => have := s2.out; omega); intro z6 u6 ho hb hg hat; rw [← t2.out] at ho; have a7 := Aside0.mk (Kd.R_after (ok := (fun k_ => some k_ ≠ (.slice i2 b2.length i5 : Value).ownBlock)) (by (with_reducible repeat (first | apply Kd.R_alloc | apply Kd.R_drewN | apply Kd.R_drew)); exact a0.out) hg hat); have a8 := Aside0.mk (Kd.R_after (ok := (fun k_ => some k_ ≠ (.slice (some b8) a2.length a5 : Value).ownBlock)) (by (with_reducible repeat (first | apply Kd.R_alloc | apply Kd.R_drewN | apply Kd.R_drew)); exact b6.out) hg hat); have a9 := Aside0.mk (hb); have b9 := Aside0.mk ((show Kd.C Kd.string u6 l5 d0.length d0 from by rw [e8.out, k5.out]; exact Kd.C_drop (m := (a1 : Int).toNat) (c := a5) ((Kd.R_reads' (Kd.R_after (ok := (fun k_ => some k_ ≠ (.slice i2 b2.length i5 : Value).ownBlock)) (by (with_reducible repeat (first | apply Kd.R_alloc | apply Kd.R_drewN | apply Kd.R_drew)); exact a0.out) hg hat)).2.2) k7.out ((Kd.R_reads' (Kd.R_after (ok := (fun k_ => some k_ ≠ (.slice i2 b2.length i5 : Value).ownBlock)) (by (with_reducible repeat (first | apply Kd.R_alloc | apply Kd.R_drewN | apply Kd.R_drew)); exact a0.out) hg hat)).2.1))); have d7 := Aside0.mk ((show Kd.C Kd.string u6 (some b8) b0.length b0 from by rw [f7.out]; exact Kd.C_take (m := (a1 : Int).toNat) ((Kd.R_reads' (Kd.R_after (ok := (fun k_ => some k_ ≠ (.slice i2 b2.length i5 : Value).ownBlock)) (by (with_reducible repeat (first | apply Kd.R_alloc | apply Kd.R_drewN | apply Kd.R_drew)); exact a0.out) hg hat)).2.2) m1.out)); have e0 := Aside0.mk (ho); clear a0 b6 HB d5 e1 n3; have a0 := a7; have b6 := a8; have HB := a9; have d5 := b9; have e1 := d7; have r7 := e0; clear a7 a8 a9 b9 d7 e0 ho hb hg hat))
                 go_roundg k3
                 case measure => have := f0.out; have := i1.out; have := j7.out; omega
                 case rel => exact ⟨(r4), (wrap64 (a4 + 1)), (by first | rfl | (simp; done) | (simp [*]; done)), H', ⟨by have := f0.out; have := i1.out; have := j7.out; omega⟩, ⟨by (with_reducible repeat (first | apply Kd.R_alloc | apply Kd.R_drewN | apply Kd.R_drew)); exact Kd.R_mono r7.out (fun _ hk => trivial)⟩, ⟨by repeat (first | (with_reducible first | exact HB.out | apply below_alloc | apply pw_below_drewN | apply below_drew1) | exact HB.out)⟩⟩
                ·rw [if_neg o7] at H;exact absurd H (by simp)
               ·rw [if_neg o6] at H;exact absurd H (by simp)
              ·rw [if_neg o5] at H;exact absurd H (by simp)
             ·rw [if_neg o4] at H;exact absurd H (by simp)
            ·rw [if_neg l7] at H;exact absurd H (by simp)
          ·rw [if_neg o3] at H;exact absurd H (by simp)
         ·rw [if_neg j9] at H;have c16b0 : decide (a1 < (a2.length : Int)) = false := decide_eq_false j9;clear j9;obtain ⟨f6, g8⟩ : ∃ y_ : List ByteArray, y_ = (([] : List ByteArray)) := ⟨_, rfl⟩
          replace H : (if 0 ≤ a1 then (if a1 ≤ (a2.length : Int) then ((some (a2.drop (a1 : Int).toNat : List ByteArray)).bind fun d1 => (if f6.length + d1.length < 8796093022208 then ((some (f6 ++ d1 : List ByteArray)).bind fun b3 => ((some (([] : List ByteArray) : List ByteArray)).bind fun d9 => ((some (a2.take (a1 : Int).toNat : List ByteArray)).bind fun b1 => (if d9.length + b1.length < 8796093022208 then ((some (d9 ++ b1 : List ByteArray)).bind fun d3 => (if d3.length < 8796093022208 then ((some (d3 ++ [a6] : List ByteArray)).bind fun b5 => (if b5.length + b3.length < 8796093022208 then (Pr02a.l0 k3 l0 l1 (b5 ++ b3) (wrap64 (a4 + 1))) else (none))) else (none))) else (none))))) else (none))) else (none)) else (none)) = some r := by first | (rw [g8]; with_reducible exact H) | (have a3 := (Option.bind_some _ _).symm.trans H; rw [g8]; with_reducible exact a3) | (have a3 := (Option.bind_some _ _).symm.trans H; with_reducible exact a3) | with_reducible exact H | (rw [g8]; exact H) | exact H
          have o1 := Aside0.mk g8;clear g8;by_cases l8 : 0 ≤ a1
          ·rw [if_pos l8] at H;have c38b0 := eq_true l8;have c38b1 : decide (0 ≤ a1) = true := decide_eq_true l8;clear l8;by_cases l9 : a1 ≤ (a2.length : Int)
           ·rw [if_pos l9] at H;have c39b0 := eq_true l9;have c39b1 : decide (a1 ≤ (a2.length : Int)) = true := decide_eq_true l9;clear l9;obtain ⟨d1, g9⟩ : ∃ y_ : List ByteArray, y_ = (a2.drop (a1 : Int).toNat) := ⟨_, rfl⟩
            replace H : (if f6.length + d1.length < 8796093022208 then ((some (f6 ++ d1 : List ByteArray)).bind fun b3 => ((some (([] : List ByteArray) : List ByteArray)).bind fun d9 => ((some (a2.take (a1 : Int).toNat : List ByteArray)).bind fun b1 => (if d9.length + b1.length < 8796093022208 then ((some (d9 ++ b1 : List ByteArray)).bind fun d3 => (if d3.length < 8796093022208 then ((some (d3 ++ [a6] : List ByteArray)).bind fun b5 => (if b5.length + b3.length < 8796093022208 then (Pr02a.l0 k3 l0 l1 (b5 ++ b3) (wrap64 (a4 + 1))) else (none))) else (none))) else (none))))) else (none)) = some r := by first | (rw [g9]; with_reducible exact H) | (have a3 := (Option.bind_some _ _).symm.trans H; rw [g9]; with_reducible exact a3) | (have a3 := (Option.bind_some _ _).symm.trans H; with_reducible exact a3) | with_reducible exact H | (rw [g9]; exact H) | exact H
            have e9 := Aside0.mk g9;clear g9;by_cases o8 : f6.length + d1.length < 8796093022208
            ·rw [if_pos o8] at H;have s3 := Aside0.mk o8;clear o8;obtain ⟨b3, h0⟩ : ∃ y_ : List ByteArray, y_ = (f6 ++ d1) := ⟨_, rfl⟩
             replace H : ((some (([] : List ByteArray) : List ByteArray)).bind fun d9 => ((some (a2.take (a1 : Int).toNat : List ByteArray)).bind fun b1 => (if d9.length + b1.length < 8796093022208 then ((some (d9 ++ b1 : List ByteArray)).bind fun d3 => (if d3.length < 8796093022208 then ((some (d3 ++ [a6] : List ByteArray)).bind fun b5 => (if b5.length + b3.length < 8796093022208 then (Pr02a.l0 k3 l0 l1 (b5 ++ b3) (wrap64 (a4 + 1))) else (none))) else (none))) else (none)))) = some r := by first | (rw [h0]; with_reducible exact H) | (have a3 := (Option.bind_some _ _).symm.trans H; rw [h0]; with_reducible exact a3) | (have a3 := (Option.bind_some _ _).symm.trans H; with_reducible exact a3) | with_reducible exact H | (rw [h0]; exact H) | exact H
             have t4 := Aside0.mk h0;clear h0;obtain ⟨d9, h1⟩ : ∃ y_ : List ByteArray, y_ = (([] : List ByteArray)) := ⟨_, rfl⟩
             replace H : ((some (a2.take (a1 : Int).toNat : List ByteArray)).bind fun b1 => (if d9.length + b1.length < 8796093022208 then ((some (d9 ++ b1 : List ByteArray)).bind fun d3 => (if d3.length < 8796093022208 then ((some (d3 ++ [a6] : List ByteArray)).bind fun b5 => (if b5.length + b3.length < 8796093022208 then (Pr02a.l0 k3 l0 l1 (b5 ++ b3) (wrap64 (a4 + 1))) else (none))) else (none))) else (none))) = some r := by first | (rw [h1]; with_reducible exact H) | (have a3 := (Option.bind_some _ _).symm.trans H; rw [h1]; with_reducible exact a3) | (have a3 := (Option.bind_some _ _).symm.trans H; with_reducible exact a3) | with_reducible exact H | (rw [h1]; exact H) | exact H
             have o2 := Aside0.mk h1;clear h1;have c41b0 := eq_true (of_decide_eq_true (by first | (with_reducible assumption) | assumption) : 0 ≤ a1);have c42b0 := eq_true (of_decide_eq_true (by first | (with_reducible assumption) | assumption) : a1 ≤ (a2.length : Int));obtain ⟨b1, h2⟩ : ∃ y_ : List ByteArray, y_ = (a2.take (a1 : Int).toNat) := ⟨_, rfl⟩
             replace H : (if d9.length + b1.length < 8796093022208 then ((some (d9 ++ b1 : List ByteArray)).bind fun d3 => (if d3.length < 8796093022208 then ((some (d3 ++ [a6] : List ByteArray)).bind fun b5 => (if b5.length + b3.length < 8796093022208 then (Pr02a.l0 k3 l0 l1 (b5 ++ b3) (wrap64 (a4 + 1))) else (none))) else (none))) else (none)) = some r := by first | (rw [h2]; with_reducible exact H) | (have a3 := (Option.bind_some _ _).symm.trans H; rw [h2]; with_reducible exact a3) | (have a3 := (Option.bind_some _ _).symm.trans H; with_reducible exact a3) | with_reducible exact H | (rw [h2]; exact H) | exact H
             have f8 := Aside0.mk h2;clear h2;by_cases o9 : d9.length + b1.length < 8796093022208
             ·rw [if_pos o9] at H;have s4 := Aside0.mk o9;clear o9;obtain ⟨d3, h3⟩ : ∃ y_ : List ByteArray, y_ = (d9 ++ b1) := ⟨_, rfl⟩
              replace H : (if d3.length < 8796093022208 then ((some (d3 ++ [a6] : List ByteArray)).bind fun b5 => (if b5.length + b3.length < 8796093022208 then (Pr02a.l0 k3 l0 l1 (b5 ++ b3) (wrap64 (a4 + 1))) else (none))) else (none)) = some r := by first | (rw [h3]; with_reducible exact H) | (have a3 := (Option.bind_some _ _).symm.trans H; rw [h3]; with_reducible exact a3) | (have a3 := (Option.bind_some _ _).symm.trans H; with_reducible exact a3) | with_reducible exact H | (rw [h3]; exact H) | exact H
              have t5 := Aside0.mk h3;clear h3;by_cases p0 : d3.length < 8796093022208
              ·rw [if_pos p0] at H;have s5 := Aside0.mk p0;clear p0;obtain ⟨b5, h4⟩ : ∃ y_ : List ByteArray, y_ = (d3 ++ [a6]) := ⟨_, rfl⟩
               replace H : (if b5.length + b3.length < 8796093022208 then (Pr02a.l0 k3 l0 l1 (b5 ++ b3) (wrap64 (a4 + 1))) else (none)) = some r := by first | (rw [h4]; with_reducible exact H) | (have a3 := (Option.bind_some _ _).symm.trans H; rw [h4]; with_reducible exact a3) | (have a3 := (Option.bind_some _ _).symm.trans H; with_reducible exact a3) | with_reducible exact H | (rw [h4]; exact H) | exact H
               have t6 := Aside0.mk h4;clear h4;by_cases p1 : b5.length + b3.length < 8796093022208
               ·rw [if_pos p1] at H;have s6 := Aside0.mk p1;clear p1;obtain ⟨r5, h5⟩ : ∃ y_ : List ByteArray, y_ = (b5 ++ b3) := ⟨_, rfl⟩
                replace H : (Pr02a.l0 k3 l0 l1 r5 (wrap64 (a4 + 1))) = some r := by first | (rw [h5]; with_reducible exact H) | (have a3 := (Option.bind_some _ _).symm.trans H; rw [h5]; with_reducible exact a3) | (have a3 := (Option.bind_some _ _).symm.trans H; with_reducible exact a3) | with_reducible exact H | (rw [h5]; exact H) | exact H
                have t7 := Aside0.mk h5;clear h5;have H' := Aside0.mk H;clear H;go_wp2_with (first | ((with_reducible refine gate_dst (N := 53) rfl ?_); refine Kd.R_lit Kd.string _ 9 ?hg (N := 53) ?hd (xs := ([] : List ByteArray)) (inner := []) (ok := fun _ => True) (okp := fun _ => True) ?hr ?hp (fun _ hk => hk) trivial (Below.refl _ _) (Nat.le_refl _) (by simp) ?_; (case hd => rfl); (case hg => rfl); (case hr => first | (go_simp; done) | (go_simp; rfl)); (case hp => exact (Reps.none _ _)); intro x1 A4 h7 hb hg_ hnew_; clear hg_ hnew_; (first | rw [← o1.out] at h7 | (simp only [Int.reduceToNat] at h7; rw [← o1.out] at h7)); have a7 := Aside0.mk (Kd.R_elder' (by (with_reducible repeat (first | apply Kd.R_alloc | apply Kd.R_drewN | apply Kd.R_drew)); exact a0.out) (Kd.R_base h7) hb); have a8 := Aside0.mk (Kd.R_lower (Kd.R_new' h7 (Kd.R_lt (by (with_reducible repeat (first | apply Kd.R_alloc | apply Kd.R_drewN | apply Kd.R_drew)); exact a0.out))) (below_size (by repeat (first | (with_reducible first | exact HB.out | apply below_alloc | apply pw_below_drewN | apply below_drew1) | exact HB.out)))); have a9 := Aside0.mk (below_step (by repeat (first | (with_reducible first | exact HB.out | apply below_alloc | apply pw_below_drewN | apply below_drew1) | exact HB.out)) hb); clear a0 HB; have a0 := a7; have n4 := a8; have HB := a9; clear a7 a8 a9 hb h7; have r1 : (a1 : Int) ≤ ((a2.length : Int) : Int) := of_decide_eq_true (by first | (with_reducible assumption) | assumption); obtain ⟨z3, p4, _, p7, _⟩ := info_parts info9; have h9 : a2.length ≤ a5 := (Kd.R_reads' a0.out).2.1; have q3 : Kd.C Kd.string _ d4 a2.length a2 := (Kd.R_reads' a0.out).2.2; have w6 : (0 : Int) ≤ (a1 : Int) := of_decide_eq_true (by first | (with_reducible assumption) | assumption); have q7 := cut_from (P := Try.prog) 22 9 .i64 Try.underlying22 p4 1 p7 d4 a2.length a5 a1 w6 r1; have j2 := Kd.C_drop (m := (a1 : Int).toNat) (c := a5) q3 (by omega) h9; obtain ⟨l6, l2⟩ : ∃ A1, A1 = (if a5 = (a1 : Int).toNat then d4 else (d4 : Option Addr).map (·.add ((a1 : Int).toNat * 1))) := ⟨_, rfl⟩; obtain ⟨x8, m5⟩ : ∃ c1, c1 = a5 - (a1 : Int).toNat := ⟨_, rfl⟩; have l4 : d1.length = a2.length - (a1 : Int).toNat := (by rw [e9.out, List.length_drop] <;> omega); rw [show (a2).drop (a1 : Int).toNat = d1 from e9.out.symm] at j2; replace j2 : Kd.C Kd.string _ l6 d1.length d1 := (by rw [l2]; exact j2); rw [← l4, ← l2, ← m5] at q7; have d6 := Aside0.mk j2; have y3 := Aside0.mk (show d1.length ≤ x8 from by rw [l4, m5]; exact Nat.sub_le_sub_right h9 _); clear j2 q3 h9 p4 p7 m5; have y9 := Aside0.mk l4; have k6 := Aside0.mk l2; clear l4 l2; have k8 := Aside0.mk (show (a1 : Int).toNat ≤ a2.length from by omega); replace r1 := eq_true r1) | ((with_reducible refine gate_builtin (b := .append) (xs := #[.tmp 53, .tmp 56]) rfl ?_); at_builtin; refine Kd.R_append_rows Kd.string (w0 := w) w.heap.size rfl (.tmp 53) (.tmp 56) 22 9 (.string ⟨#[]⟩) 16 rfl Try.underlying22 info9 rfl (by decide) (by omega) x1 f6 d1 _ _ _ (fun k_ => some k_ ≠ (.slice d4 a2.length a5 : Value).ownBlock) (fun _ => False) rfl rfl ?aO ?aR (fun _ _ h => h) (fun _ h => h.elim) ?aF ?aB ?aS ?aL ?_; (case aR => repeat (first | exact (by repeat (first | (with_reducible exact d6.out) | (with_reducible refine Kd.C_alloc ?_ _) | (with_reducible refine Kd.C_drewN ?_ _) | (with_reducible refine Kd.C_drew ?_) | exact d6.out)) | (with_reducible refine Kd.C_alloc ?_ _) | (with_reducible refine Kd.C_drewN ?_ _) | (with_reducible refine Kd.C_drew ?_))); (case aB => exact (by repeat (first | (with_reducible first | exact HB.out | apply below_alloc | apply pw_below_drewN | apply below_drew1) | exact HB.out))); (case aF => exact (fun k_ hk => Kd.fresh' (Kd.R_lt (by (with_reducible repeat (first | apply Kd.R_alloc | apply Kd.R_drewN | apply Kd.R_drew)); exact a0.out)) k_ hk)); (case aO => exact (by (with_reducible repeat (first | apply Kd.R_alloc | apply Kd.R_drewN | apply Kd.R_drew)); exact Kd.R_mono n4.out (fun _ hk => hk.2))); (case aS => exact (below_size (by repeat (first | (with_reducible first | exact HB.out | apply below_alloc | apply pw_below_drewN | apply below_drew1) | exact HB.out)))); (case aL => have := s3.out; omega); intro e4 y0 ho hb hg hat; rw [← t4.out] at ho; have a7 := Aside0.mk (Kd.R_after (ok := (fun _ => True)) (by (with_reducible repeat (first | apply Kd.R_alloc | apply Kd.R_drewN | apply Kd.R_drew)); exact a0.out) hg hat); have a8 := Aside0.mk (hb); have a9 := Aside0.mk ((show Kd.C Kd.string y0 l6 d1.length d1 from by rw [e9.out, k6.out]; exact Kd.C_drop (m := (a1 : Int).toNat) (c := a5) ((Kd.R_reads' (Kd.R_after (ok := (fun _ => True)) (by (with_reducible repeat (first | apply Kd.R_alloc | apply Kd.R_drewN | apply Kd.R_drew)); exact a0.out) hg hat)).2.2) k8.out ((Kd.R_reads' (Kd.R_after (ok := (fun _ => True)) (by (with_reducible repeat (first | apply Kd.R_alloc | apply Kd.R_drewN | apply Kd.R_drew)); exact a0.out) hg hat)).2.1))); have b9 := Aside0.mk (ho); clear a0 HB d6 n4; have a0 := a7; have HB := a8; have d6 := a9; have b7 := b9; clear a7 a8 a9 b9 ho hb hg hat) | ((with_reducible refine gate_dst (N := 58) rfl ?_); refine Kd.R_lit Kd.string _ 9 ?hg (N := 58) ?hd (xs := ([] : List ByteArray)) (inner := []) (ok := fun _ => True) (okp := fun _ => True) ?hr ?hp (fun _ hk => hk) trivial (Below.refl _ _) (Nat.le_refl _) (by simp) ?_; (case hd => rfl); (case hg => rfl); (case hr => first | (go_simp; done) | (go_simp; rfl)); (case hp => exact (Reps.none _ _)); intro x2 A5 f2 hb hg_ hnew_; clear hg_ hnew_; (first | rw [← o2.out] at f2 | (simp only [Int.reduceToNat] at f2; rw [← o2.out] at f2)); have a7 := Aside0.mk (Kd.R_elder' (by (with_reducible repeat (first | apply Kd.R_alloc | apply Kd.R_drewN | apply Kd.R_drew)); exact a0.out) (Kd.R_base f2) hb); have a8 := Aside0.mk (Kd.R_elder' (by (with_reducible repeat (first | apply Kd.R_alloc | apply Kd.R_drewN | apply Kd.R_drew)); exact b7.out) (Kd.R_base f2) hb); have a9 := Aside0.mk (Kd.R_lower (Kd.R_new' (Kd.R_new' f2 (Kd.R_lt (by (with_reducible repeat (first | apply Kd.R_alloc | apply Kd.R_drewN | apply Kd.R_drew)); exact a0.out))) (Kd.R_lt (by (with_reducible repeat (first | apply Kd.R_alloc | apply Kd.R_drewN | apply Kd.R_drew)); exact b7.out))) (below_size (by repeat (first | (with_reducible first | exact HB.out | apply below_alloc | apply pw_below_drewN | apply below_drew1) | exact HB.out)))); have b9 := Aside0.mk (Kd.C_below (by repeat (first | (with_reducible exact d6.out) | (with_reducible refine Kd.C_alloc ?_ _) | (with_reducible refine Kd.C_drewN ?_ _) | (with_reducible refine Kd.C_drew ?_) | exact d6.out)) hb); have d7 := Aside0.mk (below_step (by repeat (first | (with_reducible first | exact HB.out | apply below_alloc | apply pw_below_drewN | apply below_drew1) | exact HB.out)) hb); clear a0 b7 d6 HB; have a0 := a7; have b7 := a8; have n5 := a9; have d6 := b9; have HB := d7; clear a7 a8 a9 b9 d7 hb f2; have r2 : (a1 : Int) ≤ ((a2.length : Int) : Int) := of_decide_eq_true (by first | (with_reducible assumption) | assumption); obtain ⟨z4, p5, _, t9, _⟩ := info_parts info9; have k4 : a2.length ≤ a5 := (Kd.R_reads' a0.out).2.1; have q4 : Kd.C Kd.string _ d4 a2.length a2 := (Kd.R_reads' a0.out).2.2; have q8 := cut_to (P := Try.prog) 22 9 .i64 Try.underlying22 p5 d4 a2.length a5 a1 (of_decide_eq_true (by first | (with_reducible assumption) | assumption)) r2 k4; have m7 := Kd.C_take (m := (a1 : Int).toNat) q4 (by omega); have m9 : b1.length = (a1 : Int).toNat := (by rw [f8.out, List.length_take]; omega); rw [← f8.out] at m7; rw [← m9] at q8; have e2 := Aside0.mk m7; have y4 := Aside0.mk (show b1.length ≤ a5 from by omega); clear m7 q4 k4 p5 t9; have z0 := Aside0.mk m9; clear m9; have m2 := Aside0.mk (show (a1 : Int).toNat ≤ a2.length from by omega); replace r2 := eq_true r2) | ((with_reducible refine gate_builtin (b := .append) (xs := #[.tmp 58, .tmp 61]) rfl ?_); at_builtin; refine Kd.R_append_rows Kd.string (w0 := w) w.heap.size rfl (.tmp 58) (.tmp 61) 22 9 (.string ⟨#[]⟩) 16 rfl Try.underlying22 info9 rfl (by decide) (by omega) x2 d9 b1 _ _ _ (fun k_ => some k_ ≠ (.slice d4 a2.length a5 : Value).ownBlock ∧ some k_ ≠ (e4 : Value).ownBlock) (fun _ => False) rfl rfl ?aO ?aR (fun _ _ h => h) (fun _ h => h.elim) ?aF ?aB ?aS ?aL ?_; (case aR => repeat (first | exact (by repeat (first | (with_reducible exact e2.out) | (with_reducible refine Kd.C_alloc ?_ _) | (with_reducible refine Kd.C_drewN ?_ _) | (with_reducible refine Kd.C_drew ?_) | exact e2.out)) | (with_reducible refine Kd.C_alloc ?_ _) | (with_reducible refine Kd.C_drewN ?_ _) | (with_reducible refine Kd.C_drew ?_))); (case aB => exact (by repeat (first | (with_reducible first | exact HB.out | apply below_alloc | apply pw_below_drewN | apply below_drew1) | exact HB.out))); (case aF => exact (fun k_ hk => ⟨Kd.fresh' (Kd.R_lt (by (with_reducible repeat (first | apply Kd.R_alloc | apply Kd.R_drewN | apply Kd.R_drew)); exact a0.out)) k_ hk, Kd.fresh' (Kd.R_lt (by (with_reducible repeat (first | apply Kd.R_alloc | apply Kd.R_drewN | apply Kd.R_drew)); exact b7.out)) k_ hk⟩)); (case aO => exact (by (with_reducible repeat (first | apply Kd.R_alloc | apply Kd.R_drewN | apply Kd.R_drew)); exact Kd.R_mono n5.out (fun _ hk => ⟨hk.1.2, hk.2⟩))); (case aS => exact (below_size (by repeat (first | (with_reducible first | exact HB.out | apply below_alloc | apply pw_below_drewN | apply below_drew1) | exact HB.out)))); (case aL => have := s4.out; omega); intro x3 u7 ho hb hg hat; rw [← t5.out] at ho; have a7 := Aside0.mk (Kd.R_after (ok := (fun k_ => some k_ ≠ (e4 : Value).ownBlock)) (by (with_reducible repeat (first | apply Kd.R_alloc | apply Kd.R_drewN | apply Kd.R_drew)); exact Kd.R_mono a0.out (fun _ hk => ⟨hk.1.2, hk.2⟩)) hg hat); have a8 := Aside0.mk (Kd.R_after (ok := (fun k_ => some k_ ≠ (.slice d4 a2.length a5 : Value).ownBlock)) (by (with_reducible repeat (first | apply Kd.R_alloc | apply Kd.R_drewN | apply Kd.R_drew)); exact b7.out) hg hat); have a9 := Aside0.mk (hb); have b9 := Aside0.mk ((show Kd.C Kd.string u7 l6 d1.length d1 from by rw [e9.out, k6.out]; exact Kd.C_drop (m := (a1 : Int).toNat) (c := a5) ((Kd.R_reads' (Kd.R_after (ok := (fun k_ => some k_ ≠ (e4 : Value).ownBlock)) (by (with_reducible repeat (first | apply Kd.R_alloc | apply Kd.R_drewN | apply Kd.R_drew)); exact Kd.R_mono a0.out (fun _ hk => ⟨hk.1.2, hk.2⟩)) hg hat)).2.2) k8.out ((Kd.R_reads' (Kd.R_after (ok := (fun k_ => some k_ ≠ (e4 : Value).ownBlock)) (by (with_reducible repeat (first | apply Kd.R_alloc | apply Kd.R_drewN | apply Kd.R_drew)); exact Kd.R_mono a0.out (fun _ hk => ⟨hk.1.2, hk.2⟩)) hg hat)).2.1))); have d7 := Aside0.mk ((show Kd.C Kd.string u7 d4 b1.length b1 from by rw [f8.out]; exact Kd.C_take (m := (a1 : Int).toNat) ((Kd.R_reads' (Kd.R_after (ok := (fun k_ => some k_ ≠ (e4 : Value).ownBlock)) (by (with_reducible repeat (first | apply Kd.R_alloc | apply Kd.R_drewN | apply Kd.R_drew)); exact Kd.R_mono a0.out (fun _ hk => ⟨hk.1.2, hk.2⟩)) hg hat)).2.2) m2.out)); have e0 := Aside0.mk (ho); clear a0 b7 HB d6 e2 n5; have a0 := a7; have b7 := a8; have HB := a9; have d6 := b9; have e2 := d7; have n6 := e0; clear a7 a8 a9 b9 d7 e0 ho hb hg hat) | ((with_reducible refine gate_builtin (b := .append) (xs := #[.tmp 62, .tmp 64]) rfl ?_); at_builtin; refine Kd.R_append Kd.string (w0 := w) w.heap.size rfl (.tmp 62) (.tmp 64) 22 9 (.string ⟨#[]⟩) 16 rfl Try.underlying22 info9 rfl (by decide) (by omega) x3 d3 a6 [.string a6] (fun k_ => some k_ ≠ (.slice d4 a2.length a5 : Value).ownBlock ∧ some k_ ≠ (e4 : Value).ownBlock) (fun _ => False) rfl rfl ?aP (fun _ hk => hk.elim) ?aF ?aO ?aB ?aS ?aL ?_; (case aP => exact rfl); (case aB => exact (by repeat (first | (with_reducible first | exact HB.out | apply below_alloc | apply pw_below_drewN | apply below_drew1) | exact HB.out))); (case aF => exact (fun k_ hk => ⟨Kd.fresh' (Kd.R_lt (by (with_reducible repeat (first | apply Kd.R_alloc | apply Kd.R_drewN | apply Kd.R_drew)); exact a0.out)) k_ hk, Kd.fresh' (Kd.R_lt (by (with_reducible repeat (first | apply Kd.R_alloc | apply Kd.R_drewN | apply Kd.R_drew)); exact b7.out)) k_ hk⟩)); (case aO => exact (by (with_reducible repeat (first | apply Kd.R_alloc | apply Kd.R_drewN | apply Kd.R_drew)); exact n6.out)); (case aS => exact (below_size (by repeat (first | (with_reducible first | exact HB.out | apply below_alloc | apply pw_below_drewN | apply below_drew1) | exact HB.out)))); (case aL => have := s5.out; omega); intro x4 u8 ho hb hg hat; rw [← t6.out] at ho; have a7 := Aside0.mk (Kd.R_after (ok := (fun k_ => some k_ ≠ (e4 : Value).ownBlock)) (by (with_reducible repeat (first | apply Kd.R_alloc | apply Kd.R_drewN | apply Kd.R_drew)); exact a0.out) hg hat); have a8 := Aside0.mk (Kd.R_after (ok := (fun k_ => some k_ ≠ (.slice d4 a2.length a5 : Value).ownBlock)) (by (with_reducible repeat (first | apply Kd.R_alloc | apply Kd.R_drewN | apply Kd.R_drew)); exact b7.out) hg hat); have a9 := Aside0.mk (hb); have b9 := Aside0.mk ((show Kd.C Kd.string u8 l6 d1.length d1 from by rw [e9.out, k6.out]; exact Kd.C_drop (m := (a1 : Int).toNat) (c := a5) ((Kd.R_reads' (Kd.R_after (ok := (fun k_ => some k_ ≠ (e4 : Value).ownBlock)) (by (with_reducible repeat (first | apply Kd.R_alloc | apply Kd.R_drewN | apply Kd.R_drew)); exact a0.out) hg hat)).2.2) k8.out ((Kd.R_reads' (Kd.R_after (ok := (fun k_ => some k_ ≠ (e4 : Value).ownBlock)) (by (with_reducible repeat (first | apply Kd.R_alloc | apply Kd.R_drewN | apply Kd.R_drew)); exact a0.out) hg hat)).2.1))); have d7 := Aside0.mk ((show Kd.C Kd.string u8 d4 b1.length b1 from by rw [f8.out]; exact Kd.C_take (m := (a1 : Int).toNat) ((Kd.R_reads' (Kd.R_after (ok := (fun k_ => some k_ ≠ (e4 : Value).ownBlock)) (by (with_reducible repeat (first | apply Kd.R_alloc | apply Kd.R_drewN | apply Kd.R_drew)); exact a0.out) hg hat)).2.2) m2.out)); have e0 := Aside0.mk (ho); clear a0 b7 HB d6 e2 n6; have a0 := a7; have b7 := a8; have HB := a9; have d6 := b9; have e2 := d7; have n7 := e0; clear a7 a8 a9 b9 d7 e0 ho hb hg hat; obtain ⟨i3, i7, w4⟩ := Kd.R_slice b7.out; subst w4) | ((with_reducible refine gate_builtin (b := .append) (xs := #[.tmp 65, .tmp 66]) rfl ?_); at_builtin; refine Kd.R_append_rows Kd.string (w0 := w) w.heap.size rfl (.tmp 65) (.tmp 66) 22 9 (.string ⟨#[]⟩) 16 rfl Try.underlying22 info9 rfl (by decide) (by omega) x4 b5 b3 _ _ _ (fun k_ => some k_ ≠ (.slice d4 a2.length a5 : Value).ownBlock ∧ some k_ ≠ (.slice i3 b3.length i7 : Value).ownBlock) (fun _ => False) rfl rfl ?aO ?aR (fun _ _ h => h) (fun _ h => h.elim) ?aF ?aB ?aS ?aL ?_; (case aR => repeat (first | exact (Kd.R_reads' b7.out).2.2 | (with_reducible refine Kd.C_alloc ?_ _) | (with_reducible refine Kd.C_drewN ?_ _) | (with_reducible refine Kd.C_drew ?_))); (case aB => exact (by repeat (first | (with_reducible first | exact HB.out | apply below_alloc | apply pw_below_drewN | apply below_drew1) | exact HB.out))); (case aF => exact (fun k_ hk => ⟨Kd.fresh' (Kd.R_lt (by (with_reducible repeat (first | apply Kd.R_alloc | apply Kd.R_drewN | apply Kd.R_drew)); exact a0.out)) k_ hk, Kd.fresh' (Kd.R_lt (by (with_reducible repeat (first | apply Kd.R_alloc | apply Kd.R_drewN | apply Kd.R_drew)); exact b7.out)) k_ hk⟩)); (case aO => exact (by (with_reducible repeat (first | apply Kd.R_alloc | apply Kd.R_drewN | apply Kd.R_drew)); exact n7.out)); (case aS => exact (below_size (by repeat (first | (with_reducible first | exact HB.out | apply below_alloc | apply pw_below_drewN | apply below_drew1) | exact HB.out)))); (case aL => have := s6.out; omega); intro z7 u9 ho hb hg hat; rw [← t7.out] at ho; have a7 := Aside0.mk (Kd.R_after (ok := (fun k_ => some k_ ≠ (.slice i3 b3.length i7 : Value).ownBlock)) (by (with_reducible repeat (first | apply Kd.R_alloc | apply Kd.R_drewN | apply Kd.R_drew)); exact a0.out) hg hat); have a8 := Aside0.mk (Kd.R_after (ok := (fun k_ => some k_ ≠ (.slice d4 a2.length a5 : Value).ownBlock)) (by (with_reducible repeat (first | apply Kd.R_alloc | apply Kd.R_drewN | apply Kd.R_drew)); exact b7.out) hg hat); have a9 := Aside0.mk (hb); have b9 := Aside0.mk ((show Kd.C Kd.string u9 l6 d1.length d1 from by rw [e9.out, k6.out]; exact Kd.C_drop (m := (a1 : Int).toNat) (c := a5) ((Kd.R_reads' (Kd.R_after (ok := (fun k_ => some k_ ≠ (.slice i3 b3.length i7 : Value).ownBlock)) (by (with_reducible repeat (first | apply Kd.R_alloc | apply Kd.R_drewN | apply Kd.R_drew)); exact a0.out) hg hat)).2.2) k8.out ((Kd.R_reads' (Kd.R_after (ok := (fun k_ => some k_ ≠ (.slice i3 b3.length i7 : Value).ownBlock)) (by (with_reducible repeat (first | apply Kd.R_alloc | apply Kd.R_drewN | apply Kd.R_drew)); exact a0.out) hg hat)).2.1))); have d7 := Aside0.mk ((show Kd.C Kd.string u9 d4 b1.length b1 from by rw [f8.out]; exact Kd.C_take (m := (a1 : Int).toNat) ((Kd.R_reads' (Kd.R_after (ok := (fun k_ => some k_ ≠ (.slice i3 b3.length i7 : Value).ownBlock)) (by (with_reducible repeat (first | apply Kd.R_alloc | apply Kd.R_drewN | apply Kd.R_drew)); exact a0.out) hg hat)).2.2) m2.out)); have e0 := Aside0.mk (ho); clear a0 b7 HB d6 e2 n7; have a0 := a7; have b7 := a8; have HB := a9; have d6 := b9; have e2 := d7; have r8 := e0; clear a7 a8 a9 b9 d7 e0 ho hb hg hat))
                go_roundg k3
                case measure => have := f0.out; have := i1.out; have := j7.out; omega
                case rel => exact ⟨(r5), (wrap64 (a4 + 1)), (by first | rfl | (simp; done) | (simp [*]; done)), H', ⟨by have := f0.out; have := i1.out; have := j7.out; omega⟩, ⟨by (with_reducible repeat (first | apply Kd.R_alloc | apply Kd.R_drewN | apply Kd.R_drew)); exact Kd.R_mono r8.out (fun _ hk => trivial)⟩, ⟨by repeat (first | (with_reducible first | exact HB.out | apply below_alloc | apply pw_below_drewN | apply below_drew1) | exact HB.out)⟩⟩
               ·rw [if_neg p1] at H;exact absurd H (by simp)
              ·rw [if_neg p0] at H;exact absurd H (by simp)
             ·rw [if_neg o9] at H;exact absurd H (by simp)
            ·rw [if_neg o8] at H;exact absurd H (by simp)
           ·rw [if_neg l9] at H;exact absurd H (by simp)
          ·rw [if_neg l8] at H;exact absurd H (by simp)
   ·rw [if_neg c5] at H;have c5b0 : decide (a4 < (wrap64 ((l0.length : Int) + (l1.length : Int)))) = false := decide_eq_false c5;clear c5;obtain rfl := Option.some.inj H;go_wp2
    go_ret
    exact ⟨_, by first | rfl | (simp [errW_none, errW_some] <;> rfl) | (simp [*, errW_none, errW_some] <;> rfl), by (with_reducible repeat (first | apply Kd.R_alloc | apply Kd.R_drewN | apply Kd.R_drew)); exact a0.out, by repeat (first | (with_reducible first | exact HB.out | apply below_alloc | apply pw_below_drewN | apply below_drew1) | exact HB.out)⟩
end Go.Proofs.Ytmcbkmfpmcbdpaa.Pr
set_option linter.unusedVariables false
set_option linter.unusedSimpArgs false
namespace Go.Proofs.Ytmcbkmfpmcbdpaa.PL
theorem rind {α : Type} {P : List α → Prop} (h0 : P []) (h1 : ∀ l a, P l → P (l ++ [a])) (l : List α) : P l := by
 have : ∀ m : List α, P m.reverse := by
  intro m
  induction m with
  | nil => exact h0
  | cons a r ih => rw [List.reverse_cons]; exact h1 _ _ ih
 have := this l.reverse
 rwa [List.reverse_reverse] at this
section
variable {κ : Type} [DecidableEq κ]
end
section
variable {κ τ : Type} [DecidableEq κ] [DecidableEq τ]
end
section
variable {κ : Type} [DecidableEq κ]
theorem take_snoc' {α : Type} {l : List α} {m : Nat} (h : m < l.length) : l.take (m + 1) = l.take m ++ [l[m]] := by
 rw [List.take_add_one, List.getElem?_eq_getElem h]; rfl
end
end Go.Proofs.Ytmcbkmfpmcbdpaa.PL
set_option linter.unusedVariables false
set_option linter.unusedSimpArgs false
namespace Go.Proofs.Ytmcbkmfpmcbdpaa.PL
section
variable {α : Type} {lt : α → α → Prop}
theorem uniqueG (ir : ∀ a, ¬ lt a a) (tr : ∀ a b c, lt a b → lt b c → lt a c) : ∀ (a b : List α), a.Pairwise lt → b.Pairwise lt → (∀ x, x ∈ a ↔ x ∈ b) → a = b
 | [], [], _, _, _ => rfl
 | [], y :: r, _, _, h => by have := (h y).2 (List.mem_cons_self ..); cases this
 | x :: r, [], _, _, h => by have := (h x).1 (List.mem_cons_self ..); cases this
 | x :: r, y :: s, ha, hb, h => by
  have ha' := List.pairwise_cons.1 ha
  have hb' := List.pairwise_cons.1 hb
  have e : x = y := by
   rcases List.mem_cons.1 ((h x).1 (List.mem_cons_self ..)) with q | q
   ·exact q
   ·rcases List.mem_cons.1 ((h y).2 (List.mem_cons_self ..)) with q2 | q2
    ·exact q2.symm
    ·exact absurd (tr _ _ _ (hb'.1 x q) (ha'.1 y q2)) (ir y)
  subst e
  rw [uniqueG ir tr r s ha'.2 hb'.2 fun z => ?_]
  have hz := h z
  constructor
  ·intro q
   rcases List.mem_cons.1 (hz.1 (List.mem_cons_of_mem _ q)) with rfl | q2
   ·exact absurd (ha'.1 _ q) (ir _)
   ·exact q2
  ·intro q
   rcases List.mem_cons.1 (hz.2 (List.mem_cons_of_mem _ q)) with rfl | q2
   ·exact absurd (hb'.1 _ q) (ir _)
   ·exact q2
def insG [DecidableRel lt] (s : α) : List α → List α
 | [] => [s]
 | x :: r => if lt s x then s :: x :: r else if lt x s then x :: insG s r else x :: r
def uniG [DecidableRel lt] (l : List α) : List α := l.foldl (fun o s => insG (lt := lt) s o) []
variable [DecidableRel lt]
theorem insG_mem (tri : ∀ a b, ¬ lt a b → ¬ lt b a → a = b) (e x : α) : ∀ l, x ∈ insG (lt := lt) e l ↔ x = e ∨ x ∈ l
 | [] => by simp [insG]
 | y :: r => by
  unfold insG
  split
  ·simp
  ·rename_i h1
   split
   ·rw [List.mem_cons, insG_mem tri e x r, List.mem_cons]
    constructor
    ·rintro (h | h | h)
     ·exact .inr (.inl h)
     ·exact .inl h
     ·exact .inr (.inr h)
    ·rintro (h | h | h)
     ·exact .inr (.inl h)
     ·exact .inl h
     ·exact .inr (.inr h)
   ·rename_i h2
    obtain rfl := tri _ _ h1 h2
    simp
theorem insG_sorted (tr : ∀ a b c, lt a b → lt b c → lt a c) (tri : ∀ a b, ¬ lt a b → ¬ lt b a → a = b) (e : α) : ∀ l, l.Pairwise lt → (insG (lt := lt) e l).Pairwise lt
 | [], _ => by simp [insG]
 | y :: r, h => by
  have h' := List.pairwise_cons.1 h
  unfold insG
  split
  ·rename_i q
   refine List.pairwise_cons.2 ⟨fun x hx => ?_, h⟩
   rcases List.mem_cons.1 hx with rfl | hx
   ·exact q
   ·exact tr _ _ _ q (h'.1 x hx)
  ·split
   ·rename_i q
    refine List.pairwise_cons.2 ⟨fun x hx => ?_, insG_sorted tr tri e r h'.2⟩
    rcases (insG_mem tri e x r).1 hx with rfl | hx
    ·exact q
    ·exact h'.1 x hx
   ·exact h
theorem uniG_fold (tr : ∀ a b c, lt a b → lt b c → lt a c) (tri : ∀ a b, ¬ lt a b → ¬ lt b a → a = b) : ∀ (es o : List α), o.Pairwise lt → (es.foldl (fun o s => insG (lt := lt) s o) o).Pairwise lt ∧ ∀ x, x ∈ es.foldl (fun o s => insG (lt := lt) s o) o ↔ x ∈ es ∨ x ∈ o
 | [], o, h => ⟨h, fun x => by simp⟩
 | e :: r, o, h => by
  have ih := uniG_fold tr tri r (insG (lt := lt) e o) (insG_sorted tr tri e o h)
  refine ⟨ih.1, fun x => ?_⟩
  rw [List.foldl_cons, ih.2 x, insG_mem tri, List.mem_cons]
  constructor
  ·rintro (h | h | h)
   ·exact .inl (.inr h)
   ·exact .inl (.inl h)
   ·exact .inr h
  ·rintro ((h | h) | h)
   ·exact .inr (.inl h)
   ·exact .inl h
   ·exact .inr (.inr h)
theorem uniG_sorted (tr : ∀ a b c, lt a b → lt b c → lt a c) (tri : ∀ a b, ¬ lt a b → ¬ lt b a → a = b) (l : List α) : (uniG (lt := lt) l).Pairwise lt := (uniG_fold tr tri l [] List.Pairwise.nil).1
theorem uniG_mem (tr : ∀ a b c, lt a b → lt b c → lt a c) (tri : ∀ a b, ¬ lt a b → ¬ lt b a → a = b) (l : List α) (x : α) : x ∈ uniG (lt := lt) l ↔ x ∈ l := by
 have := (uniG_fold tr tri l [] List.Pairwise.nil).2 x
 rw [show uniG (lt := lt) l = l.foldl (fun o s => insG (lt := lt) s o) [] from rfl, this]
 simp
theorem insG_at (ir : ∀ a, ¬ lt a a) (tr : ∀ a b c, lt a b → lt b c → lt a c) (tri : ∀ a b, ¬ lt a b → ¬ lt b a → a = b) {e : α} {o : List α} (ho : o.Pairwise lt) {t : Nat} (ht : t ≤ o.length) (h1 : ∀ a ∈ o.take t, lt a e) (h2 : ∀ a ∈ o.drop t, lt e a) : insG (lt := lt) e o = o.take t ++ e :: o.drop t := by
 refine uniqueG ir tr _ _ (insG_sorted tr tri e o ho) ?_ fun x => ?_
 ·refine List.pairwise_append.2 ⟨ho.sublist (List.take_sublist _ _), List.pairwise_cons.2 ⟨h2, ho.sublist (List.drop_sublist _ _)⟩, fun a ha b hb => ?_⟩
  rcases List.mem_cons.1 hb with rfl | hb
  ·exact h1 a ha
  ·exact tr _ _ _ (h1 a ha) (h2 b hb)
 ·rw [insG_mem tri, List.mem_append, List.mem_cons]
  constructor
  ·rintro (h | h)
   ·exact .inr (.inl h)
   ·rw [← List.take_append_drop t o, List.mem_append] at h
    rcases h with h | h
    ·exact .inl h
    ·exact .inr (.inr h)
  ·rintro (h | h | h)
   ·exact .inr (List.mem_of_mem_take h)
   ·exact .inl h
   ·exact .inr (List.mem_of_mem_drop h)
theorem insG_in (ir : ∀ a, ¬ lt a a) (tr : ∀ a b c, lt a b → lt b c → lt a c) (tri : ∀ a b, ¬ lt a b → ¬ lt b a → a = b) {e : α} {o : List α} (ho : o.Pairwise lt) (he : e ∈ o) : insG (lt := lt) e o = o :=
 uniqueG ir tr _ _ (insG_sorted tr tri e o ho) ho fun x => by
  rw [insG_mem tri]
  constructor
  ·rintro (rfl | h)
   ·exact he
   ·exact h
  ·exact .inr
end
section
variable {α : Type} [DecidableEq α]
def ddG : List α → List α
 | [] => []
 | [a] => [a]
 | a :: b :: r => if a = b then ddG (b :: r) else a :: ddG (b :: r)
theorem ddG_mem (x : α) : ∀ l, x ∈ ddG l ↔ x ∈ l
 | [] => by simp [ddG]
 | [a] => by simp [ddG]
 | a :: b :: r => by
  have ih := ddG_mem x (b :: r)
  unfold ddG
  split
  ·rename_i h
   subst h
   rw [ih]
   simp
  ·rw [List.mem_cons, ih, List.mem_cons (a := x) (b := a)]
theorem ddG_strict {lt : α → α → Prop} (tr : ∀ a b c, lt a b → lt b c → lt a c) : ∀ l : List α, l.Pairwise (fun a b => a = b ∨ lt a b) → (ddG l).Pairwise lt
 | [], _ => by simp [ddG]
 | [a], _ => by simp [ddG]
 | a :: b :: r, h => by
  have h' := List.pairwise_cons.1 h
  have ih := ddG_strict tr (b :: r) h'.2
  unfold ddG
  split
  ·exact ih
  ·rename_i q
   refine List.pairwise_cons.2 ⟨fun x hx => ?_, ih⟩
   have hab : lt a b := by
    rcases h'.1 b (List.mem_cons_self ..) with e | e
    ·exact absurd e q
    ·exact e
   rcases List.mem_cons.1 ((ddG_mem x (b :: r)).1 hx) with rfl | hx
   ·exact hab
   ·rcases (List.pairwise_cons.1 h'.2).1 x hx with e | e
    ·rw [← e]; exact hab
    ·exact tr _ _ _ hab e
theorem ddG_snoc : ∀ (l : List α) (b a : α), ddG (l ++ [b, a]) = if b = a then ddG (l ++ [b]) else ddG (l ++ [b]) ++ [a]
 | [], b, a => by
  show ddG [b, a] = _
  unfold ddG
  by_cases q : b = a
  ·rw [if_pos q, if_pos q, q]; rfl
  ·rw [if_neg q, if_neg q]; rfl
 | [x], b, a => by
  have ih := ddG_snoc [] b a
  show ddG (x :: b :: [a]) = _
  show _ = if b = a then ddG (x :: b :: []) else ddG (x :: b :: []) ++ [a]
  unfold ddG
  rw [show ddG [b, a] = _ from ih]
  split
  ·split <;> rfl
  ·split <;> rfl
 | x :: y :: r, b, a => by
  have ih := ddG_snoc (y :: r) b a
  show ddG (x :: y :: (r ++ [b, a])) = _
  show _ = if b = a then ddG (x :: y :: (r ++ [b])) else ddG (x :: y :: (r ++ [b])) ++ [a]
  unfold ddG
  rw [show ddG (y :: (r ++ [b, a])) = _ from ih]
  split
  ·rfl
  ·split <;> rfl
end
end Go.Proofs.Ytmcbkmfpmcbdpaa.PL
set_option linter.unusedVariables false
set_option linter.unusedSimpArgs false
namespace Go.Proofs.Ytmcbkmfpmcbdpaa.H
open Go.RowKit Go.Proofs.Ytmcbkmfpmcbdpaa.Pr Go.Proofs.YtmcbkmfpmcbdpaaW.PrintWords Go.Proofs.Ytmcbkmfpmcbdpaa.Sem Go.Proofs.Ytmcbkmfpmcbdpaa.PL
theorem compact_ddG {α : Type} [Inhabited α] [DecidableEq α] (es : List α) : Lib.compact es = ddG es := by
 have : ∀ m, m ≤ es.length → Lib.compactUpTo es.toArray m = ddG (es.take m) := by
  intro m
  induction m with
  | zero => intro _; simp [Lib.compactUpTo, ddG]
  | succ m ih =>
   intro h
   have hm : m < es.length := by omega
   have e0 : es.toArray[m]! = es[m] := by rw [getElem!_pos es.toArray m (by simpa using hm)]; simp
   rw [Lib.compactUpTo_succ, ih (by omega), e0]
   rw [List.take_add_one, List.getElem?_eq_getElem hm]
   cases m with
   | zero => simp [Lib.keeps, ddG]
   | succ m =>
    have hm' : m < es.length := by omega
    have e1 : es.toArray[m]! = es[m] := by rw [getElem!_pos es.toArray m (by simpa using hm')]; simp
    have ek : Lib.keeps es.toArray (m + 1) = decide (es[m] ≠ es[m + 1]) := by
     unfold Lib.keeps
     rw [e0, show m + 1 - 1 = m from rfl, e1]
     rw [decide_eq_decide]
     constructor
     ·rintro (h | h)
      ·omega
      ·exact fun q => h q.symm
     ·exact fun h => .inr fun q => h q.symm
    rw [ek, List.take_add_one, List.getElem?_eq_getElem hm']
    simp only [Option.toList_some, List.append_assoc, List.cons_append, List.nil_append]
    rw [ddG_snoc]
    by_cases q : es[m] = es[m + 1]
    ·simp [q]
    ·simp [q]
 unfold Lib.compact
 rw [this _ (Nat.le_refl _), List.take_length]
def slt (a b : ByteArray) : Prop := a.data.toList < b.data.toList
instance : DecidableRel slt := fun a b => by unfold slt; infer_instance
theorem slt_irr (a : ByteArray) : ¬ slt a a := List.lt_irrefl _
theorem slt_tr (a b c : ByteArray) (h1 : slt a b) (h2 : slt b c) : slt a c := List.lt_trans h1 h2
theorem slt_tri (a b : ByteArray) (h1 : ¬ slt a b) (h2 : ¬ slt b a) : a = b := by
 have : a.data.toList = b.data.toList := List.le_antisymm (show a.data.toList ≤ b.data.toList from h2) h1
 exact ByteArray.ext (Array.toList_inj.1 this)
def uniS (l : List ByteArray) : List ByteArray := uniG (lt := slt) l
theorem uniS_sorted (l : List ByteArray) : (uniS l).Pairwise slt := uniG_sorted slt_tr slt_tri l
theorem uniS_mem (l : List ByteArray) (x : ByteArray) : x ∈ uniS l ↔ x ∈ l := uniG_mem slt_tr slt_tri l x
theorem unionS_uni (xs ys : List ByteArray) : unionS xs ys = uniS (xs ++ ys) := by
 have e : unionS xs ys = (ddG (((xs ++ ys).map fun s => s.data.toList).mergeSort fun x y => decide (x ≤ y))).map fun l => (⟨l.toArray⟩ : ByteArray) := by
  unfold unionS cmpt srt
  rw [← compact_ddG]
  congr 2
  rw [List.map_map]
  simp [Function.comp_def]
 rw [e]
 have hp := List.pairwise_mergeSort (le := fun x y : List UInt8 => decide (x ≤ y)) (fun a b c h1 h2 => by
  simp only [decide_eq_true_eq] at h1 h2 ⊢
  exact List.le_trans h1 h2) (fun a b => by
  simp only [Bool.or_eq_true, decide_eq_true_eq]
  exact List.le_total a b) ((xs ++ ys).map fun s => s.data.toList)
 have hs := ddG_strict (lt := fun x y : List UInt8 => x < y) (fun a b c => List.lt_trans) _ (hp.imp (fun {a b} h => by
  simp only [decide_eq_true_eq] at h
  rcases List.le_iff_lt_or_eq.1 h with q | q
  ·exact .inr q
  ·exact .inl q))
 refine uniqueG slt_irr slt_tr _ _ ?_ (uniS_sorted _) fun x => ?_
 ·rw [List.pairwise_map]
  exact hs.imp (fun {a b} h => by show (⟨a.toArray⟩ : ByteArray).data.toList < (⟨b.toArray⟩ : ByteArray).data.toList; simpa using h)
 ·rw [uniS_mem, List.mem_map]
  constructor
  ·rintro ⟨l, hl, rfl⟩
   rw [ddG_mem, (List.mergeSort_perm _ _).mem_iff, List.mem_map] at hl
   obtain ⟨s, hs, rfl⟩ := hl
   simpa using hs
  ·intro hx
   refine ⟨x.data.toList, ?_, by simp⟩
   rw [ddG_mem, (List.mergeSort_perm _ _).mem_iff, List.mem_map]
   exact ⟨x, hx, rfl⟩
end Go.Proofs.Ytmcbkmfpmcbdpaa.H
set_option linter.unusedVariables false
set_option linter.unusedSimpArgs false
namespace Go.Proofs.Ytmcbkmfpmcbdpaa.Sem
open Go.Proofs.Ytmcbkmfpmcbdpaa.Pr
def insE (e : Ed) : List Ed → List Ed
 | [] => [e]
 | x :: r => if elt e x then e :: x :: r else if cmpE e x = 0 then x :: r else x :: insE e r
def sortE (es : List Ed) : List Ed := es.foldl (fun o e => insE e o) []
def hop (t : List Bool) (e : Ed) : List Bool := if t.getD e.f0.toNat false && !t.getD e.f2.toNat false then t.set e.f2.toNat true else t
def sweepT (es : List Ed) (t : List Bool) : List Bool := es.foldl hop t
def closeT (es : List Ed) : Nat → List Bool → List Bool
 | 0, t => t
 | k + 1, t => closeT es k (sweepT es t)
def reachT (n : Nat) (es : List Ed) (v : Int) : List Bool := closeT es n ((List.replicate n false).set v.toNat true)
def Shut (es : List Ed) (t : List Bool) : Prop := ∀ e ∈ es, t.getD e.f0.toNat false = true → t.getD e.f2.toNat false = true
end Go.Proofs.Ytmcbkmfpmcbdpaa.Sem
set_option linter.unusedVariables false
set_option linter.unusedSimpArgs false
namespace Go.Proofs.Ytmcbkmfpmcbdpaa.H
open Go.RowKit Go.Proofs.Ytmcbkmfpmcbdpaa.Pr Go.Proofs.YtmcbkmfpmcbdpaaW.PrintWords Go.Proofs.Ytmcbkmfpmcbdpaa.Sem
theorem getD_get {α : Type} {xs : List α} {d : α} {k : Nat} (h : k < xs.length) : xs.getD k d = xs[k] := by
 rw [List.getD_eq_getElem?_getD, List.getElem?_eq_getElem h]; rfl
set_option maxHeartbeats 4000000 in
set_option maxRecDepth 100000 in
theorem clone_any (es : List Ed) (A : Option Addr) (c : Nat) (w : World) (hC : Kd.C k80 w A es.length es) (hel : es.length ≤ 1000000) :
  Calls Try.prog 132 #[.slice A es.length c] w fun e w' => ∃ v0 : Value, e = .returned v0 ∧ Kd.R k80 80 w' w.heap.size (fun _ => True) v0 es ∧ Below w.heap.size w w' := by
 have HC := Aside0.mk hC;have HB := Aside0.mk (Below.refl w.heap.size w);rcases A with _ | ad
 ·have h0 : es.length = 0 := by
   rcases Nat.eq_zero_or_pos es.length with h | h
   ·exact h
   ·obtain ⟨ad, h, _⟩ := hC.2.2 h
    cases h
  obtain rfl : es = [] := List.eq_nil_of_length_eq_zero h0;clear hC HC h0;have q_ : ∀ (W : World) (a : Option Addr) (n c n' c' : Nat), (binOp .eql 23 (.slice a n c) (.slice none n' c')).run Try.prog W = .ok (.bool a.isNone) W := fun W a n c n' c' => Lib.run_eql_slice_nil W _ _ a n c n' c' Try.underlying23
  go_enter Try.func132, Try.ntmps132
  go_wp2
  go_ret
  exact ⟨_, rfl, Kd.R_nil _ _ _ _ _, HB.out⟩
 ·clear hC;have q_ : ∀ (W : World) (a : Option Addr) (n c n' c' : Nat), (binOp .eql 23 (.slice a n c) (.slice none n' c')).run Try.prog W = .ok (.bool a.isNone) W := fun W a n c n' c' => Lib.run_eql_slice_nil W _ _ a n c n' c' Try.underlying23
  go_enter Try.func132, Try.ntmps132
  go_wp2_with (first
   | ((with_reducible refine gate_dst (N := 5) rfl ?_); refine Kd.R_lit k80 _ 80 ?hg (N := 5) ?hd (xs := ([] : List Ed)) (inner := []) (ok := fun _ => True) (okp := fun _ => True) ?hr ?hp (fun _ hk => hk) trivial (Below.refl _ _) (Nat.le_refl _) (by simp) ?_; (case hd => rfl); (case hg => rfl); (case hr => first | (go_simp; done) | (go_simp; rfl)); (case hp => exact (Reps.none _ _)); intro v1 w1 ho hb hg_ hnew_; clear hg_ hnew_; have HO := Aside0.mk ho; have HB1 := Aside0.mk (below_step HB.out hb); clear ho hb)
   | (at_builtin; refine Kd.R_append_rows k80 (w0 := w) w.heap.size rfl (.tmp 5) (.tmp 6) 23 80 (.agg #[(.int .i64 0), (.int .i64 0), (.int .i64 0)]) 24 rfl Try.underlying23 info80 rfl (by decide) (by omega) v1 [] es (some ad) _ c (fun _ => True) (fun _ => False) rfl rfl HO.out (Kd.C_below HC.out HB1.out) (fun _ _ h => h) (fun _ h => h.elim) (fun _ _ => trivial) HB1.out HB1.out.size (by simp; omega) ?_; intro v2 w2 ho hb hg hat; have HO2 := Aside0.mk ho; have HB2 := Aside0.mk hb; clear ho hb hg hat))
  go_ret
  exact ⟨_, rfl, by simpa using HO2.out, HB2.out⟩
end Go.Proofs.Ytmcbkmfpmcbdpaa.H
set_option linter.unusedVariables false
set_option linter.unusedSimpArgs false
namespace Go.Proofs.Ytmcbkmfpmcbdpaa.H
open Go.RowKit Go.Proofs.Ytmcbkmfpmcbdpaa.Pr Go.Proofs.YtmcbkmfpmcbdpaaW.PrintWords Go.Proofs.Ytmcbkmfpmcbdpaa.Sem Go.Proofs.Ytmcbkmfpmcbdpaa.PL
theorem toList_eq {a b : ByteArray} : a.toList = b.toList ↔ a = b := by
 constructor
 ·intro h
  exact ByteArray.ext (Array.toList_inj.1 (by simpa [ByteArray.toList_eq] using h))
 ·intro h; rw [h]
instance : LawfulBEq ByteArray where
  eq_of_beq {a b} h := by
    have h2 : a.data = b.data := eq_of_beq (show (a.data == b.data) = true from h)
    exact ByteArray.ext h2
  rfl {a} := show (a.data == a.data) = true from beq_self_eq_true _
def plc (ls : List ByteArray) (s : ByteArray) : Int := if s ∈ ls then (ls.idxOf s : Int) else -1
theorem rdS (ls : List ByteArray) {i : Nat} (hi : i < ls.length) : rdOf ByteArray.empty ls (i : Int) = ls[i] := by
 unfold rdOf
 rw [Int.toNat_natCast, getD_get hi]
theorem idxOf_beforeB : ∀ (l : List ByteArray) (k : ByteArray) (j : Nat) (h : j < l.length), j < l.idxOf k → l[j] ≠ k
 | [], _, _, h, _ => by simp at h
 | a :: r, k, j, h, hj => by
  rw [List.idxOf_cons] at hj
  by_cases q : a = k
  ·subst q; simp at hj
  ·rw [show (a == k) = false by simpa using q] at hj
   cases j with
   | zero => simpa using q
   | succ j => simp only [cond_false] at hj; rw [List.getElem_cons_succ]; exact idxOf_beforeB r k j (by simpa using h) (by omega)
theorem plc_at {ls : List ByteArray} {s : ByteArray} {i : Nat} (hi : i < ls.length) (h : ls[i] = s) (hb : ∀ j (hj : j < ls.length), j < i → ls[j] ≠ s) : plc ls s = (i : Int) := by
 unfold plc
 rw [if_pos (h ▸ List.getElem_mem hi)]
 congr 1
 have h1 := List.idxOf_lt_length_of_mem (h ▸ List.getElem_mem hi : s ∈ ls)
 have h2 := List.getElem_idxOf h1
 rcases Nat.lt_trichotomy (ls.idxOf s) i with q | q | q
 ·exact absurd h2 (hb _ h1 q)
 ·exact q
 ·exact absurd h (idxOf_beforeB ls s i hi q)
theorem plc_no {ls : List ByteArray} {s : ByteArray} (hb : ∀ j (hj : j < ls.length), ls[j] ≠ s) : plc ls s = -1 := by
 unfold plc
 rw [if_neg fun h => ?_]
 obtain ⟨j, hj, e⟩ := List.getElem_of_mem h
 exact hb j hj e
theorem plc_nonneg {ls : List ByteArray} {s : ByteArray} : 0 ≤ plc ls s ↔ s ∈ ls := by
 unfold plc
 split
 ·rename_i h
  exact ⟨fun _ => h, fun _ => by omega⟩
 ·rename_i h
  exact ⟨fun q => by omega, fun q => absurd q h⟩
theorem plc_lt {ls : List ByteArray} {s : ByteArray} : plc ls s < (ls.length : Int) ∨ ls = [] := by
 unfold plc
 split
 ·rename_i h
  have := List.idxOf_lt_length_of_mem h
  exact .inl (by omega)
 ·rcases ls with _ | ⟨x, r⟩
  ·exact .inr rfl
  ·exact .inl (by simp; omega)
theorem index_ev (ls : List ByteArray) (s : ByteArray) (hl : ls.length ≤ 1000000) : Ev (fun k => Pxa.f k ls s) (plc ls s) := by
 have key : ∀ d i : Nat, i + d = ls.length → (∀ j (hj : j < ls.length), j < i → ls[j] ≠ s) → Ev (fun k => Pxa.l0 k ls s (ls.length : Int) (i : Int)) (plc ls s) := by
  intro d
  induction d with
  | zero =>
   intro i h hb
   rw [plc_no fun j hj => hb j hj (by omega)]
   exact Ev.step (fun k => Pxa.l0.eq_2 ..) (Ev.neg (by omega) (Ev.now _))
  | succ d ih =>
   intro i h hb
   have hi : i < ls.length := by omega
   refine Ev.step (fun k => Pxa.l0.eq_2 ..) (Ev.pos (by omega) (Ev.pos (by omega) (Ev.pos (by omega) ?_)))
   rw [rdS ls hi]
   by_cases q : ls[i] = s
   ·rw [plc_at hi q hb]
    exact Ev.pos (toList_eq.2 q.symm) (Ev.now _)
   ·refine Ev.neg (fun h => q (toList_eq.1 h).symm) ?_
    rw [w1n (by omega)]
    refine ih (i + 1) (by omega) fun j hj hji => ?_
    rcases Nat.lt_succ_iff_lt_or_eq.1 hji with h | rfl
    ·exact hb j hj h
    ·exact q
 exact key ls.length 0 (by omega) fun j hj h => by omega
theorem nplace_ev (ls : List ByteArray) (s : ByteArray) (hl : ls.length ≤ 1000000) : Ev (fun k => Pxg.f k ls s) (plc ls s) := Ev.last (index_ev ls s hl)
theorem rplace_ev (ls : List ByteArray) (s : ByteArray) (hl : ls.length ≤ 1000000) : Ev (fun k => Pr02b.f k ls s) (plc ls s) := by
 have key : ∀ d i : Nat, i + d = ls.length → (∀ j (hj : j < ls.length), j < i → ls[j] ≠ s) → Ev (fun k => Pr02b.l0 k ls s (i : Int)) (plc ls s) := by
  intro d
  induction d with
  | zero =>
   intro i h hb
   rw [plc_no fun j hj => hb j hj (by omega)]
   exact Ev.step (fun k => Pr02b.l0.eq_2 ..) (Ev.neg (by omega) (Ev.now _))
  | succ d ih =>
   intro i h hb
   have hi : i < ls.length := by omega
   refine Ev.step (fun k => Pr02b.l0.eq_2 ..) (Ev.pos (by omega) (Ev.pos (by omega) ?_))
   rw [rdS ls hi]
   by_cases q : ls[i] = s
   ·rw [plc_at hi q hb]
    exact Ev.pos (toList_eq.2 q) (Ev.now _)
   ·refine Ev.neg (fun h => q (toList_eq.1 h)) ?_
    rw [w1n (by omega)]
    refine ih (i + 1) (by omega) fun j hj hji => ?_
    rcases Nat.lt_succ_iff_lt_or_eq.1 hji with h | rfl
    ·exact hb j hj h
    ·exact q
 exact key ls.length 0 (by omega) fun j hj h => by omega
theorem rdE (es : List Ed) {i : Nat} (hi : i < es.length) : rd_T80 es (i : Int) = es[i] := by
 show es.getD i z80 = es[i]
 rw [getD_get hi]
theorem bless {a b : ByteArray} : (Op.bytesLess a.toList b.toList = true) ↔ slt a b := by
 rw [bytesLess_lt, decide_eq_true_eq]
 unfold slt
 rw [ByteArray.toList_eq, ByteArray.toList_eq]
theorem uniS_snoc (l : List ByteArray) (s : ByteArray) : uniS (l ++ [s]) = insG (lt := slt) s (uniS l) := by simp [uniS, uniG, List.foldl_append]
theorem uniS_len (l : List ByteArray) : (uniS l).length ≤ l.length := by
 induction l using rind with
 | h0 => simp [uniS, uniG]
 | h1 l a ih =>
  rw [uniS_snoc]
  have : ∀ o : List ByteArray, (insG (lt := slt) a o).length ≤ o.length + 1 := by
   intro o
   induction o with
   | nil => simp [insG]
   | cons x r ih =>
    unfold insG
    split
    ·simp
    ·split
     ·simp; omega
     ·simp
  have := this (uniS l)
  simp; omega
theorem runion_in {k : Nat} {x0 x1 o : List ByteArray} {i t : Nat} {s : ByteArray} (ht : t ≤ o.length) (hl : o.length ≤ 1000000) (R : List ByteArray) (Q : Nat → Option (List ByteArray)) (hQ : ∀ k, Q k = Pr02a.l0 k x0 x1 (o.take t ++ s :: o.drop t) (wrap64 ((i : Int) + 1)))
  (hE : Ev Q R) (hb : ∀ j, j < t → (hj : j < o.length) → slt o[j] s) (hn : (hj : t < o.length) → ¬ slt o[t] s) : ∀ d u : Nat, u + d = t → Ev (fun k => Pr02a.l1 k x0 x1 o (i : Int) s (u : Int)) R := by
 intro d
 induction d with
 | zero =>
  intro u h;obtain rfl : u = t := by omega
  have hfin : Ev (fun k => Pr02a.l0 k x0 x1 ((([] ++ o.take u) ++ [s]) ++ ([] ++ o.drop u)) (wrap64 ((i : Int) + 1))) R := by
   refine Ev.congr (fun k => ?_) hE;rw [hQ];simp
  have l1 : (([] : List ByteArray).length + (o.drop (u : Int).toNat).length) < 8796093022208 := by simp; omega
  have l2 : (([] : List ByteArray).length + (o.take (u : Int).toNat).length) < 8796093022208 := by simp; omega
  have l3 : (([] : List ByteArray) ++ o.take (u : Int).toNat).length < 8796093022208 := by simp; omega
  have l4 : ((([] : List ByteArray) ++ o.take (u : Int).toNat) ++ [s]).length + (([] : List ByteArray) ++ o.drop (u : Int).toNat).length < 8796093022208 := by simp; omega
  by_cases hu : u < o.length
  ·refine Ev.step (fun k => Pr02a.l1.eq_2 ..) (Ev.pos (by omega) (Ev.pos (by omega) (Ev.neg (by rw [rdS o hu, bless]; exact hn hu) ?_)));exact Ev.bindS rfl (Ev.pos (by omega) (Ev.bindS rfl (Ev.pos l1 (Ev.bindS rfl (Ev.bindS rfl (Ev.bindS rfl (Ev.pos l2 (Ev.bindS rfl (Ev.pos l3 (Ev.bindS rfl (Ev.pos l4 hfin)))))))))))
  ·refine Ev.step (fun k => Pr02a.l1.eq_2 ..) (Ev.neg (by omega) ?_);exact Ev.bindS rfl (Ev.pos (by omega) (Ev.pos (by omega) (Ev.bindS rfl (Ev.pos l1 (Ev.bindS rfl (Ev.bindS rfl (Ev.bindS rfl (Ev.pos l2 (Ev.bindS rfl (Ev.pos l3 (Ev.bindS rfl (Ev.pos l4 hfin))))))))))))
 | succ d ih =>
  intro u h;have hu : u < o.length := by omega
  refine Ev.step (fun k => Pr02a.l1.eq_2 ..) (Ev.pos (by omega) (Ev.pos (by omega) (Ev.pos (by rw [rdS o hu, bless]; exact hb u (by omega) hu) ?_)));rw [w1n (by omega)];exact ih (u + 1) (by omega)
theorem runion_ev (xs ys : List ByteArray) (h1 : xs.length ≤ 100000) (h2 : ys.length ≤ 100000) : Ev (fun k => Pr02a.f k xs ys) (uniS (xs ++ ys)) := by
 have key : ∀ d i : Nat, i + d = (xs ++ ys).length → Ev (fun k => Pr02a.l0 k xs ys (uniS ((xs ++ ys).take i)) (i : Int)) (uniS (xs ++ ys)) := by
  intro d
  induction d with
  | zero =>
   intro i h;rw [List.take_of_length_le (by omega)];rw [List.length_append] at h;exact Ev.step (fun k => Pr02a.l0.eq_2 ..) (Ev.neg (by rw [wid (by omega) (by omega)]; omega) (Ev.now _))
  | succ d ih =>
   intro i h;have hl : (xs ++ ys).length = xs.length + ys.length := List.length_append ..;have hi : i < (xs ++ ys).length := by omega
   have ih' := ih (i + 1) (by omega);rw [take_snoc' hi, uniS_snoc] at ih';have hol := uniS_len ((xs ++ ys).take i);rw [List.length_take] at hol;have hos := uniS_sorted ((xs ++ ys).take i);generalize uniS ((xs ++ ys).take i) = o at ih' hol hos ⊢;obtain ⟨s, hs⟩ : ∃ s, s = (xs ++ ys)[i] := ⟨_, rfl⟩
   rw [← hs] at ih'
   have a0 : Ev (fun k => Pr02a.j1 k xs ys o (i : Int) s) (uniS (xs ++ ys)) := by
    refine Ev.step (fun k => Pr02a.j1.eq_2 ..) (Ev.bind (rplace_ev o s (by omega)) ?_);by_cases q : s ∈ o
    ·refine Ev.pos (plc_nonneg.2 q) ?_;rw [w1n (by omega)];rwa [insG_in slt_irr slt_tr slt_tri hos q] at ih'
    ·refine Ev.neg (fun h => q (plc_nonneg.1 h)) ?_
     obtain ⟨t, ht, hb, hn⟩ : ∃ t, t ≤ o.length ∧ (∀ j, j < t → (hj : j < o.length) → slt o[j] s) ∧ ((hj : t < o.length) → ¬ slt o[t] s) := by
      have : ∀ m, m ≤ o.length → (∀ j, j < o.length - m → (hj : j < o.length) → slt o[j] s) → ∃ t, t ≤ o.length ∧ (∀ j, j < t → (hj : j < o.length) → slt o[j] s) ∧ ((hj : t < o.length) → ¬ slt o[t] s) := by
       intro m
       induction m with
       | zero => intro _ h; exact ⟨o.length, Nat.le_refl _, fun j hj h' => h j (by omega) h', fun h' => absurd h' (Nat.lt_irrefl _)⟩
       | succ m ihm =>
        intro hm h;by_cases hq : slt (o[o.length - (m + 1)]'(by omega)) s
        ·refine ihm (by omega) fun j hj h' => ?_
         rcases Nat.lt_or_ge j (o.length - (m + 1)) with g | g
         ·exact h j g h'
         ·obtain rfl : j = o.length - (m + 1) := by omega
          exact hq
        ·exact ⟨o.length - (m + 1), by omega, fun j hj h' => h j hj h', fun _ => hq⟩
      exact this o.length (Nat.le_refl _) fun j hj _ => by omega
     have hins : insG (lt := slt) s o = o.take t ++ s :: o.drop t := by
      refine insG_at slt_irr slt_tr slt_tri hos ht (fun a ha => ?_) (fun a ha => ?_)
      ·obtain ⟨j, hj, rfl⟩ := List.getElem_of_mem ha;rw [List.length_take] at hj;rw [List.getElem_take];exact hb j (by omega) (by omega)
      ·obtain ⟨j, hj, rfl⟩ := List.getElem_of_mem ha;rw [List.length_drop] at hj;rw [List.getElem_drop]
       have h0 : slt s o[t] := by
        have n1 := hn (by omega);rcases Classical.em (slt s o[t]) with g | g
        ·exact g
        ·exact absurd (slt_tri _ _ g n1 ▸ List.getElem_mem _) q
       rcases Nat.eq_zero_or_pos j with rfl | g
       ·simpa using h0
       ·exact slt_tr _ _ _ h0 (List.pairwise_iff_getElem.1 hos t (t + j) (by omega) (by omega) (by omega))
     rw [hins] at ih';exact runion_in (k := 0) ht (by omega) _ (fun k => Pr02a.l0 k xs ys (o.take t ++ s :: o.drop t) (((i + 1 : Nat) : Nat) : Int)) (fun k => by rw [w1n (by omega)]) ih' hb hn t 0 (by omega)
   refine Ev.step (fun k => Pr02a.l0.eq_2 ..) (Ev.pos (by rw [wid (by omega) (by omega)]; omega) ?_);by_cases hx : i < xs.length
   ·have e : rdOf ByteArray.empty xs (i : Int) = s := by rw [rdS xs hx, hs, List.getElem_append_left hx]
    refine Ev.pos (by omega) (Ev.pos (by omega) ?_);rw [e];exact a0
   ·have e : rdOf ByteArray.empty ys (wrap64 ((i : Int) - (xs.length : Int))) = s := by
     rw [wid (by omega) (by omega), show (i : Int) - (xs.length : Int) = ((i - xs.length : Nat) : Int) by omega, rdS ys (by omega), hs, List.getElem_append_right (by omega)]
    refine Ev.neg (by omega) (Ev.pos (by rw [wid (by omega) (by omega)]; omega) (Ev.pos (by rw [wid (by omega) (by omega)]; omega) ?_));rw [e];exact a0
 exact key (xs ++ ys).length 0 (by omega)
end Go.Proofs.Ytmcbkmfpmcbdpaa.H
set_option linter.unusedVariables false
set_option linter.unusedSimpArgs false
namespace Go.Proofs.Ytmcbkmfpmcbdpaa.H
open Go.RowKit Go.Proofs.Ytmcbkmfpmcbdpaa.Pr Go.Proofs.YtmcbkmfpmcbdpaaW.PrintWords Go.Proofs.Ytmcbkmfpmcbdpaa.Sem
theorem lt_n {n : Int} {ls : List ByteArray} {es : List Ed} (h : mayR n ls es = true) : 1 ≤ n ∧ n ≤ 2048 := by
 unfold mayR at h
 simp only [Bool.and_eq_true, decide_eq_true_eq] at h
 exact ⟨h.1, h.2.1⟩
theorem lt_len {n : Int} {ls : List ByteArray} {es : List Ed} (h : mayR n ls es = true) : es.length ≤ 1000000 := by
 unfold mayR at h
 simp only [Bool.and_eq_true, decide_eq_true_eq] at h
 exact h.2.2.2.1
theorem lt_ok {n : Int} {ls : List ByteArray} {es : List Ed} (h : mayR n ls es = true) {k : Nat} (hk : k < es.length) : okAt' n ls.length es k = true := by
 unfold mayR at h
 simp only [Bool.and_eq_true, decide_eq_true_eq] at h
 exact List.all_eq_true.1 h.2.2.2.2.2 k (List.mem_range.2 hk)
end Go.Proofs.Ytmcbkmfpmcbdpaa.H
set_option linter.unusedVariables false
set_option linter.unusedSimpArgs false
namespace Go.Proofs.Ytmcbkmfpmcbdpaa.Sem
open Go.Proofs.Ytmcbkmfpmcbdpaa.Pr
theorem elt_trans {a b c : Ed} (h1 : elt a b) (h2 : elt b c) : elt a c := by unfold elt at *; omega
theorem elt_irr (a : Ed) : ¬ elt a a := by unfold elt; omega
theorem elt_tri {a b : Ed} (h : ¬ elt a b) (h2 : ¬ cmpE a b = 0) : elt b a := by
 rw [cmpE_zero] at h2
 rcases Classical.em (elt b a) with q | q
 ·exact q
 ·exfalso
  apply h2
  obtain ⟨a0, a1, a2⟩ := a
  obtain ⟨b0, b1, b2⟩ := b
  unfold elt at h q
  simp only at h q
  rw [S80.mk.injEq]
  omega
theorem insE_mem (e x : Ed) : ∀ l, x ∈ insE e l ↔ x = e ∨ x ∈ l
 | [] => by simp [insE]
 | y :: r => by
  unfold insE
  split
  ·simp
  ·split
   ·rename_i h
    rw [cmpE_zero] at h
    subst h
    simp
   ·rw [List.mem_cons, insE_mem e x r, List.mem_cons]
    constructor
    ·rintro (h | h | h)
     ·exact .inr (.inl h)
     ·exact .inl h
     ·exact .inr (.inr h)
    ·rintro (h | h | h)
     ·exact .inr (.inl h)
     ·exact .inl h
     ·exact .inr (.inr h)
theorem insE_sorted (e : Ed) : ∀ l, l.Pairwise elt → (insE e l).Pairwise elt
 | [], _ => by simp [insE]
 | y :: r, h => by
  have h' := List.pairwise_cons.1 h
  unfold insE
  split
  ·rename_i q
   refine List.pairwise_cons.2 ⟨fun x hx => ?_, h⟩
   rcases List.mem_cons.1 hx with rfl | hx
   ·exact q
   ·exact elt_trans q (h'.1 x hx)
  ·split
   ·exact h
   ·rename_i q1 q2
    refine List.pairwise_cons.2 ⟨fun x hx => ?_, insE_sorted e r h'.2⟩
    rcases (insE_mem e x r).1 hx with rfl | hx
    ·exact elt_tri q1 q2
    ·exact h'.1 x hx
theorem strict_unique : ∀ (a b : List Ed), a.Pairwise elt → b.Pairwise elt → (∀ x, x ∈ a ↔ x ∈ b) → a = b
 | [], [], _, _, _ => rfl
 | [], y :: r, _, _, h => by have := (h y).2 (List.mem_cons_self ..); cases this
 | x :: r, [], _, _, h => by have := (h x).1 (List.mem_cons_self ..); cases this
 | x :: r, y :: s, ha, hb, h => by
  have ha' := List.pairwise_cons.1 ha
  have hb' := List.pairwise_cons.1 hb
  have e : x = y := by
   rcases List.mem_cons.1 ((h x).1 (List.mem_cons_self ..)) with q | q
   ·exact q
   ·rcases List.mem_cons.1 ((h y).2 (List.mem_cons_self ..)) with q2 | q2
    ·exact q2.symm
    ·exact absurd (elt_trans (hb'.1 x q) (ha'.1 y q2)) (elt_irr y)
  subst e
  rw [strict_unique r s ha'.2 hb'.2 fun z => ?_]
  have hz := h z
  constructor
  ·intro q
   rcases List.mem_cons.1 (hz.1 (List.mem_cons_of_mem _ q)) with rfl | q2
   ·exact absurd (ha'.1 _ q) (elt_irr _)
   ·exact q2
  ·intro q
   rcases List.mem_cons.1 (hz.2 (List.mem_cons_of_mem _ q)) with rfl | q2
   ·exact absurd (hb'.1 _ q) (elt_irr _)
   ·exact q2
def dd : List Ed → List Ed
 | [] => []
 | [a] => [a]
 | a :: b :: r => if cmpE a b = 0 then dd (b :: r) else a :: dd (b :: r)
theorem dd_mem (x : Ed) : ∀ l, x ∈ dd l ↔ x ∈ l
 | [] => by simp [dd]
 | [a] => by simp [dd]
 | a :: b :: r => by
  have ih := dd_mem x (b :: r)
  unfold dd
  split
  ·rename_i h
   rw [cmpE_zero] at h
   subst h
   rw [ih]
   simp
  ·rw [List.mem_cons, ih, List.mem_cons (a := x) (b := a)]
theorem elt_or {a b : Ed} (h : ¬ elt b a) : a = b ∨ elt a b := by
 by_cases q : cmpE b a = 0
 ·exact .inl ((cmpE_zero b a).1 q).symm
 ·exact .inr (elt_tri h q)
theorem dd_sorted : ∀ l : List Ed, l.Pairwise (fun a b => ¬ elt b a) → (dd l).Pairwise elt
 | [], _ => by simp [dd]
 | [a], _ => by simp [dd]
 | a :: b :: r, h => by
  have h' := List.pairwise_cons.1 h
  have ih := dd_sorted (b :: r) h'.2
  unfold dd
  split
  ·exact ih
  ·rename_i q
   refine List.pairwise_cons.2 ⟨fun x hx => ?_, ih⟩
   have hab : elt a b := by
    rcases elt_or (h'.1 b (List.mem_cons_self ..)) with e | e
    ·exact absurd ((cmpE_zero a b).2 e) q
    ·exact e
   rcases List.mem_cons.1 ((dd_mem x (b :: r)).1 hx) with rfl | hx
   ·exact hab
   ·rcases elt_or ((List.pairwise_cons.1 h'.2).1 x hx) with e | e
    ·rw [← e]; exact hab
    ·exact elt_trans hab e
theorem fold_ins : ∀ (es o : List Ed), o.Pairwise elt → (es.foldl (fun o e => insE e o) o).Pairwise elt ∧ ∀ x, x ∈ es.foldl (fun o e => insE e o) o ↔ x ∈ es ∨ x ∈ o
 | [], o, h => ⟨h, fun x => by simp⟩
 | e :: r, o, h => by
  have ih := fold_ins r (insE e o) (insE_sorted e o h)
  refine ⟨ih.1, fun x => ?_⟩
  rw [List.foldl_cons, ih.2 x, insE_mem, List.mem_cons]
  constructor
  ·rintro (h | h | h)
   ·exact .inl (.inr h)
   ·exact .inl (.inl h)
   ·exact .inr h
  ·rintro ((h | h) | h)
   ·exact .inr (.inl h)
   ·exact .inl h
   ·exact .inr (.inr h)
theorem dd_sortE {es l : List Ed} (h : l.Pairwise (fun a b => ¬ elt b a)) (hm : ∀ x, x ∈ l ↔ x ∈ es) : dd l = sortE es := by
 have hf := fold_ins es [] List.Pairwise.nil
 exact strict_unique _ _ (dd_sorted l h) hf.1 fun x => by rw [dd_mem, hm]; show _ ↔ x ∈ es.foldl (fun o e => insE e o) []; rw [hf.2 x]; simp
end Go.Proofs.Ytmcbkmfpmcbdpaa.Sem
set_option linter.unusedVariables false
set_option linter.unusedSimpArgs false
namespace Go.Proofs.Ytmcbkmfpmcbdpaa.H
open Go.RowKit Go.Proofs.Ytmcbkmfpmcbdpaa.Pr Go.Proofs.YtmcbkmfpmcbdpaaW.PrintWords Go.Proofs.Ytmcbkmfpmcbdpaa.Sem Go.Proofs.Ytmcbkmfpmcbdpaa.PL
theorem may_of {n : Int} {ls : List ByteArray} {es : List Ed} (h1 : 1 ≤ n ∧ n ≤ 2048) (h2 : ls.length ≤ 64) (h3 : ls.Pairwise slt) (h4 : ∀ s ∈ ls, s.size ≤ 200) (h5 : es.length ≤ 1000000) (h6 : es.Pairwise elt) (h7 : ∀ e ∈ es, (0 ≤ e.f0 ∧ e.f0 < n) ∧ (0 ≤ e.f2 ∧ e.f2 < n) ∧ 0 ≤ e.f1 ∧ e.f1 < (ls.length : Int)) : mayR n ls es = true := by
 unfold mayR
 simp only [Bool.and_eq_true, decide_eq_true_eq, List.all_eq_true, List.mem_range]
 refine ⟨h1.1, h1.2, h2, h5, fun k hk => ?_, fun k hk => ?_⟩
 ·unfold labAt tooLong
  simp only [Bool.and_eq_true, Bool.not_eq_true', decide_eq_false_iff_not, Bool.or_eq_true, decide_eq_true_eq]
  refine ⟨?_, ?_⟩
  ·rw [getD_get hk]
   have := h4 _ (List.getElem_mem hk)
   omega
  ·rcases Nat.eq_zero_or_pos k with q | q
   ·exact .inl q
   ·right
    rw [getD_get hk, getD_get (show k - 1 < ls.length by omega), bytesLess_lt, decide_eq_true_eq, ByteArray.toList_eq, ByteArray.toList_eq]
    exact List.pairwise_iff_getElem.1 h3 (k - 1) k (by omega) hk (by omega)
 ·unfold okAt'
  simp only [Bool.and_eq_true, decide_eq_true_eq, Bool.or_eq_true]
  have hm := h7 _ (List.getElem_mem hk)
  rw [getD_get hk]
  refine ⟨hm.1, hm.2.1, hm.2.2.1, hm.2.2.2, ?_⟩
  rcases Nat.eq_zero_or_pos k with q | q
  ·exact .inl q
  ·right
   rw [getD_get (show k - 1 < es.length by omega)]
   exact List.pairwise_iff_getElem.1 h6 (k - 1) k (by omega) hk (by omega)
theorem may_lab {n : Int} {ls : List ByteArray} {es : List Ed} (h : mayR n ls es = true) : ls.length ≤ 64 ∧ ∀ s ∈ ls, s.size ≤ 200 := by
 unfold mayR at h
 simp only [Bool.and_eq_true, decide_eq_true_eq, List.all_eq_true, List.mem_range] at h
 refine ⟨h.2.2.1, fun s hs => ?_⟩
 obtain ⟨k, hk, rfl⟩ := List.getElem_of_mem hs
 have := h.2.2.2.2.1 k hk
 unfold labAt tooLong at this
 simp only [Bool.and_eq_true, Bool.not_eq_true', decide_eq_false_iff_not] at this
 have := this.1
 rw [getD_get hk] at this
 omega
theorem may_edge {n : Int} {ls : List ByteArray} {es : List Ed} (h : mayR n ls es = true) : ∀ e ∈ es, (0 ≤ e.f0 ∧ e.f0 < n) ∧ (0 ≤ e.f2 ∧ e.f2 < n) ∧ 0 ≤ e.f1 ∧ e.f1 < (ls.length : Int) := fun e he => by
 obtain ⟨k, hk, rfl⟩ := List.getElem_of_mem he
 have := lt_ok h hk
 unfold okAt' at this
 simp only [Bool.and_eq_true, decide_eq_true_eq] at this
 rw [getD_get hk] at this
 exact ⟨this.1, this.2.1, this.2.2.1, this.2.2.2.1⟩
end Go.Proofs.Ytmcbkmfpmcbdpaa.H
set_option linter.unusedVariables false
set_option linter.unusedSimpArgs false
namespace Go.Proofs.Ytmcbkmfpmcbdpaa.H
open Go.RowKit Go.Proofs.Ytmcbkmfpmcbdpaa.Pr Go.Proofs.YtmcbkmfpmcbdpaaW.PrintWords Go.Proofs.Ytmcbkmfpmcbdpaa.Sem Go.Sort Go.Shelf Go.Lib
def GW (w W : World) : Prop := ∃ q os, W = grow (w.drewN q) os
theorem GW.refl (w : World) : GW w w := ⟨0, #[], by simp [grow, World.drewN]⟩
theorem GW.alloc {w W : World} (h : GW w W) (o : Obj) : GW w (W.alloc o) := by
 obtain ⟨q, os, rfl⟩ := h
 exact ⟨q, os ++ #[o], by rw [alloc_eq_grow, grow_grow]⟩
theorem GW.drew {w W : World} (h : GW w W) : GW w W.drew := by
 obtain ⟨q, os, rfl⟩ := h
 exact ⟨q + 1, os, by simp [grow, World.drewN, World.drew, Nat.add_assoc]⟩
theorem GW.drewN {w W : World} (h : GW w W) (m : Nat) : GW w (W.drewN m) := by
 obtain ⟨q, os, rfl⟩ := h
 exact ⟨q + m, os, by simp [grow, World.drewN, Nat.add_assoc]⟩
set_option maxRecDepth 100000 in
theorem compareG (a b : Ed) (w : World) : Calls Try.prog 122 #[.agg #[.int .i64 a.f0, .int .i64 a.f1, .int .i64 a.f2], .agg #[.int .i64 b.f0, .int .i64 b.f1, .int .i64 b.f2]] w fun e w' => e = .returned (.int .i64 (cmpE a b)) ∧ GW w w' := by
 go_enter Try.func122, Try.ntmps122
 go_wp2_with fail
 go_region_held3 (fun w' => w'.cell? ⟨w.heap.size, 0, none⟩ = some (.int .i64 a.f0) ∧ w'.cell? ⟨w.heap.size, 1, none⟩ = some (.int .i64 a.f1) ∧ w'.cell? ⟨w.heap.size, 2, none⟩ = some (.int .i64 a.f2) ∧ w'.cell? ⟨w.heap.size + 1, 0, none⟩ = some (.int .i64 b.f0) ∧ w'.cell? ⟨w.heap.size + 1, 1, none⟩ = some (.int .i64 b.f1) ∧ w'.cell? ⟨w.heap.size + 1, 2, none⟩ = some (.int .i64 b.f2))
  (first | go_keep)
  (first
   | (go_at_call 137; refine (compare_any _ _ _).mono ?_; rintro e w' ⟨rfl, rfl⟩)
   | (go_at_call 154; refine (or_any [cmpI a.f0 b.f0, cmpI a.f1 b.f1, cmpI a.f2 b.f2] _ _ _ (by simp) (by intro j hj; match j, hj with | 0, _ => go_simp | 1, _ => go_simp | 2, _ => go_simp)).mono ?_; rintro e w' ⟨rfl, rfl⟩))
 go_wp2
 go_ret
 exact ⟨rfl, by repeat (first | exact GW.refl _ | apply GW.alloc | apply GW.drewN | apply GW.drew)⟩
def encE (x : Ed) : List Value := [.int .i64 x.f0, .int .i64 x.f1, .int .i64 x.f2]
theorem ltE (x y : Ed) : ltOf cmpE x y = decide (elt x y) := by unfold ltOf; rw [decide_eq_decide]; exact cmpE_neg x y
theorem swoE : SWO (ltOf cmpE) where
 irrefl x := by rw [ltE]; simp [elt]
 trans x y z h1 h2 := by rw [ltE] at *; simp only [decide_eq_true_eq] at *; unfold elt at *; omega
 ntrans x y z h1 h2 := by rw [ltE] at *; simp only [decide_eq_false_iff_not] at *; unfold elt at *; omega
theorem totE (x y : Ed) (h1 : ltOf cmpE x y = false) (h2 : ltOf cmpE y x = false) : x = y := by
 rw [ltE, decide_eq_false_iff_not] at h1 h2
 obtain ⟨x0, x1, x2⟩ := x
 obtain ⟨y0, y1, y2⟩ := y
 unfold elt at h1 h2
 simp only at h1 h2
 rw [S80.mk.injEq]
 omega
theorem sortF_any (g c : Nat) (es : List Ed) (w : World) (hH : HoldsK encE 3 w g 0 es.toArray) (hblk : g < w.heap.size) (hsz : es.length ≤ 1000000) :
  Calls Try.prog 133 #[.slice (some ⟨g, 0, none⟩) es.length c, .func (.func 122) #[] #[]] w fun e w' => e = .returned (.tuple #[]) ∧ ∃ n os, w' = sortWorldK encE 3 w g 0 n (es.mergeSort fun x y => !(ltOf cmpE) y x).toArray os := by
 have eg : ∀ args w, (callFunc 122 args).run Try.prog w = .ok (.enter 122 args) w := enters_of Try.func122 (by kernel_rfl) rfl
 have hcon := AnyQ.slices_SortFunc_total Try.sortE 3 (fun _ => by kernel_rfl) (fun _ => by kernel_rfl) encE (fun _ => rfl) (fun x v hv => by simp [encE] at hv; rcases hv with rfl | rfl | rfl <;> rfl) cmpE swoE 122 #[] g 0 c es.toArray w eg (fun m os dk hs x y => compareG x y _) hH hblk (by simp; omega) totE
 change Calls Try.prog 133 _ _ _ at hcon
 simpa using hcon
end Go.Proofs.Ytmcbkmfpmcbdpaa.H
set_option linter.unusedVariables false
set_option linter.unusedSimpArgs false
namespace Go.Proofs.Ytmcbkmfpmcbdpaa.H
open Go.RowKit Go.Proofs.Ytmcbkmfpmcbdpaa.Pr Go.Proofs.YtmcbkmfpmcbdpaaW.PrintWords Go.Proofs.Ytmcbkmfpmcbdpaa.Sem Go.Sort Go.Shelf Go.Lib
theorem holdsK_of_R {W : World} {base g cap : Nat} {ok : Nat → Prop} {es : List Ed} (h : Kd.R k80 80 W base ok (.slice (some ⟨g, 0, none⟩) es.length cap) es) : HoldsK encE 3 W g 0 es.toArray := by
 intro j hj
 rw [size_flatK, List.size_toArray] at hj
 have hi : j / 3 < es.length := by omega
 obtain ⟨c, hcl, hM, hcc, hf⟩ := Kd.R_elem h z80 ((j / 3 : Nat) : Int) (by omega) (by omega)
 have hc := k80_openM hM
 rw [Int.toNat_natCast] at hc hcc hf
 have hsz : (k80 : Kd Ed).sz = 3 := rfl
 rw [hsz] at hcc hf
 have e : j / 3 * 3 + j % 3 = j := by omega
 have h3 : j % 3 < 3 := Nat.mod_lt _ (by omega)
 have hx : es.toArray[j / 3]! = es.getD (j / 3) z80 := by
  rw [getElem!_pos es.toArray (j / 3) (by simpa using hi), getD_get hi]
  simp
 rw [get_flatK _ _ _ _ (by rw [List.size_toArray]; exact hj), hx, Nat.zero_add]
 have hlen : (encE (es.getD (j / 3) z80)).length = 3 := rfl
 refine ⟨?_, by have := hf (j % 3); rwa [e] at this⟩
 have hu : c[j % 3]? = some ((encE (es.getD (j / 3) z80))[j % 3]!) := by
  rw [hc, getElem!_pos (encE (es.getD (j / 3) z80)) (j % 3) (by rw [hlen]; exact h3)]
  exact List.getElem?_eq_getElem (by exact h3)
 have := hcc (j % 3) _ hu
 rwa [e] at this
theorem flat_len (es : List Ed) : (flatK encE 3 es.toArray).toList.length = es.length * 3 := by
 rw [Array.length_toList, size_flatK, List.size_toArray]
theorem flat_seg (es : List Ed) (j : Nat) (hj : j < es.length) : ((flatK encE 3 es.toArray).toList.drop (j * 3)).take 3 = encE es[j] := by
 have hx : es.toArray[j]! = es[j] := by
  rw [getElem!_pos es.toArray j (by simpa using hj)]
  simp
 apply List.ext_getElem
 ·rw [List.length_take, List.length_drop, flat_len]
  show min 3 _ = 3
  omega
 ·intro i h1 h2
  have hi : i < 3 := h2
  rw [List.getElem_take, List.getElem_drop, Array.getElem_toList]
  have := get_flatK encE 3 es.toArray (j * 3 + i) (by rw [List.size_toArray]; omega)
  rw [getElem!_pos (flatK encE 3 es.toArray) (j * 3 + i) (by rw [size_flatK, List.size_toArray]; omega)] at this
  rw [this, show (j * 3 + i) / 3 = j by omega, show (j * 3 + i) % 3 = i by omega, hx]
  exact getElem!_pos (encE es[j]) i h2
theorem R_sorted {W : World} {base g cap : Nat} {es es' : List Ed} (h : Kd.R k80 80 W base (fun _ => True) (.slice (some ⟨g, 0, none⟩) es.length cap) es) (hl : es'.length = es.length) (m : Nat) (os : Array Obj) : Kd.R k80 80 (sortWorldK encE 3 W g 0 m es'.toArray os) base (fun _ => True) (.slice (some ⟨g, 0, none⟩) es'.length cap) es' := by
 obtain ⟨h0, inner, ho, hr⟩ := h;obtain ⟨hil, hcase⟩ := ho;rcases hcase with ⟨hv, _⟩ | ⟨g', cap', cur, hv, hb, hh, hnc, hcm, hcs, htk⟩
 ·cases hv
 ·cases hv;have hsz : (k80 : Kd Ed).sz = 3 := rfl;rw [hsz] at hcs htk hil;have hlt : g < W.heap.size := blk_lt hh
  have hheap : (sortWorldK encE 3 W g 0 m es'.toArray os).heap[g]? = some (.cells (putCells id 0 (flatK encE 3 es'.toArray) cur) 80 (0, 0)) := by
   show ((W.heap.modify g (onCells (putCells id 0 (flatK encE 3 es'.toArray)))) ++ os)[g]? = _;rw [Array.getElem?_append_left (by rw [Array.size_modify]; exact hlt), Array.getElem?_modify, if_pos rfl, hh];rfl
  refine ⟨fun _ _ => trivial, (flatK encE 3 es'.toArray).toList, ⟨by rw [flat_len, hsz], .inr ⟨g, cap, _, rfl, hb, hheap, by omega, hcm, by rw [hsz]; unfold putCells; rw [Array.size_mapIdx]; exact hcs, ?_⟩⟩, ?_⟩
  ·rw [hsz];apply List.ext_getElem
   ·have hq : (putCells id 0 (flatK encE 3 es'.toArray) cur).size = cap * 3 := by unfold putCells; rw [Array.size_mapIdx]; exact hcs
    have hq2 : (putCells id 0 (flatK encE 3 es'.toArray) cur).toList.length = cap * 3 := by rw [Array.length_toList]; exact hq
    rw [List.length_take, hq2, flat_len];have : es.length * 3 ≤ cap * 3 := Nat.mul_le_mul_right _ hnc;omega
   ·intro i h1 h2;rw [flat_len, hl] at h2;rw [List.getElem_take, Array.getElem_toList];unfold putCells;rw [Array.getElem_mapIdx, if_pos (by rw [size_flatK, List.size_toArray, hl]; omega), Nat.sub_zero, getElem!_pos (flatK encE 3 es'.toArray) i (by rw [size_flatK, List.size_toArray, hl]; exact h2)];rfl
  ·refine ⟨by rw [flat_len, hsz], fun j p hp => ?_⟩;obtain ⟨hj, rfl⟩ := List.getElem?_eq_some_iff.1 hp;rw [hsz, flat_seg es' j hj];exact k80_mkM _ _ _ _
def sortedE (es : List Ed) : List Ed := es.mergeSort fun x y => !(ltOf cmpE) y x
end Go.Proofs.Ytmcbkmfpmcbdpaa.H
set_option linter.unusedVariables false
set_option linter.unusedSimpArgs false
namespace Go.Proofs.Ytmcbkmfpmcbdpaa.H
open Go.RowKit Go.Proofs.Ytmcbkmfpmcbdpaa.Pr Go.Proofs.YtmcbkmfpmcbdpaaW.PrintWords Go.Proofs.Ytmcbkmfpmcbdpaa.Sem Go.Lib
theorem run_clear_edges (w : World) (ty : TypeId) (b o n c : Nat) (hn : 0 < n)
  (hc : ∀ j, j < (Builtin.zeroCells #[.int .i64 0, .int .i64 0, .int .i64 0] n).toList.length → (w.cell? ⟨b, o + j, none⟩).isSome = true) (hf : ∀ j, j < (Builtin.zeroCells #[.int .i64 0, .int .i64 0, .int .i64 0] n).toList.length → w.frozen? ⟨b, o + j, none⟩ = false) :
  (Builtin.clear_ #[23] ty #[.slice (some ⟨b, o, none⟩) n c]).run Try.prog w = .ok (.tuple #[]) (w.setCells b o (Builtin.zeroCells #[.int .i64 0, .int .i64 0, .int .i64 0] n).toList) := by
 have hv : ∀ w, (zeroValue 80).run Try.prog w = .ok (.agg #[.int .i64 0, .int .i64 0, .int .i64 0]) w := fun w => by kernel_rfl
 have hst := run_storeCells_cells (P := Try.prog) b o (Builtin.zeroCells #[.int .i64 0, .int .i64 0, .int .i64 0] n).toList 0 w (by simpa using hc) (by simpa using hf) (by
  intro v hv'
  simp [Builtin.zeroCells] at hv'
  obtain ⟨a, _, rfl⟩ := hv'
  have : a % 3 < 3 := Nat.mod_lt _ (by omega)
  rcases (show a % 3 = 0 ∨ a % 3 = 1 ∨ a % 3 = 2 by omega) with h | h | h <;> simp [h, Value.oneCell'])
 simp only [Nat.add_zero] at hst
 obtain ⟨m, rfl⟩ : ∃ m, n = m + 1 := ⟨n - 1, by omega⟩
 simp [Builtin.clear_, run_underlying Try.underlying23, hv, hst, Value.cells]
end Go.Proofs.Ytmcbkmfpmcbdpaa.H
set_option linter.unusedVariables false
set_option linter.unusedSimpArgs false
namespace Go.Proofs.Ytmcbkmfpmcbdpaa.H
open Go.RowKit Go.Proofs.Ytmcbkmfpmcbdpaa.Pr Go.Proofs.YtmcbkmfpmcbdpaaW.PrintWords Go.Proofs.Ytmcbkmfpmcbdpaa.Sem Go.Lib Go.Sort
section
variable {α : Type} [Inhabited α] (enc : α → List Value) (k : Nat) (hk : ∀ x, (enc x).length = k)
include hk
theorem flat_set (d : Array α) (i : Nat) (x : α) (hi : i < d.size) : setMany (flatK enc k d) (i * k) (enc x) = flatK enc k (d.setIfInBounds i x) := by
 refine ext_get! (by simp) fun t ht => ?_
 have ht' : t < d.size * k := by simpa using ht
 have k0 : 0 < k := by
  rcases Nat.eq_zero_or_pos k with h | h
  ·subst h; simp at ht'
  ·exact h
 rw [get_setMany _ _ _ t (by simpa using ht'), get_flatK _ _ _ t ht', get_flatK _ _ _ t (by simpa using ht'), hk]
 by_cases a : t / k = i
 ·rw [if_pos ((blk_iff k i t k0).2 a), a, getElem!_set_same d i x hi]
  subst a
  rw [Nat.mod_eq_sub_div_mul]
 ·rw [if_neg (fun h => a ((blk_iff k i t k0).1 h)), getElem!_set_other d i _ x a]
theorem flat_lay (d : Array α) (j m : Nat) (z : α) (vs : List Value) (hj : j + m ≤ d.size) (hl : vs.length = m * k) (hv : ∀ t, t < m * k → vs[t]! = (enc z)[t % k]!) : setMany (flatK enc k d) (j * k) vs = flatK enc k (lay d j (List.replicate m z)) := by
 have hsz : (lay d j (List.replicate m z)).size = d.size := by
  have : ∀ (xs : List α) (d : Array α) (k : Nat), (lay d k xs).size = d.size := by
   intro xs
   induction xs with
   | nil => intro d k; rfl
   | cons x r ih => intro d k; show (lay (d.setIfInBounds k x) (k + 1) r).size = _; rw [ih]; simp
  exact this _ _ _
 refine ext_get! (by simp [hsz]) fun t ht => ?_
 have ht' : t < d.size * k := by simpa using ht
 have k0 : 0 < k := by
  rcases Nat.eq_zero_or_pos k with h | h
  ·subst h; simp at ht'
  ·exact h
 have hq : t / k < d.size := Nat.div_lt_of_lt_mul (by rwa [Nat.mul_comm] at ht')
 have hget : (lay d j (List.replicate m z))[t / k]! = if j ≤ t / k ∧ t / k < j + m then z else d[t / k]! := by
  have := lay_get? (List.replicate m z) d j (t / k) (by simpa using hj);rw [getElem!_pos _ (t / k) (by rw [hsz]; exact hq)];rw [Array.getElem?_eq_getElem (by rw [hsz]; exact hq)] at this;simp only [List.length_replicate] at this;split
  ·rename_i c;rw [if_pos c, List.getElem?_replicate, if_pos (by omega)] at this;exact Option.some.inj this
  ·rename_i c;rw [if_neg c, Array.getElem?_eq_getElem hq] at this;rw [getElem!_pos d (t / k) hq];exact Option.some.inj this
 rw [get_setMany _ _ _ t (by simpa using ht'), get_flatK _ _ _ t ht', get_flatK _ _ _ t (by rw [hsz]; exact ht'), hget, hl];have hmod : t = k * (t / k) + t % k := (Nat.div_add_mod t k).symm;have hm : t % k < k := Nat.mod_lt _ k0
 have iff1 : (j * k ≤ t ∧ t < j * k + m * k) ↔ (j ≤ t / k ∧ t / k < j + m) := by
  rw [Nat.le_div_iff_mul_le k0, Nat.div_lt_iff_lt_mul k0, Nat.add_mul]
 by_cases c : j ≤ t / k ∧ t / k < j + m
 ·rw [if_pos (iff1.2 c), if_pos c];have c2 := iff1.2 c;rw [hv _ (by omega)];congr 1
  have : t = (t - j * k) + k * j := by rw [Nat.mul_comm k j]; omega
  conv => rhs; rw [this]
  rw [Nat.add_mul_mod_self_left]
 ·rw [if_neg (fun h => c (iff1.1 h)), if_neg c]
theorem store_worldK (w wr : World) (n g off : Nat) (d : Array α) (i : Nat) (x : α) (hi : i < d.size) (h : wr = putRowK enc k (Sort.ahead w n) g off d) : wr.setCells g (off + i * k) (enc x) = putRowK enc k (Sort.ahead w n) g off (d.setIfInBounds i x) := by
 subst h
 have hb : i * k + k ≤ d.size * k := by
  have := Nat.mul_le_mul_right k (show i + 1 ≤ d.size from hi); rwa [Nat.add_mul, Nat.one_mul] at this
 unfold putRowK
 rw [setCells_putRow _ _ _ _ _ _ (by rw [hk, size_flatK]; exact hb), flat_set enc k hk d i x hi]
theorem clear_worldK (w wr : World) (n g off : Nat) (d : Array α) (j m : Nat) (z : α) (vs : List Value) (hj : j + m ≤ d.size) (hl : vs.length = m * k) (hv : ∀ t, t < m * k → vs[t]! = (enc z)[t % k]!) (h : wr = putRowK enc k (Sort.ahead w n) g off d) : wr.setCells g (off + j * k) vs = putRowK enc k (Sort.ahead w n) g off (lay d j (List.replicate m z)) := by
 subst h
 have hb : j * k + m * k ≤ d.size * k := by rw [← Nat.add_mul]; exact Nat.mul_le_mul_right k hj
 unfold putRowK
 rw [setCells_putRow _ _ _ _ _ _ (by rw [hl, size_flatK]; exact hb), flat_lay enc k hk d j m z vs hj hl hv]
end
instance : DecidableEq Ed := fun a b => decidable_of_iff (cmpE a b = 0) (cmpE_zero a b)
theorem dd_snoc : ∀ (l : List Ed) (b a : Ed), dd (l ++ [b, a]) = if b = a then dd (l ++ [b]) else dd (l ++ [b]) ++ [a]
 | [], b, a => by
  show dd [b, a] = _
  unfold dd
  by_cases q : b = a
  ·rw [if_pos ((cmpE_zero b a).2 q), if_pos q, q]; rfl
  ·rw [if_neg (fun h => q ((cmpE_zero b a).1 h)), if_neg q]; rfl
 | [x], b, a => by
  have ih := dd_snoc [] b a
  show dd (x :: b :: [a]) = _
  show _ = if b = a then dd (x :: b :: []) else dd (x :: b :: []) ++ [a]
  unfold dd
  rw [show dd [b, a] = _ from ih]
  split
  ·split <;> rfl
  ·split <;> rfl
 | x :: y :: r, b, a => by
  have ih := dd_snoc (y :: r) b a
  show dd (x :: y :: (r ++ [b, a])) = _
  show _ = if b = a then dd (x :: y :: (r ++ [b])) else dd (x :: y :: (r ++ [b])) ++ [a]
  unfold dd
  rw [show dd (y :: (r ++ [b, a])) = _ from ih]
  split
  ·rfl
  ·split <;> rfl
theorem compact_dd (es : List Ed) : compact es = dd es := by
 have : ∀ m, m ≤ es.length → compactUpTo es.toArray m = dd (es.take m) := by
  intro m
  induction m with
  | zero => intro _; simp [compactUpTo, dd]
  | succ m ih =>
   intro h
   have hm : m < es.length := by omega
   have e0 : es.toArray[m]! = es[m] := by rw [getElem!_pos es.toArray m (by simpa using hm)]; simp
   rw [compactUpTo_succ, ih (by omega), e0]
   rw [List.take_add_one, List.getElem?_eq_getElem hm]
   cases m with
   | zero => simp [keeps, dd]
   | succ m =>
    have hm' : m < es.length := by omega
    have e1 : es.toArray[m]! = es[m] := by rw [getElem!_pos es.toArray m (by simpa using hm')]; simp
    have ek : keeps es.toArray (m + 1) = decide (es[m] ≠ es[m + 1]) := by
     unfold keeps
     rw [e0, show m + 1 - 1 = m from rfl, e1]
     rw [decide_eq_decide]
     constructor
     ·rintro (h | h)
      ·omega
      ·exact fun q => h q.symm
     ·exact fun h => .inr fun q => h q.symm
    rw [ek, List.take_add_one, List.getElem?_eq_getElem hm']
    simp only [Option.toList_some, List.append_assoc, List.cons_append, List.nil_append]
    rw [dd_snoc]
    by_cases q : es[m] = es[m + 1]
    ·simp [q]
    ·simp [q]
 unfold compact
 rw [this _ (Nat.le_refl _), List.take_length]
theorem eqE (x0 x1 x2 y0 y1 y2 : Int) (w : World) : (Op.equalIn 10000 80 (.agg #[.int .i64 x0, .int .i64 x1, .int .i64 x2]) (.agg #[.int .i64 y0, .int .i64 y1, .int .i64 y2])).run Try.prog w = .ok (x0 == y0 && (x1 == y1 && x2 == y2)) w := by
 refine eqA_of Try.underlying80 (by kernel_rfl) ?_
 refine eqf_cons (by rfl) (by go_simp; rfl) (by go_simp; rfl) (by go_simp) ?_
 refine eqf_cons (by rfl) (by go_simp; rfl) (by go_simp; rfl) (by go_simp) ?_
 exact eqf_last (by rfl) (by go_simp; rfl) (by go_simp; rfl) (by go_simp)
theorem eqE_yes {x y : Ed} (h : x = y) (w : World) : (Op.equalIn 10000 80 (.agg #[.int .i64 x.f0, .int .i64 x.f1, .int .i64 x.f2]) (.agg #[.int .i64 y.f0, .int .i64 y.f1, .int .i64 y.f2])).run Try.prog w = .ok true w := by
 subst h; rw [eqE]; simp
theorem eqE_no {x y : Ed} (h : ¬ x = y) (w : World) : (Op.equalIn 10000 80 (.agg #[.int .i64 x.f0, .int .i64 x.f1, .int .i64 x.f2]) (.agg #[.int .i64 y.f0, .int .i64 y.f1, .int .i64 y.f2])).run Try.prog w = .ok false w := by
 rw [eqE]
 congr 1
 obtain ⟨x0, x1, x2⟩ := x
 obtain ⟨y0, y1, y2⟩ := y
 rw [S80.mk.injEq] at h
 simpa using h
theorem cellE {w : World} {g : Nat} {d : Array Ed} (h : HoldsK encE 3 w g 0 d) {i : Nat} (hi : i < d.size) : w.cell? ⟨g, i * 3, none⟩ = some (.int .i64 d[i]!.f0) ∧ w.cell? ⟨g, i * 3 + 1, none⟩ = some (.int .i64 d[i]!.f1) ∧ w.cell? ⟨g, i * 3 + 2, none⟩ = some (.int .i64 d[i]!.f2) ∧
  (w.frozen? ⟨g, i * 3, none⟩ = false ∧ w.frozen? ⟨g, i * 3 + 1, none⟩ = false ∧ w.frozen? ⟨g, i * 3 + 2, none⟩ = false) := by
 have c0 := h.cell hi (show 0 < 3 by omega)
 have c1 := h.cell hi (show 1 < 3 by omega)
 have c2 := h.cell hi (show 2 < 3 by omega)
 simp only [Nat.zero_add, Nat.add_zero] at c0 c1 c2
 exact ⟨c0.1, c1.1, c2.1, c0.2, c1.2, c2.2⟩
set_option maxHeartbeats 4000000 in
set_option maxRecDepth 1000000 in
theorem compact_arr (g cap : Nat) (d : Array Ed) (w : World) (hH : HoldsK encE 3 w g 0 d) (hsz : d.size ≤ 1000000) (hcap : d.size ≤ cap) :
  Calls Try.prog 134 #[.slice (some ⟨g, 0, none⟩) d.size cap] w fun e w' => e = .returned (.slice (some ⟨g, 0, none⟩) (compactUpTo d d.size).length cap) ∧ ∃ q, w' = putRowK encE 3 (Sort.ahead w q) g 0 (compactUpTo d d.size ++ List.replicate (d.size - (compactUpTo d d.size).length) z80).toArray := by
 have same : ∀ q, (∀ j, j < d.size → keeps d j = true) → (compactUpTo d d.size).length = d.size ∧ w.drewN q = putRowK encE 3 (Sort.ahead w q) g 0 (compactUpTo d d.size ++ List.replicate (d.size - (compactUpTo d d.size).length) z80).toArray := by
  intro q hall;have e : compactUpTo d d.size = d.toList := by rw [compactUpTo_all d _ hall, range_map_get]
  rw [e];refine ⟨by simp, ?_⟩;simp only [Array.length_toList, Nat.sub_self, List.replicate_zero, List.append_nil, Array.toArray_toList];exact (putRowK_self encE 3 (Sort.ahead w q) g 0 d (holdsK_ahead encE 3 w q g 0 d hH)).symm
 have HS := Aside0.mk same;clear same;by_cases h2 : d.size < 2
 ·have HH := Aside0.mk hH;clear hH;go_enter Try.func134, Try.ntmps134
  go_wp2
  go_ret
  obtain ⟨e1, e2⟩ := HS.out 0 (fun j hj => keeps_lt_one d j (by omega));exact ⟨by rw [e1]; rfl, 0, e2⟩
 ·have HH := Aside0.mk hH;clear hH;go_enter Try.func134, Try.ntmps134
  go_wp2
  go_loopg [3] d.size (fun gg s3 wr => ∃ k q : Nat, 1 ≤ k ∧ k ≤ d.size ∧ d.size - k ≤ gg ∧ s3 = .int .i64 k ∧ wr = w.drewN q ∧ Aside0 (∀ j, j < k → keeps d j = true))
  case atStart => exact ⟨1, 0, Nat.le_refl _, by omega, by omega, rfl, rfl, ⟨keeps_lt_one d⟩⟩
  case round =>
   obtain ⟨k, q, a7, hk, hg, rfl, rfl, hall⟩ := hrel;by_cases hlt : k < d.size
   ·obtain ⟨c10, a3, a4, f10⟩ := cellE HH.out hlt;obtain ⟨a0, a1, a2, f00⟩ := cellE HH.out (show k - 1 < d.size by omega);generalize hx : d[k]! = x at c10 a3 a4;generalize hy : d[k - 1]! = y at a0 a1 a2;have B := Aside0.mk (And.intro hx hy);clear hx hy f10 f00;by_cases hdup : x = y
    ·have hE := fun W => eqE_yes (x := x) (y := y) hdup W
     go_wp2_with fail
     go_quiet (fail)
     go_wp2
     clear c10 a3 a4 a0 a1 a2 hE;have HD := Aside0.mk (B.out.1.trans (hdup.trans B.out.2.symm));clear hdup B;go_loopg [3, 5] d.size (fun gg s3 s5 wr => ∃ (kk k2 q2 : Nat) (dk : Array Ed), s3 = .int .i64 kk ∧ s5 = .int .i64 k2 ∧ 1 ≤ k2 ∧ k + k2 ≤ d.size ∧ d.size - (k + k2) ≤ gg ∧ Aside0 (wr = putRowK encE 3 (Sort.ahead w q2) g 0 dk) ∧ Aside0 (CompInv d (k + k2) kk dk))
     case atStart => exact ⟨k, 1, _, d, rfl, rfl, Nat.le_refl _, by omega, by omega, ⟨(putRowK_self encE 3 (Sort.ahead w _) g 0 d (holdsK_ahead encE 3 w _ g 0 d HH.out)).symm⟩, ⟨CompInv.start hall.out (keeps_neg (by omega) HD.out)⟩⟩
     case round =>
      obtain ⟨kk, k2, q2, dk, rfl, rfl, h1, hle, a6, W2, I2⟩ := hrel;have hkk := I2.out.lt;have hds := I2.out.size;have HK := Aside0.mk (show HoldsK encE 3 wr g 0 dk by rw [W2.out]; exact holdsK_putRowK encE 3 _ g 0 d dk (holdsK_ahead encE 3 w q2 g 0 d HH.out) hds);by_cases hlt2 : k + k2 < d.size
      ·obtain ⟨m0, m1, m2, _⟩ := cellE HK.out (i := k + k2) (by omega);obtain ⟨p0, p1, p2, _⟩ := cellE HK.out (i := k + (k2 - 1)) (by omega);obtain ⟨o0, o1, o2, f0, f1, f2⟩ := cellE HK.out (i := kk) (by omega);rw [I2.out.high _ (by omega), Nat.add_mul] at m0 m1 m2;rw [I2.out.high _ (by omega), Nat.add_mul] at p0 p1 p2;generalize hu : d[k + k2]! = u at m0 m1 m2;generalize hv : d[k + (k2 - 1)]! = v at p0 p1 p2;generalize dk[kk]! = old at o0 o1 o2;have C := Aside0.mk (And.intro hu hv);clear hu hv;by_cases huv : u = v
       ·have hE := fun W => eqE_yes (x := u) (y := v) huv W
        clear o0 o1 o2 f0 f1 f2;go_wp2_with fail
        go_quiet (fail)
        go_wp2
        go_roundg (d.size - (k + (k2 + 1)))
        case measure => omega
        case rel => exact ⟨kk, k2 + 1, _, dk, rfl, by go_num, by omega, by omega, Nat.le_refl _, ⟨by rw [W2.out]; exact putRowK_drewN encE 3 w q2 _ g 0 dk⟩, ⟨I2.out.skip (keeps_neg (by omega) (by rw [show k + k2 - 1 = k + (k2 - 1) by omega, C.out.1, C.out.2]; exact huv))⟩⟩
       ·have hE := fun W => eqE_no (x := u) (y := v) huv W
        go_wp2_with fail
        go_quiet (fail)
        go_wp2
        go_roundg (d.size - (k + (k2 + 1)))
        case measure => omega
        case rel =>
         have a5 := store_worldK encE 3 (fun _ => rfl) w (wr.drewN nq) (q2 + nq) g 0 dk kk u (by omega) (by rw [W2.out]; exact putRowK_drewN encE 3 w q2 nq g 0 dk);rw [Nat.zero_add] at a5;refine ⟨kk + 1, k2 + 1, q2 + nq, dk.setIfInBounds kk u, by go_num, by go_num, by omega, by omega, Nat.le_refl _, ⟨a5⟩, ⟨?_⟩⟩;have := I2.out.keep hlt2 (keeps_pos (by rw [show k + k2 - 1 = k + (k2 - 1) by omega, C.out.1, C.out.2]; exact huv));rwa [C.out.1] at this
      ·have hend : k + k2 = d.size := by omega
       have hzl : (Builtin.zeroCells #[Value.int .i64 0, .int .i64 0, .int .i64 0] (d.size - kk)).toList.length = (d.size - kk) * 3 := by simp [Builtin.zeroCells, Nat.mul_comm]
       have hcl : ∀ ty, (Builtin.clear_ #[23] ty #[.slice (some ⟨g, kk * 3, none⟩) (d.size - kk) (cap - kk)]).run Try.prog wr = .ok (.tuple #[]) (wr.setCells g (kk * 3) (Builtin.zeroCells #[Value.int .i64 0, .int .i64 0, .int .i64 0] (d.size - kk)).toList) := by
        intro ty;refine run_clear_edges wr ty g (kk * 3) (d.size - kk) (cap - kk) (by omega) (fun j hj => ?_) (fun j hj => ?_)
        ·rw [hzl] at hj;have := HK.out.cell (i := kk + j / 3) (c := j % 3) (by omega) (Nat.mod_lt _ (by omega));rw [show 0 + (kk + j / 3) * 3 + j % 3 = kk * 3 + j by omega] at this;rw [this.1]; rfl
        ·rw [hzl] at hj;have := HK.out.cell (i := kk + j / 3) (c := j % 3) (by omega) (Nat.mod_lt _ (by omega));rw [show 0 + (kk + j / 3) * 3 + j % 3 = kk * 3 + j by omega] at this;exact this.2
       have HW := Aside0.mk (clear_worldK encE 3 (fun _ => rfl) w wr q2 g 0 dk kk (d.size - kk) z80 (Builtin.zeroCells #[Value.int .i64 0, .int .i64 0, .int .i64 0] (d.size - kk)).toList (by omega) hzl (by
        intro t ht;rw [getElem!_pos _ t (by rw [hzl]; exact ht)];have h3 : t % 3 < 3 := Nat.mod_lt _ (by omega);rcases (show t % 3 = 0 ∨ t % 3 = 1 ∨ t % 3 = 2 by omega) with h | h | h <;> simp [Builtin.zeroCells, h, encE, z80]) W2.out)
       generalize (Builtin.zeroCells #[Value.int .i64 0, .int .i64 0, .int .i64 0] (d.size - kk)).toList = zc at hcl HW;clear hzl;go_wp2
       go_ret
       have hI := I2.out;rw [hend] at hI;refine ⟨by rw [hI.len]; rfl, q2, ?_⟩;have hw := HW.out;rw [Nat.zero_add] at hw;rw [hw, hI.len, ← hI.done z80]
    ·have hE := fun W => eqE_no (x := x) (y := y) hdup W
     go_wp2_with fail
     go_quiet (fail)
     go_wp2
     go_roundg (d.size - (k + 1))
     case measure => omega
     case rel =>
      refine ⟨k + 1, _, by omega, by omega, Nat.le_refl _, by go_num, rfl, ⟨fun j hj => ?_⟩⟩;by_cases e : j = k
      ·subst e;exact keeps_pos (by rw [B.out.1, B.out.2]; exact hdup)
      ·exact hall.out j (by omega)
   ·have : k = d.size := by omega
    subst this;go_wp2
    go_ret
    obtain ⟨e1, e2⟩ := HS.out q hall.out;exact ⟨by rw [e1]; rfl, q, e2⟩
theorem dd_len : ∀ l : List Ed, (dd l).length ≤ l.length
 | [] => Nat.le_refl _
 | [a] => Nat.le_refl _
 | a :: b :: r => by
  have ih := dd_len (b :: r)
  unfold dd
  split
  ·simp at ih ⊢; omega
  ·simp at ih ⊢; omega
theorem grown_sortedK (W : World) (g m : Nat) (d : Array Ed) (os : Array Obj) : W.grownBy (sortWorldK encE 3 W g 0 m d os) (some g) := by
 refine ⟨rfl, rfl, rfl, ?_, fun k hk hne => ?_⟩
 ·show W.heap.size ≤ ((W.heap.modify g (onCells (putCells id 0 (flatK encE 3 d)))) ++ os).size
  rw [Array.size_append, Array.size_modify]
  omega
 ·show ((W.heap.modify g (onCells (putCells id 0 (flatK encE 3 d)))) ++ os)[k]? = _
  rw [Array.getElem?_append_left (by rw [Array.size_modify]; omega), Array.getElem?_modify, if_neg (fun e => hne (by rw [e]))]
theorem sortC_any (base : Nat) (v : Value) (es : List Ed) (w : World) (h : Kd.R k80 80 w base (fun _ => True) v es) (hel : es.length ≤ 1000000) :
  Calls Try.prog 133 #[v, .func (.func 122) #[] #[]] w fun e w' => e = .returned (.tuple #[]) ∧ Kd.R k80 80 w' base (fun _ => True) v (sortedE es) ∧ w.grownBy w' v.ownBlock := by
 obtain ⟨A, c, rfl⟩ := Kd.R_slice h
 rcases A with _ | ad
 ·have h0 : es = [] := by
   obtain ⟨A', c', hv, _, hC⟩ := Kd.R_reads h
   injection hv with hA _ _
   subst hA
   rcases es with _ | ⟨x, r⟩
   ·rfl
   ·obtain ⟨ad, h, _⟩ := hC.2.2 (by simp)
    cases h
  subst h0
  refine (Calls.mono (R := fun e w' => e = .returned (.tuple #[]) ∧ w' = w) ?_ ?_)
  ·have := AnyF.slices_SortFunc_none Try.sortE none c (.func (.func 122) #[] #[]) w
   exact this
  ·rintro e w' ⟨rfl, rfl⟩
   exact ⟨rfl, by simpa [sortedE] using h, grown_of_below (Below.refl _ _) _⟩
 ·obtain ⟨g, rfl⟩ := Kd.R_head h
  refine (sortF_any g c es w (holdsK_of_R h) (Kd.R_lt h g rfl) hel).mono ?_
  rintro e w' ⟨rfl, n, os, rfl⟩
  have := R_sorted (es' := sortedE es) h (List.length_mergeSort es) n os
  rw [show (sortedE es).length = es.length from List.length_mergeSort es] at this
  exact ⟨rfl, this, grown_sortedK w g n _ os⟩
theorem sortedE_length (es : List Ed) : (sortedE es).length = es.length := List.length_mergeSort es
theorem compactE_any (g cap base : Nat) (es : List Ed) (w : World) (h : Kd.R k80 80 w base (fun _ => True) (.slice (some ⟨g, 0, none⟩) es.length cap) es) (hel : es.length ≤ 1000000) :
  Calls Try.prog 134 #[.slice (some ⟨g, 0, none⟩) es.length cap] w fun e w' => e = .returned (.slice (some ⟨g, 0, none⟩) (dd es).length cap) ∧ Kd.R k80 80 w' base (fun _ => True) (.slice (some ⟨g, 0, none⟩) (dd es).length cap) (dd es) ∧ w.grownBy w' (some g) := by
 have hc : es.length ≤ cap := (Kd.R_reads' h).2.1
 have hcd : compactUpTo es.toArray es.toArray.size = dd es := by rw [List.size_toArray]; exact compact_dd es
 have hw := compact_arr g cap es.toArray w (holdsK_of_R h) (by simpa using hel) (by simpa using hc)
 rw [hcd] at hw
 simp only [List.size_toArray] at hw
 refine hw.mono ?_
 rintro e w' ⟨rfl, q, rfl⟩
 have hl := dd_len es
 have hL : (dd es ++ List.replicate (es.length - (dd es).length) z80).length = es.length := by simp; omega
 have hs : putRowK encE 3 (Sort.ahead w q) g 0 (dd es ++ List.replicate (es.length - (dd es).length) z80).toArray = sortWorldK encE 3 w g 0 q (dd es ++ List.replicate (es.length - (dd es).length) z80).toArray #[] := by unfold sortWorldK; simp [grow]
 rw [hs]
 have hR := R_sorted h hL q #[]
 have hT := Kd.R_take (m := (dd es).length) hR (by simp)
 rw [List.take_left] at hT
 exact ⟨rfl, hT, grown_sortedK w g q _ #[]⟩
set_option maxHeartbeats 1000000 in
theorem compactE_none (A : Option Addr) (c : Nat) (w : World) : Calls Try.prog 134 #[.slice A 0 c] w fun e w' => e = .returned (.slice A 0 c) ∧ w' = w := by
 go_enter Try.func134, Try.ntmps134
 go_wp2
 go_ret
 exact ⟨rfl, rfl⟩
theorem compactC_any (base : Nat) (v : Value) (es : List Ed) (w : World) (h : Kd.R k80 80 w base (fun _ => True) v es) (hel : es.length ≤ 1000000) :
  Calls Try.prog 134 #[v] w fun e w' => ∃ v', e = .returned v' ∧ Kd.R k80 80 w' base (fun _ => True) v' (dd es) ∧ w.grownBy w' v.ownBlock := by
 obtain ⟨A, c, rfl⟩ := Kd.R_slice h
 rcases A with _ | ad
 ·have h0 : es = [] := by
   obtain ⟨A', c', hv, _, hC⟩ := Kd.R_reads h
   injection hv with hA _ _
   subst hA
   rcases es with _ | ⟨x, r⟩
   ·rfl
   ·obtain ⟨ad, h, _⟩ := hC.2.2 (by simp)
    cases h
  subst h0
  refine (compactE_none none c w).mono ?_
  rintro e w' ⟨rfl, rfl⟩
  exact ⟨_, rfl, h, grown_of_below (Below.refl _ _) _⟩
 ·obtain ⟨g, rfl⟩ := Kd.R_head h
  refine (compactE_any g c base es w h hel).mono ?_
  rintro e w' ⟨rfl, hR, hG⟩
  exact ⟨_, rfl, hR, hG⟩
end Go.Proofs.Ytmcbkmfpmcbdpaa.H
set_option linter.unusedVariables false
set_option linter.unusedSimpArgs false
namespace Go.Proofs.Ytmcbkmfpmcbdpaa.H
open Go.RowKit Go.Proofs.Ytmcbkmfpmcbdpaa.Pr Go.Proofs.YtmcbkmfpmcbdpaaW.PrintWords Go.Proofs.Ytmcbkmfpmcbdpaa.Sem Go.Proofs.YtmcbkmfpmcbdpaaW.PrintLast
set_option maxHeartbeats 4000000 in
set_option maxRecDepth 100000 in
theorem cloneS_any (xs : List ByteArray) (A : Option Addr) (c : Nat) (w : World) (hC : Kd.C Kd.string w A xs.length xs) (hel : xs.length ≤ 1000000) :
  Calls Try.prog 135 #[.slice A xs.length c] w fun e w' => ∃ v0 : Value, e = .returned v0 ∧ Kd.R Kd.string 9 w' w.heap.size (fun _ => True) v0 xs ∧ Below w.heap.size w w' := by
 have HC := Aside0.mk hC;have HB := Aside0.mk (Below.refl w.heap.size w);rcases A with _ | ad
 ·have h0 : xs.length = 0 := by
   rcases Nat.eq_zero_or_pos xs.length with h | h
   ·exact h
   ·obtain ⟨ad, h, _⟩ := hC.2.2 h
    cases h
  obtain rfl : xs = [] := List.eq_nil_of_length_eq_zero h0;clear hC HC h0;have q_ : ∀ (W : World) (a : Option Addr) (n c n' c' : Nat), (binOp .eql 22 (.slice a n c) (.slice none n' c')).run Try.prog W = .ok (.bool a.isNone) W := fun W a n c n' c' => Lib.run_eql_slice_nil W _ _ a n c n' c' Try.underlying22
  go_enter Try.func135, Try.ntmps135
  go_wp2
  go_ret
  exact ⟨_, rfl, Kd.R_nil _ _ _ _ _, HB.out⟩
 ·clear hC;have q_ : ∀ (W : World) (a : Option Addr) (n c n' c' : Nat), (binOp .eql 22 (.slice a n c) (.slice none n' c')).run Try.prog W = .ok (.bool a.isNone) W := fun W a n c n' c' => Lib.run_eql_slice_nil W _ _ a n c n' c' Try.underlying22
  go_enter Try.func135, Try.ntmps135
  go_wp2_with (first
   | ((with_reducible refine gate_dst (N := 5) rfl ?_); refine Kd.R_lit Kd.string _ 9 ?hg (N := 5) ?hd (xs := ([] : List ByteArray)) (inner := []) (ok := fun _ => True) (okp := fun _ => True) ?hr ?hp (fun _ hk => hk) trivial (Below.refl _ _) (Nat.le_refl _) (by simp) ?_; (case hd => rfl); (case hg => rfl); (case hr => first | (go_simp; done) | (go_simp; rfl)); (case hp => exact (Reps.none _ _)); intro v1 w1 ho hb hg_ hnew_; clear hg_ hnew_; have HO := Aside0.mk ho; have HB1 := Aside0.mk (below_step HB.out hb); clear ho hb)
   | (at_builtin; refine Kd.R_append_rows Kd.string (w0 := w) w.heap.size rfl (.tmp 5) (.tmp 6) 22 9 (.string ⟨#[]⟩) 16 rfl Try.underlying22 info9 rfl (by decide) (by omega) v1 [] xs (some ad) _ c (fun _ => True) (fun _ => False) rfl rfl HO.out (Kd.C_below HC.out HB1.out) (fun _ _ h => h) (fun _ h => h.elim) (fun _ _ => trivial) HB1.out HB1.out.size (by simp; omega) ?_; intro v2 w2 ho hb hg hat; have HO2 := Aside0.mk ho; have HB2 := Aside0.mk hb; clear ho hb hg hat))
  go_ret
  exact ⟨_, rfl, by simpa using HO2.out, HB2.out⟩
theorem sortedE_sortE (es : List Ed) : dd (sortedE es) = sortE es := by
 refine dd_sortE ?_ fun x => (List.mergeSort_perm _ _).mem_iff
 have := List.pairwise_mergeSort (le := fun x y => !(ltOf cmpE) y x) (fun a b c h1 h2 => by
  simp only [ltE, Bool.not_eq_true', decide_eq_false_iff_not] at *
  unfold elt at *; omega) (fun a b => by
  simp only [ltE, Bool.or_eq_true, Bool.not_eq_true', decide_eq_false_iff_not]
  unfold elt; omega) es
 refine this.imp fun {a b} h => ?_
 simpa only [ltE, Bool.not_eq_true', decide_eq_false_iff_not] using h
theorem sortE_length (es : List Ed) : (sortE es).length ≤ es.length := by
 rw [← sortedE_sortE]
 exact Nat.le_trans (dd_len _) (Nat.le_of_eq (sortedE_length es))
theorem BoxL.set2 {w : World} {b : Nat} {n : Int} {v1 v2 : Value} (h : BoxL w b n v1 v2) (u : Value) : BoxL (w.setCell ⟨b, 2, none⟩ u) b n v1 u := blk_put h 2 u rfl
set_option maxRecDepth 100000 in
theorem sort_any (n : Int) (ls : List ByteArray) (es : List Ed) (A1 A2 : Option Addr) (c1 c2 : Nat) (w : World) (hr1 : Kd.C Kd.string w A1 ls.length ls) (hc1 : ls.length ≤ c1) (hr2 : Kd.C k80 w A2 es.length es) (hc2 : es.length ≤ c2) (hl : ls.length ≤ 1000000) (he : es.length ≤ 1000000) {r1 : Int} {r2 : List ByteArray} {r3 : List Ed} {r4 : Int} (h : (if mayR n ls (sortE es) then (n, ls, sortE es, (0 : Int)) else (0, [], [], 1)) = (r1, r2, r3, r4)) :
  Calls Try.prog 104 #[.agg #[.int .i64 n, .slice A1 ls.length c1, .slice A2 es.length c2]] w fun e w' => ∃ v1_ v2_ : Value, e = .returned (.tuple #[.agg #[.int .i64 r1, v1_, v2_], .int .i64 r4]) ∧ Kd.R Kd.string 9 w' w.heap.size (fun _ => True) v1_ r2 ∧ Kd.R k80 80 w' w.heap.size (fun _ => True) v2_ r3 ∧ Below w.heap.size w w' := by
 have HB := Aside0.mk (Below.refl w.heap.size w);have b9 := Aside0.mk hr1;have e5 := Aside0.mk hr2;have HH := Aside0.mk h;clear hr1 hr2 h;go_enter Try.func104, Try.ntmps104
 go_wp2_with fail
 refine (clone_any es A2 c2 _ (Kd.C_below e5.out (below_alloc (below_alloc HB.out _) _)) he).mono ?_;rintro e w1 ⟨v1, rfl, hR, hB⟩;have d2 := Kd.R_lower (base' := w.heap.size) hR (below_alloc (below_alloc HB.out _) _).size;have a8 := Aside0.mk (show BoxL w1 w.heap.size n (.slice A1 ls.length c1) (.slice A2 es.length c2) from blk_below (blk_alloc (blk_new w _) _) hB);have e1 := Aside0.mk (show w1.heap[w.heap.size + 1]? = some (.cells #[.int .i64 0, .slice none 0 0, .slice none 0 0] 25 (0, 0)) from blk_below (by have := blk_new (w.alloc (.cells #[.int .i64 n, .slice A1 ls.length c1, .slice A2 es.length c2] 25)) (.cells #[.int .i64 0, .slice none 0 0, .slice none 0 0] 25); simpa using this) hB);have d5 := Aside0.mk (below_then (below_alloc (below_alloc HB.out _) _) (below_alloc (below_alloc HB.out _) _).size hB);have d8 := Aside0.mk d2;have b2 := a8.out.c2;have f2 := Go.Proofs.YtmcbkmfpmcbdpaaW.PrintWords.blk_frozen a8.out 2;obtain ⟨A4, c4, e8⟩ := Kd.R_slice d2;subst e8;clear hR hB d2;go_wp2_with fail
 have b4 := Aside0.mk (a8.out.set2 (.slice A4 es.length c4));have b6 := Aside0.mk (blk_far e1.out (p := ⟨w.heap.size, 2, none⟩) (by simp) (.slice A4 es.length c4));have a5 := Aside0.mk (Kd.R_set d8.out a8.out (by decide) 2 (.slice A4 es.length c4));have a9 := Aside0.mk (below_set d5.out (Nat.le_refl _) (j := 2) (v := .slice A4 es.length c4));clear b2 f2 a8 e1 d8 d5;generalize w1.setCell ⟨w.heap.size, 2, none⟩ (.slice A4 es.length c4) = w2 at b4 b6 a5 a9 ⊢;refine (sortC_any w.heap.size _ es w2 a5.out he).mono ?_;rintro e w3 ⟨rfl, hR, hG⟩;have b5 := Aside0.mk (show BoxL w3 w.heap.size n (.slice A1 ls.length c1) (.slice A4 es.length c4) from blk_grown b4.out hG (Kd.R_ne a5.out b4.out (by decide)));have d1 := Aside0.mk (blk_grown b6.out hG (Kd.R_ne a5.out b6.out (by decide)));have b8 := Aside0.mk (pw_below_grown a9.out _ a9.out.size hG (fun k hk => Kd.R_base a5.out k hk));have a7 := Aside0.mk hR;have b2 := b5.out.c2;clear b4 b6 a5 a9 hR hG;go_wp2_with fail
 refine (compactC_any w.heap.size _ (sortedE es) w3 a7.out (by rw [sortedE_length]; exact he)).mono ?_;rintro e w4 ⟨v5, rfl, hR, hG⟩;rw [sortedE_sortE] at hR;have a3 := Aside0.mk (show BoxL w4 w.heap.size n (.slice A1 ls.length c1) (.slice A4 es.length c4) from blk_grown b5.out hG (Kd.R_ne a7.out b5.out (by decide)));have e2 := Aside0.mk (blk_grown d1.out hG (Kd.R_ne a7.out d1.out (by decide)));have d6 := Aside0.mk (pw_below_grown b8.out _ b8.out.size hG (fun k hk => Kd.R_base a7.out k hk));obtain ⟨A6, c6, e9⟩ := Kd.R_slice hR;subst e9;have d9 := Aside0.mk hR;have b0 := a3.out.c0;have b1 := a3.out.c1;have b2' := a3.out.c2;have f2 := Go.Proofs.YtmcbkmfpmcbdpaaW.PrintWords.blk_frozen a3.out 2;clear b2 b5 d1 a7 b8 hR hG;go_wp2_with fail
 have d0 := Aside0.mk (a3.out.set2 (.slice A6 (sortE es).length c6));have b7 := Aside0.mk (blk_far e2.out (p := ⟨w.heap.size, 2, none⟩) (by simp) (.slice A6 (sortE es).length c6));have b3 := Aside0.mk (Kd.R_set d9.out a3.out (by decide) 2 (.slice A6 (sortE es).length c6));have a1 := Aside0.mk (below_set d6.out (Nat.le_refl _) (j := 2) (v := .slice A6 (sortE es).length c6));clear b0 b1 b2' f2 a3 e2 d9 d6;generalize w4.setCell ⟨w.heap.size, 2, none⟩ (.slice A6 (sortE es).length c6) = w5 at d0 b7 b3 a1 ⊢;obtain ⟨_, _, hv, hcl, hC⟩ := Kd.R_reads b3.out;injection hv with hA _ hc
 subst hA hc;have d7 := Aside0.mk hC;have f3 := Aside0.mk hcl;clear hC hcl
 cases hm : mayR n ls (sortE es) with
 | false =>
  have HF := HH.out;rw [hm, if_neg (by simp)] at HF;simp only [Prod.mk.injEq] at HF;obtain ⟨rfl, rfl, rfl, rfl⟩ := HF;refine (check_no n ls (sortE es) A1 A6 c1 c6 w5 (Kd.C_below b9.out a1.out) d7.out (by rw [may_same]; exact hm)).mono ?_;rintro e w6 ⟨rfl, hB⟩;have a0 := Aside0.mk (blk_below b7.out hB);have a4 := Aside0.mk (below_then a1.out a1.out.size hB);have y0 := bcz a0 0 rfl;have y1 := bcz a0 1 rfl;have y2 := bcz a0 2 rfl;have g0 := Go.Proofs.YtmcbkmfpmcbdpaaW.PrintWords.blk_frozen a0.out 0;have g1 := Go.Proofs.YtmcbkmfpmcbdpaaW.PrintWords.blk_frozen a0.out 1;have g2 := Go.Proofs.YtmcbkmfpmcbdpaaW.PrintWords.blk_frozen a0.out 2;clear hB hm;go_wp2
  refine bodyPost_ret (results_ct rfl _ _ (w.heap.size + 1) 25 #[.int .i64 0, .slice none 0 0, .slice none 0 0] (0, 0) _ rfl (blk_put (blk_put (blk_put a0.out 0 (.int .i64 0) rfl) 1 (.slice none 0 0) rfl) 2 (.slice none 0 0) rfl) Try.underlying25 rfl (by kernel_rfl)) rfl ?_;exact ⟨_, _, rfl, Kd.R_nil _ _ _ _ _, Kd.R_nil _ _ _ _ _, below_set (below_set (below_set a4.out (by omega)) (by omega)) (by omega)⟩
 | true =>
  have HF := HH.out;rw [hm, if_pos rfl] at HF;simp only [Prod.mk.injEq] at HF;obtain ⟨rfl, rfl, rfl, rfl⟩ := HF;refine (check_yes n ls (sortE es) A1 A6 c1 c6 w5 (Kd.C_below b9.out a1.out) d7.out (by rw [may_same]; exact hm)).mono ?_;rintro e w6 ⟨rfl, hB⟩;have e0 := Aside0.mk (d0.out.below hB);have a0 := Aside0.mk (blk_below b7.out hB);have e6 := Aside0.mk (Kd.R_below b3.out hB);have a4 := Aside0.mk (below_then a1.out a1.out.size hB);have b1 := e0.out.c1;clear hB hm d0 b7 b3 a1;go_wp2_with fail
  refine (cloneS_any ls A1 c1 w6 (Kd.C_below b9.out a4.out) hl).mono ?_;rintro e w7 ⟨v8, rfl, hR, hB⟩;obtain ⟨A8, c8, f0⟩ := Kd.R_slice hR;subst f0;have a6 := Aside0.mk (e0.out.below hB);have a2 := Aside0.mk (blk_below a0.out hB);have e7 := Aside0.mk (Kd.R_below e6.out hB);have e4 := Aside0.mk (Kd.R_lower hR a4.out.size);have e3 := Aside0.mk (below_then a4.out a4.out.size hB);have b0 := a6.out.c0;have b1' := a6.out.c1;have b2 := a6.out.c2;have f1 := Go.Proofs.YtmcbkmfpmcbdpaaW.PrintWords.blk_frozen a6.out 1;have y0 := bcz a2 0 rfl;have y1 := bcz a2 1 rfl;have y2 := bcz a2 2 rfl;have g0 := Go.Proofs.YtmcbkmfpmcbdpaaW.PrintWords.blk_frozen a2.out 0;have g1 := Go.Proofs.YtmcbkmfpmcbdpaaW.PrintWords.blk_frozen a2.out 1;have g2 := Go.Proofs.YtmcbkmfpmcbdpaaW.PrintWords.blk_frozen a2.out 2;clear b1 hB hR;go_wp2
  refine bodyPost_ret (results_ct rfl _ _ (w.heap.size + 1) 25 #[.int .i64 n, .slice A8 ls.length c8, .slice A6 (sortE es).length c6] (0, 0) _ rfl (blk_put (blk_put (blk_put (blk_far a2.out (p := ⟨w.heap.size, 1, none⟩) (by simp) _) 0 (.int .i64 n) rfl) 1 (.slice A8 ls.length c8) rfl) 2 (.slice A6 (sortE es).length c6) rfl) Try.underlying25 rfl (by kernel_rfl)) rfl ?_;have d3 := blk_far a2.out (p := ⟨w.heap.size, 1, none⟩) (by simp) (.slice A8 ls.length c8);have d4 := blk_put d3 0 (.int .i64 n) rfl;have hYa := blk_put d4 1 (.slice A8 ls.length c8) rfl
  exact ⟨_, _, rfl, Kd.R_set (Kd.R_set (Kd.R_set (Kd.R_set e4.out a6.out (by decide) 1 _) d3 (by decide) 0 _) d4 (by decide) 1 _) hYa (by decide) 2 _,
   Kd.R_set (Kd.R_set (Kd.R_set (Kd.R_set e7.out a6.out (by decide) 1 _) d3 (by decide) 0 _) d4 (by decide) 1 _) hYa (by decide) 2 _,
   below_set (below_set (below_set (below_set e3.out (Nat.le_refl _)) (by omega)) (by omega)) (by omega)⟩
end Go.Proofs.Ytmcbkmfpmcbdpaa.H
set_option linter.unusedVariables false
set_option linter.unusedSimpArgs false
namespace Go.Proofs.Ytmcbkmfpmcbdpaa.H
open Go.RowKit Go.Proofs.Ytmcbkmfpmcbdpaa.Pr Go.Proofs.YtmcbkmfpmcbdpaaW.PrintWords Go.Proofs.Ytmcbkmfpmcbdpaa.Sem Go.Proofs.YtmcbkmfpmcbdpaaW.PrintLast
theorem sortE_sorted (es : List Ed) : (sortE es).Pairwise elt := (fold_ins es [] List.Pairwise.nil).1
theorem sortE_mem (es : List Ed) (x : Ed) : x ∈ sortE es ↔ x ∈ es := by
 have := (fold_ins es [] List.Pairwise.nil).2 x
 rw [show sortE es = es.foldl (fun o e => insE e o) [] from rfl, this]
 simp
theorem sortE_snoc (es : List Ed) (x : Ed) : sortE (es ++ [x]) = insE x (sortE es) := by simp [sortE, List.foldl_append]
theorem take_snocE {xs : List Ed} {k : Nat} (hk : k < xs.length) : xs.take (k + 1) = xs.take k ++ [xs.getD k z80] := by
 rw [List.take_add_one, List.getElem?_eq_getElem hk, getD_get hk]
 rfl
theorem pw_get {o : List Ed} (h : o.Pairwise elt) {i j : Nat} (hij : i < j) (hj : j < o.length) : elt (o.getD i z80) (o.getD j z80) := by
 rw [getD_get (by omega), getD_get hj]
 exact List.pairwise_iff_getElem.1 h i j (by omega) hj hij
theorem ins_here {e : Ed} {o : List Ed} (ho : o.Pairwise elt) (he : e ∈ o) : insE e o = o :=
 strict_unique _ _ (insE_sorted e o ho) ho fun x => by
  rw [insE_mem]
  constructor
  ·rintro (rfl | h)
   ·exact he
   ·exact h
  ·exact .inr
theorem ins_back {e : Ed} {o : List Ed} (ho : o.Pairwise elt) {t : Nat} (ht : t ≤ o.length) (h1 : ∀ j, t ≤ j → j < o.length → elt e (o.getD j z80)) (h2 : 0 < t → elt (o.getD (t - 1) z80) e) :
  insE e o = o.take t ++ e :: o.drop t := by
 refine strict_unique _ _ (insE_sorted e o ho) ?_ fun x => ?_
 ·have hlow : ∀ a ∈ o.take t, elt a e := by
   intro a ha;obtain ⟨i, hi, rfl⟩ := List.getElem_of_mem ha;rw [List.length_take] at hi;rw [List.getElem_take];have h3 := h2 (by omega);rcases Nat.lt_or_ge i (t - 1) with q | q
   ·have := pw_get ho q (by omega);rw [getD_get (by omega)] at this;exact elt_trans this h3
   ·obtain rfl : i = t - 1 := by omega
    rwa [getD_get (by omega)] at h3
  have hhigh : ∀ a ∈ o.drop t, elt e a := by
   intro a ha;obtain ⟨i, hi, rfl⟩ := List.getElem_of_mem ha;rw [List.length_drop] at hi;rw [List.getElem_drop];have := h1 (t + i) (by omega) (by omega);rwa [getD_get (by omega)] at this
  refine List.pairwise_append.2 ⟨ho.sublist (List.take_sublist _ _), List.pairwise_cons.2 ⟨hhigh, ho.sublist (List.drop_sublist _ _)⟩, fun a ha b hb => ?_⟩;rcases List.mem_cons.1 hb with rfl | hb
  ·exact hlow a ha
  ·exact elt_trans (hlow a ha) (hhigh b hb)
 ·rw [insE_mem, List.mem_append, List.mem_cons];constructor
  ·rintro (h | h)
   ·exact .inr (.inl h)
   ·rw [← List.take_append_drop t o, List.mem_append] at h;rcases h with h | h
    ·exact .inl h
    ·exact .inr (.inr h)
  ·rintro (h | h | h)
   ·exact .inr (List.mem_of_mem_take h)
   ·exact .inl h
   ·exact .inr (List.mem_of_mem_drop h)
set_option maxHeartbeats 8000000 in
set_option maxRecDepth 100000 in
theorem rsort_any (n : Int) (A1 : Option Addr) (m1 c1 : Nat) (es : List Ed) (A2 : Option Addr) (c2 : Nat) (w : World) (hr2 : Kd.C k80 w A2 es.length es) (he : es.length ≤ 1000000) :
  Calls Try.prog 102 #[.agg #[.int .i64 n, .slice A1 m1 c1, .slice A2 es.length c2]] w fun e w' => ∃ v2 : Value, e = .returned (.agg #[.int .i64 n, .slice A1 m1 c1, v2]) ∧ Kd.R k80 80 w' w.heap.size (fun _ => True) v2 (sortE es) ∧ Below w.heap.size w w' := by
 have HB := Aside0.mk (Below.refl w.heap.size w);have i4 := Aside0.mk hr2;clear hr2;go_enter Try.func102, Try.ntmps102
 have HZ : Aside0 (∀ W : World, Go.RowKit.Below w.heap.size w W → True) := ⟨fun _ _ => trivial⟩
 go_wp2_with ((with_reducible refine gate_dst (N := 8) rfl ?_); refine Kd.R_lit k80 _ 80 ?hg (N := 8) ?hd (xs := ([] : List Ed)) (inner := []) (ok := fun _ => True) (okp := fun _ => True) ?hr ?hp (fun _ hk => hk) trivial (Below.refl _ _) (Nat.le_refl _) (by simp) ?_; (case hd => rfl); (case hg => rfl); (case hr => first | (go_simp; done) | (go_simp; rfl)); (case hp => exact (Reps.none _ _)); intro v8 w1 ho hb hg_ hnew_; clear hg_ hnew_; have HO := Aside0.mk (Kd.R_lower (base' := w.heap.size) ho (below_alloc (below_alloc HB.out _) _).size); have HX := Aside0.mk (show BoxL w1 w.heap.size n (.slice A1 m1 c1) (.slice A2 es.length c2) from blk_below (blk_alloc (blk_new w _) _) hb); have HY := Aside0.mk (show w1.heap[w.heap.size + 1]? = some (.cells #[.int .i64 0, .slice none 0 0, .slice none 0 0] 25 (0, 0)) from blk_below (by have := blk_new (w.alloc (.cells #[.int .i64 n, .slice A1 m1 c1, .slice A2 es.length c2] 25)) (.cells #[.int .i64 0, .slice none 0 0, .slice none 0 0] 25); simpa using this) hb); have a6 := Aside0.mk (below_step (below_alloc (below_alloc HB.out _) _) hb); clear ho hb)
 clear HZ;go_loopw [3, 4] (fun v i wr => ∃ k : Nat, k ≤ es.length ∧ i = .int .i64 k ∧ Aside0 (Kd.R k80 80 wr w.heap.size (fun _ => True) v (sortE (es.take k))) ∧ Aside0 (BoxL wr w.heap.size n (.slice A1 m1 c1) (.slice A2 es.length c2)) ∧ Aside0 (wr.heap[w.heap.size + 1]? = some (.cells #[.int .i64 0, .slice none 0 0, .slice none 0 0] 25 (0, 0))) ∧ Aside0 (Below w.heap.size w wr)) (fun _ i _ => es.length - (intOf i).toNat)
 case atStart => exact ⟨0, Nat.zero_le _, rfl, HO, HX, HY, a6⟩
 case round =>
  clear HO HX HY a6;obtain ⟨k, hk, rfl, HO, HX, HY, a6⟩ := hrel;obtain ⟨Ao, co, hv⟩ := Kd.R_slice HO.out;subst hv;have b2 := HX.out.c2;by_cases hlt : k < es.length
  ·obtain ⟨ad, hA, g0, g1, g2⟩ := atE i4.out k hlt;subst hA;replace g0 := later a6.out g0;replace g1 := later a6.out g1;replace g2 := later a6.out g2;obtain ⟨x, hx⟩ : ∃ x, x = es.getD k z80 := ⟨_, rfl⟩
   rw [← hx] at g0 g1 g2;have HN := Aside0.mk (show sortE (es.take (k + 1)) = insE x (sortE (es.take k)) by rw [take_snocE hlt, sortE_snoc, ← hx]);obtain ⟨o, ho⟩ : ∃ o, o = sortE (es.take k) := ⟨_, rfl⟩
   have hol : o.length ≤ k := by rw [ho]; exact Nat.le_trans (sortE_length _) (by rw [List.length_take]; omega)
   have HS := Aside0.mk (show o.Pairwise elt by rw [ho]; exact sortE_sorted _);rw [← ho] at HO HN ⊢;clear hx ho;obtain ⟨_, cc, hv, hcl, hC⟩ := Kd.R_reads HO.out;injection hv with hA _ hc
   subst hA hc;have d9 := Aside0.mk hC;have HLc := Aside0.mk hcl;clear hC hcl;obtain ⟨i0, i3, _, hsz, _⟩ := info_parts info80;have e3 := Aside0.mk (And.intro i3 hsz);clear i3 hsz;go_wp2_with fail
   obtain ⟨wo, hwo⟩ : ∃ wo, wo = wr := ⟨_, rfl⟩
   subst hwo;have g5 := Aside0.mk (blk_new wo (Obj.cells #[.int .i64 x.f0, .int .i64 x.f1, .int .i64 x.f2] 80));have g8 := Aside0.mk (below_alloc (Below.refl wo.heap.size wo) (Obj.cells #[.int .i64 x.f0, .int .i64 x.f1, .int .i64 x.f2] 80));obtain ⟨E, hE⟩ : ∃ E, E = wo.heap.size := ⟨_, rfl⟩
   have HEE := Aside0.mk hE;rw [← hE] at g5 ⊢;clear hE g0 g1 g2;generalize (wo.alloc (Obj.cells #[Value.int IntKind.i64 x.f0, Value.int IntKind.i64 x.f1, Value.int IntKind.i64 x.f2] 80)) = W0 at g5 g8 ⊢;go_loopw [6] (fun a W => ∃ t : Nat, t ≤ o.length ∧ a = .int .i64 t ∧ Aside0 (∀ j, t ≤ j → j < o.length → elt x (o.getD j z80)) ∧ Aside0 (W.heap[E]? = (some (.cells #[.int .i64 x.f0, .int .i64 x.f1, .int .i64 x.f2] 80 (0, 0)))) ∧ Aside0 (Below wo.heap.size wo W)) (fun a _ => (intOf a).toNat)
   case atStart => exact ⟨o.length, Nat.le_refl _, rfl, ⟨fun j h1 h2 => by omega⟩, g5, g8⟩
   case round =>
    clear g5 g8;obtain ⟨t, ht, rfl, hz, HE, HW⟩ := hrel;rcases Nat.eq_zero_or_pos t with h0 | hp
    ·have HIns := Aside0.mk (ins_back (e := x) HS.out ht hz.out (fun h => by omega));have d7 : decide ((0 : Int) < (t : Int)) = false := decide_eq_false (by omega);have d8 : decide (0 < t) = false := decide_eq_false (by omega);clear h0;go_wp2_with fail
     go_quiet (fail)
     have HWa := Aside0.mk (pw_below_drewN HW.out nq);have HEa := Aside0.mk (show (wr.drewN nq).heap[E]? = _ from HE.out);generalize wr.drewN nq = Wa at HWa HEa ⊢;clear nq;go_wp2_with fail
     go_quiet (fail)
     have HWb := Aside0.mk (pw_below_drewN HWa.out nq);have HEb := Aside0.mk (show (Wa.drewN nq).heap[E]? = _ from HEa.out);generalize Wa.drewN nq = Wb at HWb HEb ⊢;clear b2 HWa HEa HW HE nq d7 d8;have hcf := cut_from (P := Try.prog) 23 80 .i64 Try.underlying23 e3.out.1 3 e3.out.2 Ao o.length co (t : Int) (by omega) (by omega);have hct := cut_to (P := Try.prog) 23 80 .i64 Try.underlying23 e3.out.1 Ao o.length co (t : Int) (by omega) (by omega) HLc.out;rw [Int.toNat_natCast] at hcf hct;obtain ⟨A7, d4⟩ : ∃ A7, A7 = (if co = t then Ao else Ao.map (·.add (t * 3))) := ⟨_, rfl⟩
     rw [← d4] at hcf;have g7 := Aside0.mk (show Kd.C k80 wo A7 (o.length - t) (o.drop t) by rw [d4]; have := Kd.C_drop d9.out ht HLc.out; rwa [List.length_drop] at this);have HCt := Aside0.mk (Kd.C_take d9.out ht);have hdl : (o.drop t).length = o.length - t := List.length_drop ..;have htl : (o.take t).length = t := by rw [List.length_take]; omega
     rw [htl] at HCt;have HDL := Aside0.mk hdl;have HTL := Aside0.mk htl;clear d4 hdl htl
     go_wp2_with (first
      | ((with_reducible refine gate_dst (N := 47) rfl ?_); refine Kd.R_lit k80 _ 80 ?hg (N := 47) ?hd (xs := ([] : List Ed)) (inner := []) (ok := fun _ => True) (okp := fun _ => True) ?hr ?hp (fun _ hk => hk) trivial (Below.refl _ _) (Nat.le_refl _) (by simp) ?_; (case hd => rfl); (case hg => rfl); (case hr => first | (go_simp; done) | (go_simp; rfl)); (case hp => exact (Reps.none _ _)); intro h5 w3 ho hb hg_ hn_; have a1 := Aside0.mk hb; have f3 := Aside0.mk ho; clear ho hb hg_ hn_)
      | (at_builtin; refine Kd.R_append_rows k80 (w0 := Wb) Wb.heap.size rfl (.tmp 47) (.tmp 50) 23 80 (.agg #[(.int .i64 0), (.int .i64 0), (.int .i64 0)]) 24 rfl Try.underlying23 info80 rfl (by decide) (by omega) h5 [] (o.drop t) A7 _ _ (fun _ => True) (fun _ => False) rfl rfl f3.out (Kd.C_below g7.out (below_then HWb.out HWb.out.size a1.out)) (fun _ _ h => h) (fun _ h => h.elim) (fun _ _ => trivial) a1.out a1.out.size (by have := HTL.out; have := HDL.out; simp only [List.length_nil, List.length_append, List.length_cons]; omega) ?_; intro h6 w4 ho hb hg hat; have d3 := Aside0.mk hb; have d2 := Aside0.mk (show Kd.R k80 80 w4 Wb.heap.size (fun _ => True) h6 (o.drop t) from ho); clear ho hb hg hat))
     obtain ⟨e4, i5, g3⟩ := Kd.R_slice d2.out;subst g3;have b9 := Aside0.mk (blk_below HEb.out d3.out);have e7 := Aside0.mk (below_then HWb.out HWb.out.size d3.out);have e0 : w4.cell? ⟨E, 0, none⟩ = some (.int .i64 x.f0) := bcz b9 0 rfl;have e1 : w4.cell? ⟨E, 1, none⟩ = some (.int .i64 x.f1) := bcz b9 1 rfl;have e2 : w4.cell? ⟨E, 2, none⟩ = some (.int .i64 x.f2) := bcz b9 2 rfl;clear hcf;refine start_ (n := 11) (S := fun w' => w'.cell? ⟨E, 0, none⟩ = some (.int .i64 x.f0) ∧ w'.cell? ⟨E, 1, none⟩ = some (.int .i64 x.f1) ∧ w'.cell? ⟨E, 2, none⟩ = some (.int .i64 x.f2)) (ds := []) (bqz 11 0) (by kernel_rfl) rfl rfl ⟨e0, e1, e2⟩ (fun hHeld => ?_);have b5 := Aside0.mk (below_drew1 (Below.refl w4.heap.size w4));have a0 := Aside0.mk (blk_below b9.out b5.out);have e5 := Aside0.mk (Kd.R_below d2.out b5.out);have a3 := Aside0.mk (below_then e7.out e7.out.size b5.out);have f9 : Wb.heap.size ≤ w4.drew.heap.size := Nat.le_trans d3.out.size b5.out.size;generalize w4.drew = V at b5 a0 e5 a3 f9 hHeld ⊢;have HV := Aside0.mk (Below.refl V.heap.size V);clear e0 e1 e2;refine pqz 1 (some 53) (bqz 11 2) rfl rfl (by kernel_rfl) ?_ ?_ (fun _ _ _ h => h) (by rfl) ?_ ?_ ?_;rotate_left 2;intro w';go_simp;(with_reducible rfl);simp only [Act.put, qz1, qz2, qz3, i64_w, i32_w];rfl
     refine pqz 2 (some 54) (bqz 11 6) rfl rfl (by kernel_rfl) ?_ ?_ (fun _ _ _ h => h) (by rfl) ?_ ?_ ?_;rotate_left 2;intro w';go_simp;(with_reducible rfl);simp only [Act.put, qz1, qz2, qz3, i64_w, i32_w];rfl
     refine pqz 3 (some 55) (bqz 11 14) rfl rfl (by kernel_rfl) ?_ ?_ (fun _ _ _ h => h) (by rfl) ?_ ?_ ?_;rotate_left 2;intro w';go_simp;(with_reducible rfl);simp only [Act.put, qz1, qz2, qz3, i64_w, i32_w];rfl
     refine pqz 8 (some 60) (bqz 11 270) rfl rfl (by kernel_rfl) ?_ ?_ (fun _ _ _ h => h) (by rfl) ?_ ?_ ?_;rotate_left 2;intro w';go_simp;(with_reducible rfl);simp only [Act.put, qz1, qz2, qz3, i64_w, i32_w];rfl
     refine tqz 5 (some 57) (bqz 11 302) rfl rfl (by kernel_rfl) ?_ ?_ (fun _ _ _ h => h) (by rfl) ?_ hHeld ?_ ?_;rotate_left 2;rintro w' ⟨s0, s1, s2⟩;go_simp;(with_reducible rfl);simp only [Act.put, qz1, qz2, qz3, i64_w, i32_w];rfl
     refine join_ (σ := Value × Value × Value) 3 (bqz 11 383) (fun s => [(52, s.1), (56, s.2.1), (58, s.2.2)]) (fun s w' => (w'.cell? ⟨E, 0, none⟩ = some (.int .i64 x.f0) ∧ w'.cell? ⟨E, 1, none⟩ = some (.int .i64 x.f1) ∧ w'.cell? ⟨E, 2, none⟩ = some (.int .i64 x.f2)) ∧ Kd.R k80 80 w' V.heap.size (fun _ => True) s.2.1 (o.take t) ∧ Kd.R k80 80 w' V.heap.size (fun _ => True) s.2.2 [x] ∧ Below V.heap.size V w') ?_ ?_;rotate_left
     ·intro hCont;refine two_ (i := 0) (j := 6) (Ni := some 52) (Nj := some 58) (bqz 11 303) (bqz 11 366) rfl rfl rfl rfl (by kernel_rfl) (by decide) (by decide) (fun K hK => ?_) (fun K hK => ?_)
      ·skip
       refine Kd.R_lit_step k80 _ 80 ?hg (N := 52) ?hd (xs := ([] : List Ed)) (inner := []) (ok := fun _ => True) (okp := fun _ => True) ?hr ?hp (fun _ hk => hk) trivial (Below.refl _ _) (Nat.le_refl _) (by simp) ?_; (case hd => rfl); (case hg => rfl); (case hr => first | (go_simp; done) | (go_simp; rfl)); (case hp => exact (Reps.none _ _))
       intro a9 h8 ho hb hg_ hn_;have HOa := Aside0.mk (Kd.R_lower (base' := V.heap.size) ho HV.out.size);have a5 := Aside0.mk (below_step HV.out hb);have hBf := Aside0.mk hb;clear ho hb hg_ hn_;refine hK.out _ _ ⟨later hBf.out (hHeld.1), later hBf.out (hHeld.2.1), later hBf.out (hHeld.2.2)⟩ (fun hHeld => ?_);clear hK K;refine norm_ (a' := ?_) ?_ ?_;rotate_left
       ·show Act.put _ (some 52) _ = _;simp only [Act.put, qz1, qz2, qz3, i64_w, i32_w];rfl
       refine two_ (i := 4) (j := 6) (Ni := some 56) (Nj := some 58) (bqz 11 319) (bqz 11 367) rfl rfl rfl rfl (by kernel_rfl) (by decide) (by decide) (fun K hK => ?_) (fun K hK => ?_)
       ·skip
        refine Kd.R_append_rows_step k80 (w0 := V) V.heap.size (by rfl) (.tmp 52) (.tmp 55) 23 80 (.agg #[(.int .i64 0), (.int .i64 0), (.int .i64 0)]) 24 rfl Try.underlying23 info80 rfl (by decide) (by omega) a9 [] (o.take t) Ao _ _ (fun _ => True) (fun _ => False) rfl rfl HOa.out (Kd.C_below HCt.out (below_then a3.out a3.out.size a5.out)) (fun _ _ h => h) (fun _ h => h.elim) (fun _ _ => trivial) a5.out a5.out.size (by have := HTL.out; have := HDL.out; simp only [List.length_nil, List.length_append, List.length_cons]; omega) ?_;intro a4 d6 ho hb hg hat;have f7 := Aside0.mk (show Kd.R k80 80 d6 V.heap.size (fun _ => True) a4 (o.take t) from ho);have a2 := Aside0.mk hb;clear ho hb hg hat;refine hK.out _ _ ⟨later a2.out (bcz a0 0 rfl), later a2.out (bcz a0 1 rfl), later a2.out (bcz a0 2 rfl)⟩ (fun hHeld => ?_);clear hK K;refine norm_ (a' := ?_) ?_ ?_;rotate_left
        ·show Act.put _ (some 56) _ = _;simp only [Act.put, qz1, qz2, qz3, i64_w, i32_w];rfl
        refine one_ (i := 6) (N := some 58) (bqz 11 383) rfl rfl (by kernel_rfl) (by decide) (fun K hK => ?_);refine Kd.R_lit_step k80 _ 80 ?hg (N := 58) ?hd (xs := ([x] : List Ed)) (inner := [.int .i64 x.f0, .int .i64 x.f1, .int .i64 x.f2]) (ok := fun _ => True) (okp := fun _ => True) ?hr ?hp (fun _ hk => hk) trivial (Below.refl _ _) (Nat.le_refl _) (by simp) ?_; (case hd => rfl); (case hg => rfl); (case hr => first | (go_simp; done) | (go_simp; rfl)); (case hp => exact (Reps.c3 (show Kd.M k80 _ _ _ x [.int .i64 x.f0, .int .i64 x.f1, .int .i64 x.f2] from k80_mkM _ _ _ x) (Reps.none _ _)))
        intro b4 d1 ho hb hg_ hn_;have a8 := Aside0.mk (Kd.R_lower (base' := V.heap.size) ho a2.out.size);have a7 := Aside0.mk (Kd.R_below f7.out hb);have a1 := Aside0.mk (below_step a2.out hb);have hBf := Aside0.mk hb;clear ho hb hg_ hn_;refine hK.out _ _ ⟨later hBf.out (hHeld.1), later hBf.out (hHeld.2.1), later hBf.out (hHeld.2.2)⟩ (fun hHeld => ?_);clear hK K;refine norm_ (a' := ?_) ?_ ?_;rotate_left
        ·show Act.put _ (some 58) _ = _;simp only [Act.put, qz1, qz2, qz3, i64_w, i32_w];rfl
        exact norm_ (by simp only [putAll, Act.put, qz1, qz2, qz3]) (hCont (a9, a4, b4) _ ⟨hHeld, a7.out, a8.out, a1.out⟩)
       ·skip
        refine Kd.R_lit_step k80 _ 80 ?hg (N := 58) ?hd (xs := ([x] : List Ed)) (inner := [.int .i64 x.f0, .int .i64 x.f1, .int .i64 x.f2]) (ok := fun _ => True) (okp := fun _ => True) ?hr ?hp (fun _ hk => hk) trivial (Below.refl _ _) (Nat.le_refl _) (by simp) ?_; (case hd => rfl); (case hg => rfl); (case hr => first | (go_simp; done) | (go_simp; rfl)); (case hp => exact (Reps.c3 (show Kd.M k80 _ _ _ x [.int .i64 x.f0, .int .i64 x.f1, .int .i64 x.f2] from k80_mkM _ _ _ x) (Reps.none _ _)))
        intro b4 d6 ho hb hg_ hn_;have b7 := Aside0.mk (Kd.R_lower (base' := V.heap.size) (Kd.R_new' ho (fun k hk => Kd.R_lt HOa.out k hk)) a5.out.size);have HOa' := Aside0.mk (Kd.R_below HOa.out hb);clear HOa;have HOa := HOa';clear HOa';have a2 := Aside0.mk (below_step a5.out hb);have hBf := Aside0.mk hb;clear ho hb hg_ hn_;refine hK.out _ _ ⟨later hBf.out (hHeld.1), later hBf.out (hHeld.2.1), later hBf.out (hHeld.2.2)⟩ (fun hHeld => ?_);clear hK K;refine norm_ (a' := ?_) ?_ ?_;rotate_left
        ·show Act.put _ (some 58) _ = _;simp only [Act.put, qz1, qz2, qz3, i64_w, i32_w];rfl
        refine one_ (i := 4) (N := some 56) (bqz 11 383) rfl rfl (by kernel_rfl) (by decide) (fun K hK => ?_);refine Kd.R_append_rows_step k80 (w0 := V) V.heap.size (by rfl) (.tmp 52) (.tmp 55) 23 80 (.agg #[(.int .i64 0), (.int .i64 0), (.int .i64 0)]) 24 rfl Try.underlying23 info80 rfl (by decide) (by omega) a9 [] (o.take t) Ao _ _ (fun _ => True) (fun _ => False) rfl rfl HOa.out (Kd.C_below HCt.out (below_then a3.out a3.out.size a2.out)) (fun _ _ h => h) (fun _ h => h.elim) (fun _ _ => trivial) a2.out a2.out.size (by have := HTL.out; have := HDL.out; simp only [List.length_nil, List.length_append, List.length_cons]; omega) ?_;intro a4 d1 ho hb hg hat;have a7 := Aside0.mk (show Kd.R k80 80 d1 V.heap.size (fun _ => True) a4 (o.take t) from ho);have a8 := Aside0.mk (Kd.R_mono (Kd.R_grown b7.out hg (fun _ hk => hk.2)) (fun _ _ => trivial));have a1 := Aside0.mk hb;clear ho hb hg hat;refine hK.out _ _ ⟨later a1.out (bcz a0 0 rfl), later a1.out (bcz a0 1 rfl), later a1.out (bcz a0 2 rfl)⟩ (fun hHeld => ?_);clear hK K;refine norm_ (a' := ?_) ?_ ?_;rotate_left
        ·show Act.put _ (some 56) _ = _;simp only [Act.put, qz1, qz2, qz3, i64_w, i32_w];rfl
        exact norm_ (by simp only [putAll, Act.put, qz1, qz2, qz3]) (hCont (a9, a4, b4) _ ⟨hHeld, a7.out, a8.out, a1.out⟩)
      ·skip
       refine Kd.R_lit_step k80 _ 80 ?hg (N := 58) ?hd (xs := ([x] : List Ed)) (inner := [.int .i64 x.f0, .int .i64 x.f1, .int .i64 x.f2]) (ok := fun _ => True) (okp := fun _ => True) ?hr ?hp (fun _ hk => hk) trivial (Below.refl _ _) (Nat.le_refl _) (by simp) ?_; (case hd => rfl); (case hg => rfl); (case hr => first | (go_simp; done) | (go_simp; rfl)); (case hp => exact (Reps.c3 (show Kd.M k80 _ _ _ x [.int .i64 x.f0, .int .i64 x.f1, .int .i64 x.f2] from k80_mkM _ _ _ x) (Reps.none _ _)))
       intro b4 h8 ho hb hg_ hn_;have f8 := Aside0.mk (Kd.R_lower (base' := V.heap.size) ho HV.out.size);have a5 := Aside0.mk (below_step HV.out hb);have hBf := Aside0.mk hb;clear ho hb hg_ hn_;refine hK.out _ _ ⟨later hBf.out (hHeld.1), later hBf.out (hHeld.2.1), later hBf.out (hHeld.2.2)⟩ (fun hHeld => ?_);clear hK K;refine norm_ (a' := ?_) ?_ ?_;rotate_left
       ·show Act.put _ (some 58) _ = _;simp only [Act.put, qz1, qz2, qz3, i64_w, i32_w];rfl
       refine one_ (i := 0) (N := some 52) (bqz 11 367) rfl rfl (by kernel_rfl) (by decide) (fun K hK => ?_);refine Kd.R_lit_step k80 _ 80 ?hg (N := 52) ?hd (xs := ([] : List Ed)) (inner := []) (ok := fun _ => True) (okp := fun _ => True) ?hr ?hp (fun _ hk => hk) trivial (Below.refl _ _) (Nat.le_refl _) (by simp) ?_; (case hd => rfl); (case hg => rfl); (case hr => first | (go_simp; done) | (go_simp; rfl)); (case hp => exact (Reps.none _ _))
       intro a9 d6 ho hb hg_ hn_;have HOa := Aside0.mk (Kd.R_lower (base' := V.heap.size) ho a5.out.size);have b7 := Aside0.mk (Kd.R_elder' f8.out (Kd.R_base ho) hb);have a2 := Aside0.mk (below_step a5.out hb);have hBf := Aside0.mk hb;clear ho hb hg_ hn_;refine hK.out _ _ ⟨later hBf.out (hHeld.1), later hBf.out (hHeld.2.1), later hBf.out (hHeld.2.2)⟩ (fun hHeld => ?_);clear hK K;refine norm_ (a' := ?_) ?_ ?_;rotate_left
       ·show Act.put _ (some 52) _ = _;simp only [Act.put, qz1, qz2, qz3, i64_w, i32_w];rfl
       refine one_ (i := 4) (N := some 56) (bqz 11 383) rfl rfl (by kernel_rfl) (by decide) (fun K hK => ?_);refine Kd.R_append_rows_step k80 (w0 := V) V.heap.size (by rfl) (.tmp 52) (.tmp 55) 23 80 (.agg #[(.int .i64 0), (.int .i64 0), (.int .i64 0)]) 24 rfl Try.underlying23 info80 rfl (by decide) (by omega) a9 [] (o.take t) Ao _ _ (fun _ => True) (fun _ => False) rfl rfl HOa.out (Kd.C_below HCt.out (below_then a3.out a3.out.size a2.out)) (fun _ _ h => h) (fun _ h => h.elim) (fun _ _ => trivial) a2.out a2.out.size (by have := HTL.out; have := HDL.out; simp only [List.length_nil, List.length_append, List.length_cons]; omega) ?_;intro a4 d1 ho hb hg hat;have a7 := Aside0.mk (show Kd.R k80 80 d1 V.heap.size (fun _ => True) a4 (o.take t) from ho);have a8 := Aside0.mk (Kd.R_mono (Kd.R_grown b7.out hg (fun _ hk => hk.2)) (fun _ _ => trivial));have a1 := Aside0.mk hb;clear ho hb hg hat;refine hK.out _ _ ⟨later a1.out (bcz a0 0 rfl), later a1.out (bcz a0 1 rfl), later a1.out (bcz a0 2 rfl)⟩ (fun hHeld => ?_);clear hK K;refine norm_ (a' := ?_) ?_ ?_;rotate_left
       ·show Act.put _ (some 56) _ = _;simp only [Act.put, qz1, qz2, qz3, i64_w, i32_w];rfl
       exact norm_ (by simp only [putAll, Act.put, qz1, qz2, qz3]) (hCont (a9, a4, b4) _ ⟨hHeld, a7.out, a8.out, a1.out⟩)
     rintro ⟨i9, a4, b4⟩ w5 ⟨hHeld, d5, b8, e8⟩;have f4 := Aside0.mk d5;obtain ⟨g6, i7, g4⟩ := Kd.R_slice b8;subst g4;have e9 := Aside0.mk ((Kd.R_reads' b8).2.2);have e6 := Aside0.mk e8;clear d5 b8 e8;refine norm_ (a' := ?_) ?_ ?_;rotate_left
     ·simp only [putAll, Act.put, qz1, qz2, qz3];rfl
     refine one_ (i := 7) (N := some 59) (bqz 11 511) rfl rfl (by kernel_rfl) (by decide) (fun K hK => ?_);refine Kd.R_append_rows_step k80 (w0 := V) V.heap.size (by rfl) (.tmp 56) (.tmp 58) 23 80 (.agg #[(.int .i64 0), (.int .i64 0), (.int .i64 0)]) 24 rfl Try.underlying23 info80 rfl (by decide) (by omega) a4 (o.take t) [x] g6 _ _ (fun _ => True) (fun _ => False) rfl rfl f4.out e9.out (fun _ _ h => h) (fun _ h => h.elim) (fun _ _ => trivial) e6.out e6.out.size (by have := HTL.out; have := HDL.out; simp only [List.length_nil, List.length_append, List.length_cons]; omega) ?_;intro h7 w6 ho hb hg hat;have f5 := Aside0.mk ho;have b3 := Aside0.mk hb;clear ho hb hg hat;refine hK.out _ _ ⟨later b3.out (bcz a0 0 rfl), later b3.out (bcz a0 1 rfl), later b3.out (bcz a0 2 rfl)⟩ (fun hHeld => ?_);clear hK K;refine norm_ (a' := ?_) ?_ ?_;rotate_left
     ·show Act.put _ (some 59) _ = _;simp only [Act.put, qz1, qz2, qz3, i64_w, i32_w];rfl
     refine one_ (i := 9) (N := some 61) (bqz 11 1023) rfl rfl (by kernel_rfl) (by decide) (fun K hK => ?_);refine Kd.R_append_rows_step k80 (w0 := V) V.heap.size (by rfl) (.tmp 59) (.tmp 60) 23 80 (.agg #[(.int .i64 0), (.int .i64 0), (.int .i64 0)]) 24 rfl Try.underlying23 info80 rfl (by decide) (by omega) h7 (o.take t ++ [x]) (o.drop t) e4 _ _ (fun _ => True) (fun _ => False) rfl rfl f5.out (Kd.C_below (show Kd.C k80 V e4 (o.length - t) (o.drop t) by have := (Kd.R_reads' e5.out).2.2; rwa [List.length_drop] at this) b3.out) (fun _ _ h => h) (fun _ h => h.elim) (fun _ _ => trivial) b3.out b3.out.size (by have := HTL.out; have := HDL.out; simp only [List.length_nil, List.length_append, List.length_cons]; omega) ?_;intro j5 w7 ho hb hg hat;have f6 := Aside0.mk ho;have d0 := Aside0.mk hb;clear ho hb hg hat;refine hK.out _ _ ⟨later d0.out (bcz a0 0 rfl), later d0.out (bcz a0 1 rfl), later d0.out (bcz a0 2 rfl)⟩ (fun hHeld => ?_);clear hK K;refine norm_ (a' := ?_) ?_ ?_;rotate_left
     ·show Act.put _ (some 61) _ = _;simp only [Act.put, qz1, qz2, qz3, i64_w, i32_w];rfl
     refine pqz 10 (some 3) (bqz 11 2047) rfl rfl (by kernel_rfl) ?_ ?_ (fun _ _ _ h => h) (by rfl) ?_ ?_ ?_;rotate_left 2;intro w';go_simp;(with_reducible rfl);simp only [Act.put, qz1, qz2, qz3, i64_w, i32_w];rfl
     refine done_ (by kernel_rfl) ?_;have HL := Aside0.mk (show (o.take t ++ [x]) ++ o.drop t = insE x o by rw [HIns.out]; simp);have HF := Aside0.mk (below_then a3.out a3.out.size d0.out);have g9 : w.heap.size ≤ V.heap.size := Nat.le_trans a6.out.size a3.out.size;go_wp2
     go_roundw
     case rel => exact ⟨k + 1, by omega, by go_num, ⟨by rw [HN.out, ← HL.out]; exact Kd.R_lower f6.out g9⟩, ⟨HX.out.below HF.out⟩, ⟨blk_below HY.out HF.out⟩, ⟨below_then a6.out a6.out.size HF.out⟩⟩
     case measure => simp [intOf]; omega
    ·obtain ⟨b6, i8, p0, p1, p2⟩ := atE d9.out (t - 1) (by omega);subst i8;obtain ⟨y, hy⟩ : ∃ y, y = o.getD (t - 1) z80 := ⟨_, rfl⟩
     rw [← hy] at p0 p1 p2;have PP := Aside0.mk (And.intro p0 (And.intro p1 p2));replace p0 := later HW.out p0;replace p1 := later HW.out p1;replace p2 := later HW.out p2;have HYY := Aside0.mk hy;have d7 : decide ((0 : Int) < (t : Int)) = true := decide_eq_true (by omega);have d8 : decide (0 < t) = true := decide_eq_true (by omega);have i0 : (0 : Int) ≤ (t : Int) - 1 := by omega
     have i1 : (t : Int) - 1 < (o.length : Int) := by omega
     have j0 : (1 : Int) ≤ (t : Int) := by omega
     have j1 : (t : Int) < (o.length : Int) + 1 := by omega
     have j2 : 1 ≤ t := by omega
     have j3 : t - 1 < o.length := by omega
     have j4 : (t : Int) ≤ (o.length : Int) := by omega
     have h3 : IntKind.i64.wrap ((t : Int) - 1) = (t : Int) - 1 := by rw [IntKind.wrap_i64]; omega
     have h4 : ((t : Int) - 1).toNat = t - 1 := by omega
     have e0 : wr.cell? ⟨E, 0, none⟩ = some (.int .i64 x.f0) := bcz HE 0 rfl;have e1 : wr.cell? ⟨E, 1, none⟩ = some (.int .i64 x.f1) := bcz HE 1 rfl;have e2 : wr.cell? ⟨E, 2, none⟩ = some (.int .i64 x.f2) := bcz HE 2 rfl;clear hy
     cases hC : decide (elt x y) with
     | true =>
      have HCm := Aside0.mk hC; clear hC
      go_wp2_with fail
      go_region_held3 (fun w' => w'.cell? ⟨E, 0, none⟩ = some (.int .i64 x.f0) ∧ w'.cell? ⟨E, 1, none⟩ = some (.int .i64 x.f1) ∧ w'.cell? ⟨E, 2, none⟩ = some (.int .i64 x.f2) ∧ w'.cell? (b6.add ((t - 1) * 3)) = some (.int .i64 y.f0) ∧ w'.cell? ⟨(b6.add ((t - 1) * 3)).block, (b6.add ((t - 1) * 3)).off + 1, none⟩ = some (.int .i64 y.f1) ∧ w'.cell? ⟨(b6.add ((t - 1) * 3)).block, (b6.add ((t - 1) * 3)).off + 2, none⟩ = some (.int .i64 y.f2)) (first | go_keep | (refine ⟨later hB ?_, later hB ?_, later hB ?_, later hB ?_, later hB ?_, later hB ?_⟩ <;> go_keep)) (first | (go_at_call 70; refine (ahead_any x y _ HCm.out _).mono ?_; rintro e w' ⟨rfl, hB⟩))
      have HWa := Aside0.mk (below_then (below_drew HW.out) (below_drew HW.out).size hB);have HEa := Aside0.mk (blk_below (show wr.drew.heap[E]? = _ from HE.out) hB);clear hB e0 e1 e2 h3 h4 i0 i1 j0 j1 j2 j3 j4 d7 d8 p0 p1 p2;go_wp2
      go_roundw
      case rel => exact ⟨t - 1, by omega, by go_num, ⟨fun j h1 h2 => by
       rcases Nat.lt_or_ge j t with q | q
       ·obtain rfl : j = t - 1 := by omega
        rw [← HYY.out]; exact of_decide_eq_true HCm.out
       ·exact hz.out j q h2⟩, HEa, HWa⟩
      case measure => simp [intOf]; omega
     | false =>
      have HCm := Aside0.mk hC; clear hC
      go_wp2_with fail
      go_region_held3 (fun w' => w'.cell? ⟨E, 0, none⟩ = some (.int .i64 x.f0) ∧ w'.cell? ⟨E, 1, none⟩ = some (.int .i64 x.f1) ∧ w'.cell? ⟨E, 2, none⟩ = some (.int .i64 x.f2) ∧ w'.cell? (b6.add ((t - 1) * 3)) = some (.int .i64 y.f0) ∧ w'.cell? ⟨(b6.add ((t - 1) * 3)).block, (b6.add ((t - 1) * 3)).off + 1, none⟩ = some (.int .i64 y.f1) ∧ w'.cell? ⟨(b6.add ((t - 1) * 3)).block, (b6.add ((t - 1) * 3)).off + 2, none⟩ = some (.int .i64 y.f2)) (first | go_keep | (refine ⟨later hB ?_, later hB ?_, later hB ?_, later hB ?_, later hB ?_, later hB ?_⟩ <;> go_keep)) (first | (go_at_call 70; refine (ahead_any x y _ HCm.out _).mono ?_; rintro e w' ⟨rfl, hB⟩))
      have HWa := Aside0.mk (below_then (below_drew HW.out) (below_drew HW.out).size hB);have HEa := Aside0.mk (blk_below (show wr.drew.heap[E]? = _ from HE.out) hB);clear hB e0 e1 e2 p0 p1 p2;have p0 := later HWa.out PP.out.1;have p1 := later HWa.out PP.out.2.1;have p2 := later HWa.out PP.out.2.2;have e0 : w'.cell? ⟨E, 0, none⟩ = some (.int .i64 x.f0) := bcz HEa 0 rfl;have e1 : w'.cell? ⟨E, 1, none⟩ = some (.int .i64 x.f1) := bcz HEa 1 rfl;have e2 : w'.cell? ⟨E, 2, none⟩ = some (.int .i64 x.f2) := bcz HEa 2 rfl;by_cases q : y = x
      ·have hE := fun W => eqE_yes (x := y) (y := x) q W
       have HQ := Aside0.mk q;clear q;go_wp2_with fail
       go_quiet (fail)
       have HWb := Aside0.mk (pw_below_drewN HWa.out nq);generalize w'.drewN nq = Wb at HWb ⊢;clear h3 h4 i0 i1 j0 j1 j2 j3 j4 d7 d8 p0 p1 p2 e0 e1 e2 nq hE;go_wp2
       go_roundw
       case rel => exact ⟨k + 1, by omega, by go_num, ⟨by rw [HN.out, ins_here HS.out (by rw [← HQ.out, HYY.out, getD_get (by omega)]; exact List.getElem_mem _)]; exact Kd.R_below HO.out HWb.out⟩, ⟨HX.out.below HWb.out⟩, ⟨blk_below HY.out HWb.out⟩, ⟨below_then a6.out a6.out.size HWb.out⟩⟩
       case measure => simp [intOf]; omega
      ·have hE := fun W => eqE_no (x := y) (y := x) q W
       have HIns := Aside0.mk (ins_back (e := x) HS.out ht hz.out (fun _ => by rw [← HYY.out]; exact elt_tri (of_decide_eq_false HCm.out) (fun h => q ((cmpE_zero x y).1 h).symm)));clear q;go_wp2_with fail
       go_quiet (fail)
       have HWb := Aside0.mk (pw_below_drewN HWa.out nq);have HEb := Aside0.mk (show (w'.drewN nq).heap[E]? = _ from HEa.out);generalize w'.drewN nq = Wb at HWb HEb ⊢;clear b2 HWa HEa HW HE nq h3 h4 i0 i1 j0 j1 j2 j3 j4 d7 d8 p0 p1 p2 e0 e1 e2 hE;obtain ⟨Ao, hAo⟩ : ∃ Ao, Ao = some b6 := ⟨_, rfl⟩
       rw [← hAo] at HO d9 ⊢;clear hAo;have hcf := cut_from (P := Try.prog) 23 80 .i64 Try.underlying23 e3.out.1 3 e3.out.2 Ao o.length co (t : Int) (by omega) (by omega);have hct := cut_to (P := Try.prog) 23 80 .i64 Try.underlying23 e3.out.1 Ao o.length co (t : Int) (by omega) (by omega) HLc.out;rw [Int.toNat_natCast] at hcf hct;obtain ⟨A7, d4⟩ : ∃ A7, A7 = (if co = t then Ao else Ao.map (·.add (t * 3))) := ⟨_, rfl⟩
       rw [← d4] at hcf;have g7 := Aside0.mk (show Kd.C k80 wo A7 (o.length - t) (o.drop t) by rw [d4]; have := Kd.C_drop d9.out ht HLc.out; rwa [List.length_drop] at this);have HCt := Aside0.mk (Kd.C_take d9.out ht);have hdl : (o.drop t).length = o.length - t := List.length_drop ..;have htl : (o.take t).length = t := by rw [List.length_take]; omega
       rw [htl] at HCt;have HDL := Aside0.mk hdl;have HTL := Aside0.mk htl;clear d4 hdl htl
       go_wp2_with (first
        | ((with_reducible refine gate_dst (N := 47) rfl ?_); refine Kd.R_lit k80 _ 80 ?hg (N := 47) ?hd (xs := ([] : List Ed)) (inner := []) (ok := fun _ => True) (okp := fun _ => True) ?hr ?hp (fun _ hk => hk) trivial (Below.refl _ _) (Nat.le_refl _) (by simp) ?_; (case hd => rfl); (case hg => rfl); (case hr => first | (go_simp; done) | (go_simp; rfl)); (case hp => exact (Reps.none _ _)); intro h5 w3 ho hb hg_ hn_; have a1 := Aside0.mk hb; have f3 := Aside0.mk ho; clear ho hb hg_ hn_)
        | (at_builtin; refine Kd.R_append_rows k80 (w0 := Wb) Wb.heap.size rfl (.tmp 47) (.tmp 50) 23 80 (.agg #[(.int .i64 0), (.int .i64 0), (.int .i64 0)]) 24 rfl Try.underlying23 info80 rfl (by decide) (by omega) h5 [] (o.drop t) A7 _ _ (fun _ => True) (fun _ => False) rfl rfl f3.out (Kd.C_below g7.out (below_then HWb.out HWb.out.size a1.out)) (fun _ _ h => h) (fun _ h => h.elim) (fun _ _ => trivial) a1.out a1.out.size (by have := HTL.out; have := HDL.out; simp only [List.length_nil, List.length_append, List.length_cons]; omega) ?_; intro h6 w4 ho hb hg hat; have d3 := Aside0.mk hb; have d2 := Aside0.mk (show Kd.R k80 80 w4 Wb.heap.size (fun _ => True) h6 (o.drop t) from ho); clear ho hb hg hat))
       obtain ⟨e4, i5, g3⟩ := Kd.R_slice d2.out;subst g3;have b9 := Aside0.mk (blk_below HEb.out d3.out);have e7 := Aside0.mk (below_then HWb.out HWb.out.size d3.out);have e0 : w4.cell? ⟨E, 0, none⟩ = some (.int .i64 x.f0) := bcz b9 0 rfl;have e1 : w4.cell? ⟨E, 1, none⟩ = some (.int .i64 x.f1) := bcz b9 1 rfl;have e2 : w4.cell? ⟨E, 2, none⟩ = some (.int .i64 x.f2) := bcz b9 2 rfl;clear hcf;refine start_ (n := 11) (S := fun w' => w'.cell? ⟨E, 0, none⟩ = some (.int .i64 x.f0) ∧ w'.cell? ⟨E, 1, none⟩ = some (.int .i64 x.f1) ∧ w'.cell? ⟨E, 2, none⟩ = some (.int .i64 x.f2)) (ds := []) (bqz 11 0) (by kernel_rfl) rfl rfl ⟨e0, e1, e2⟩ (fun hHeld => ?_);have b5 := Aside0.mk (below_drew1 (Below.refl w4.heap.size w4));have a0 := Aside0.mk (blk_below b9.out b5.out);have e5 := Aside0.mk (Kd.R_below d2.out b5.out);have a3 := Aside0.mk (below_then e7.out e7.out.size b5.out);have f9 : Wb.heap.size ≤ w4.drew.heap.size := Nat.le_trans d3.out.size b5.out.size;generalize w4.drew = V at b5 a0 e5 a3 f9 hHeld ⊢;have HV := Aside0.mk (Below.refl V.heap.size V);clear e0 e1 e2;refine pqz 1 (some 53) (bqz 11 2) rfl rfl (by kernel_rfl) ?_ ?_ (fun _ _ _ h => h) (by rfl) ?_ ?_ ?_;rotate_left 2;intro w';go_simp;(with_reducible rfl);simp only [Act.put, qz1, qz2, qz3, i64_w, i32_w];rfl
       refine pqz 2 (some 54) (bqz 11 6) rfl rfl (by kernel_rfl) ?_ ?_ (fun _ _ _ h => h) (by rfl) ?_ ?_ ?_;rotate_left 2;intro w';go_simp;(with_reducible rfl);simp only [Act.put, qz1, qz2, qz3, i64_w, i32_w];rfl
       refine pqz 3 (some 55) (bqz 11 14) rfl rfl (by kernel_rfl) ?_ ?_ (fun _ _ _ h => h) (by rfl) ?_ ?_ ?_;rotate_left 2;intro w';go_simp;(with_reducible rfl);simp only [Act.put, qz1, qz2, qz3, i64_w, i32_w];rfl
       refine pqz 8 (some 60) (bqz 11 270) rfl rfl (by kernel_rfl) ?_ ?_ (fun _ _ _ h => h) (by rfl) ?_ ?_ ?_;rotate_left 2;intro w';go_simp;(with_reducible rfl);simp only [Act.put, qz1, qz2, qz3, i64_w, i32_w];rfl
       refine tqz 5 (some 57) (bqz 11 302) rfl rfl (by kernel_rfl) ?_ ?_ (fun _ _ _ h => h) (by rfl) ?_ hHeld ?_ ?_;rotate_left 2;rintro w' ⟨s0, s1, s2⟩;go_simp;(with_reducible rfl);simp only [Act.put, qz1, qz2, qz3, i64_w, i32_w];rfl
       refine join_ (σ := Value × Value × Value) 3 (bqz 11 383) (fun s => [(52, s.1), (56, s.2.1), (58, s.2.2)]) (fun s w' => (w'.cell? ⟨E, 0, none⟩ = some (.int .i64 x.f0) ∧ w'.cell? ⟨E, 1, none⟩ = some (.int .i64 x.f1) ∧ w'.cell? ⟨E, 2, none⟩ = some (.int .i64 x.f2)) ∧ Kd.R k80 80 w' V.heap.size (fun _ => True) s.2.1 (o.take t) ∧ Kd.R k80 80 w' V.heap.size (fun _ => True) s.2.2 [x] ∧ Below V.heap.size V w') ?_ ?_;rotate_left
       ·intro hCont;refine two_ (i := 0) (j := 6) (Ni := some 52) (Nj := some 58) (bqz 11 303) (bqz 11 366) rfl rfl rfl rfl (by kernel_rfl) (by decide) (by decide) (fun K hK => ?_) (fun K hK => ?_)
        ·skip
         refine Kd.R_lit_step k80 _ 80 ?hg (N := 52) ?hd (xs := ([] : List Ed)) (inner := []) (ok := fun _ => True) (okp := fun _ => True) ?hr ?hp (fun _ hk => hk) trivial (Below.refl _ _) (Nat.le_refl _) (by simp) ?_; (case hd => rfl); (case hg => rfl); (case hr => first | (go_simp; done) | (go_simp; rfl)); (case hp => exact (Reps.none _ _))
         intro a9 h8 ho hb hg_ hn_;have HOa := Aside0.mk (Kd.R_lower (base' := V.heap.size) ho HV.out.size);have a5 := Aside0.mk (below_step HV.out hb);have hBf := Aside0.mk hb;clear ho hb hg_ hn_;refine hK.out _ _ ⟨later hBf.out (hHeld.1), later hBf.out (hHeld.2.1), later hBf.out (hHeld.2.2)⟩ (fun hHeld => ?_);clear hK K;refine norm_ (a' := ?_) ?_ ?_;rotate_left
         ·show Act.put _ (some 52) _ = _;simp only [Act.put, qz1, qz2, qz3, i64_w, i32_w];rfl
         refine two_ (i := 4) (j := 6) (Ni := some 56) (Nj := some 58) (bqz 11 319) (bqz 11 367) rfl rfl rfl rfl (by kernel_rfl) (by decide) (by decide) (fun K hK => ?_) (fun K hK => ?_)
         ·skip
          refine Kd.R_append_rows_step k80 (w0 := V) V.heap.size (by rfl) (.tmp 52) (.tmp 55) 23 80 (.agg #[(.int .i64 0), (.int .i64 0), (.int .i64 0)]) 24 rfl Try.underlying23 info80 rfl (by decide) (by omega) a9 [] (o.take t) Ao _ _ (fun _ => True) (fun _ => False) rfl rfl HOa.out (Kd.C_below HCt.out (below_then a3.out a3.out.size a5.out)) (fun _ _ h => h) (fun _ h => h.elim) (fun _ _ => trivial) a5.out a5.out.size (by have := HTL.out; have := HDL.out; simp only [List.length_nil, List.length_append, List.length_cons]; omega) ?_;intro a4 d6 ho hb hg hat;have f7 := Aside0.mk (show Kd.R k80 80 d6 V.heap.size (fun _ => True) a4 (o.take t) from ho);have a2 := Aside0.mk hb;clear ho hb hg hat;refine hK.out _ _ ⟨later a2.out (bcz a0 0 rfl), later a2.out (bcz a0 1 rfl), later a2.out (bcz a0 2 rfl)⟩ (fun hHeld => ?_);clear hK K;refine norm_ (a' := ?_) ?_ ?_;rotate_left
          ·show Act.put _ (some 56) _ = _;simp only [Act.put, qz1, qz2, qz3, i64_w, i32_w];rfl
          refine one_ (i := 6) (N := some 58) (bqz 11 383) rfl rfl (by kernel_rfl) (by decide) (fun K hK => ?_);refine Kd.R_lit_step k80 _ 80 ?hg (N := 58) ?hd (xs := ([x] : List Ed)) (inner := [.int .i64 x.f0, .int .i64 x.f1, .int .i64 x.f2]) (ok := fun _ => True) (okp := fun _ => True) ?hr ?hp (fun _ hk => hk) trivial (Below.refl _ _) (Nat.le_refl _) (by simp) ?_; (case hd => rfl); (case hg => rfl); (case hr => first | (go_simp; done) | (go_simp; rfl)); (case hp => exact (Reps.c3 (show Kd.M k80 _ _ _ x [.int .i64 x.f0, .int .i64 x.f1, .int .i64 x.f2] from k80_mkM _ _ _ x) (Reps.none _ _)))
          intro b4 d1 ho hb hg_ hn_;have a8 := Aside0.mk (Kd.R_lower (base' := V.heap.size) ho a2.out.size);have a7 := Aside0.mk (Kd.R_below f7.out hb);have a1 := Aside0.mk (below_step a2.out hb);have hBf := Aside0.mk hb;clear ho hb hg_ hn_;refine hK.out _ _ ⟨later hBf.out (hHeld.1), later hBf.out (hHeld.2.1), later hBf.out (hHeld.2.2)⟩ (fun hHeld => ?_);clear hK K;refine norm_ (a' := ?_) ?_ ?_;rotate_left
          ·show Act.put _ (some 58) _ = _;simp only [Act.put, qz1, qz2, qz3, i64_w, i32_w];rfl
          exact norm_ (by simp only [putAll, Act.put, qz1, qz2, qz3]) (hCont (a9, a4, b4) _ ⟨hHeld, a7.out, a8.out, a1.out⟩)
         ·skip
          refine Kd.R_lit_step k80 _ 80 ?hg (N := 58) ?hd (xs := ([x] : List Ed)) (inner := [.int .i64 x.f0, .int .i64 x.f1, .int .i64 x.f2]) (ok := fun _ => True) (okp := fun _ => True) ?hr ?hp (fun _ hk => hk) trivial (Below.refl _ _) (Nat.le_refl _) (by simp) ?_; (case hd => rfl); (case hg => rfl); (case hr => first | (go_simp; done) | (go_simp; rfl)); (case hp => exact (Reps.c3 (show Kd.M k80 _ _ _ x [.int .i64 x.f0, .int .i64 x.f1, .int .i64 x.f2] from k80_mkM _ _ _ x) (Reps.none _ _)))
          intro b4 d6 ho hb hg_ hn_;have b7 := Aside0.mk (Kd.R_lower (base' := V.heap.size) (Kd.R_new' ho (fun k hk => Kd.R_lt HOa.out k hk)) a5.out.size);have HOa' := Aside0.mk (Kd.R_below HOa.out hb);clear HOa;have HOa := HOa';clear HOa';have a2 := Aside0.mk (below_step a5.out hb);have hBf := Aside0.mk hb;clear ho hb hg_ hn_;refine hK.out _ _ ⟨later hBf.out (hHeld.1), later hBf.out (hHeld.2.1), later hBf.out (hHeld.2.2)⟩ (fun hHeld => ?_);clear hK K;refine norm_ (a' := ?_) ?_ ?_;rotate_left
          ·show Act.put _ (some 58) _ = _;simp only [Act.put, qz1, qz2, qz3, i64_w, i32_w];rfl
          refine one_ (i := 4) (N := some 56) (bqz 11 383) rfl rfl (by kernel_rfl) (by decide) (fun K hK => ?_);refine Kd.R_append_rows_step k80 (w0 := V) V.heap.size (by rfl) (.tmp 52) (.tmp 55) 23 80 (.agg #[(.int .i64 0), (.int .i64 0), (.int .i64 0)]) 24 rfl Try.underlying23 info80 rfl (by decide) (by omega) a9 [] (o.take t) Ao _ _ (fun _ => True) (fun _ => False) rfl rfl HOa.out (Kd.C_below HCt.out (below_then a3.out a3.out.size a2.out)) (fun _ _ h => h) (fun _ h => h.elim) (fun _ _ => trivial) a2.out a2.out.size (by have := HTL.out; have := HDL.out; simp only [List.length_nil, List.length_append, List.length_cons]; omega) ?_;intro a4 d1 ho hb hg hat;have a7 := Aside0.mk (show Kd.R k80 80 d1 V.heap.size (fun _ => True) a4 (o.take t) from ho);have a8 := Aside0.mk (Kd.R_mono (Kd.R_grown b7.out hg (fun _ hk => hk.2)) (fun _ _ => trivial));have a1 := Aside0.mk hb;clear ho hb hg hat;refine hK.out _ _ ⟨later a1.out (bcz a0 0 rfl), later a1.out (bcz a0 1 rfl), later a1.out (bcz a0 2 rfl)⟩ (fun hHeld => ?_);clear hK K;refine norm_ (a' := ?_) ?_ ?_;rotate_left
          ·show Act.put _ (some 56) _ = _;simp only [Act.put, qz1, qz2, qz3, i64_w, i32_w];rfl
          exact norm_ (by simp only [putAll, Act.put, qz1, qz2, qz3]) (hCont (a9, a4, b4) _ ⟨hHeld, a7.out, a8.out, a1.out⟩)
        ·skip
         refine Kd.R_lit_step k80 _ 80 ?hg (N := 58) ?hd (xs := ([x] : List Ed)) (inner := [.int .i64 x.f0, .int .i64 x.f1, .int .i64 x.f2]) (ok := fun _ => True) (okp := fun _ => True) ?hr ?hp (fun _ hk => hk) trivial (Below.refl _ _) (Nat.le_refl _) (by simp) ?_; (case hd => rfl); (case hg => rfl); (case hr => first | (go_simp; done) | (go_simp; rfl)); (case hp => exact (Reps.c3 (show Kd.M k80 _ _ _ x [.int .i64 x.f0, .int .i64 x.f1, .int .i64 x.f2] from k80_mkM _ _ _ x) (Reps.none _ _)))
         intro b4 h8 ho hb hg_ hn_;have f8 := Aside0.mk (Kd.R_lower (base' := V.heap.size) ho HV.out.size);have a5 := Aside0.mk (below_step HV.out hb);have hBf := Aside0.mk hb;clear ho hb hg_ hn_;refine hK.out _ _ ⟨later hBf.out (hHeld.1), later hBf.out (hHeld.2.1), later hBf.out (hHeld.2.2)⟩ (fun hHeld => ?_);clear hK K;refine norm_ (a' := ?_) ?_ ?_;rotate_left
         ·show Act.put _ (some 58) _ = _;simp only [Act.put, qz1, qz2, qz3, i64_w, i32_w];rfl
         refine one_ (i := 0) (N := some 52) (bqz 11 367) rfl rfl (by kernel_rfl) (by decide) (fun K hK => ?_);refine Kd.R_lit_step k80 _ 80 ?hg (N := 52) ?hd (xs := ([] : List Ed)) (inner := []) (ok := fun _ => True) (okp := fun _ => True) ?hr ?hp (fun _ hk => hk) trivial (Below.refl _ _) (Nat.le_refl _) (by simp) ?_; (case hd => rfl); (case hg => rfl); (case hr => first | (go_simp; done) | (go_simp; rfl)); (case hp => exact (Reps.none _ _))
         intro a9 d6 ho hb hg_ hn_;have HOa := Aside0.mk (Kd.R_lower (base' := V.heap.size) ho a5.out.size);have b7 := Aside0.mk (Kd.R_elder' f8.out (Kd.R_base ho) hb);have a2 := Aside0.mk (below_step a5.out hb);have hBf := Aside0.mk hb;clear ho hb hg_ hn_;refine hK.out _ _ ⟨later hBf.out (hHeld.1), later hBf.out (hHeld.2.1), later hBf.out (hHeld.2.2)⟩ (fun hHeld => ?_);clear hK K;refine norm_ (a' := ?_) ?_ ?_;rotate_left
         ·show Act.put _ (some 52) _ = _;simp only [Act.put, qz1, qz2, qz3, i64_w, i32_w];rfl
         refine one_ (i := 4) (N := some 56) (bqz 11 383) rfl rfl (by kernel_rfl) (by decide) (fun K hK => ?_);refine Kd.R_append_rows_step k80 (w0 := V) V.heap.size (by rfl) (.tmp 52) (.tmp 55) 23 80 (.agg #[(.int .i64 0), (.int .i64 0), (.int .i64 0)]) 24 rfl Try.underlying23 info80 rfl (by decide) (by omega) a9 [] (o.take t) Ao _ _ (fun _ => True) (fun _ => False) rfl rfl HOa.out (Kd.C_below HCt.out (below_then a3.out a3.out.size a2.out)) (fun _ _ h => h) (fun _ h => h.elim) (fun _ _ => trivial) a2.out a2.out.size (by have := HTL.out; have := HDL.out; simp only [List.length_nil, List.length_append, List.length_cons]; omega) ?_;intro a4 d1 ho hb hg hat;have a7 := Aside0.mk (show Kd.R k80 80 d1 V.heap.size (fun _ => True) a4 (o.take t) from ho);have a8 := Aside0.mk (Kd.R_mono (Kd.R_grown b7.out hg (fun _ hk => hk.2)) (fun _ _ => trivial));have a1 := Aside0.mk hb;clear ho hb hg hat;refine hK.out _ _ ⟨later a1.out (bcz a0 0 rfl), later a1.out (bcz a0 1 rfl), later a1.out (bcz a0 2 rfl)⟩ (fun hHeld => ?_);clear hK K;refine norm_ (a' := ?_) ?_ ?_;rotate_left
         ·show Act.put _ (some 56) _ = _;simp only [Act.put, qz1, qz2, qz3, i64_w, i32_w];rfl
         exact norm_ (by simp only [putAll, Act.put, qz1, qz2, qz3]) (hCont (a9, a4, b4) _ ⟨hHeld, a7.out, a8.out, a1.out⟩)
       rintro ⟨i9, a4, b4⟩ w5 ⟨hHeld, d5, b8, e8⟩;have f4 := Aside0.mk d5;obtain ⟨g6, i7, g4⟩ := Kd.R_slice b8;subst g4;have e9 := Aside0.mk ((Kd.R_reads' b8).2.2);have e6 := Aside0.mk e8;clear d5 b8 e8;refine norm_ (a' := ?_) ?_ ?_;rotate_left
       ·simp only [putAll, Act.put, qz1, qz2, qz3];rfl
       refine one_ (i := 7) (N := some 59) (bqz 11 511) rfl rfl (by kernel_rfl) (by decide) (fun K hK => ?_);refine Kd.R_append_rows_step k80 (w0 := V) V.heap.size (by rfl) (.tmp 56) (.tmp 58) 23 80 (.agg #[(.int .i64 0), (.int .i64 0), (.int .i64 0)]) 24 rfl Try.underlying23 info80 rfl (by decide) (by omega) a4 (o.take t) [x] g6 _ _ (fun _ => True) (fun _ => False) rfl rfl f4.out e9.out (fun _ _ h => h) (fun _ h => h.elim) (fun _ _ => trivial) e6.out e6.out.size (by have := HTL.out; have := HDL.out; simp only [List.length_nil, List.length_append, List.length_cons]; omega) ?_;intro h7 w6 ho hb hg hat;have f5 := Aside0.mk ho;have b3 := Aside0.mk hb;clear ho hb hg hat;refine hK.out _ _ ⟨later b3.out (bcz a0 0 rfl), later b3.out (bcz a0 1 rfl), later b3.out (bcz a0 2 rfl)⟩ (fun hHeld => ?_);clear hK K;refine norm_ (a' := ?_) ?_ ?_;rotate_left
       ·show Act.put _ (some 59) _ = _;simp only [Act.put, qz1, qz2, qz3, i64_w, i32_w];rfl
       refine one_ (i := 9) (N := some 61) (bqz 11 1023) rfl rfl (by kernel_rfl) (by decide) (fun K hK => ?_);refine Kd.R_append_rows_step k80 (w0 := V) V.heap.size (by rfl) (.tmp 59) (.tmp 60) 23 80 (.agg #[(.int .i64 0), (.int .i64 0), (.int .i64 0)]) 24 rfl Try.underlying23 info80 rfl (by decide) (by omega) h7 (o.take t ++ [x]) (o.drop t) e4 _ _ (fun _ => True) (fun _ => False) rfl rfl f5.out (Kd.C_below (show Kd.C k80 V e4 (o.length - t) (o.drop t) by have := (Kd.R_reads' e5.out).2.2; rwa [List.length_drop] at this) b3.out) (fun _ _ h => h) (fun _ h => h.elim) (fun _ _ => trivial) b3.out b3.out.size (by have := HTL.out; have := HDL.out; simp only [List.length_nil, List.length_append, List.length_cons]; omega) ?_;intro j5 w7 ho hb hg hat;have f6 := Aside0.mk ho;have d0 := Aside0.mk hb;clear ho hb hg hat;refine hK.out _ _ ⟨later d0.out (bcz a0 0 rfl), later d0.out (bcz a0 1 rfl), later d0.out (bcz a0 2 rfl)⟩ (fun hHeld => ?_);clear hK K;refine norm_ (a' := ?_) ?_ ?_;rotate_left
       ·show Act.put _ (some 61) _ = _;simp only [Act.put, qz1, qz2, qz3, i64_w, i32_w];rfl
       refine pqz 10 (some 3) (bqz 11 2047) rfl rfl (by kernel_rfl) ?_ ?_ (fun _ _ _ h => h) (by rfl) ?_ ?_ ?_;rotate_left 2;intro w';go_simp;(with_reducible rfl);simp only [Act.put, qz1, qz2, qz3, i64_w, i32_w];rfl
       refine done_ (by kernel_rfl) ?_;have HL := Aside0.mk (show (o.take t ++ [x]) ++ o.drop t = insE x o by rw [HIns.out]; simp);have HF := Aside0.mk (below_then a3.out a3.out.size d0.out);have g9 : w.heap.size ≤ V.heap.size := Nat.le_trans a6.out.size a3.out.size;go_wp2
       go_roundw
       case rel => exact ⟨k + 1, by omega, by go_num, ⟨by rw [HN.out, ← HL.out]; exact Kd.R_lower f6.out g9⟩, ⟨HX.out.below HF.out⟩, ⟨blk_below HY.out HF.out⟩, ⟨below_then a6.out a6.out.size HF.out⟩⟩
       case measure => simp [intOf]; omega
  ·have ek : es.take k = es := List.take_of_length_le (by omega);rw [ek] at HO ⊢;clear ek;obtain ⟨o, ho⟩ : ∃ o, o = sortE es := ⟨_, rfl⟩
   rw [← ho] at HO ⊢;have HOE := Aside0.mk ho;clear ho;have b0 := HX.out.c0;have b1 := HX.out.c1;have y0 := bcz HY 0 rfl;have y1 := bcz HY 1 rfl;have y2 := bcz HY 2 rfl;have q0 := blk_frozen HY.out 0;have q1 := blk_frozen HY.out 1;have q2 := blk_frozen HY.out 2;go_wp2
   have h9 := blk_put HY.out 0 (.int .i64 n) rfl;have i2 := blk_put h9 1 (.slice A1 m1 c1) rfl;refine bodyPost_ret (results_cell_row rfl _ _ (w.heap.size + 1) 25 #[.int .i64 n, .slice A1 m1 c1, .slice Ao o.length co] (0, 0) _ rfl (blk_put i2 2 (.slice Ao o.length co) rfl) Try.underlying25 rfl (by kernel_rfl)) rfl ?_;exact ⟨_, rfl, by rw [← HOE.out]; exact Kd.R_set (Kd.R_set (Kd.R_set HO.out HY.out (by decide) 0 _) h9 (by decide) 1 _) i2 (by decide) 2 _, below_set (below_set (below_set a6.out (by omega)) (by omega)) (by omega)⟩
end Go.Proofs.Ytmcbkmfpmcbdpaa.H
set_option linter.unusedVariables false
set_option linter.unusedSimpArgs false
namespace Go.Proofs.Ytmcbkmfpmcbdpaa.Pr
open Go.RowKit Go.Proofs.YtmcbkmfpmcbdpaaW.PrintWords Go.Proofs.YtmcbkmfpmcbdpaaW.PrintLast Go.Proofs.YtmcbkmfpmcbdpaaW.PrintMore
theorem bz {w w' : World} {g : Nat} {o : Obj} (h : w.heap[g]? = some o) (k : w.heap[g]? = some o → w'.heap[g]? = some o := by intro h_; (with_reducible repeat (first | refine blk_drewN ?_ _ | refine blk_drew ?_ | refine blk_alloc ?_ _)); exact h_) : w'.heap[g]? = some o := k h
theorem rz {α : Type} {d : Kd α} {e base : Nat} {w w' : World} {ok : Nat → Prop} {v : Value} {xs : List α} (h : d.R e w base ok v xs) (k : d.R e w base ok v xs → d.R e w' base ok v xs := by intro h_; (with_reducible repeat (first | apply Kd.R_alloc | apply Kd.R_drewN | apply Kd.R_drew)); exact h_) : d.R e w' base ok v xs := k h
theorem wz {n : Nat} {w0 w w' : World} (h : Below n w0 w) (k : Below n w0 w → Below n w0 w' := by intro h_; repeat (first | (with_reducible first | exact h_ | apply below_alloc | apply pw_below_drewN | apply below_drew1 | refine below_set ?_ (Aside0.out (by assumption))) | exact h_)) : Below n w0 w' := k h
theorem cz {α : Type} {d : Kd α} {w w1 w2 : World} {A : Option Addr} {n : Nat} {xs : List α} (h : d.C w A n xs) (hb : Below w.heap.size w w1) (k : d.C w1 A n xs → d.C w2 A n xs := by intro h_; repeat (first | exact h_ | (with_reducible refine Kd.C_alloc ?_ _) | (with_reducible refine Kd.C_drewN ?_ _) | (with_reducible refine Kd.C_drew ?_))) : d.C w2 A n xs := k (Kd.C_below h hb)
end Go.Proofs.Ytmcbkmfpmcbdpaa.Pr
set_option linter.unusedVariables false
set_option linter.unusedSimpArgs false
namespace Go.Proofs.Ytmcbkmfpmcbdpaa.Pr
open Go.RowKit Go.Proofs.Ytmcbkmfpmcbdpaa.H Go.Proofs.YtmcbkmfpmcbdpaaW.PrintWords Go.Proofs.YtmcbkmfpmcbdpaaW.PrintLast Go.Proofs.YtmcbkmfpmcbdpaaW.PrintMore
def Pxf.f (l0 : List ByteArray) (l1 : List ByteArray) : Option (List ByteArray) := if l0.length + l1.length < 1000000000000 then some (H.uniS (l0 ++ l1)) else none
theorem Pxf.calls (A0 : Option Addr) (c0 : Nat) (l0 : List ByteArray) (A1 : Option Addr) (c1 : Nat) (l1 : List ByteArray) (r : List ByteArray) (w : World) (hr0 : Kd.C Kd.string w A0 l0.length l0) (hc0 : l0.length ≤ c0) (hr1 : Kd.C Kd.string w A1 l1.length l1) (hc1 : l1.length ≤ c1) (h : Pxf.f l0 l1 = some r) :
  Calls Try.prog 108 #[.slice A0 l0.length c0, .slice A1 l1.length c1] w fun e w' => ∃ v0_ : Value, e = .returned (v0_) ∧ Kd.R Kd.string 9 w' w.heap.size (fun _ => True) v0_ r ∧ Below w.heap.size w w' := by
 unfold Pxf.f at h
 split at h
 ·rename_i hn
  simp only [Option.some.injEq] at h
  subst h
  rw [← H.unionS_uni]
  exact H.union_any l0 l1 A0 A1 c0 c1 w hr0 hr1 hn
 ·cases h
end Go.Proofs.Ytmcbkmfpmcbdpaa.Pr
set_option linter.unusedVariables false
set_option linter.unusedSimpArgs false
namespace Go.Proofs.Ytmcbkmfpmcbdpaa.Pr
open Go.RowKit Go.Proofs.YtmcbkmfpmcbdpaaW.PrintWords Go.Proofs.YtmcbkmfpmcbdpaaW.PrintLast Go.Proofs.YtmcbkmfpmcbdpaaW.PrintMore
def Pr26c.f (a0_0 : Int) (l0_1 : List ByteArray) (l0_2 : List S80) : Option Bool := some (H.mayR a0_0 l0_1 l0_2)
theorem Pr26c.calls (a0_0 : Int) (A0_1 : Option Addr) (c0_1 : Nat) (l0_1 : List ByteArray) (A0_2 : Option Addr) (c0_2 : Nat) (l0_2 : List S80) (r : Bool) (w : World) (hr0_1 : Kd.C Kd.string w A0_1 l0_1.length l0_1) (hc0_1 : l0_1.length ≤ c0_1) (hr0_2 : Kd.C k80 w A0_2 l0_2.length l0_2) (hc0_2 : l0_2.length ≤ c0_2) (h : Pr26c.f a0_0 l0_1 l0_2 = some r) :
  Calls Try.prog 18 #[.agg #[.int .i64 a0_0, .slice A0_1 l0_1.length c0_1, .slice A0_2 l0_2.length c0_2]] w fun e w' => e = .returned (.bool r) ∧ Below w.heap.size w w' := by
 have e : H.mayR a0_0 l0_1 l0_2 = r := by simpa [Pr26c.f] using h
 subst e
 exact H.may_any a0_0 l0_1 l0_2 A0_1 A0_2 c0_1 c0_2 w hr0_1 hr0_2
def Pxh.f (a0_0 : Int) (l0_1 : List ByteArray) (l0_2 : List S80) : Option Int := some (H.errB (H.mayR a0_0 l0_1 l0_2))
theorem Pxh.calls (a0_0 : Int) (A0_1 : Option Addr) (c0_1 : Nat) (l0_1 : List ByteArray) (A0_2 : Option Addr) (c0_2 : Nat) (l0_2 : List S80) (r : Int) (w : World) (hr0_1 : Kd.C Kd.string w A0_1 l0_1.length l0_1) (hc0_1 : l0_1.length ≤ c0_1) (hr0_2 : Kd.C k80 w A0_2 l0_2.length l0_2) (hc0_2 : l0_2.length ≤ c0_2) (h : Pxh.f a0_0 l0_1 l0_2 = some r) :
  Calls Try.prog 72 #[.agg #[.int .i64 a0_0, .slice A0_1 l0_1.length c0_1, .slice A0_2 l0_2.length c0_2]] w fun e w' => e = .returned (.int .i64 r) ∧ Below w.heap.size w w' := by
 have e : H.errB (H.mayR a0_0 l0_1 l0_2) = r := by simpa [Pxh.f] using h
 subst e
 rw [← H.may_same]
 exact H.check_any a0_0 l0_1 l0_2 A0_1 A0_2 c0_1 c0_2 w hr0_1 hr0_2
def Pxi.f (a0_0 : Int) (l0_1 : List ByteArray) (l0_2 : List S80) : Option (Int × List ByteArray × List S80 × Int) :=
 if l0_2.length ≤ 1000000 ∧ l0_1.length ≤ 1000000 then some (if H.mayR a0_0 l0_1 (Sem.sortE l0_2) then (a0_0, l0_1, Sem.sortE l0_2, 0) else (0, [], [], 1)) else none
theorem Pxi.calls (a0_0 : Int) (A0_1 : Option Addr) (c0_1 : Nat) (l0_1 : List ByteArray) (A0_2 : Option Addr) (c0_2 : Nat) (l0_2 : List S80) (r1 : Int) (r2 : List ByteArray) (r3 : List S80) (r4 : Int) (w : World) (hr0_1 : Kd.C Kd.string w A0_1 l0_1.length l0_1) (hc0_1 : l0_1.length ≤ c0_1) (hr0_2 : Kd.C k80 w A0_2 l0_2.length l0_2) (hc0_2 : l0_2.length ≤ c0_2) (h : Pxi.f a0_0 l0_1 l0_2 = some (r1, r2, r3, r4)) :
  Calls Try.prog 104 #[.agg #[.int .i64 a0_0, .slice A0_1 l0_1.length c0_1, .slice A0_2 l0_2.length c0_2]] w fun e w' => ∃ v1_ v2_ : Value, e = .returned (.tuple #[.agg #[.int .i64 r1, v1_, v2_], .int .i64 r4]) ∧ Kd.R Kd.string 9 w' w.heap.size (fun _ => True) v1_ r2 ∧ Kd.R k80 80 w' w.heap.size (fun _ => True) v2_ r3 ∧ Below w.heap.size w w' := by
 unfold Pxi.f at h
 split at h
 ·rename_i hn
  simp only [Option.some.injEq] at h
  exact H.sort_any a0_0 l0_1 l0_2 A0_1 A0_2 c0_1 c0_2 w hr0_1 hc0_1 hr0_2 hc0_2 hn.2 hn.1 h
 ·cases h
end Go.Proofs.Ytmcbkmfpmcbdpaa.Pr
set_option linter.unusedVariables false
set_option linter.unusedSimpArgs false
namespace Go.Proofs.Ytmcbkmfpmcbdpaa.Pr
open Go.RowKit Go.Proofs.YtmcbkmfpmcbdpaaW.PrintWords Go.Proofs.YtmcbkmfpmcbdpaaW.PrintLast Go.Proofs.YtmcbkmfpmcbdpaaW.PrintMore
def Fate (w : World) (A : FuncId) (c : Array Value) (g : ByteArray → ByteArray × Bool) : Prop :=
 (∃ fn : Func, Try.prog.funcs[A]? = some fn ∧ (fn.name == "runtime.NumGoroutine") = false ∧ fn.body.isSome = true) ∧
 ∀ W, Below w.heap.size w W → ∀ s : ByteArray, Calls Try.prog A (#[.string s] ++ c) W fun e W' => e = .returned (.tuple #[.string (g s).1, .bool (g s).2]) ∧ Below W.heap.size W W'
def fate.f (k : Nat) (s : ByteArray) (g : ByteArray → ByteArray × Bool) : Option (ByteArray × Bool) := some (g s)
theorem fate.mono : ∀ a0 a1 k, LeO (fate.f k a0 a1) (fate.f (k + 1) a0 a1) := fun _ _ _ => LeO.refl _
section
variable {ops : Array Oper} {Q : Exit → Act → World → Prop}
theorem goesF_ {rest : List Oper} {oi : Oper} {a : Act} {w w0 : World} {A : FuncId} {c : Array Value} {g : ByteArray → ByteArray × Bool} (N : Option Tmp) (hd : oi.dst = N) (hg : oi.guard = none) (hF : Fate w0 A c g) (hB : Below w0.heap.size w0 w) (k : Nat) (s r1 : ByteArray) (r2 : Bool) (hr : fate.f k s g = some (r1, r2)) {x : Operand} {xs : Array Operand} {ts : Array TypeId}
  (hop : oi.op = .call { callee := .value x, args := xs, argTypes := ts }) (hx : a.eval x = .func (.func A) #[] c) (hargs : xs.map a.eval = #[.string s])
  (h : ∀ w', Below w.heap.size w w' → wpList Try.prog ops Q rest (a.put N (.tuple #[.string r1, .bool r2])) w') : wpList Try.prog ops Q (oi :: rest) a w := by
 obtain ⟨⟨fn, hf, hname, hb⟩, hc⟩ := hF
 have hr' : g s = (r1, r2) := Option.some.inj hr
 refine wpList_plain hg fun K hK => ?_
 have he := enters_ hf hname hb (#[.string s] ++ c) w
 have hrun : (execOp a.eval oi).run Try.prog w = .ok (.enter A (#[.string s] ++ c)) w := by
  unfold execOp
  simp only [hop, resolve, hx, hargs]
  simpa [Deferred.ofValue, invoke] using he
 unfold Oper.wp
 rw [hrun, Oper.upon_enter]
 refine (hc w hB s).mono fun e w'' hh => ?_
 obtain ⟨rfl, hbw⟩ := hh
 rw [hr']
 subst hd
 exact hK _ _ (h w'' hbw)
end
end Go.Proofs.Ytmcbkmfpmcbdpaa.Pr
