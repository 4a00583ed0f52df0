/-
  The law RelabelKeeps: for every input the call returns true, and what came in reads as it read before.
  Condition: none.
-/
import Derived.Test.YtmcbkmfpmcbdpaaZRelabelKeeps4
namespace Go.Proofs.Ytmcbkmfpmcbdpaa.Pr
open Go.RowKit Go.Proofs.YtmcbkmfpmcbdpaaW.PrintWords Go.Proofs.YtmcbkmfpmcbdpaaW.PrintLast Go.Proofs.YtmcbkmfpmcbdpaaW.PrintMore
attribute [local go_sem] max2_int min2_int max_two min_two max_three min_three max_four min_four
set_option linter.unusedVariables false
set_option linter.unusedSimpArgs false
mutual
def Pr31a.l0 : Nat → List Int → List Int → Int → Option (Bool)
 | 0, _, _, _ => none
 | k + 1, x0, x1, x5 => if x5 < (x0.length : Int) then (Pr31a.l1 k x0 x1 x5 0) else (some true)
def Pr31a.l1 : Nat → List Int → List Int → Int → Int → Option (Bool)
 | 0, _, _, _, _ => none
 | k + 1, x0, x1, x5, x6 => if x6 < x5 then (if 0 ≤ x5 then (if x5 < (x0.length : Int) then (if 0 ≤ x6 then (if x6 < (x0.length : Int) then (if (rd x0 x5) = (rd x0 x6) then (if x5 < (x1.length : Int) then (if x6 < (x1.length : Int) then (if (rd x1 x5) = (rd x1 x6) then (Pr31a.l1 k x0 x1 x5 (wrap64 (x6 + 1))) else (some false)) else (none)) else (none)) else (Pr31a.l1 k x0 x1 x5 (wrap64 (x6 + 1)))) else (none)) else (none)) else (none)) else (none)) else (Pr31a.l0 k x0 x1 (wrap64 (x5 + 1)))
end
def Pr31a.f (k : Nat) (l0 : List Int) (l1 : List Int) : Option (Bool) := Pr31a.l0 k l0 l1 0
theorem Pr31a.mono_l : ∀ k, (∀ y0 y1 y2, LeO (Pr31a.l0 k y0 y1 y2) (Pr31a.l0 (k + 1) y0 y1 y2)) ∧ (∀ y0 y1 y2 y3, LeO (Pr31a.l1 k y0 y1 y2 y3) (Pr31a.l1 (k + 1) y0 y1 y2 y3))
 | 0 => ⟨fun _ _ _ r h => by simp [Pr31a.l0] at h, fun _ _ _ _ r h => by simp [Pr31a.l1] at h⟩
 | k + 1 => by
  obtain ⟨ih0, ih1⟩ := Pr31a.mono_l k
  refine ⟨?_, ?_⟩
  ·intro y0 y1 y2
   unfold Pr31a.l0
   repeat' first
   | (with_reducible exact ih0 _ _ _)
   | (with_reducible exact ih1 _ _ _ _)
   | (with_reducible exact LeO.refl _)
   | (with_reducible exact LeO.none _)
   | (with_reducible refine LeO.ite ?_ ?_)
   | (with_reducible refine LeO.bind ?_ (fun _ => ?_))
   | exact ih0 _ _ _
   | exact ih1 _ _ _ _
   | exact LeO.none _
   | refine LeO.ite ?_ ?_
   | refine LeO.bind ?_ (fun _ => ?_)
  ·intro y0 y1 y2 y3
   unfold Pr31a.l1
   repeat' first
   | (with_reducible exact ih0 _ _ _)
   | (with_reducible exact ih1 _ _ _ _)
   | (with_reducible exact LeO.refl _)
   | (with_reducible exact LeO.none _)
   | (with_reducible refine LeO.ite ?_ ?_)
   | (with_reducible refine LeO.bind ?_ (fun _ => ?_))
   | exact ih0 _ _ _
   | exact ih1 _ _ _ _
   | exact LeO.none _
   | refine LeO.ite ?_ ?_
   | refine LeO.bind ?_ (fun _ => ?_)
theorem Pr31a.mono : ∀ a0 a1 k, LeO (Pr31a.f k a0 a1) (Pr31a.f (k + 1) a0 a1) := by
 intro a0 a1 k
 obtain ⟨ih0, ih1⟩ := Pr31a.mono_l k
 unfold Pr31a.f
 repeat' first
   | (with_reducible exact ih0 _ _ _)
   | (with_reducible exact ih1 _ _ _ _)
   | (with_reducible exact LeO.refl _)
   | (with_reducible exact LeO.none _)
   | (with_reducible refine LeO.ite ?_ ?_)
   | (with_reducible refine LeO.bind ?_ (fun _ => ?_))
   | exact ih0 _ _ _
   | exact ih1 _ _ _ _
   | exact LeO.none _
   | refine LeO.ite ?_ ?_
   | refine LeO.bind ?_ (fun _ => ?_)
set_option maxHeartbeats 8000000 in
set_option maxRecDepth 100000 in
theorem Pr31a.calls (k : Nat) (A0 : Option Addr) (c0 : Nat) (l0 : List Int) (A1 : Option Addr) (c1 : Nat) (l1 : List Int) (r : Bool) (w : World) (hr0 : Kd.C (Kd.int .i64) w A0 l0.length l0) (hc0 : l0.length ≤ c0) (hr1 : Kd.C (Kd.int .i64) w A1 l1.length l1) (hc1 : l1.length ≤ c1) (h : Pr31a.f k l0 l1 = some r) :
  Calls Try.prog 53 #[.slice A0 l0.length c0, .slice A1 l1.length c1] w fun e w' => e = .returned (.bool r) ∧ Drawn0 w w' := by
 have b7 := Aside0.mk hr0;have d8 := Aside0.mk hc0;clear hr0 hc0;have d4 := Aside0.mk hr1;have d9 := Aside0.mk hc1;clear hr1 hc1;have H : (Pr31a.l0 k l0 l1 0) = some r := h;clear h;have H' := Aside0.mk H;clear H;go_enter Try.func53, Try.ntmps53
 go_wp2
 repeat (go_quiet (fail); try go_wp2)
 go_loopg [5] k (fun kq v5 w' => ∃ (a0 : Int), v5 = .int .i64 a0 ∧ Aside0 (Pr31a.l0 kq l0 l1 a0 = some r) ∧ Aside0 (kq ≤ k) ∧ Drawn0 w w')
 case atStart => exact ⟨(0), (by first | rfl | (simp; done) | (simp [*]; done)), H', ⟨Nat.le_refl _⟩, by repeat (first | exact Drawn0.refl _ | apply Drawn0.step)⟩
 case round =>
  clear H';(try clear c1);obtain ⟨a0, rfl, HA, b5, ⟨m1, rfl⟩⟩ := hrel
  cases gk with
  | zero => exact absurd HA.out (by simp [Pr31a.l0])
  | succ k1 =>
   have H := HA.out;clear HA;simp only [Pr31a.l0] at H;by_cases c3 : a0 < (l0.length : Int)
   ·rw [if_pos c3] at H;have c3b0 : decide (a0 < (l0.length : Int)) = true := decide_eq_true c3;clear c3;have H' := Aside0.mk H;clear H;go_wp2
    repeat (go_quiet (fail); try go_wp2)
    go_loopg [6] k1 (fun kq v6 w' => ∃ (a1 : Int), v6 = .int .i64 a1 ∧ Aside0 (Pr31a.l1 kq l0 l1 a0 a1 = some r) ∧ Aside0 (kq ≤ k1) ∧ Drawn0 w w')
    case atStart => exact ⟨(0), (by first | rfl | (simp; done) | (simp [*]; done)), H', ⟨Nat.le_refl _⟩, by repeat (first | exact Drawn0.refl _ | apply Drawn0.step)⟩
    case round =>
     clear H';(try clear c1);(try clear c3);(try clear c3b0);obtain ⟨a1, rfl, HA, b6, ⟨m2, rfl⟩⟩ := hrel
     cases gk with
     | zero => exact absurd HA.out (by simp [Pr31a.l1])
     | succ k2 =>
      have H := HA.out;clear HA;simp only [Pr31a.l1] at H;by_cases c4 : a1 < a0
      ·rw [if_pos c4] at H;have c4b0 : decide (a1 < a0) = true := decide_eq_true c4;clear c4;by_cases c5 : 0 ≤ a0
       ·rw [if_pos c5] at H;have c5b0 : decide (0 ≤ a0) = true := decide_eq_true c5;clear c5;by_cases c6 : a0 < (l0.length : Int)
        ·rw [if_pos c6] at H;have c6b0 : decide (a0 < (l0.length : Int)) = true := decide_eq_true c6;clear c6;by_cases c7 : 0 ≤ a1
         ·rw [if_pos c7] at H;have c7b0 : decide (0 ≤ a1) = true := decide_eq_true c7;clear c7;by_cases c8 : a1 < (l0.length : Int)
          ·rw [if_pos c8] at H;have c8b0 : decide (a1 < (l0.length : Int)) = true := decide_eq_true c8;clear c8;by_cases c9 : (rd l0 a0) = (rd l0 a1)
           ·rw [if_pos c9] at H;have c9b0 : ((rd l0 a0) == (rd l0 a1)) = true := beq_iff_eq.mpr c9;have c9b1 : ((rd l0 a0) != (rd l0 a1)) = false := bne_eq_false_iff_eq.mpr c9;clear c9;by_cases c10 : a0 < (l1.length : Int)
            ·rw [if_pos c10] at H;have c10b0 : decide (a0 < (l1.length : Int)) = true := decide_eq_true c10;clear c10;by_cases d5 : a1 < (l1.length : Int)
             ·rw [if_pos d5] at H;have c11b0 : decide (a1 < (l1.length : Int)) = true := decide_eq_true d5;clear d5;by_cases b2 : (rd l1 a0) = (rd l1 a1)
              ·rw [if_pos b2] at H;have c12b0 : ((rd l1 a0) == (rd l1 a1)) = true := beq_iff_eq.mpr b2;have c12b1 : ((rd l1 a0) != (rd l1 a1)) = false := bne_eq_false_iff_eq.mpr b2;clear b2;have H' := Aside0.mk H;clear H;have a2 : 0 ≤ (a0 : Int) := of_decide_eq_true (by first | (with_reducible assumption) | assumption);have a4 : a0 < (l0.length : Int) := of_decide_eq_true (by first | (with_reducible assumption) | assumption);obtain ⟨b0, b3, b8⟩ := Kd.at_int b7.out a0 a2 a4
               cases b3;replace a2 := eq_true a2;replace a4 := eq_true a4;have a3 : 0 ≤ (a1 : Int) := of_decide_eq_true (by first | (with_reducible assumption) | assumption);have a5 : a1 < (l0.length : Int) := of_decide_eq_true (by first | (with_reducible assumption) | assumption);obtain ⟨b1, b4, b9⟩ := Kd.at_int b7.out a1 a3 a5;obtain rfl : b0 = b1 := (by injection b4)
               replace a3 := eq_true a3;replace a5 := eq_true a5;have a6 : 0 ≤ (a0 : Int) := of_decide_eq_true (by first | (with_reducible assumption) | assumption);have a8 : a0 < (l1.length : Int) := of_decide_eq_true (by first | (with_reducible assumption) | assumption);obtain ⟨d0, d2, d6⟩ := Kd.at_int d4.out a0 a6 a8
               cases d2;replace a6 := eq_true a6;replace a8 := eq_true a8;have a7 : 0 ≤ (a1 : Int) := of_decide_eq_true (by first | (with_reducible assumption) | assumption);have a9 : a1 < (l1.length : Int) := of_decide_eq_true (by first | (with_reducible assumption) | assumption);obtain ⟨d1, d3, d7⟩ := Kd.at_int d4.out a1 a7 a9;obtain rfl : d0 = d1 := (by injection d3)
               replace a7 := eq_true a7;replace a9 := eq_true a9;go_wp2
               repeat (go_quiet (fail); try go_wp2)
               go_roundg k2
               case measure => have := b5.out; have := b6.out; omega
               case rel => exact ⟨(wrap64 (a1 + 1)), (by first | rfl | (simp; done) | (simp [*]; done)), H', ⟨by have := b5.out; have := b6.out; omega⟩, by repeat (first | exact Drawn0.refl _ | apply Drawn0.step)⟩
              ·rw [if_neg b2] at H;have c12b0 : ((rd l1 a0) == (rd l1 a1)) = false := beq_eq_false_iff_ne.mpr b2;have c12b1 : ((rd l1 a0) != (rd l1 a1)) = true := bne_iff_ne.mpr b2;obtain rfl := Option.some.inj H;have a2 : 0 ≤ (a0 : Int) := of_decide_eq_true (by first | (with_reducible assumption) | assumption);have a4 : a0 < (l0.length : Int) := of_decide_eq_true (by first | (with_reducible assumption) | assumption);obtain ⟨b0, b3, b8⟩ := Kd.at_int b7.out a0 a2 a4
               cases b3;replace a2 := eq_true a2;replace a4 := eq_true a4;have a3 : 0 ≤ (a1 : Int) := of_decide_eq_true (by first | (with_reducible assumption) | assumption);have a5 : a1 < (l0.length : Int) := of_decide_eq_true (by first | (with_reducible assumption) | assumption);obtain ⟨b1, b4, b9⟩ := Kd.at_int b7.out a1 a3 a5;obtain rfl : b0 = b1 := (by injection b4)
               replace a3 := eq_true a3;replace a5 := eq_true a5;have a6 : 0 ≤ (a0 : Int) := of_decide_eq_true (by first | (with_reducible assumption) | assumption);have a8 : a0 < (l1.length : Int) := of_decide_eq_true (by first | (with_reducible assumption) | assumption);obtain ⟨d0, d2, d6⟩ := Kd.at_int d4.out a0 a6 a8
               cases d2;replace a6 := eq_true a6;replace a8 := eq_true a8;have a7 : 0 ≤ (a1 : Int) := of_decide_eq_true (by first | (with_reducible assumption) | assumption);have a9 : a1 < (l1.length : Int) := of_decide_eq_true (by first | (with_reducible assumption) | assumption);obtain ⟨d1, d3, d7⟩ := Kd.at_int d4.out a1 a7 a9;obtain rfl : d0 = d1 := (by injection d3)
               replace a7 := eq_true a7;replace a9 := eq_true a9;go_wp2
               repeat (go_quiet (fail); try go_wp2)
               go_ret
               exact ⟨by first | rfl | (simp; done) | (simp [*]; done), by repeat (first | exact Drawn0.refl _ | apply Drawn0.step)⟩
             ·rw [if_neg d5] at H;exact absurd H (by simp)
            ·rw [if_neg c10] at H;exact absurd H (by simp)
           ·rw [if_neg c9] at H;have c9b0 : ((rd l0 a0) == (rd l0 a1)) = false := beq_eq_false_iff_ne.mpr c9;have c9b1 : ((rd l0 a0) != (rd l0 a1)) = true := bne_iff_ne.mpr c9;have H' := Aside0.mk H;clear H;have a2 : 0 ≤ (a0 : Int) := of_decide_eq_true (by first | (with_reducible assumption) | assumption);have a4 : a0 < (l0.length : Int) := of_decide_eq_true (by first | (with_reducible assumption) | assumption);obtain ⟨b0, b3, b8⟩ := Kd.at_int b7.out a0 a2 a4
            cases b3;replace a2 := eq_true a2;replace a4 := eq_true a4;have a3 : 0 ≤ (a1 : Int) := of_decide_eq_true (by first | (with_reducible assumption) | assumption);have a5 : a1 < (l0.length : Int) := of_decide_eq_true (by first | (with_reducible assumption) | assumption);obtain ⟨b1, b4, b9⟩ := Kd.at_int b7.out a1 a3 a5;obtain rfl : b0 = b1 := (by injection b4)
            replace a3 := eq_true a3;replace a5 := eq_true a5;go_wp2
            repeat (go_quiet (fail); try go_wp2)
            go_roundg k2
            case measure => have := b5.out; have := b6.out; omega
            case rel => exact ⟨(wrap64 (a1 + 1)), (by first | rfl | (simp; done) | (simp [*]; done)), H', ⟨by have := b5.out; have := b6.out; omega⟩, by repeat (first | exact Drawn0.refl _ | apply Drawn0.step)⟩
          ·rw [if_neg c8] at H;exact absurd H (by simp)
         ·rw [if_neg c7] at H;exact absurd H (by simp)
        ·rw [if_neg c6] at H;exact absurd H (by simp)
       ·rw [if_neg c5] at H;exact absurd H (by simp)
      ·rw [if_neg c4] at H;have c4b0 : decide (a1 < a0) = false := decide_eq_false c4;clear c4;have H' := Aside0.mk H;clear H;go_wp2
       repeat (go_quiet (fail); try go_wp2)
       go_roundg k2
       case measure => have := b5.out; have := b6.out; omega
       case rel => exact ⟨(wrap64 (a0 + 1)), (by first | rfl | (simp; done) | (simp [*]; done)), H', ⟨by have := b5.out; have := b6.out; omega⟩, by repeat (first | exact Drawn0.refl _ | apply Drawn0.step)⟩
   ·rw [if_neg c3] at H;have c3b0 : decide (a0 < (l0.length : Int)) = false := decide_eq_false c3;clear c3;obtain rfl := Option.some.inj H;go_wp2
    repeat (go_quiet (fail); try go_wp2)
    go_ret
    exact ⟨by first | rfl | (simp; done) | (simp [*]; done), by repeat (first | exact Drawn0.refl _ | apply Drawn0.step)⟩
mutual
def Pl51a.j0 : Nat → List (S55) → List ByteArray → Bool → Int → List ByteArray → List (S80) → Option (Bool)
 | 0, _, _, _, _, _, _ => none
 | k + 1, x1, x2, x31, x156000, x156001, x156002 => if x31 = true then ((Pl51b.f k).bind fun t158 => (some t158)) else ((Pra.f x156000 x156001 x156002).bind fun bt159 => (if bt159.2 = 0 then ((Pxd.f x156000 x156001 x156002 x2).bind fun bt164 => ((Pxe.f x156000 x156001 x156002 x2).bind fun bt173 => ((Pra.f bt164.1 bt164.2.1 bt164.2.2.1).bind fun bt182 => (if bt164.2.2.2 = 0 then (if bt173.2.2.2 = 0 then (if bt182.2 = 0 then ((Pr31a.f k bt159.1 bt182.1).bind fun t186 => (if t186 = true then (Pl51a.j1 k x1 bt159.1 ((wrap64 ((bt164.2.2.1.length : Int) + (bt173.2.2.1.length : Int))) != (x156002.length : Int)) x156000 x156001 x156002) else (Pl51a.j1 k x1 bt159.1 true x156000 x156001 x156002))) else (Pl51a.j1 k x1 bt159.1 true x156000 x156001 x156002)) else (Pl51a.j1 k x1 bt159.1 true x156000 x156001 x156002)) else (Pl51a.j1 k x1 bt159.1 true x156000 x156001 x156002))))) else ((Pl51b.f k).bind fun t163 => (some t163))))
def Pl51a.j1 : Nat → List (S55) → List Int → Bool → Int → List ByteArray → List (S80) → Option (Bool)
 | 0, _, _, _, _, _, _ => none
 | k + 1, x1, x7, x86, x156000, x156001, x156002 => if x86 = true then (some false) else ((Pxb.f x156000 x156001 x156002 x1).bind fun bt187 => (if bt187.2.2.2 = 0 then ((Pra.f bt187.1 bt187.2.1 bt187.2.2.1).bind fun bt196 => (if bt196.2 = 0 then ((Pr31a.f k x7 bt196.1).bind fun t200 => (if t200 = true then ((Pl51b.f k).bind fun t201 => (some t201)) else (some false))) else (some false))) else ((Pl51b.f k).bind fun t202 => (some t202))))
end
def Pl51a.f (k : Nat) (a0_0 : Int) (l0_1 : List ByteArray) (l0_2 : List (S80)) (l1 : List (S55)) (l2 : List ByteArray) : Option (Bool) := (Pl33a.f k a0_0 l0_1 l0_2).bind fun t156 => (if t156 = true then ((Pl51c.f k l2).bind fun t157 => (if t157 = true then (Pl51a.j0 k l1 l2 (decide ((l1.length : Int) > 20)) a0_0 l0_1 l0_2) else (Pl51a.j0 k l1 l2 true a0_0 l0_1 l0_2))) else (Pl51a.j0 k l1 l2 true a0_0 l0_1 l0_2))
theorem Pl51a.mono_l : ∀ k, (∀ y0 y1 y2 y3 y4 y5, LeO (Pl51a.j0 k y0 y1 y2 y3 y4 y5) (Pl51a.j0 (k + 1) y0 y1 y2 y3 y4 y5)) ∧ (∀ y0 y1 y2 y3 y4 y5, LeO (Pl51a.j1 k y0 y1 y2 y3 y4 y5) (Pl51a.j1 (k + 1) y0 y1 y2 y3 y4 y5))
 | 0 => ⟨fun _ _ _ _ _ _ r h => by simp [Pl51a.j0] at h, fun _ _ _ _ _ _ r h => by simp [Pl51a.j1] at h⟩
 | k + 1 => by
  obtain ⟨ih0, ih1⟩ := Pl51a.mono_l k
  refine ⟨?_, ?_⟩
  ·intro y0 y1 y2 y3 y4 y5
   unfold Pl51a.j0
   repeat' first
   | (with_reducible exact ih0 _ _ _ _ _ _)
   | (with_reducible exact ih1 _ _ _ _ _ _)
   | (with_reducible exact Pl33a.mono _ _ _ _)
   | (with_reducible exact Pl51b.mono _)
   | (with_reducible exact Pl51c.mono _ _)
   | (with_reducible exact Pr31a.mono _ _ _)
   | (with_reducible exact LeO.refl _)
   | (with_reducible exact LeO.none _)
   | (with_reducible refine LeO.ite ?_ ?_)
   | (with_reducible refine LeO.bind ?_ (fun _ => ?_))
   | exact ih0 _ _ _ _ _ _
   | exact ih1 _ _ _ _ _ _
   | exact Pl33a.mono _ _ _ _
   | exact Pl51b.mono _
   | exact Pl51c.mono _ _
   | exact Pr31a.mono _ _ _
   | exact LeO.none _
   | refine LeO.ite ?_ ?_
   | refine LeO.bind ?_ (fun _ => ?_)
  ·intro y0 y1 y2 y3 y4 y5
   unfold Pl51a.j1
   repeat' first
   | (with_reducible exact ih0 _ _ _ _ _ _)
   | (with_reducible exact ih1 _ _ _ _ _ _)
   | (with_reducible exact Pl33a.mono _ _ _ _)
   | (with_reducible exact Pl51b.mono _)
   | (with_reducible exact Pl51c.mono _ _)
   | (with_reducible exact Pr31a.mono _ _ _)
   | (with_reducible exact LeO.refl _)
   | (with_reducible exact LeO.none _)
   | (with_reducible refine LeO.ite ?_ ?_)
   | (with_reducible refine LeO.bind ?_ (fun _ => ?_))
   | exact ih0 _ _ _ _ _ _
   | exact ih1 _ _ _ _ _ _
   | exact Pl33a.mono _ _ _ _
   | exact Pl51b.mono _
   | exact Pl51c.mono _ _
   | exact Pr31a.mono _ _ _
   | exact LeO.none _
   | refine LeO.ite ?_ ?_
   | refine LeO.bind ?_ (fun _ => ?_)
theorem Pl51a.mono : ∀ a0 a1 a2 a3 a4 k, LeO (Pl51a.f k a0 a1 a2 a3 a4) (Pl51a.f (k + 1) a0 a1 a2 a3 a4) := by
 intro a0 a1 a2 a3 a4 k
 obtain ⟨ih0, ih1⟩ := Pl51a.mono_l k
 unfold Pl51a.f
 repeat' first
   | (with_reducible exact ih0 _ _ _ _ _ _)
   | (with_reducible exact ih1 _ _ _ _ _ _)
   | (with_reducible exact Pl33a.mono _ _ _ _)
   | (with_reducible exact Pl51b.mono _)
   | (with_reducible exact Pl51c.mono _ _)
   | (with_reducible exact Pr31a.mono _ _ _)
   | (with_reducible exact LeO.refl _)
   | (with_reducible exact LeO.none _)
   | (with_reducible refine LeO.ite ?_ ?_)
   | (with_reducible refine LeO.bind ?_ (fun _ => ?_))
   | exact ih0 _ _ _ _ _ _
   | exact ih1 _ _ _ _ _ _
   | exact Pl33a.mono _ _ _ _
   | exact Pl51b.mono _
   | exact Pl51c.mono _ _
   | exact Pr31a.mono _ _ _
   | exact LeO.none _
   | refine LeO.ite ?_ ?_
   | refine LeO.bind ?_ (fun _ => ?_)
set_option maxHeartbeats 8000000 in
set_option maxRecDepth 100000 in
theorem Pl51a.calls (k : Nat) (a0_0 : Int) (A0_1 : Option Addr) (c0_1 : Nat) (l0_1 : List ByteArray) (A0_2 : Option Addr) (c0_2 : Nat) (l0_2 : List (S80)) (A1 : Option Addr) (c1 : Nat) (l1 : List (S55)) (A2 : Option Addr) (c2 : Nat) (l2 : List ByteArray) (r : Bool) (w : World) (hr0_1 : Kd.C Kd.string w A0_1 l0_1.length l0_1) (hc0_1 : l0_1.length ≤ c0_1) (hr0_2 : Kd.C k80 w A0_2 l0_2.length l0_2) (hc0_2 : l0_2.length ≤ c0_2) (hr1 : Kd.C k55 w A1 l1.length l1) (hc1 : l1.length ≤ c1) (hr2 : Kd.C Kd.string w A2 l2.length l2) (hc2 : l2.length ≤ c2) (h : Pl51a.f k a0_0 l0_1 l0_2 l1 l2 = some r) (hr_ : Aside0 (r = true)) :
  Calls Try.prog 11 #[.agg #[.int .i64 a0_0, .slice A0_1 l0_1.length c0_1, .slice A0_2 l0_2.length c0_2], .slice A1 l1.length c1, .slice A2 l2.length c2] w fun e w' => e = .returned (.bool r) ∧ Below w.heap.size w w' := by
 have K8 := Try.underlying25;have i3 := Aside0.mk hr0_1;have i1 := Aside0.mk hc0_1;clear hr0_1 hc0_1;have i4 := Aside0.mk hr0_2;have i2 := Aside0.mk hc0_2;clear hr0_2 hc0_2;have z3 := Aside0.mk hr1;have z2 := Aside0.mk hc1;clear hr1 hc1;have q9 := Aside0.mk hr2;have q8 := Aside0.mk hc2;clear hr2 hc2;have HB := Aside0.mk (Below.refl w.heap.size w);have H : ((Pl33a.f k a0_0 l0_1 l0_2).bind fun p6 => (if p6 = true then ((Pl51c.f k l2).bind fun k3 => (if k3 = true then (Pl51a.j0 k l1 l2 (decide ((l1.length : Int) > 20)) a0_0 l0_1 l0_2) else (Pl51a.j0 k l1 l2 true a0_0 l0_1 l0_2))) else (Pl51a.j0 k l1 l2 true a0_0 l0_1 l0_2))) = some r := h;clear h;have y1 := Aside0.mk H;clear H;go_enter Try.func11, Try.ntmps11
 go_upto_region 1 with (first | ((with_reducible refine gate_dst (N := 3) rfl ?_); (try (refine gate_guard (by rfl) ?_; dsimp only)); refine box_event ?hg (N := 3) ?hd (cs := #[.int .i64 a0_0, .slice A0_1 l0_1.length c0_1, .slice A0_2 l0_2.length c0_2]) (t := 25) ?hr ?_; (case hd => rfl); (case hg => rfl); (case hr => first | (go_simp; done) | (go_simp; rfl)); intro a4 hg w5 hbox hb; have b2 := Aside0.mk (below_step (wz HB.out) hb); have b3 := Aside0.mk (hbox); have b6 := Aside0.mk ((by rw [hg]; exact (below_size (wz HB.out)) : w.heap.size ≤ a4)); have b9 := Aside0.mk ((by rw [hg]; exact (below_size (wz HB.out)) : w.heap.size ≤ a4)); clear HB; have HB := b2; have a0 := b3; have G9 := b6; have G6 := b9; clear b2 b3 b6 b9 hb hbox hg))
 (try simp only [Act.put, qz1, qz2, qz3])
 go_cut [31] (fun G4 wc => ∃ (kq : Nat) (m6 : Bool), G4 = .bool m6 ∧ Aside0 (Pl51a.j0 kq l1 l2 m6 a0_0 l0_1 l0_2 = some r) ∧ Aside0 (kq ≤ k) ∧ Aside0 (wc.heap[a4]? = some (.cells #[.int .i64 a0_0, (.slice A0_1 l0_1.length c0_1), (.slice A0_2 l0_2.length c0_2)] 25 (0, 0))) ∧ Aside0 (Below w.heap.size w wc))
 case first =>
  have H := y1.out;clear y1;replace H := Option.bind_eq_some_iff.mp H;obtain ⟨p6, p9, H⟩ := H;replace H : (if p6 = true then ((Pl51c.f k l2).bind fun k3 => (if k3 = true then (Pl51a.j0 k l1 l2 (decide ((l1.length : Int) > 20)) a0_0 l0_1 l0_2) else (Pl51a.j0 k l1 l2 true a0_0 l0_1 l0_2))) else (Pl51a.j0 k l1 l2 true a0_0 l0_1 l0_2)) = some r := H;have A6 := Aside0.mk p9;clear p9;by_cases c7 : p6 = true
  ·subst c7;have H1 : ((Pl51c.f k l2).bind fun k3 => (if k3 = true then (Pl51a.j0 k l1 l2 (decide ((l1.length : Int) > 20)) a0_0 l0_1 l0_2) else (Pl51a.j0 k l1 l2 true a0_0 l0_1 l0_2))) = some r := by rw [if_pos rfl] at H; exact H
   clear H;have H := H1;clear H1;replace H := Option.bind_eq_some_iff.mp H;obtain ⟨k3, z1, H⟩ := H;replace H : (if k3 = true then (Pl51a.j0 k l1 l2 (decide ((l1.length : Int) > 20)) a0_0 l0_1 l0_2) else (Pl51a.j0 k l1 l2 true a0_0 l0_1 l0_2)) = some r := H;have A8 := Aside0.mk z1;clear z1;by_cases c9 : k3 = true
   ·subst c9;have H1 : (Pl51a.j0 k l1 l2 (decide ((l1.length : Int) > 20)) a0_0 l0_1 l0_2) = some r := by rw [if_pos rfl] at H; exact H
    clear H;have H := H1;clear H1;have H' := Aside0.mk H;clear H;have n4 : w5.cell? ⟨a4, 0, none⟩ = some (.int .i64 a0_0) := bcz a0 0 rfl;have n5 : w5.cell? ⟨a4, 1, none⟩ = some (.slice A0_1 l0_1.length c0_1) := bcz a0 1 rfl;have n6 : w5.cell? ⟨a4, 2, none⟩ = some (.slice A0_2 l0_2.length c0_2) := bcz a0 2 rfl;have o3 := blk_frozen a0.out 0;have o4 := blk_frozen a0.out 1;have o5 := blk_frozen a0.out 2;go_wp2_with (first | ((with_reducible refine gate_callee (f := 15) rfl ?_); refine goesL_ (some 20) rfl rfl Try.func15 (by kernel_rfl) rfl #[.agg #[.int .i64 a0_0, .slice A0_1 l0_1.length c0_1, .slice A0_2 l0_2.length c0_2]] rfl (by (try simp only [List.map_toArray, List.map_cons, List.map_nil]); first | done | rfl | (simp only [List.length_drop, List.length_take]; rfl)) ?_; (with_reducible refine (Pl33a.calls k a0_0 _ _ l0_1 _ _ l0_2 true _ ?f8 ?f9 ?g1 ?g2 A6.out).mono ?_); (case f8 => exact cz i3.out HB.out); (case f9 => exact i1.out); (case g1 => exact cz i4.out HB.out); (case g2 => exact i2.out); rintro e L9 ⟨rfl, hb⟩; refine ⟨_, rfl, ?_⟩; have b2 := Aside0.mk (blk_below (bz a0.out) hb); have b3 := Aside0.mk (below_step (wz HB.out) hb); clear a0; clear HB; have a0 := b2; have HB := b3; clear b2 b3; (try clear hb); (try clear j4); (try clear hk); (try clear hi)) | (go_at_call 39; (with_reducible refine (Pl51c.calls k _ _ l2 true _ ?f8 ?f9 A8.out).mono ?_); (case f8 => exact cz q9.out HB.out); (case f9 => exact q8.out); rintro e w' ⟨rfl, ⟨nd, rfl⟩⟩))
    go_meet
    case rel => exact ⟨_, (decide ((l1.length : Int) > 20)), (by first | rfl | (simp; done) | (simp [*]; done)), H', ⟨by first | omega | exact Nat.le_refl _⟩, ⟨bz a0.out⟩, ⟨wz HB.out⟩⟩
   ·replace c9 := Bool.eq_false_iff.mpr c9;subst c9;have H1 : (Pl51a.j0 k l1 l2 true a0_0 l0_1 l0_2) = some r := by rw [if_neg (show ¬ (false = true) by decide)] at H; exact H
    clear H;have H := H1;clear H1;have H' := Aside0.mk H;clear H;have n7 : w5.cell? ⟨a4, 0, none⟩ = some (.int .i64 a0_0) := bcz a0 0 rfl;have n8 : w5.cell? ⟨a4, 1, none⟩ = some (.slice A0_1 l0_1.length c0_1) := bcz a0 1 rfl;have n9 : w5.cell? ⟨a4, 2, none⟩ = some (.slice A0_2 l0_2.length c0_2) := bcz a0 2 rfl;have o6 := blk_frozen a0.out 0;have o7 := blk_frozen a0.out 1;have o8 := blk_frozen a0.out 2;go_wp2_with (first | ((with_reducible refine gate_callee (f := 15) rfl ?_); refine goesL_ (some 20) rfl rfl Try.func15 (by kernel_rfl) rfl #[.agg #[.int .i64 a0_0, .slice A0_1 l0_1.length c0_1, .slice A0_2 l0_2.length c0_2]] rfl (by (try simp only [List.map_toArray, List.map_cons, List.map_nil]); first | done | rfl | (simp only [List.length_drop, List.length_take]; rfl)) ?_; (with_reducible refine (Pl33a.calls k a0_0 _ _ l0_1 _ _ l0_2 true _ ?f8 ?f9 ?g1 ?g2 A6.out).mono ?_); (case f8 => exact cz i3.out HB.out); (case f9 => exact i1.out); (case g1 => exact cz i4.out HB.out); (case g2 => exact i2.out); rintro e M0 ⟨rfl, hb⟩; refine ⟨_, rfl, ?_⟩; have b2 := Aside0.mk (blk_below (bz a0.out) hb); have b3 := Aside0.mk (below_step (wz HB.out) hb); clear a0; clear HB; have a0 := b2; have HB := b3; clear b2 b3; (try clear hb); (try clear j4); (try clear hk); (try clear hi)) | (go_at_call 39; (with_reducible refine (Pl51c.calls k _ _ l2 false _ ?f8 ?f9 A8.out).mono ?_); (case f8 => exact cz q9.out HB.out); (case f9 => exact q8.out); rintro e w' ⟨rfl, ⟨nd, rfl⟩⟩))
    go_meet
    case rel => exact ⟨_, (true), (by first | rfl | (simp; done) | (simp [*]; done)), H', ⟨by first | omega | exact Nat.le_refl _⟩, ⟨bz a0.out⟩, ⟨wz HB.out⟩⟩
  ·replace c7 := Bool.eq_false_iff.mpr c7;subst c7;have H1 : (Pl51a.j0 k l1 l2 true a0_0 l0_1 l0_2) = some r := by rw [if_neg (show ¬ (false = true) by decide)] at H; exact H
   clear H;have H := H1;clear H1;have H' := Aside0.mk H;clear H;have o0 : w5.cell? ⟨a4, 0, none⟩ = some (.int .i64 a0_0) := bcz a0 0 rfl;have o1 : w5.cell? ⟨a4, 1, none⟩ = some (.slice A0_1 l0_1.length c0_1) := bcz a0 1 rfl;have o2 : w5.cell? ⟨a4, 2, none⟩ = some (.slice A0_2 l0_2.length c0_2) := bcz a0 2 rfl;have o9 := blk_frozen a0.out 0;have p0 := blk_frozen a0.out 1;have p1 := blk_frozen a0.out 2;go_wp2_with (first | ((with_reducible refine gate_callee (f := 15) rfl ?_); refine goesL_ (some 20) rfl rfl Try.func15 (by kernel_rfl) rfl #[.agg #[.int .i64 a0_0, .slice A0_1 l0_1.length c0_1, .slice A0_2 l0_2.length c0_2]] rfl (by (try simp only [List.map_toArray, List.map_cons, List.map_nil]); first | done | rfl | (simp only [List.length_drop, List.length_take]; rfl)) ?_; (with_reducible refine (Pl33a.calls k a0_0 _ _ l0_1 _ _ l0_2 false _ ?f8 ?f9 ?g1 ?g2 A6.out).mono ?_); (case f8 => exact cz i3.out HB.out); (case f9 => exact i1.out); (case g1 => exact cz i4.out HB.out); (case g2 => exact i2.out); rintro e M1 ⟨rfl, hb⟩; refine ⟨_, rfl, ?_⟩; have b2 := Aside0.mk (blk_below (bz a0.out) hb); have b3 := Aside0.mk (below_step (wz HB.out) hb); clear a0; clear HB; have a0 := b2; have HB := b3; clear b2 b3; (try clear hb); (try clear j4); (try clear hk); (try clear hi)))
   go_meet
   case rel => exact ⟨_, (true), (by first | rfl | (simp; done) | (simp [*]; done)), H', ⟨by first | omega | exact Nat.le_refl _⟩, ⟨bz a0.out⟩, ⟨wz HB.out⟩⟩
 case rest =>
  clear y1;(try clear c1);(try clear c2);(try clear c7);(try clear c9);(try clear n4);(try clear n5);(try clear n6);(try clear n7);(try clear n8);(try clear n9);(try clear o0);(try clear o1);(try clear o2);(try clear o3);(try clear o4);(try clear o5);(try clear o6);(try clear o7);(try clear o8);(try clear o9);(try clear p0);(try clear p1);obtain ⟨kq, m6, rfl, HA, q0, a0, HB⟩ := hcut
  cases kq with
  | zero => exact absurd HA.out (by simp [Pl51a.j0])
  | succ kj3 =>
   have H := HA.out;clear HA;simp only [Pl51a.j0] at H;by_cases q1 : m6 = true
   ·subst q1;have H1 : ((Pl51b.f kj3).bind fun p7 => (some p7)) = some r := by rw [if_pos rfl] at H; exact H
    clear H;have H := H1;clear H1;replace H := Option.bind_eq_some_iff.mp H;obtain ⟨p7, x1, H⟩ := H;replace H : (some p7) = some r := H;have E5 := Aside0.mk x1;clear x1;obtain rfl := Option.some.inj H;go_wp2_with (first | ((with_reducible refine gate_callee (f := 40) rfl ?_); refine goesL_ (some 32) rfl rfl Try.func40 (by kernel_rfl) rfl #[] rfl (by (try simp only [List.map_toArray, List.map_cons, List.map_nil]); first | done | rfl | (simp only [List.length_drop, List.length_take]; rfl)) ?_; (with_reducible refine (Pl51b.calls kj3  p7 _ E5.out hr_).mono ?_); rintro e M2 ⟨rfl, hb⟩; refine ⟨_, rfl, ?_⟩; have b2 := Aside0.mk (blk_below (bz a0.out) hb); have b3 := Aside0.mk (below_step (wz HB.out) hb); clear a0; clear HB; have a0 := b2; have HB := b3; clear b2 b3; (try clear hb); (try clear j4); (try clear hk); (try clear hi)))
    go_ret
    exact ⟨by first | rfl | (simp [errW_none, errW_some] <;> rfl) | (simp [*, errW_none, errW_some] <;> rfl), wz HB.out⟩
   ·replace q1 := Bool.eq_false_iff.mpr q1;subst q1;have H1 : ((Pra.f a0_0 l0_1 l0_2).bind fun j5 => (if j5.2 = 0 then ((Pxd.f a0_0 l0_1 l0_2 l2).bind fun g5 => ((Pxe.f a0_0 l0_1 l0_2 l2).bind fun j2 => ((Pra.f g5.1 g5.2.1 g5.2.2.1).bind fun g6 => (if g5.2.2.2 = 0 then (if j2.2.2.2 = 0 then (if g6.2 = 0 then ((Pr31a.f kj3 j5.1 g6.1).bind fun h7 => (if h7 = true then (Pl51a.j1 kj3 l1 j5.1 ((wrap64 ((g5.2.2.1.length : Int) + (j2.2.2.1.length : Int))) != (l0_2.length : Int)) a0_0 l0_1 l0_2) else (Pl51a.j1 kj3 l1 j5.1 true a0_0 l0_1 l0_2))) else (Pl51a.j1 kj3 l1 j5.1 true a0_0 l0_1 l0_2)) else (Pl51a.j1 kj3 l1 j5.1 true a0_0 l0_1 l0_2)) else (Pl51a.j1 kj3 l1 j5.1 true a0_0 l0_1 l0_2))))) else ((Pl51b.f kj3).bind fun l8 => (some l8)))) = some r := by rw [if_neg (show ¬ (false = true) by decide)] at H; exact H
    clear H;have H := H1;clear H1;replace H := Option.bind_eq_some_iff.mp H;obtain ⟨⟨b5, k4⟩, x2, H⟩ := H;replace H : (if k4 = 0 then ((Pxd.f a0_0 l0_1 l0_2 l2).bind fun g5 => ((Pxe.f a0_0 l0_1 l0_2 l2).bind fun j2 => ((Pra.f g5.1 g5.2.1 g5.2.2.1).bind fun g6 => (if g5.2.2.2 = 0 then (if j2.2.2.2 = 0 then (if g6.2 = 0 then ((Pr31a.f kj3 b5 g6.1).bind fun h7 => (if h7 = true then (Pl51a.j1 kj3 l1 b5 ((wrap64 ((g5.2.2.1.length : Int) + (j2.2.2.1.length : Int))) != (l0_2.length : Int)) a0_0 l0_1 l0_2) else (Pl51a.j1 kj3 l1 b5 true a0_0 l0_1 l0_2))) else (Pl51a.j1 kj3 l1 b5 true a0_0 l0_1 l0_2)) else (Pl51a.j1 kj3 l1 b5 true a0_0 l0_1 l0_2)) else (Pl51a.j1 kj3 l1 b5 true a0_0 l0_1 l0_2))))) else ((Pl51b.f kj3).bind fun l8 => (some l8))) = some r := H;have y9 := Aside0.mk x2;clear x2;by_cases m1 : k4 = 0
    ·rw [if_pos m1] at H;have c20b0 : (k4 == 0) = true := beq_iff_eq.mpr m1;have c20b1 : (k4 != 0) = false := bne_eq_false_iff_eq.mpr m1;clear m1;replace H := Option.bind_eq_some_iff.mp H;obtain ⟨⟨d9, b8, b7, j6⟩, x3, H⟩ := H;replace H : ((Pxe.f a0_0 l0_1 l0_2 l2).bind fun j2 => ((Pra.f d9 b8 b7).bind fun g6 => (if j6 = 0 then (if j2.2.2.2 = 0 then (if g6.2 = 0 then ((Pr31a.f kj3 b5 g6.1).bind fun h7 => (if h7 = true then (Pl51a.j1 kj3 l1 b5 ((wrap64 ((b7.length : Int) + (j2.2.2.1.length : Int))) != (l0_2.length : Int)) a0_0 l0_1 l0_2) else (Pl51a.j1 kj3 l1 b5 true a0_0 l0_1 l0_2))) else (Pl51a.j1 kj3 l1 b5 true a0_0 l0_1 l0_2)) else (Pl51a.j1 kj3 l1 b5 true a0_0 l0_1 l0_2)) else (Pl51a.j1 kj3 l1 b5 true a0_0 l0_1 l0_2)))) = some r := H;have E6 := Aside0.mk x3;clear x3;replace H := Option.bind_eq_some_iff.mp H;obtain ⟨⟨f7, e2, d0, k5⟩, x4, H⟩ := H;replace H : ((Pra.f d9 b8 b7).bind fun g6 => (if j6 = 0 then (if k5 = 0 then (if g6.2 = 0 then ((Pr31a.f kj3 b5 g6.1).bind fun h7 => (if h7 = true then (Pl51a.j1 kj3 l1 b5 ((wrap64 ((b7.length : Int) + (d0.length : Int))) != (l0_2.length : Int)) a0_0 l0_1 l0_2) else (Pl51a.j1 kj3 l1 b5 true a0_0 l0_1 l0_2))) else (Pl51a.j1 kj3 l1 b5 true a0_0 l0_1 l0_2)) else (Pl51a.j1 kj3 l1 b5 true a0_0 l0_1 l0_2)) else (Pl51a.j1 kj3 l1 b5 true a0_0 l0_1 l0_2))) = some r := H;have E7 := Aside0.mk x4;clear x4;replace H := Option.bind_eq_some_iff.mp H;obtain ⟨⟨p8, l3⟩, x5, H⟩ := H;replace H : (if j6 = 0 then (if k5 = 0 then (if l3 = 0 then ((Pr31a.f kj3 b5 p8).bind fun h7 => (if h7 = true then (Pl51a.j1 kj3 l1 b5 ((wrap64 ((b7.length : Int) + (d0.length : Int))) != (l0_2.length : Int)) a0_0 l0_1 l0_2) else (Pl51a.j1 kj3 l1 b5 true a0_0 l0_1 l0_2))) else (Pl51a.j1 kj3 l1 b5 true a0_0 l0_1 l0_2)) else (Pl51a.j1 kj3 l1 b5 true a0_0 l0_1 l0_2)) else (Pl51a.j1 kj3 l1 b5 true a0_0 l0_1 l0_2)) = some r := H;have E8 := Aside0.mk x5;clear x5;have q3 := Aside0.mk H;clear H;have r2 : wc.cell? ⟨a4, 0, none⟩ = some (.int .i64 a0_0) := bcz a0 0 rfl;have r3 : wc.cell? ⟨a4, 1, none⟩ = some (.slice A0_1 l0_1.length c0_1) := bcz a0 1 rfl;have r4 : wc.cell? ⟨a4, 2, none⟩ = some (.slice A0_2 l0_2.length c0_2) := bcz a0 2 rfl;have u2 := blk_frozen a0.out 0;have u3 := blk_frozen a0.out 1;have u4 := blk_frozen a0.out 2;go_upto_region 9 with (first | ((with_reducible refine gate_callee (f := 17) rfl ?_); refine goesL_ (some 35) rfl rfl Try.func17 (by kernel_rfl) rfl #[.agg #[.int .i64 a0_0, .slice A0_1 l0_1.length c0_1, .slice A0_2 l0_2.length c0_2]] rfl (by (try simp only [List.map_toArray, List.map_cons, List.map_nil]); first | done | rfl | (simp only [List.length_drop, List.length_take]; rfl)) ?_; (with_reducible refine (Pra.calls a0_0 _ _ l0_1 _ _ l0_2 b5 k4 _ ?f8 ?f9 ?g1 ?g2 y9.out).mono ?_); (case f8 => exact cz i3.out HB.out); (case f9 => exact i1.out); (case g1 => exact cz i4.out HB.out); (case g2 => exact i2.out); rintro e y3 ⟨y2, rfl, e9, hb⟩; refine ⟨_, rfl, ?_⟩; have b2 := Aside0.mk (Kd.R_lower e9 (below_size (wz HB.out))); have b3 := Aside0.mk (blk_below (bz a0.out) hb); have b6 := Aside0.mk (below_step (wz HB.out) hb); clear a0; clear HB; have b4 := b2; have a0 := b3; have HB := b6; clear b2 b3 b6; (try clear hb); (try clear j4); (try clear hk); (try clear hi); (try clear e9); have r5 : y3.cell? ⟨a4, 0, none⟩ = some (.int .i64 a0_0) := bcz a0 0 rfl; have r6 : y3.cell? ⟨a4, 1, none⟩ = some (.slice A0_1 l0_1.length c0_1) := bcz a0 1 rfl; have r7 : y3.cell? ⟨a4, 2, none⟩ = some (.slice A0_2 l0_2.length c0_2) := bcz a0 2 rfl; have u5 := blk_frozen a0.out 0; have u6 := blk_frozen a0.out 1; have u7 := blk_frozen a0.out 2) | ((with_reducible refine gate_callee (f := 42) rfl ?_); refine goesL_ (some 44) rfl rfl Try.func42 (by kernel_rfl) rfl #[.agg #[.int .i64 a0_0, .slice A0_1 l0_1.length c0_1, .slice A0_2 l0_2.length c0_2], .slice A2 l2.length c2] rfl (by (try simp only [List.map_toArray, List.map_cons, List.map_nil]); first | done | rfl | (simp only [List.length_drop, List.length_take]; rfl)) ?_; (with_reducible refine (Pxd.calls a0_0 _ _ l0_1 _ _ l0_2 _ _ l2 d9 b8 b7 j6 _ ?f8 ?f9 ?g1 ?g2 ?p4 ?p5 E6.out).mono ?_); (case f8 => exact cz i3.out HB.out); (case f9 => exact i1.out); (case g1 => exact cz i4.out HB.out); (case g2 => exact i2.out); (case p4 => exact cz q9.out HB.out); (case p5 => exact q8.out); rintro e M3 ⟨K9, L0, rfl, e9, h9, hb⟩; refine ⟨_, rfl, ?_⟩; have b2 := Aside0.mk (Kd.R_below (rz b4.out) hb); have b3 := Aside0.mk (Kd.R_lower e9 (below_size (wz HB.out))); have b6 := Aside0.mk (Kd.R_lower h9 (below_size (wz HB.out))); have b9 := Aside0.mk (blk_below (bz a0.out) hb); have d5 := Aside0.mk (below_step (wz HB.out) hb); clear b4; clear a0; clear HB; have b4 := b2; have d3 := b3; have d4 := b6; have a0 := b9; have HB := d5; clear b2 b3 b6 b9 d5; (try clear hb); (try clear j4); (try clear hk); (try clear hi); (try clear e9); (try clear h9)) | ((with_reducible refine gate_dst (N := 9) rfl ?_); (try (refine gate_guard (by rfl) ?_; dsimp only)); refine box_event ?hg (N := 9) ?hd (cs := #[.int .i64 0, .slice none 0 0, .slice none 0 0]) (t := 25) ?hr ?_; (case hd => rfl); (case hg => rfl); (case hr => first | (go_simp; done) | (go_simp; rfl)); intro a6 hg p2 hbox hb; have b2 := Aside0.mk (Kd.R_below (rz b4.out) hb); have b3 := Aside0.mk (Kd.R_below (rz d3.out) hb); have b6 := Aside0.mk (Kd.R_below (rz d4.out) hb); have b9 := Aside0.mk (blk_below (bz a0.out) hb); have d5 := Aside0.mk (below_step (wz HB.out) hb); have e3 := Aside0.mk (hbox); have e4 := Aside0.mk ((by rw [hg]; exact (below_size (wz HB.out)) : w.heap.size ≤ a6)); have e5 := Aside0.mk ((by rw [hg]; exact (below_size (wz HB.out)) : w.heap.size ≤ a6)); have f3 := Aside0.mk ((by rw [hg]; exact Nat.ne_of_lt (blk_lt (g := a4) (o := .cells #[.int .i64 a0_0, .slice A0_1 l0_1.length c0_1, .slice A0_2 l0_2.length c0_2] 25 (0, 0)) (bz a0.out)) : a4 ≠ a6)); have f4 := Aside0.mk ((by rw [hg]; exact Nat.ne_of_gt (blk_lt (g := a4) (o := .cells #[.int .i64 a0_0, .slice A0_1 l0_1.length c0_1, .slice A0_2 l0_2.length c0_2] 25 (0, 0)) (bz a0.out)) : a6 ≠ a4)); clear b4; clear d3; clear d4; clear a0; clear HB; have b4 := b2; have d3 := b3; have d4 := b6; have a0 := b9; have HB := d5; have a2 := e3; have H0 := e4; have G7 := e5; have h1 := f3; have i8 := f4; clear b2 b3 b6 b9 d5 e3 e4 e5 f3 f4; clear hb hbox hg; have H3 := i8.out; have I4 := h1.out; have r8 : p2.cell? ⟨a6, 0, none⟩ = some (.int .i64 0) := bcz a2 0 rfl; have r9 : p2.cell? ⟨a6, 1, none⟩ = some (.slice none 0 0) := bcz a2 1 rfl; have s0 : p2.cell? ⟨a6, 2, none⟩ = some (.slice none 0 0) := bcz a2 2 rfl; have u8 := blk_frozen a2.out 0; have u9 := blk_frozen a2.out 1; have v0 := blk_frozen a2.out 2; obtain ⟨e6, e1, z6⟩ := Kd.R_slice d3.out; subst z6; obtain ⟨f0, e7, z7⟩ := Kd.R_slice d4.out; subst z7; have s1 : p2.cell? ⟨a4, 0, none⟩ = some (.int .i64 a0_0) := bcz a0 0 rfl; have s2 : p2.cell? ⟨a4, 1, none⟩ = some (.slice A0_1 l0_1.length c0_1) := bcz a0 1 rfl; have s3 : p2.cell? ⟨a4, 2, none⟩ = some (.slice A0_2 l0_2.length c0_2) := bcz a0 2 rfl; have v1 := blk_frozen a0.out 0; have v2 := blk_frozen a0.out 1; have v3 := blk_frozen a0.out 2) | ((with_reducible refine gate_callee (f := 43) rfl ?_); refine goesL_ (some 50) rfl rfl Try.func43 (by kernel_rfl) rfl #[.agg #[.int .i64 a0_0, .slice A0_1 l0_1.length c0_1, .slice A0_2 l0_2.length c0_2], .slice A2 l2.length c2] rfl (by (try simp only [List.map_toArray, List.map_cons, List.map_nil]); first | done | rfl | (simp only [List.length_drop, List.length_take]; rfl)) ?_; (with_reducible refine (Pxe.calls a0_0 _ _ l0_1 _ _ l0_2 _ _ l2 f7 e2 d0 k5 _ ?f8 ?f9 ?g1 ?g2 ?p4 ?p5 E7.out).mono ?_); (case f8 => exact Kd.C_below i3.out (wz HB.out)); (case f9 => exact i1.out); (case g1 => exact Kd.C_below i4.out (wz HB.out)); (case g2 => exact i2.out); (case p4 => exact Kd.C_below q9.out (wz HB.out)); (case p5 => exact q8.out); rintro e M4 ⟨L1, L2, rfl, e9, h9, hb⟩; refine ⟨_, rfl, ?_⟩; have b2 := Aside0.mk (Kd.R_below (rz (Kd.R_mono (Kd.R_far (p := ⟨a6, 2, none⟩) (Kd.R_far (p := ⟨a6, 1, none⟩) (Kd.R_far (p := ⟨a6, 0, none⟩) (Kd.R_types b4.out a2.out (by decide)) (fun _ hk => hk.2) (.int .i64 d9)) (fun _ hk => hk.2) (.slice e6 b8.length e1)) (fun _ hk => hk.2) (.slice f0 b7.length e7)) (fun _ h_ => h_.1))) hb); have b3 := Aside0.mk (Kd.R_elder' (rz (Kd.R_mono (Kd.R_far (p := ⟨a6, 2, none⟩) (Kd.R_far (p := ⟨a6, 1, none⟩) (Kd.R_far (p := ⟨a6, 0, none⟩) (Kd.R_types d3.out a2.out (by decide)) (fun _ hk => hk.2) (.int .i64 d9)) (fun _ hk => hk.2) (.slice e6 b8.length e1)) (fun _ hk => hk.2) (.slice f0 b7.length e7)) (fun _ h_ => h_.1))) (Kd.R_base e9) hb); have b6 := Aside0.mk (Kd.R_elder' (rz (Kd.R_mono (Kd.R_far (p := ⟨a6, 2, none⟩) (Kd.R_far (p := ⟨a6, 1, none⟩) (Kd.R_far (p := ⟨a6, 0, none⟩) (Kd.R_types d4.out a2.out (by decide)) (fun _ hk => hk.2) (.int .i64 d9)) (fun _ hk => hk.2) (.slice e6 b8.length e1)) (fun _ hk => hk.2) (.slice f0 b7.length e7)) (fun _ h_ => h_.1))) (Kd.R_base h9) hb); have b9 := Aside0.mk (Kd.R_lower (Kd.R_new' e9 (Kd.R_lt (rz (Kd.R_mono (Kd.R_far (p := ⟨a6, 2, none⟩) (Kd.R_far (p := ⟨a6, 1, none⟩) (Kd.R_far (p := ⟨a6, 0, none⟩) (Kd.R_types d3.out a2.out (by decide)) (fun _ hk => hk.2) (.int .i64 d9)) (fun _ hk => hk.2) (.slice e6 b8.length e1)) (fun _ hk => hk.2) (.slice f0 b7.length e7)) (fun _ h_ => h_.1))))) (below_size (wz HB.out))); have d5 := Aside0.mk (Kd.R_lower (Kd.R_new' h9 (Kd.R_lt (rz (Kd.R_mono (Kd.R_far (p := ⟨a6, 2, none⟩) (Kd.R_far (p := ⟨a6, 1, none⟩) (Kd.R_far (p := ⟨a6, 0, none⟩) (Kd.R_types d4.out a2.out (by decide)) (fun _ hk => hk.2) (.int .i64 d9)) (fun _ hk => hk.2) (.slice e6 b8.length e1)) (fun _ hk => hk.2) (.slice f0 b7.length e7)) (fun _ h_ => h_.1))))) (below_size (wz HB.out))); have e3 := Aside0.mk (blk_below (g := a4) (o := .cells #[.int .i64 a0_0, .slice A0_1 l0_1.length c0_1, .slice A0_2 l0_2.length c0_2] 25 (0, 0)) (fz a0.out h1.out) hb); have e4 := Aside0.mk (blk_below (g := a6) (o := .cells #[.int .i64 d9, .slice e6 b8.length e1, .slice f0 b7.length e7] 25 (0, 0)) (by (with_reducible repeat (first | refine blk_drewN ?_ _ | refine blk_drew ?_ | refine blk_alloc ?_ _)); refine blk_put (cs := #[.int .i64 d9, .slice e6 b8.length e1, .slice none 0 0]) ?_ 2 _ rfl; (with_reducible repeat (first | refine blk_drewN ?_ _ | refine blk_drew ?_ | refine blk_alloc ?_ _)); refine blk_put (cs := #[.int .i64 d9, .slice none 0 0, .slice none 0 0]) ?_ 1 _ rfl; (with_reducible repeat (first | refine blk_drewN ?_ _ | refine blk_drew ?_ | refine blk_alloc ?_ _)); refine blk_put (cs := #[.int .i64 0, .slice none 0 0, .slice none 0 0]) ?_ 0 _ rfl; (with_reducible repeat (first | refine blk_drewN ?_ _ | refine blk_drew ?_ | refine blk_alloc ?_ _)); exact a2.out) hb); have e5 := Aside0.mk (below_step (wz HB.out) hb); clear b4; clear d3; clear d4; clear a0; clear a2; clear HB; have b4 := b2; have d3 := b3; have d4 := b6; have g3 := b9; have g4 := d5; have a0 := e3; have a2 := e4; have HB := e5; clear b2 b3 b6 b9 d5 e3 e4 e5; (try clear hb); (try clear j4); (try clear hk); (try clear hi); (try clear e9); (try clear h9)) | ((with_reducible refine gate_dst (N := 11) rfl ?_); (try (refine gate_guard (by rfl) ?_; dsimp only)); refine box_event ?hg (N := 11) ?hd (cs := #[.int .i64 0, .slice none 0 0, .slice none 0 0]) (t := 25) ?hr ?_; (case hd => rfl); (case hg => rfl); (case hr => first | (go_simp; done) | (go_simp; rfl)); intro a5 hg p3 hbox hb; have b2 := Aside0.mk (Kd.R_below (rz b4.out) hb); have b3 := Aside0.mk (Kd.R_below (rz d3.out) hb); have b6 := Aside0.mk (Kd.R_below (rz d4.out) hb); have b9 := Aside0.mk (Kd.R_below (rz g3.out) hb); have d5 := Aside0.mk (Kd.R_below (rz g4.out) hb); have e3 := Aside0.mk (blk_below (bz a0.out) hb); have e4 := Aside0.mk (blk_below (bz a2.out) hb); have e5 := Aside0.mk (below_step (wz HB.out) hb); have f3 := Aside0.mk (hbox); have f4 := Aside0.mk ((by rw [hg]; exact (below_size (wz HB.out)) : w.heap.size ≤ a5)); have e8 := Aside0.mk ((by rw [hg]; exact (below_size (wz HB.out)) : w.heap.size ≤ a5)); have g0 := Aside0.mk ((by rw [hg]; exact Nat.ne_of_lt (blk_lt (g := a4) (o := .cells #[.int .i64 a0_0, .slice A0_1 l0_1.length c0_1, .slice A0_2 l0_2.length c0_2] 25 (0, 0)) (bz a0.out)) : a4 ≠ a5)); have g8 := Aside0.mk ((by rw [hg]; exact Nat.ne_of_gt (blk_lt (g := a4) (o := .cells #[.int .i64 a0_0, .slice A0_1 l0_1.length c0_1, .slice A0_2 l0_2.length c0_2] 25 (0, 0)) (bz a0.out)) : a5 ≠ a4)); have k1 := Aside0.mk ((by rw [hg]; exact Nat.ne_of_lt (blk_lt (g := a6) (o := .cells #[.int .i64 d9, .slice e6 b8.length e1, .slice f0 b7.length e7] 25 (0, 0)) (bz a2.out)) : a6 ≠ a5)); have k2 := Aside0.mk ((by rw [hg]; exact Nat.ne_of_gt (blk_lt (g := a6) (o := .cells #[.int .i64 d9, .slice e6 b8.length e1, .slice f0 b7.length e7] 25 (0, 0)) (bz a2.out)) : a5 ≠ a6)); clear b4; clear d3; clear d4; clear g3; clear g4; clear a0; clear a2; clear HB; have b4 := b2; have d3 := b3; have d4 := b6; have g3 := b9; have g4 := d5; have a0 := e3; have a2 := e4; have HB := e5; have a3 := f3; have H2 := f4; have G8 := e8; have h2 := g0; have i9 := g8; have j7 := k1; have m0 := k2; clear b2 b3 b6 b9 d5 e3 e4 e5 f3 f4 e8 g0 g8 k1 k2; clear hb hbox hg; have H4 := i9.out; have I5 := h2.out; have H5 := m0.out; have I6 := j7.out; have s4 : p3.cell? ⟨a5, 0, none⟩ = some (.int .i64 0) := bcz a3 0 rfl; have s5 : p3.cell? ⟨a5, 1, none⟩ = some (.slice none 0 0) := bcz a3 1 rfl; have s6 : p3.cell? ⟨a5, 2, none⟩ = some (.slice none 0 0) := bcz a3 2 rfl; have v4 := blk_frozen a3.out 0; have v5 := blk_frozen a3.out 1; have v6 := blk_frozen a3.out 2; obtain ⟨f1, f2, z8⟩ := Kd.R_slice g3.out; subst z8; obtain ⟨f5, f6, z9⟩ := Kd.R_slice g4.out; subst z9; have s7 : p3.cell? ⟨a6, 0, none⟩ = some (.int .i64 d9) := bcz a2 0 rfl; have s8 : p3.cell? ⟨a6, 1, none⟩ = some (.slice e6 b8.length e1) := bcz a2 1 rfl; have s9 : p3.cell? ⟨a6, 2, none⟩ = some (.slice f0 b7.length e7) := bcz a2 2 rfl; have v7 := blk_frozen a2.out 0; have v8 := blk_frozen a2.out 1; have v9 := blk_frozen a2.out 2) | ((with_reducible refine gate_callee (f := 17) rfl ?_); refine goesL_ (some 55) rfl rfl Try.func17 (by kernel_rfl) rfl #[.agg #[.int .i64 d9, .slice e6 b8.length e1, .slice f0 b7.length e7]] rfl (by (try simp only [List.map_toArray, List.map_cons, List.map_nil]); first | done | rfl | (simp only [List.length_drop, List.length_take]; rfl)) ?_; (with_reducible refine (Pra.calls d9 _ _ b8 _ _ b7 p8 l3 _ ?f8 ?f9 ?g1 ?g2 E8.out).mono ?_); (case f8 => refine (Kd.R_reads' (e := 9) (base := w.heap.size) (ok := fun k_ => (True ∧ some k_ ≠ (.slice f1 e2.length f2 : Value).ownBlock)) (n := b8.length) (c := e1) ?_).2.2; exact (rz (Kd.R_mono (Kd.R_far (p := ⟨a5, 2, none⟩) (Kd.R_far (p := ⟨a5, 1, none⟩) (Kd.R_far (p := ⟨a5, 0, none⟩) (Kd.R_types d3.out a3.out (by decide)) (fun _ hk => hk.2) (.int .i64 f7)) (fun _ hk => hk.2) (.slice f1 e2.length f2)) (fun _ hk => hk.2) (.slice f5 d0.length f6)) (fun _ h_ => h_.1)))); (case f9 => exact (Kd.R_reads' d3.out).2.1); (case g1 => refine (Kd.R_reads' (e := 80) (base := w.heap.size) (ok := fun k_ => (True ∧ some k_ ≠ (.slice f5 d0.length f6 : Value).ownBlock)) (n := b7.length) (c := e7) ?_).2.2; exact (rz (Kd.R_mono (Kd.R_far (p := ⟨a5, 2, none⟩) (Kd.R_far (p := ⟨a5, 1, none⟩) (Kd.R_far (p := ⟨a5, 0, none⟩) (Kd.R_types d4.out a3.out (by decide)) (fun _ hk => hk.2) (.int .i64 f7)) (fun _ hk => hk.2) (.slice f1 e2.length f2)) (fun _ hk => hk.2) (.slice f5 d0.length f6)) (fun _ h_ => h_.1)))); (case g2 => exact (Kd.R_reads' d4.out).2.1); rintro e l6 ⟨L3, rfl, e9, hb⟩; refine ⟨_, rfl, ?_⟩; have b2 := Aside0.mk (Kd.R_elder' (rz (Kd.R_mono (Kd.R_far (p := ⟨a5, 2, none⟩) (Kd.R_far (p := ⟨a5, 1, none⟩) (Kd.R_far (p := ⟨a5, 0, none⟩) (Kd.R_types b4.out a3.out (by decide)) (fun _ hk => hk.2) (.int .i64 f7)) (fun _ hk => hk.2) (.slice f1 e2.length f2)) (fun _ hk => hk.2) (.slice f5 d0.length f6)) (fun _ h_ => h_.1))) (Kd.R_base e9) hb); have b3 := Aside0.mk (Kd.R_below (rz (Kd.R_mono (Kd.R_far (p := ⟨a5, 2, none⟩) (Kd.R_far (p := ⟨a5, 1, none⟩) (Kd.R_far (p := ⟨a5, 0, none⟩) (Kd.R_types d3.out a3.out (by decide)) (fun _ hk => hk.2) (.int .i64 f7)) (fun _ hk => hk.2) (.slice f1 e2.length f2)) (fun _ hk => hk.2) (.slice f5 d0.length f6)) (fun _ h_ => h_.1))) hb); have b6 := Aside0.mk (Kd.R_below (rz (Kd.R_mono (Kd.R_far (p := ⟨a5, 2, none⟩) (Kd.R_far (p := ⟨a5, 1, none⟩) (Kd.R_far (p := ⟨a5, 0, none⟩) (Kd.R_types d4.out a3.out (by decide)) (fun _ hk => hk.2) (.int .i64 f7)) (fun _ hk => hk.2) (.slice f1 e2.length f2)) (fun _ hk => hk.2) (.slice f5 d0.length f6)) (fun _ h_ => h_.1))) hb); have b9 := Aside0.mk (Kd.R_below (rz (Kd.R_mono (Kd.R_far (p := ⟨a5, 2, none⟩) (Kd.R_far (p := ⟨a5, 1, none⟩) (Kd.R_far (p := ⟨a5, 0, none⟩) (Kd.R_types g3.out a3.out (by decide)) (fun _ hk => hk.2) (.int .i64 f7)) (fun _ hk => hk.2) (.slice f1 e2.length f2)) (fun _ hk => hk.2) (.slice f5 d0.length f6)) (fun _ h_ => h_.1))) hb); have d5 := Aside0.mk (Kd.R_below (rz (Kd.R_mono (Kd.R_far (p := ⟨a5, 2, none⟩) (Kd.R_far (p := ⟨a5, 1, none⟩) (Kd.R_far (p := ⟨a5, 0, none⟩) (Kd.R_types g4.out a3.out (by decide)) (fun _ hk => hk.2) (.int .i64 f7)) (fun _ hk => hk.2) (.slice f1 e2.length f2)) (fun _ hk => hk.2) (.slice f5 d0.length f6)) (fun _ h_ => h_.1))) hb); have e3 := Aside0.mk (Kd.R_lower (Kd.R_new' e9 (Kd.R_lt (rz (Kd.R_mono (Kd.R_far (p := ⟨a5, 2, none⟩) (Kd.R_far (p := ⟨a5, 1, none⟩) (Kd.R_far (p := ⟨a5, 0, none⟩) (Kd.R_types b4.out a3.out (by decide)) (fun _ hk => hk.2) (.int .i64 f7)) (fun _ hk => hk.2) (.slice f1 e2.length f2)) (fun _ hk => hk.2) (.slice f5 d0.length f6)) (fun _ h_ => h_.1))))) (below_size (wz HB.out))); have e4 := Aside0.mk (blk_below (g := a4) (o := .cells #[.int .i64 a0_0, .slice A0_1 l0_1.length c0_1, .slice A0_2 l0_2.length c0_2] 25 (0, 0)) (fz a0.out h2.out) hb); have e5 := Aside0.mk (blk_below (g := a6) (o := .cells #[.int .i64 d9, .slice e6 b8.length e1, .slice f0 b7.length e7] 25 (0, 0)) (fz a2.out j7.out) hb); have f3 := Aside0.mk (blk_below (g := a5) (o := .cells #[.int .i64 f7, .slice f1 e2.length f2, .slice f5 d0.length f6] 25 (0, 0)) (by (with_reducible repeat (first | refine blk_drewN ?_ _ | refine blk_drew ?_ | refine blk_alloc ?_ _)); refine blk_put (cs := #[.int .i64 f7, .slice f1 e2.length f2, .slice none 0 0]) ?_ 2 _ rfl; (with_reducible repeat (first | refine blk_drewN ?_ _ | refine blk_drew ?_ | refine blk_alloc ?_ _)); refine blk_put (cs := #[.int .i64 f7, .slice none 0 0, .slice none 0 0]) ?_ 1 _ rfl; (with_reducible repeat (first | refine blk_drewN ?_ _ | refine blk_drew ?_ | refine blk_alloc ?_ _)); refine blk_put (cs := #[.int .i64 0, .slice none 0 0, .slice none 0 0]) ?_ 0 _ rfl; (with_reducible repeat (first | refine blk_drewN ?_ _ | refine blk_drew ?_ | refine blk_alloc ?_ _)); exact a3.out) hb); have f4 := Aside0.mk (below_step (wz HB.out) hb); clear b4; clear d3; clear d4; clear g3; clear g4; clear a0; clear a2; clear a3; clear HB; have b4 := b2; have d3 := b3; have d4 := b6; have g3 := b9; have g4 := d5; have k8 := e3; have a0 := e4; have a2 := e5; have a3 := f3; have HB := f4; clear b2 b3 b6 b9 d5 e3 e4 e5 f3 f4; (try clear hb); (try clear j4); (try clear hk); (try clear hi); (try clear e9)))
     (try simp only [Act.put, qz1, qz2, qz3])
     go_cut [86] (fun G5 wc => ∃ (kq : Nat) (l7 : Bool), G5 = .bool l7 ∧ Aside0 (Pl51a.j1 kq l1 b5 l7 a0_0 l0_1 l0_2 = some r) ∧ Aside0 (kq ≤ kj3) ∧ Aside0 (Kd.R (Kd.int .i64) 3 wc w.heap.size (fun _ => True) y2 b5) ∧ Aside0 (Kd.R Kd.string 9 wc w.heap.size (fun k_ => some k_ ≠ ((.slice f1 e2.length f2) : Value).ownBlock) (.slice e6 b8.length e1) b8) ∧ Aside0 (Kd.R k80 80 wc w.heap.size (fun k_ => some k_ ≠ ((.slice f5 d0.length f6) : Value).ownBlock) (.slice f0 b7.length e7) b7) ∧ Aside0 (Kd.R Kd.string 9 wc w.heap.size (fun k_ => some k_ ≠ ((.slice e6 b8.length e1) : Value).ownBlock) (.slice f1 e2.length f2) e2) ∧ Aside0 (Kd.R k80 80 wc w.heap.size (fun k_ => some k_ ≠ ((.slice f0 b7.length e7) : Value).ownBlock) (.slice f5 d0.length f6) d0) ∧ Aside0 (wc.heap[a4]? = some (.cells #[.int .i64 a0_0, (.slice A0_1 l0_1.length c0_1), (.slice A0_2 l0_2.length c0_2)] 25 (0, 0))) ∧ Aside0 (wc.heap[a6]? = some (.cells #[.int .i64 d9, (.slice e6 b8.length e1), (.slice f0 b7.length e7)] 25 (0, 0))) ∧ Aside0 (wc.heap[a5]? = some (.cells #[.int .i64 f7, (.slice f1 e2.length f2), (.slice f5 d0.length f6)] 25 (0, 0))) ∧ Aside0 (Below w.heap.size w wc))
     case first =>
      have H := q3.out;clear q3;by_cases m2 : j6 = 0
      ·rw [if_pos m2] at H;have c44b0 : (j6 == 0) = true := beq_iff_eq.mpr m2;have c44b1 : (j6 != 0) = false := bne_eq_false_iff_eq.mpr m2;clear m2
       (first | rw [c44b0] | (simp only [i64_w, i32_w]; rw [c44b0]) | skip)
       by_cases m3 : k5 = 0
       ·rw [if_pos m3] at H;have c45b0 : (k5 == 0) = true := beq_iff_eq.mpr m3;have c45b1 : (k5 != 0) = false := bne_eq_false_iff_eq.mpr m3;clear m3;by_cases m4 : l3 = 0
        ·rw [if_pos m4] at H;have c46b0 : (l3 == 0) = true := beq_iff_eq.mpr m4;have c46b1 : (l3 != 0) = false := bne_eq_false_iff_eq.mpr m4;clear m4;replace H := Option.bind_eq_some_iff.mp H;obtain ⟨h7, x6, H⟩ := H;replace H : (if h7 = true then (Pl51a.j1 kj3 l1 b5 ((wrap64 ((b7.length : Int) + (d0.length : Int))) != (l0_2.length : Int)) a0_0 l0_1 l0_2) else (Pl51a.j1 kj3 l1 b5 true a0_0 l0_1 l0_2)) = some r := H;have z0 := Aside0.mk x6;clear x6;by_cases q2 : h7 = true
         ·subst q2;have H1 : (Pl51a.j1 kj3 l1 b5 ((wrap64 ((b7.length : Int) + (d0.length : Int))) != (l0_2.length : Int)) a0_0 l0_1 l0_2) = some r := by rw [if_pos rfl] at H; exact H
          clear H;have H := H1;clear H1;have H' := Aside0.mk H;clear H;obtain ⟨J5, K2, A0⟩ := Kd.R_slice b4.out;subst A0;obtain ⟨J6, K3, A3⟩ := Kd.R_slice k8.out;subst A3;go_wp2_with (first | (go_at_call 53; (with_reducible refine (Pr31a.calls kj3 _ _ b5 _ _ p8 true _ ?f8 ?f9 ?g1 ?g2 z0.out).mono ?_); (case f8 => repeat (first | exact (Kd.R_reads' b4.out).2.2 | (with_reducible refine Kd.C_alloc ?_ _) | (with_reducible refine Kd.C_drewN ?_ _) | (with_reducible refine Kd.C_drew ?_))); (case f9 => exact (Kd.R_reads' b4.out).2.1); (case g1 => repeat (first | exact (Kd.R_reads' k8.out).2.2 | (with_reducible refine Kd.C_alloc ?_ _) | (with_reducible refine Kd.C_drewN ?_ _) | (with_reducible refine Kd.C_drew ?_))); (case g2 => exact (Kd.R_reads' k8.out).2.1); rintro e w' ⟨rfl, ⟨nd, rfl⟩⟩; have H6 := i8.out; have I7 := h1.out; have H7 := j7.out; have I8 := m0.out; have t2 : l6.cell? ⟨a6, 0, none⟩ = some (.int .i64 d9) := bcz a2 0 rfl; have t4 : l6.cell? ⟨a6, 1, none⟩ = some (.slice e6 b8.length e1) := bcz a2 1 rfl; have t5 : l6.cell? ⟨a6, 2, none⟩ = some (.slice f0 b7.length e7) := bcz a2 2 rfl; have w0 := blk_frozen a2.out 0; have w2 := blk_frozen a2.out 1; have w3 := blk_frozen a2.out 2; have H8 := i9.out; have I9 := h2.out; have t6 : l6.cell? ⟨a5, 0, none⟩ = some (.int .i64 f7) := bcz a3 0 rfl; have t7 : l6.cell? ⟨a5, 1, none⟩ = some (.slice f1 e2.length f2) := bcz a3 1 rfl; have t8 : l6.cell? ⟨a5, 2, none⟩ = some (.slice f5 d0.length f6) := bcz a3 2 rfl; have w4 := blk_frozen a3.out 0; have w6 := blk_frozen a3.out 1; have w7 := blk_frozen a3.out 2; have t9 : l6.cell? ⟨a4, 0, none⟩ = some (.int .i64 a0_0) := bcz a0 0 rfl; have u0 : l6.cell? ⟨a4, 1, none⟩ = some (.slice A0_1 l0_1.length c0_1) := bcz a0 1 rfl; have u1 : l6.cell? ⟨a4, 2, none⟩ = some (.slice A0_2 l0_2.length c0_2) := bcz a0 2 rfl; have w8 := blk_frozen a0.out 0; have w9 := blk_frozen a0.out 1; have x0 := blk_frozen a0.out 2))
          go_meet
          case rel => exact ⟨_, (((wrap64 ((b7.length : Int) + (d0.length : Int))) != (l0_2.length : Int))), (by first | rfl | (simp; done) | (simp [*]; done)), H', ⟨by have := q0.out; first | omega | exact Nat.le_refl _⟩, ⟨rz (Kd.R_mono b4.out (fun _ hk => trivial))⟩, ⟨rz (Kd.R_mono d3.out (fun _ hk => hk.2))⟩, ⟨rz (Kd.R_mono d4.out (fun _ hk => hk.2))⟩, ⟨rz (Kd.R_mono g3.out (fun _ hk => hk.2))⟩, ⟨rz (Kd.R_mono g4.out (fun _ hk => hk.2))⟩, ⟨bz a0.out⟩, ⟨bz a2.out⟩, ⟨bz a3.out⟩, ⟨wz HB.out⟩⟩
         ·replace q2 := Bool.eq_false_iff.mpr q2;subst q2;have H1 : (Pl51a.j1 kj3 l1 b5 true a0_0 l0_1 l0_2) = some r := by rw [if_neg (show ¬ (false = true) by decide)] at H; exact H
          clear H;have H := H1;clear H1;have H' := Aside0.mk H;clear H;obtain ⟨J7, K4, A4⟩ := Kd.R_slice b4.out;subst A4;obtain ⟨J8, K5, A5⟩ := Kd.R_slice k8.out;subst A5;go_wp2_with (first | (go_at_call 53; (with_reducible refine (Pr31a.calls kj3 _ _ b5 _ _ p8 false _ ?f8 ?f9 ?g1 ?g2 z0.out).mono ?_); (case f8 => repeat (first | exact (Kd.R_reads' b4.out).2.2 | (with_reducible refine Kd.C_alloc ?_ _) | (with_reducible refine Kd.C_drewN ?_ _) | (with_reducible refine Kd.C_drew ?_))); (case f9 => exact (Kd.R_reads' b4.out).2.1); (case g1 => repeat (first | exact (Kd.R_reads' k8.out).2.2 | (with_reducible refine Kd.C_alloc ?_ _) | (with_reducible refine Kd.C_drewN ?_ _) | (with_reducible refine Kd.C_drew ?_))); (case g2 => exact (Kd.R_reads' k8.out).2.1); rintro e w' ⟨rfl, ⟨nd, rfl⟩⟩))
          go_meet
          case rel => exact ⟨_, (true), (by first | rfl | (simp; done) | (simp [*]; done)), H', ⟨by have := q0.out; first | omega | exact Nat.le_refl _⟩, ⟨rz (Kd.R_mono b4.out (fun _ hk => trivial))⟩, ⟨rz (Kd.R_mono d3.out (fun _ hk => hk.2))⟩, ⟨rz (Kd.R_mono d4.out (fun _ hk => hk.2))⟩, ⟨rz (Kd.R_mono g3.out (fun _ hk => hk.2))⟩, ⟨rz (Kd.R_mono g4.out (fun _ hk => hk.2))⟩, ⟨bz a0.out⟩, ⟨bz a2.out⟩, ⟨bz a3.out⟩, ⟨wz HB.out⟩⟩
        ·rw [if_neg m4] at H;have c46b0 : (l3 == 0) = false := beq_eq_false_iff_ne.mpr m4;have c46b1 : (l3 != 0) = true := bne_iff_ne.mpr m4;have H' := Aside0.mk H;clear H;go_wp2
         go_meet
         case rel => exact ⟨_, (true), (by first | rfl | (simp; done) | (simp [*]; done)), H', ⟨by have := q0.out; first | omega | exact Nat.le_refl _⟩, ⟨rz (Kd.R_mono b4.out (fun _ hk => trivial))⟩, ⟨rz (Kd.R_mono d3.out (fun _ hk => hk.2))⟩, ⟨rz (Kd.R_mono d4.out (fun _ hk => hk.2))⟩, ⟨rz (Kd.R_mono g3.out (fun _ hk => hk.2))⟩, ⟨rz (Kd.R_mono g4.out (fun _ hk => hk.2))⟩, ⟨bz a0.out⟩, ⟨bz a2.out⟩, ⟨bz a3.out⟩, ⟨wz HB.out⟩⟩
       ·rw [if_neg m3] at H;have c45b0 : (k5 == 0) = false := beq_eq_false_iff_ne.mpr m3;have c45b1 : (k5 != 0) = true := bne_iff_ne.mpr m3;have H' := Aside0.mk H;clear H;go_wp2
        go_meet
        case rel => exact ⟨_, (true), (by first | rfl | (simp; done) | (simp [*]; done)), H', ⟨by have := q0.out; first | omega | exact Nat.le_refl _⟩, ⟨rz (Kd.R_mono b4.out (fun _ hk => trivial))⟩, ⟨rz (Kd.R_mono d3.out (fun _ hk => hk.2))⟩, ⟨rz (Kd.R_mono d4.out (fun _ hk => hk.2))⟩, ⟨rz (Kd.R_mono g3.out (fun _ hk => hk.2))⟩, ⟨rz (Kd.R_mono g4.out (fun _ hk => hk.2))⟩, ⟨bz a0.out⟩, ⟨bz a2.out⟩, ⟨bz a3.out⟩, ⟨wz HB.out⟩⟩
      ·rw [if_neg m2] at H;have c44b0 : (j6 == 0) = false := beq_eq_false_iff_ne.mpr m2;have c44b1 : (j6 != 0) = true := bne_iff_ne.mpr m2
       (first | rw [c44b0] | (simp only [i64_w, i32_w]; rw [c44b0]) | skip)
       have H' := Aside0.mk H;clear H;go_wp2
       go_meet
       case rel => exact ⟨_, (true), (by first | rfl | (simp; done) | (simp [*]; done)), H', ⟨by have := q0.out; first | omega | exact Nat.le_refl _⟩, ⟨rz (Kd.R_mono b4.out (fun _ hk => trivial))⟩, ⟨rz (Kd.R_mono d3.out (fun _ hk => hk.2))⟩, ⟨rz (Kd.R_mono d4.out (fun _ hk => hk.2))⟩, ⟨rz (Kd.R_mono g3.out (fun _ hk => hk.2))⟩, ⟨rz (Kd.R_mono g4.out (fun _ hk => hk.2))⟩, ⟨bz a0.out⟩, ⟨bz a2.out⟩, ⟨bz a3.out⟩, ⟨wz HB.out⟩⟩
     case rest =>
      clear q3;(try clear c1);(try clear c2);(try clear c7);(try clear c9);(try clear q1);(try clear m1);(try clear c20b0);(try clear c20b1);(try clear m2);(try clear c44b0);(try clear c44b1);(try clear m3);(try clear c45b0);(try clear c45b1);(try clear m4);(try clear c46b0);(try clear c46b1);(try clear q2);(try clear n4);(try clear n5);(try clear n6);(try clear n7);(try clear n8);(try clear n9);(try clear o0);(try clear o1);(try clear o2);(try clear r2);(try clear r3);(try clear r4);(try clear r5);(try clear r6);(try clear r7);(try clear r8);(try clear r9);(try clear s0);(try clear s1);(try clear s2);(try clear s3);(try clear s4);(try clear s5);(try clear s6);(try clear s7);(try clear s8);(try clear s9);(try clear t2);(try clear t4);(try clear t5);(try clear t6);(try clear t7);(try clear t8);(try clear t9);(try clear u0);(try clear u1);(try clear o3);(try clear o4);(try clear o5);(try clear o6);(try clear o7);(try clear o8);(try clear o9);(try clear p0);(try clear p1);(try clear u2);(try clear u3);(try clear u4);(try clear u5);(try clear u6);(try clear u7);(try clear u8);(try clear u9);(try clear v0);(try clear v1);(try clear v2);(try clear v3);(try clear v4);(try clear v5);(try clear v6);(try clear v7);(try clear v8);(try clear v9);(try clear w0);(try clear w2);(try clear w3);(try clear w4);(try clear w6);(try clear w7);(try clear w8);(try clear w9);(try clear x0);obtain ⟨kq, l7, rfl, HA, K1, d8, a7, a8, a9, b0, a0, a2, a3, HB⟩ := hcut
      cases kq with
      | zero => exact absurd HA.out (by simp [Pl51a.j1])
      | succ kj23 =>
       have H := HA.out;clear HA;simp only [Pl51a.j1] at H;by_cases r0 : l7 = true
       ·subst r0;have H1 : (some false) = some r := by rw [if_pos rfl] at H; exact H
        clear H;have H := H1;clear H1;obtain rfl := Option.some.inj H;exact absurd hr_.out (by decide)
       ·replace r0 := Bool.eq_false_iff.mpr r0;subst r0;have H1 : ((Pxb.f a0_0 l0_1 l0_2 l1).bind fun m5 => (if m5.2.2.2 = 0 then ((Pra.f m5.1 m5.2.1 m5.2.2.1).bind fun l5 => (if l5.2 = 0 then ((Pr31a.f kj23 b5 l5.1).bind fun k7 => (if k7 = true then ((Pl51b.f kj23).bind fun h8 => (some h8)) else (some false))) else (some false))) else ((Pl51b.f kj23).bind fun l9 => (some l9)))) = some r := by rw [if_neg (show ¬ (false = true) by decide)] at H; exact H
        clear H;have H := H1;clear H1;replace H := Option.bind_eq_some_iff.mp H;obtain ⟨⟨d1, d2, e0, k6⟩, x7, H⟩ := H;replace H : (if k6 = 0 then ((Pra.f d1 d2 e0).bind fun l5 => (if l5.2 = 0 then ((Pr31a.f kj23 b5 l5.1).bind fun k7 => (if k7 = true then ((Pl51b.f kj23).bind fun h8 => (some h8)) else (some false))) else (some false))) else ((Pl51b.f kj23).bind fun l9 => (some l9))) = some r := H;have p9 := Aside0.mk x7;clear x7;by_cases m7 : k6 = 0
        ·rw [if_pos m7] at H;have c61b0 : (k6 == 0) = true := beq_iff_eq.mpr m7;have c61b1 : (k6 != 0) = false := bne_eq_false_iff_eq.mpr m7;clear m7;replace H := Option.bind_eq_some_iff.mp H;obtain ⟨⟨q4, l4⟩, x8, H⟩ := H;replace H : (if l4 = 0 then ((Pr31a.f kj23 b5 q4).bind fun k7 => (if k7 = true then ((Pl51b.f kj23).bind fun h8 => (some h8)) else (some false))) else (some false)) = some r := H;have E9 := Aside0.mk x8;clear x8;by_cases m8 : l4 = 0
         ·rw [if_pos m8] at H;have c63b0 : (l4 == 0) = true := beq_iff_eq.mpr m8;have c63b1 : (l4 != 0) = false := bne_eq_false_iff_eq.mpr m8;clear m8;replace H := Option.bind_eq_some_iff.mp H;obtain ⟨k7, x9, H⟩ := H;replace H : (if k7 = true then ((Pl51b.f kj23).bind fun h8 => (some h8)) else (some false)) = some r := H;have F0 := Aside0.mk x9;clear x9;by_cases r1 : k7 = true
          ·subst r1;have H1 : ((Pl51b.f kj23).bind fun h8 => (some h8)) = some r := by rw [if_pos rfl] at H; exact H
           clear H;have H := H1;clear H1;replace H := Option.bind_eq_some_iff.mp H;obtain ⟨h8, y0, H⟩ := H;replace H : (some h8) = some r := H;have F1 := Aside0.mk y0;clear y0;obtain rfl := Option.some.inj H;have H9 := h1.out;have J0 := i8.out;have I0 := h2.out;have J1 := i9.out;have D3 : wc.cell? ⟨a4, 0, none⟩ = some (.int .i64 a0_0) := bcz a0 0 rfl;have D4 : wc.cell? ⟨a4, 1, none⟩ = some (.slice A0_1 l0_1.length c0_1) := bcz a0 1 rfl;have D5 : wc.cell? ⟨a4, 2, none⟩ = some (.slice A0_2 l0_2.length c0_2) := bcz a0 2 rfl;have D9 := blk_frozen a0.out 0;have E0 := blk_frozen a0.out 1;have E1 := blk_frozen a0.out 2;go_wp2_with (first | ((with_reducible refine gate_callee (f := 41) rfl ?_); refine goesL_ (some 90) rfl rfl Try.func41 (by kernel_rfl) rfl #[.agg #[.int .i64 a0_0, .slice A0_1 l0_1.length c0_1, .slice A0_2 l0_2.length c0_2], .slice A1 l1.length c1] rfl (by (try simp only [List.map_toArray, List.map_cons, List.map_nil]); first | done | rfl | (simp only [List.length_drop, List.length_take]; rfl)) ?_; (with_reducible refine (Pxb.calls a0_0 _ _ l0_1 _ _ l0_2 _ _ l1 d1 d2 e0 k6 _ ?f8 ?f9 ?g1 ?g2 ?p4 ?p5 p9.out).mono ?_); (case f8 => exact cz i3.out HB.out); (case f9 => exact i1.out); (case g1 => exact cz i4.out HB.out); (case g2 => exact i2.out); (case p4 => exact cz z3.out HB.out); (case p5 => exact z2.out); rintro e M5 ⟨D1, D2, rfl, e9, h9, hb⟩; refine ⟨_, rfl, ?_⟩; have b2 := Aside0.mk (Kd.R_below (rz d8.out) hb); have b3 := Aside0.mk (Kd.R_elder' (rz a7.out) (Kd.R_base e9) hb); have b6 := Aside0.mk (Kd.R_elder' (rz a8.out) (Kd.R_base h9) hb); have b9 := Aside0.mk (Kd.R_elder' (rz a9.out) (Kd.R_base e9) hb); have d5 := Aside0.mk (Kd.R_elder' (rz b0.out) (Kd.R_base h9) hb); have e3 := Aside0.mk (Kd.R_lower (Kd.R_new' (Kd.R_new' e9 (Kd.R_lt (rz a7.out))) (Kd.R_lt (rz a9.out))) (below_size (wz HB.out))); have e4 := Aside0.mk (Kd.R_lower (Kd.R_new' (Kd.R_new' h9 (Kd.R_lt (rz a8.out))) (Kd.R_lt (rz b0.out))) (below_size (wz HB.out))); have e5 := Aside0.mk (blk_below (bz a0.out) hb); have f3 := Aside0.mk (blk_below (bz a2.out) hb); have f4 := Aside0.mk (blk_below (bz a3.out) hb); have e8 := Aside0.mk (below_step (wz HB.out) hb); clear d8; clear a7; clear a8; clear a9; clear b0; clear a0; clear a2; clear a3; clear HB; have d8 := b2; have a7 := b3; have a8 := b6; have a9 := b9; have b0 := d5; have d6 := e3; have d7 := e4; have a0 := e5; have a2 := f3; have a3 := f4; have HB := e8; clear b2 b3 b6 b9 d5 e3 e4 e5 f3 f4 e8; (try clear hb); (try clear j4); (try clear hk); (try clear hi); (try clear e9); (try clear h9)) | ((with_reducible refine gate_dst (N := 15) rfl ?_); (try (refine gate_guard (by rfl) ?_; dsimp only)); refine box_event ?hg (N := 15) ?hd (cs := #[.int .i64 0, .slice none 0 0, .slice none 0 0]) (t := 25) ?hr ?_; (case hd => rfl); (case hg => rfl); (case hr => first | (go_simp; done) | (go_simp; rfl)); intro a1 hg y4 hbox hb; have b2 := Aside0.mk (Kd.R_below (rz d8.out) hb); have b3 := Aside0.mk (Kd.R_below (rz a7.out) hb); have b6 := Aside0.mk (Kd.R_below (rz a8.out) hb); have b9 := Aside0.mk (Kd.R_below (rz a9.out) hb); have d5 := Aside0.mk (Kd.R_below (rz b0.out) hb); have e3 := Aside0.mk (Kd.R_below (rz d6.out) hb); have e4 := Aside0.mk (Kd.R_below (rz d7.out) hb); have e5 := Aside0.mk (blk_below (bz a0.out) hb); have f3 := Aside0.mk (blk_below (bz a2.out) hb); have f4 := Aside0.mk (blk_below (bz a3.out) hb); have e8 := Aside0.mk (below_step (wz HB.out) hb); have g0 := Aside0.mk (hbox); have g8 := Aside0.mk ((by rw [hg]; exact (below_size (wz HB.out)) : w.heap.size ≤ a1)); have k1 := Aside0.mk ((by rw [hg]; exact (below_size (wz HB.out)) : w.heap.size ≤ a1)); have k2 := Aside0.mk ((by rw [hg]; exact Nat.ne_of_lt (blk_lt (g := a4) (o := .cells #[.int .i64 a0_0, .slice A0_1 l0_1.length c0_1, .slice A0_2 l0_2.length c0_2] 25 (0, 0)) (bz a0.out)) : a4 ≠ a1)); have m9 := Aside0.mk ((by rw [hg]; exact Nat.ne_of_gt (blk_lt (g := a4) (o := .cells #[.int .i64 a0_0, .slice A0_1 l0_1.length c0_1, .slice A0_2 l0_2.length c0_2] 25 (0, 0)) (bz a0.out)) : a1 ≠ a4)); have n0 := Aside0.mk ((by rw [hg]; exact Nat.ne_of_lt (blk_lt (g := a6) (o := .cells #[.int .i64 d9, .slice e6 b8.length e1, .slice f0 b7.length e7] 25 (0, 0)) (bz a2.out)) : a6 ≠ a1)); have n1 := Aside0.mk ((by rw [hg]; exact Nat.ne_of_gt (blk_lt (g := a6) (o := .cells #[.int .i64 d9, .slice e6 b8.length e1, .slice f0 b7.length e7] 25 (0, 0)) (bz a2.out)) : a1 ≠ a6)); have n2 := Aside0.mk ((by rw [hg]; exact Nat.ne_of_lt (blk_lt (g := a5) (o := .cells #[.int .i64 f7, .slice f1 e2.length f2, .slice f5 d0.length f6] 25 (0, 0)) (bz a3.out)) : a5 ≠ a1)); have n3 := Aside0.mk ((by rw [hg]; exact Nat.ne_of_gt (blk_lt (g := a5) (o := .cells #[.int .i64 f7, .slice f1 e2.length f2, .slice f5 d0.length f6] 25 (0, 0)) (bz a3.out)) : a1 ≠ a5)); clear d8; clear a7; clear a8; clear a9; clear b0; clear d6; clear d7; clear a0; clear a2; clear a3; clear HB; have d8 := b2; have a7 := b3; have a8 := b6; have a9 := b9; have b0 := d5; have d6 := e3; have d7 := e4; have a0 := e5; have a2 := f3; have a3 := f4; have HB := e8; have b1 := g0; have y6 := g8; have y5 := k1; have h3 := k2; have j8 := m9; have h4 := n0; have j9 := n1; have h5 := n2; have k0 := n3; clear b2 b3 b6 b9 d5 e3 e4 e5 f3 f4 e8 g0 g8 k1 k2 m9 n0 n1 n2 n3; clear hb hbox hg; have I1 := j8.out; have J2 := h3.out; have I2 := j9.out; have J3 := h4.out; have I3 := k0.out; have J4 := h5.out; have D6 : y4.cell? ⟨a1, 0, none⟩ = some (.int .i64 0) := bcz b1 0 rfl; have D7 : y4.cell? ⟨a1, 1, none⟩ = some (.slice none 0 0) := bcz b1 1 rfl; have D8 : y4.cell? ⟨a1, 2, none⟩ = some (.slice none 0 0) := bcz b1 2 rfl; have E2 := blk_frozen b1.out 0; have E3 := blk_frozen b1.out 1; have E4 := blk_frozen b1.out 2; obtain ⟨g9, g7, A7⟩ := Kd.R_slice d6.out; subst A7; obtain ⟨h6, h0, A9⟩ := Kd.R_slice d7.out; subst A9) | ((with_reducible refine gate_callee (f := 17) rfl ?_); refine goesL_ (some 98) rfl rfl Try.func17 (by kernel_rfl) rfl #[.agg #[.int .i64 d1, .slice g9 d2.length g7, .slice h6 e0.length h0]] rfl (by (try simp only [List.map_toArray, List.map_cons, List.map_nil]); first | done | rfl | (simp only [List.length_drop, List.length_take]; rfl)) ?_; (with_reducible refine (Pra.calls d1 _ _ d2 _ _ e0 q4 l4 _ ?f8 ?f9 ?g1 ?g2 E9.out).mono ?_); (case f8 => refine (Kd.R_reads' (e := 9) (base := w.heap.size) (ok := fun k_ => ((True ∧ some k_ ≠ (.slice e6 b8.length e1 : Value).ownBlock) ∧ some k_ ≠ (.slice f1 e2.length f2 : Value).ownBlock)) (n := d2.length) (c := g7) ?_).2.2; exact (rz (Kd.R_mono (Kd.R_far (p := ⟨a1, 2, none⟩) (Kd.R_far (p := ⟨a1, 1, none⟩) (Kd.R_far (p := ⟨a1, 0, none⟩) (Kd.R_types d6.out b1.out (by decide)) (fun _ hk => hk.2) (.int .i64 d1)) (fun _ hk => hk.2) (.slice g9 d2.length g7)) (fun _ hk => hk.2) (.slice h6 e0.length h0)) (fun _ h_ => h_.1)))); (case f9 => exact (Kd.R_reads' d6.out).2.1); (case g1 => refine (Kd.R_reads' (e := 80) (base := w.heap.size) (ok := fun k_ => ((True ∧ some k_ ≠ (.slice f0 b7.length e7 : Value).ownBlock) ∧ some k_ ≠ (.slice f5 d0.length f6 : Value).ownBlock)) (n := e0.length) (c := h0) ?_).2.2; exact (rz (Kd.R_mono (Kd.R_far (p := ⟨a1, 2, none⟩) (Kd.R_far (p := ⟨a1, 1, none⟩) (Kd.R_far (p := ⟨a1, 0, none⟩) (Kd.R_types d7.out b1.out (by decide)) (fun _ hk => hk.2) (.int .i64 d1)) (fun _ hk => hk.2) (.slice g9 d2.length g7)) (fun _ hk => hk.2) (.slice h6 e0.length h0)) (fun _ h_ => h_.1)))); (case g2 => exact (Kd.R_reads' d7.out).2.1); rintro e M6 ⟨L4, rfl, e9, hb⟩; refine ⟨_, rfl, ?_⟩; have b2 := Aside0.mk (Kd.R_elder' (rz (Kd.R_mono (Kd.R_far (p := ⟨a1, 2, none⟩) (Kd.R_far (p := ⟨a1, 1, none⟩) (Kd.R_far (p := ⟨a1, 0, none⟩) (Kd.R_types d8.out b1.out (by decide)) (fun _ hk => hk.2) (.int .i64 d1)) (fun _ hk => hk.2) (.slice g9 d2.length g7)) (fun _ hk => hk.2) (.slice h6 e0.length h0)) (fun _ h_ => h_.1))) (Kd.R_base e9) hb); have b3 := Aside0.mk (Kd.R_below (rz (Kd.R_mono (Kd.R_far (p := ⟨a1, 2, none⟩) (Kd.R_far (p := ⟨a1, 1, none⟩) (Kd.R_far (p := ⟨a1, 0, none⟩) (Kd.R_types a7.out b1.out (by decide)) (fun _ hk => hk.2) (.int .i64 d1)) (fun _ hk => hk.2) (.slice g9 d2.length g7)) (fun _ hk => hk.2) (.slice h6 e0.length h0)) (fun _ h_ => h_.1))) hb); have b6 := Aside0.mk (Kd.R_below (rz (Kd.R_mono (Kd.R_far (p := ⟨a1, 2, none⟩) (Kd.R_far (p := ⟨a1, 1, none⟩) (Kd.R_far (p := ⟨a1, 0, none⟩) (Kd.R_types a8.out b1.out (by decide)) (fun _ hk => hk.2) (.int .i64 d1)) (fun _ hk => hk.2) (.slice g9 d2.length g7)) (fun _ hk => hk.2) (.slice h6 e0.length h0)) (fun _ h_ => h_.1))) hb); have b9 := Aside0.mk (Kd.R_below (rz (Kd.R_mono (Kd.R_far (p := ⟨a1, 2, none⟩) (Kd.R_far (p := ⟨a1, 1, none⟩) (Kd.R_far (p := ⟨a1, 0, none⟩) (Kd.R_types a9.out b1.out (by decide)) (fun _ hk => hk.2) (.int .i64 d1)) (fun _ hk => hk.2) (.slice g9 d2.length g7)) (fun _ hk => hk.2) (.slice h6 e0.length h0)) (fun _ h_ => h_.1))) hb); have d5 := Aside0.mk (Kd.R_below (rz (Kd.R_mono (Kd.R_far (p := ⟨a1, 2, none⟩) (Kd.R_far (p := ⟨a1, 1, none⟩) (Kd.R_far (p := ⟨a1, 0, none⟩) (Kd.R_types b0.out b1.out (by decide)) (fun _ hk => hk.2) (.int .i64 d1)) (fun _ hk => hk.2) (.slice g9 d2.length g7)) (fun _ hk => hk.2) (.slice h6 e0.length h0)) (fun _ h_ => h_.1))) hb); have e3 := Aside0.mk (Kd.R_below (rz (Kd.R_mono (Kd.R_far (p := ⟨a1, 2, none⟩) (Kd.R_far (p := ⟨a1, 1, none⟩) (Kd.R_far (p := ⟨a1, 0, none⟩) (Kd.R_types d6.out b1.out (by decide)) (fun _ hk => hk.2) (.int .i64 d1)) (fun _ hk => hk.2) (.slice g9 d2.length g7)) (fun _ hk => hk.2) (.slice h6 e0.length h0)) (fun _ h_ => h_.1))) hb); have e4 := Aside0.mk (Kd.R_below (rz (Kd.R_mono (Kd.R_far (p := ⟨a1, 2, none⟩) (Kd.R_far (p := ⟨a1, 1, none⟩) (Kd.R_far (p := ⟨a1, 0, none⟩) (Kd.R_types d7.out b1.out (by decide)) (fun _ hk => hk.2) (.int .i64 d1)) (fun _ hk => hk.2) (.slice g9 d2.length g7)) (fun _ hk => hk.2) (.slice h6 e0.length h0)) (fun _ h_ => h_.1))) hb); have e5 := Aside0.mk (Kd.R_lower (Kd.R_new' e9 (Kd.R_lt (rz (Kd.R_mono (Kd.R_far (p := ⟨a1, 2, none⟩) (Kd.R_far (p := ⟨a1, 1, none⟩) (Kd.R_far (p := ⟨a1, 0, none⟩) (Kd.R_types d8.out b1.out (by decide)) (fun _ hk => hk.2) (.int .i64 d1)) (fun _ hk => hk.2) (.slice g9 d2.length g7)) (fun _ hk => hk.2) (.slice h6 e0.length h0)) (fun _ h_ => h_.1))))) (below_size (wz HB.out))); have f3 := Aside0.mk (blk_below (g := a4) (o := .cells #[.int .i64 a0_0, .slice A0_1 l0_1.length c0_1, .slice A0_2 l0_2.length c0_2] 25 (0, 0)) (fz a0.out h3.out) hb); have f4 := Aside0.mk (blk_below (g := a6) (o := .cells #[.int .i64 d9, .slice e6 b8.length e1, .slice f0 b7.length e7] 25 (0, 0)) (fz a2.out h4.out) hb); have e8 := Aside0.mk (blk_below (g := a5) (o := .cells #[.int .i64 f7, .slice f1 e2.length f2, .slice f5 d0.length f6] 25 (0, 0)) (fz a3.out h5.out) hb); have g0 := Aside0.mk (blk_below (g := a1) (o := .cells #[.int .i64 d1, .slice g9 d2.length g7, .slice h6 e0.length h0] 25 (0, 0)) (by (with_reducible repeat (first | refine blk_drewN ?_ _ | refine blk_drew ?_ | refine blk_alloc ?_ _)); refine blk_put (cs := #[.int .i64 d1, .slice g9 d2.length g7, .slice none 0 0]) ?_ 2 _ rfl; (with_reducible repeat (first | refine blk_drewN ?_ _ | refine blk_drew ?_ | refine blk_alloc ?_ _)); refine blk_put (cs := #[.int .i64 d1, .slice none 0 0, .slice none 0 0]) ?_ 1 _ rfl; (with_reducible repeat (first | refine blk_drewN ?_ _ | refine blk_drew ?_ | refine blk_alloc ?_ _)); refine blk_put (cs := #[.int .i64 0, .slice none 0 0, .slice none 0 0]) ?_ 0 _ rfl; (with_reducible repeat (first | refine blk_drewN ?_ _ | refine blk_drew ?_ | refine blk_alloc ?_ _)); exact b1.out) hb); have g8 := Aside0.mk (below_step (wz HB.out) hb); clear d8; clear a7; clear a8; clear a9; clear b0; clear d6; clear d7; clear a0; clear a2; clear a3; clear b1; clear HB; have d8 := b2; have a7 := b3; have a8 := b6; have a9 := b9; have b0 := d5; have d6 := e3; have d7 := e4; have k9 := e5; have a0 := f3; have a2 := f4; have a3 := e8; have b1 := g0; have HB := g8; clear b2 b3 b6 b9 d5 e3 e4 e5 f3 f4 e8 g0 g8; (try clear hb); (try clear j4); (try clear hk); (try clear hi); (try clear e9); obtain ⟨J9, K6, B0⟩ := Kd.R_slice d8.out; subst B0; obtain ⟨K0, K7, B1⟩ := Kd.R_slice k9.out; subst B1) | (go_at_call 53; (with_reducible refine (Pr31a.calls kj23 _ _ b5 _ _ q4 true _ ?f8 ?f9 ?g1 ?g2 F0.out).mono ?_); (case f8 => repeat (first | exact (Kd.R_reads' d8.out).2.2 | (with_reducible refine Kd.C_alloc ?_ _) | (with_reducible refine Kd.C_drewN ?_ _) | (with_reducible refine Kd.C_drew ?_))); (case f9 => exact (Kd.R_reads' d8.out).2.1); (case g1 => repeat (first | exact (Kd.R_reads' k9.out).2.2 | (with_reducible refine Kd.C_alloc ?_ _) | (with_reducible refine Kd.C_drewN ?_ _) | (with_reducible refine Kd.C_drew ?_))); (case g2 => exact (Kd.R_reads' k9.out).2.1); rintro e w' ⟨rfl, ⟨nd, rfl⟩⟩) | (go_at_call 40; (with_reducible refine (Pl51b.calls kj23  h8 _ F1.out hr_).mono ?_); rintro e M7 ⟨rfl, hb⟩; have b2 := Aside0.mk (Kd.R_below (rz d8.out) hb); have b3 := Aside0.mk (Kd.R_below (rz a7.out) hb); have b6 := Aside0.mk (Kd.R_below (rz a8.out) hb); have b9 := Aside0.mk (Kd.R_below (rz a9.out) hb); have d5 := Aside0.mk (Kd.R_below (rz b0.out) hb); have e3 := Aside0.mk (Kd.R_below (rz d6.out) hb); have e4 := Aside0.mk (Kd.R_below (rz d7.out) hb); have e5 := Aside0.mk (Kd.R_below (rz k9.out) hb); have f3 := Aside0.mk (blk_below (bz a0.out) hb); have f4 := Aside0.mk (blk_below (bz a2.out) hb); have e8 := Aside0.mk (blk_below (bz a3.out) hb); have g0 := Aside0.mk (blk_below (bz b1.out) hb); have g8 := Aside0.mk (below_step (wz HB.out) hb); clear d8; clear a7; clear a8; clear a9; clear b0; clear d6; clear d7; clear k9; clear a0; clear a2; clear a3; clear b1; clear HB; have d8 := b2; have a7 := b3; have a8 := b6; have a9 := b9; have b0 := d5; have d6 := e3; have d7 := e4; have k9 := e5; have a0 := f3; have a2 := f4; have a3 := e8; have b1 := g0; have HB := g8; clear b2 b3 b6 b9 d5 e3 e4 e5 f3 f4 e8 g0 g8; (try clear hb); (try clear j4); (try clear hk); (try clear hi)))
           go_ret
           exact ⟨by first | rfl | (simp [errW_none, errW_some] <;> rfl) | (simp [*, errW_none, errW_some] <;> rfl), wz HB.out⟩
          ·replace r1 := Bool.eq_false_iff.mpr r1;subst r1;have H1 : (some false) = some r := by rw [if_neg (show ¬ (false = true) by decide)] at H; exact H
           clear H;have H := H1;clear H1;obtain rfl := Option.some.inj H;exact absurd hr_.out (by decide)
         ·rw [if_neg m8] at H;have c63b0 : (l4 == 0) = false := beq_eq_false_iff_ne.mpr m8;have c63b1 : (l4 != 0) = true := bne_iff_ne.mpr m8;obtain rfl := Option.some.inj H;exact absurd hr_.out (by decide)
        ·rw [if_neg m7] at H;have c61b0 : (k6 == 0) = false := beq_eq_false_iff_ne.mpr m7;have c61b1 : (k6 != 0) = true := bne_iff_ne.mpr m7;replace H := Option.bind_eq_some_iff.mp H;obtain ⟨l9, q6, H⟩ := H;replace H : (some l9) = some r := H;have z4 := Aside0.mk q6;clear q6;obtain rfl := Option.some.inj H;have F2 := h1.out;have F7 := i8.out;have F3 := h2.out;have F8 := i9.out;have B2 : wc.cell? ⟨a4, 0, none⟩ = some (.int .i64 a0_0) := bcz a0 0 rfl;have B3 : wc.cell? ⟨a4, 1, none⟩ = some (.slice A0_1 l0_1.length c0_1) := bcz a0 1 rfl;have B4 : wc.cell? ⟨a4, 2, none⟩ = some (.slice A0_2 l0_2.length c0_2) := bcz a0 2 rfl;have C2 := blk_frozen a0.out 0;have C3 := blk_frozen a0.out 1;have C4 := blk_frozen a0.out 2;go_wp2_with (first | ((with_reducible refine gate_callee (f := 41) rfl ?_); refine goesL_ (some 90) rfl rfl Try.func41 (by kernel_rfl) rfl #[.agg #[.int .i64 a0_0, .slice A0_1 l0_1.length c0_1, .slice A0_2 l0_2.length c0_2], .slice A1 l1.length c1] rfl (by (try simp only [List.map_toArray, List.map_cons, List.map_nil]); first | done | rfl | (simp only [List.length_drop, List.length_take]; rfl)) ?_; (with_reducible refine (Pxb.calls a0_0 _ _ l0_1 _ _ l0_2 _ _ l1 d1 d2 e0 k6 _ ?f8 ?f9 ?g1 ?g2 ?p4 ?p5 p9.out).mono ?_); (case f8 => exact cz i3.out HB.out); (case f9 => exact i1.out); (case g1 => exact cz i4.out HB.out); (case g2 => exact i2.out); (case p4 => exact cz z3.out HB.out); (case p5 => exact z2.out); rintro e L5 ⟨D1, D2, rfl, e9, h9, hb⟩; refine ⟨_, rfl, ?_⟩; have b2 := Aside0.mk (Kd.R_below (rz d8.out) hb); have b3 := Aside0.mk (Kd.R_elder' (rz a7.out) (Kd.R_base e9) hb); have b6 := Aside0.mk (Kd.R_elder' (rz a8.out) (Kd.R_base h9) hb); have b9 := Aside0.mk (Kd.R_elder' (rz a9.out) (Kd.R_base e9) hb); have d5 := Aside0.mk (Kd.R_elder' (rz b0.out) (Kd.R_base h9) hb); have e3 := Aside0.mk (Kd.R_lower (Kd.R_new' (Kd.R_new' e9 (Kd.R_lt (rz a7.out))) (Kd.R_lt (rz a9.out))) (below_size (wz HB.out))); have e4 := Aside0.mk (Kd.R_lower (Kd.R_new' (Kd.R_new' h9 (Kd.R_lt (rz a8.out))) (Kd.R_lt (rz b0.out))) (below_size (wz HB.out))); have e5 := Aside0.mk (blk_below (bz a0.out) hb); have f3 := Aside0.mk (blk_below (bz a2.out) hb); have f4 := Aside0.mk (blk_below (bz a3.out) hb); have e8 := Aside0.mk (below_step (wz HB.out) hb); clear d8; clear a7; clear a8; clear a9; clear b0; clear a0; clear a2; clear a3; clear HB; have d8 := b2; have a7 := b3; have a8 := b6; have a9 := b9; have b0 := d5; have d6 := e3; have d7 := e4; have a0 := e5; have a2 := f3; have a3 := f4; have HB := e8; clear b2 b3 b6 b9 d5 e3 e4 e5 f3 f4 e8; (try clear hb); (try clear j4); (try clear hk); (try clear hi); (try clear e9); (try clear h9)) | ((with_reducible refine gate_dst (N := 15) rfl ?_); (try (refine gate_guard (by rfl) ?_; dsimp only)); refine box_event ?hg (N := 15) ?hd (cs := #[.int .i64 0, .slice none 0 0, .slice none 0 0]) (t := 25) ?hr ?_; (case hd => rfl); (case hg => rfl); (case hr => first | (go_simp; done) | (go_simp; rfl)); intro a1 hg q5 hbox hb; have b2 := Aside0.mk (Kd.R_below (rz d8.out) hb); have b3 := Aside0.mk (Kd.R_below (rz a7.out) hb); have b6 := Aside0.mk (Kd.R_below (rz a8.out) hb); have b9 := Aside0.mk (Kd.R_below (rz a9.out) hb); have d5 := Aside0.mk (Kd.R_below (rz b0.out) hb); have e3 := Aside0.mk (Kd.R_below (rz d6.out) hb); have e4 := Aside0.mk (Kd.R_below (rz d7.out) hb); have e5 := Aside0.mk (blk_below (bz a0.out) hb); have f3 := Aside0.mk (blk_below (bz a2.out) hb); have f4 := Aside0.mk (blk_below (bz a3.out) hb); have e8 := Aside0.mk (below_step (wz HB.out) hb); have g0 := Aside0.mk (hbox); have g8 := Aside0.mk ((by rw [hg]; exact (below_size (wz HB.out)) : w.heap.size ≤ a1)); have k1 := Aside0.mk ((by rw [hg]; exact (below_size (wz HB.out)) : w.heap.size ≤ a1)); have k2 := Aside0.mk ((by rw [hg]; exact Nat.ne_of_lt (blk_lt (g := a4) (o := .cells #[.int .i64 a0_0, .slice A0_1 l0_1.length c0_1, .slice A0_2 l0_2.length c0_2] 25 (0, 0)) (bz a0.out)) : a4 ≠ a1)); have m9 := Aside0.mk ((by rw [hg]; exact Nat.ne_of_gt (blk_lt (g := a4) (o := .cells #[.int .i64 a0_0, .slice A0_1 l0_1.length c0_1, .slice A0_2 l0_2.length c0_2] 25 (0, 0)) (bz a0.out)) : a1 ≠ a4)); have n0 := Aside0.mk ((by rw [hg]; exact Nat.ne_of_lt (blk_lt (g := a6) (o := .cells #[.int .i64 d9, .slice e6 b8.length e1, .slice f0 b7.length e7] 25 (0, 0)) (bz a2.out)) : a6 ≠ a1)); have n1 := Aside0.mk ((by rw [hg]; exact Nat.ne_of_gt (blk_lt (g := a6) (o := .cells #[.int .i64 d9, .slice e6 b8.length e1, .slice f0 b7.length e7] 25 (0, 0)) (bz a2.out)) : a1 ≠ a6)); have n2 := Aside0.mk ((by rw [hg]; exact Nat.ne_of_lt (blk_lt (g := a5) (o := .cells #[.int .i64 f7, .slice f1 e2.length f2, .slice f5 d0.length f6] 25 (0, 0)) (bz a3.out)) : a5 ≠ a1)); have n3 := Aside0.mk ((by rw [hg]; exact Nat.ne_of_gt (blk_lt (g := a5) (o := .cells #[.int .i64 f7, .slice f1 e2.length f2, .slice f5 d0.length f6] 25 (0, 0)) (bz a3.out)) : a1 ≠ a5)); clear d8; clear a7; clear a8; clear a9; clear b0; clear d6; clear d7; clear a0; clear a2; clear a3; clear HB; have d8 := b2; have a7 := b3; have a8 := b6; have a9 := b9; have b0 := d5; have d6 := e3; have d7 := e4; have a0 := e5; have a2 := f3; have a3 := f4; have HB := e8; have b1 := g0; have y6 := g8; have y5 := k1; have h3 := k2; have j8 := m9; have h4 := n0; have j9 := n1; have h5 := n2; have k0 := n3; clear b2 b3 b6 b9 d5 e3 e4 e5 f3 f4 e8 g0 g8 k1 k2 m9 n0 n1 n2 n3; clear hb hbox hg; have F4 := j8.out; have F9 := h3.out; have F5 := j9.out; have G0 := h4.out; have F6 := k0.out; have G3 := h5.out; have B5 : q5.cell? ⟨a1, 0, none⟩ = some (.int .i64 0) := bcz b1 0 rfl; have B6 : q5.cell? ⟨a1, 1, none⟩ = some (.slice none 0 0) := bcz b1 1 rfl; have B7 : q5.cell? ⟨a1, 2, none⟩ = some (.slice none 0 0) := bcz b1 2 rfl; have C5 := blk_frozen b1.out 0; have C6 := blk_frozen b1.out 1; have C7 := blk_frozen b1.out 2; obtain ⟨i0, i5, y7⟩ := Kd.R_slice d6.out; subst y7; obtain ⟨i7, j3, y8⟩ := Kd.R_slice d7.out; subst y8) | ((with_reducible refine gate_callee (f := 40) rfl ?_); refine goesL_ (some 95) rfl rfl Try.func40 (by kernel_rfl) rfl #[] rfl (by (try simp only [List.map_toArray, List.map_cons, List.map_nil]); first | done | rfl | (simp only [List.length_drop, List.length_take]; rfl)) ?_; (with_reducible refine (Pl51b.calls kj23  l9 _ z4.out hr_).mono ?_); rintro e L6 ⟨rfl, hb⟩; refine ⟨_, rfl, ?_⟩; have b2 := Aside0.mk (Kd.R_below (rz (Kd.R_mono (Kd.R_far (p := ⟨a1, 2, none⟩) (Kd.R_far (p := ⟨a1, 1, none⟩) (Kd.R_far (p := ⟨a1, 0, none⟩) (Kd.R_types d8.out b1.out (by decide)) (fun _ hk => hk.2) (.int .i64 d1)) (fun _ hk => hk.2) (.slice i0 d2.length i5)) (fun _ hk => hk.2) (.slice i7 e0.length j3)) (fun _ h_ => h_.1))) hb); have b3 := Aside0.mk (Kd.R_below (rz (Kd.R_mono (Kd.R_far (p := ⟨a1, 2, none⟩) (Kd.R_far (p := ⟨a1, 1, none⟩) (Kd.R_far (p := ⟨a1, 0, none⟩) (Kd.R_types a7.out b1.out (by decide)) (fun _ hk => hk.2) (.int .i64 d1)) (fun _ hk => hk.2) (.slice i0 d2.length i5)) (fun _ hk => hk.2) (.slice i7 e0.length j3)) (fun _ h_ => h_.1))) hb); have b6 := Aside0.mk (Kd.R_below (rz (Kd.R_mono (Kd.R_far (p := ⟨a1, 2, none⟩) (Kd.R_far (p := ⟨a1, 1, none⟩) (Kd.R_far (p := ⟨a1, 0, none⟩) (Kd.R_types a8.out b1.out (by decide)) (fun _ hk => hk.2) (.int .i64 d1)) (fun _ hk => hk.2) (.slice i0 d2.length i5)) (fun _ hk => hk.2) (.slice i7 e0.length j3)) (fun _ h_ => h_.1))) hb); have b9 := Aside0.mk (Kd.R_below (rz (Kd.R_mono (Kd.R_far (p := ⟨a1, 2, none⟩) (Kd.R_far (p := ⟨a1, 1, none⟩) (Kd.R_far (p := ⟨a1, 0, none⟩) (Kd.R_types a9.out b1.out (by decide)) (fun _ hk => hk.2) (.int .i64 d1)) (fun _ hk => hk.2) (.slice i0 d2.length i5)) (fun _ hk => hk.2) (.slice i7 e0.length j3)) (fun _ h_ => h_.1))) hb); have d5 := Aside0.mk (Kd.R_below (rz (Kd.R_mono (Kd.R_far (p := ⟨a1, 2, none⟩) (Kd.R_far (p := ⟨a1, 1, none⟩) (Kd.R_far (p := ⟨a1, 0, none⟩) (Kd.R_types b0.out b1.out (by decide)) (fun _ hk => hk.2) (.int .i64 d1)) (fun _ hk => hk.2) (.slice i0 d2.length i5)) (fun _ hk => hk.2) (.slice i7 e0.length j3)) (fun _ h_ => h_.1))) hb); have e3 := Aside0.mk (Kd.R_below (rz (Kd.R_mono (Kd.R_far (p := ⟨a1, 2, none⟩) (Kd.R_far (p := ⟨a1, 1, none⟩) (Kd.R_far (p := ⟨a1, 0, none⟩) (Kd.R_types d6.out b1.out (by decide)) (fun _ hk => hk.2) (.int .i64 d1)) (fun _ hk => hk.2) (.slice i0 d2.length i5)) (fun _ hk => hk.2) (.slice i7 e0.length j3)) (fun _ h_ => h_.1))) hb); have e4 := Aside0.mk (Kd.R_below (rz (Kd.R_mono (Kd.R_far (p := ⟨a1, 2, none⟩) (Kd.R_far (p := ⟨a1, 1, none⟩) (Kd.R_far (p := ⟨a1, 0, none⟩) (Kd.R_types d7.out b1.out (by decide)) (fun _ hk => hk.2) (.int .i64 d1)) (fun _ hk => hk.2) (.slice i0 d2.length i5)) (fun _ hk => hk.2) (.slice i7 e0.length j3)) (fun _ h_ => h_.1))) hb); have e5 := Aside0.mk (blk_below (g := a4) (o := .cells #[.int .i64 a0_0, .slice A0_1 l0_1.length c0_1, .slice A0_2 l0_2.length c0_2] 25 (0, 0)) (fz a0.out h3.out) hb); have f3 := Aside0.mk (blk_below (g := a6) (o := .cells #[.int .i64 d9, .slice e6 b8.length e1, .slice f0 b7.length e7] 25 (0, 0)) (fz a2.out h4.out) hb); have f4 := Aside0.mk (blk_below (g := a5) (o := .cells #[.int .i64 f7, .slice f1 e2.length f2, .slice f5 d0.length f6] 25 (0, 0)) (fz a3.out h5.out) hb); have e8 := Aside0.mk (blk_below (g := a1) (o := .cells #[.int .i64 d1, .slice i0 d2.length i5, .slice i7 e0.length j3] 25 (0, 0)) (by (with_reducible repeat (first | refine blk_drewN ?_ _ | refine blk_drew ?_ | refine blk_alloc ?_ _)); refine blk_put (cs := #[.int .i64 d1, .slice i0 d2.length i5, .slice none 0 0]) ?_ 2 _ rfl; (with_reducible repeat (first | refine blk_drewN ?_ _ | refine blk_drew ?_ | refine blk_alloc ?_ _)); refine blk_put (cs := #[.int .i64 d1, .slice none 0 0, .slice none 0 0]) ?_ 1 _ rfl; (with_reducible repeat (first | refine blk_drewN ?_ _ | refine blk_drew ?_ | refine blk_alloc ?_ _)); refine blk_put (cs := #[.int .i64 0, .slice none 0 0, .slice none 0 0]) ?_ 0 _ rfl; (with_reducible repeat (first | refine blk_drewN ?_ _ | refine blk_drew ?_ | refine blk_alloc ?_ _)); exact b1.out) hb); have g0 := Aside0.mk (below_step (wz HB.out) hb); clear d8; clear a7; clear a8; clear a9; clear b0; clear d6; clear d7; clear a0; clear a2; clear a3; clear b1; clear HB; have d8 := b2; have a7 := b3; have a8 := b6; have a9 := b9; have b0 := d5; have d6 := e3; have d7 := e4; have a0 := e5; have a2 := f3; have a3 := f4; have b1 := e8; have HB := g0; clear b2 b3 b6 b9 d5 e3 e4 e5 f3 f4 e8 g0; (try clear hb); (try clear j4); (try clear hk); (try clear hi)))
         go_ret
         exact ⟨by first | rfl | (simp [errW_none, errW_some] <;> rfl) | (simp [*, errW_none, errW_some] <;> rfl), wz HB.out⟩
    ·rw [if_neg m1] at H;have c20b0 : (k4 == 0) = false := beq_eq_false_iff_ne.mpr m1;have c20b1 : (k4 != 0) = true := bne_iff_ne.mpr m1;replace H := Option.bind_eq_some_iff.mp H;obtain ⟨l8, q7, H⟩ := H;replace H : (some l8) = some r := H;have z5 := Aside0.mk q7;clear q7;obtain rfl := Option.some.inj H;have B9 : wc.cell? ⟨a4, 0, none⟩ = some (.int .i64 a0_0) := bcz a0 0 rfl;have C0 : wc.cell? ⟨a4, 1, none⟩ = some (.slice A0_1 l0_1.length c0_1) := bcz a0 1 rfl;have C1 : wc.cell? ⟨a4, 2, none⟩ = some (.slice A0_2 l0_2.length c0_2) := bcz a0 2 rfl;have C8 := blk_frozen a0.out 0;have C9 := blk_frozen a0.out 1;have D0 := blk_frozen a0.out 2;go_wp2_with (first | ((with_reducible refine gate_callee (f := 17) rfl ?_); refine goesL_ (some 35) rfl rfl Try.func17 (by kernel_rfl) rfl #[.agg #[.int .i64 a0_0, .slice A0_1 l0_1.length c0_1, .slice A0_2 l0_2.length c0_2]] rfl (by (try simp only [List.map_toArray, List.map_cons, List.map_nil]); first | done | rfl | (simp only [List.length_drop, List.length_take]; rfl)) ?_; (with_reducible refine (Pra.calls a0_0 _ _ l0_1 _ _ l0_2 b5 k4 _ ?f8 ?f9 ?g1 ?g2 y9.out).mono ?_); (case f8 => exact cz i3.out HB.out); (case f9 => exact i1.out); (case g1 => exact cz i4.out HB.out); (case g2 => exact i2.out); rintro e L7 ⟨y2, rfl, e9, hb⟩; refine ⟨_, rfl, ?_⟩; have b2 := Aside0.mk (Kd.R_lower e9 (below_size (wz HB.out))); have b3 := Aside0.mk (blk_below (bz a0.out) hb); have b6 := Aside0.mk (below_step (wz HB.out) hb); clear a0; clear HB; have b4 := b2; have a0 := b3; have HB := b6; clear b2 b3 b6; (try clear hb); (try clear j4); (try clear hk); (try clear hi); (try clear e9)) | ((with_reducible refine gate_callee (f := 40) rfl ?_); refine goesL_ (some 40) rfl rfl Try.func40 (by kernel_rfl) rfl #[] rfl (by (try simp only [List.map_toArray, List.map_cons, List.map_nil]); first | done | rfl | (simp only [List.length_drop, List.length_take]; rfl)) ?_; (with_reducible refine (Pl51b.calls kj3  l8 _ z5.out hr_).mono ?_); rintro e L8 ⟨rfl, hb⟩; refine ⟨_, rfl, ?_⟩; have b2 := Aside0.mk (Kd.R_below (rz b4.out) hb); have b3 := Aside0.mk (blk_below (bz a0.out) hb); have b6 := Aside0.mk (below_step (wz HB.out) hb); clear b4; clear a0; clear HB; have b4 := b2; have a0 := b3; have HB := b6; clear b2 b3 b6; (try clear hb); (try clear j4); (try clear hk); (try clear hi)))
     go_ret
     exact ⟨by first | rfl | (simp [errW_none, errW_some] <;> rfl) | (simp [*, errW_none, errW_some] <;> rfl), wz HB.out⟩
end Go.Proofs.Ytmcbkmfpmcbdpaa.Pr
set_option linter.unusedVariables false
set_option linter.unusedSimpArgs false
namespace Go.Proofs.Ytmcbkmfpmcbdpaa.H
open Go.RowKit Go.Proofs.Ytmcbkmfpmcbdpaa.Pr Go.Proofs.YtmcbkmfpmcbdpaaW.PrintWords Go.Proofs.Ytmcbkmfpmcbdpaa.Sem Go.Proofs.Ytmcbkmfpmcbdpaa.PL
theorem es_ndK {n : Nat} {ls : List ByteArray} {es : List Ed} (hm : mayR n ls es = true) : ∀ e ∈ es, Nd n e.f0 ∧ Nd n e.f2 := fun e he => by
 have h := may_edge hm e he
 exact ⟨h.1, h.2.1⟩
theorem class_lenK (n : Nat) (es : List Ed) : (classL n es).length = n := by simp [classL]
theorem refL_lenK (n : Nat) (es : List Ed) : (refL n es).length = n := by unfold refL; rw [numK_length, class_lenK]
theorem refl_atK {n : Nat} {ls : List ByteArray} {es : List Ed} (hm : mayR n ls es = true) {s t : Int} (hs : Nd n s) (ht : Nd n t) : (refL n es).getD s.toNat 0 = (refL n es).getD t.toNat 0 ↔ Bis n es s t := by
 obtain ⟨i, rfl⟩ := Int.eq_ofNat_of_zero_le hs.1
 obtain ⟨j, rfl⟩ := Int.eq_ofNat_of_zero_le ht.1
 have hi : i < (classL n es).length := by rw [class_lenK]; have := hs.2; omega
 have hj : j < (classL n es).length := by rw [class_lenK]; have := ht.2; omega
 rw [class_iff (es_ndK hm) hi hj]
 exact numK_eq (classL n es) hi hj
section
variable {n : Nat} {ls : List ByteArray} {es : List Ed} {g : ByteArray → ByteArray × Bool}
theorem turnE_mem (e : Ed) : e ∈ turnE g ls es ↔ ∃ x ∈ es, (g (labN ls x.f1)).2 = true ∧ (⟨x.f0, plc (turnU g ls) (g (labN ls x.f1)).1, x.f2⟩ : Ed) = e := by
 unfold turnE
 rw [sortE_mem]
 unfold keptE
 rw [List.mem_flatMap]
 constructor
 ·rintro ⟨x, hx, h⟩
  split at h
  ·rename_i hp
   rw [List.mem_singleton] at h
   exact ⟨x, hx, hp, h.symm⟩
  ·cases h
 ·rintro ⟨x, hx, hp, h⟩
  refine ⟨x, hx, ?_⟩
  rw [if_pos hp, List.mem_singleton]
  exact h.symm
theorem turn_bis {s t : Int} (h : Bis n es s t) : Bis n (turnE g ls es) s t := by
 refine Bis.of (R := fun a b => Bis n es a b) (fun a b h => h.nodes) ?_ ?_ h
 ·intro a b hab e he hs
  obtain ⟨x, hx, hp, rfl⟩ := (turnE_mem e).1 he
  obtain ⟨f, hf, p, q, r⟩ := hab.step hx hs
  refine ⟨⟨f.f0, plc (turnU g ls) (g (labN ls f.f1)).1, f.f2⟩, (turnE_mem _).2 ⟨f, hf, by rw [← q]; exact hp, rfl⟩, p, ?_, r⟩
  show plc (turnU g ls) (g (labN ls x.f1)).1 = plc (turnU g ls) (g (labN ls f.f1)).1
  rw [q]
 ·intro a b hab e he hs
  obtain ⟨x, hx, hp, rfl⟩ := (turnE_mem e).1 he
  obtain ⟨f, hf, p, q, r⟩ := hab.back hx hs
  refine ⟨⟨f.f0, plc (turnU g ls) (g (labN ls f.f1)).1, f.f2⟩, (turnE_mem _).2 ⟨f, hf, by rw [← q]; exact hp, rfl⟩, p, ?_, r⟩
  show plc (turnU g ls) (g (labN ls x.f1)).1 = plc (turnU g ls) (g (labN ls f.f1)).1
  rw [q]
end
theorem may_keep {n : Int} {ls : List ByteArray} {es : List Ed} (m : mayR n ls es = true) (p : ByteArray → Bool) : mayR n (turnU (fun s => (s, p s)) ls) (turnE (fun s => (s, p s)) ls es) = true := by
 have hin : ∀ s ∈ turnU (fun s => (s, p s)) ls, s ∈ ls := by
  intro s hs
  obtain ⟨x, hx, h2⟩ := List.mem_flatMap.1 ((uniS_mem _ s).1 hs)
  split at h2
  ·rw [List.mem_singleton] at h2
   rw [h2]; exact hx
  ·cases h2
 have hE : (turnE (fun s => (s, p s)) ls es).length ≤ es.length := Nat.le_trans (sortE_length _) (keptE_len _ ls _ es)
 refine may_of (lt_n m) (Nat.le_trans (turnU_len _ ls) (may_lab m).1) (uniS_sorted _) (fun s hs => (may_lab m).2 s (hin s hs)) (Nat.le_trans hE (lt_len m)) (sortE_sorted _) (fun e he => ?_)
 obtain ⟨x, hx, h2⟩ := List.mem_flatMap.1 ((sortE_mem _ e).1 he)
 split at h2
 ·rename_i hp
  rw [List.mem_singleton] at h2
  have hb := may_edge m x hx
  have hl : labN ls x.f1 ∈ ls := by
   unfold labN
   rw [getD_get (show x.f1.toNat < ls.length by omega)]
   exact List.getElem_mem _
  have hU : labN ls x.f1 ∈ turnU (fun s => (s, p s)) ls := (uniS_mem _ _).2 (List.mem_flatMap.2 ⟨_, hl, by rw [if_pos hp]; exact List.mem_singleton.2 rfl⟩)
  subst h2
  refine ⟨hb.1, hb.2.1, plc_nonneg.2 hU, ?_⟩
  rcases plc_lt (ls := turnU (fun s => (s, p s)) ls) (s := labN ls x.f1) with h3 | h3
  ·exact h3
  ·rw [h3] at hU; cases hU
 ·cases h2
theorem insE_len (e : Ed) : ∀ l : List Ed, e ∉ l → (insE e l).length = l.length + 1
 | [], _ => rfl
 | x :: r, h => by
  have hx : ¬ cmpE e x = 0 := fun q => h (by rw [(cmpE_zero e x).1 q]; exact List.mem_cons_self ..)
  have hr : e ∉ r := fun q => h (List.mem_cons_of_mem _ q)
  unfold insE
  by_cases q : elt e x
  ·rw [if_pos q]; rfl
  ·rw [if_neg q, if_neg hx, List.length_cons, insE_len e r hr, List.length_cons]
theorem fold_len : ∀ (es o : List Ed), o.Pairwise elt → es.Nodup → (∀ e ∈ es, e ∉ o) → (es.foldl (fun o e => insE e o) o).length = es.length + o.length
 | [], o, _, _, _ => by simp
 | e :: r, o, ho, hn, hd => by
  have hn' := List.nodup_cons.1 hn
  rw [List.foldl_cons, fold_len r (insE e o) (insE_sorted e o ho) hn'.2 (fun x hx hxi => ?_), insE_len e o (hd e (List.mem_cons_self ..)), List.length_cons]
  ·omega
  ·rcases (insE_mem e x o).1 hxi with rfl | h
   ·exact hn'.1 hx
   ·exact hd x (List.mem_cons_of_mem _ hx) h
theorem sortE_len {es : List Ed} (h : es.Nodup) : (sortE es).length = es.length := by
 have := fold_len es [] List.Pairwise.nil h (fun _ _ h => by cases h)
 simpa [sortE] using this
theorem slt_inj {ls : List ByteArray} (h : ls.Pairwise slt) {i j : Nat} (hi : i < ls.length) (hj : j < ls.length) (e : ls[i] = ls[j]) : i = j := by
 have key : ∀ i j (hi : i < ls.length) (hj : j < ls.length), i < j → ls[i] ≠ ls[j] := fun i j hi hj hij e => by
  have := List.pairwise_iff_getElem.1 h i j hi hj hij
  rw [e] at this
  exact slt_irr _ this
 rcases Nat.lt_trichotomy i j with h1 | h1 | h1
 ·exact (key i j hi hj h1 e).elim
 ·exact h1
 ·exact (key j i hj hi h1 e.symm).elim
theorem plc_inj {U : List ByteArray} {a b : ByteArray} (ha : a ∈ U) (hb : b ∈ U) (e : plc U a = plc U b) : a = b := by
 unfold plc at e
 rw [if_pos ha, if_pos hb] at e
 have e' : U.idxOf a = U.idxOf b := by omega
 have h1 := List.getElem_idxOf (List.idxOf_lt_length_of_mem ha)
 have h2 := List.getElem_idxOf (List.idxOf_lt_length_of_mem hb)
 rw [← h1, ← h2]
 congr 1
section
variable {n : Int} {ls : List ByteArray} {es : List Ed}
theorem labN_mem (m : mayR n ls es = true) {x : Ed} (hx : x ∈ es) : labN ls x.f1 ∈ ls := by
 have hb := may_edge m x hx
 unfold labN
 rw [getD_get (show x.f1.toNat < ls.length by omega)]
 exact List.getElem_mem _
theorem keep_len (m : mayR n ls es = true) (p : ByteArray → Bool) : (turnE (fun s => (s, p s)) ls es).length = (es.filter fun e => p (labN ls e.f1)).length := by
 have hk : ∀ l : List Ed, keptE (fun s => (s, p s)) ls (turnU (fun s => (s, p s)) ls) l = (l.filter fun e => p (labN ls e.f1)).map fun e => ⟨e.f0, plc (turnU (fun s => (s, p s)) ls) (labN ls e.f1), e.f2⟩ := by
  intro l;unfold keptE
  induction l with
  | nil => rfl
  | cons x r ih =>
   rw [List.flatMap_cons, ih]
   cases hp : p (labN ls x.f1) with
   | true => rw [if_pos (by exact hp), List.filter_cons, if_pos hp]; rfl
   | false => rw [if_neg (by simp [hp]), List.filter_cons, if_neg (by simp [hp])]; rfl
 have hU : ∀ x ∈ es.filter (fun e => p (labN ls e.f1)), labN ls x.f1 ∈ turnU (fun s => (s, p s)) ls := fun x hx => by
  obtain ⟨h1, h2⟩ := List.mem_filter.1 hx;exact (uniS_mem _ _).2 (List.mem_flatMap.2 ⟨_, labN_mem m h1, by rw [if_pos h2]; exact List.mem_singleton.2 rfl⟩)
 unfold turnE;rw [hk es, sortE_len, List.length_map];rw [List.nodup_iff_pairwise_ne, List.pairwise_map];have hf : (es.filter fun e => p (labN ls e.f1)).Pairwise elt := (may_sorted m).filter _;refine List.Pairwise.imp_of_mem ?_ hf;intro a b ha hb hab e;rw [S80.mk.injEq] at e;have ea := may_edge m a (List.mem_filter.1 ha).1;have eb := may_edge m b (List.mem_filter.1 hb).1;have hl := plc_inj (hU a ha) (hU b hb) e.2.1;unfold labN at hl;rw [getD_get (show a.f1.toNat < ls.length by omega), getD_get (show b.f1.toNat < ls.length by omega)] at hl;have := slt_inj (may_rise m) _ _ hl;have e1 : a.f1 = b.f1 := by omega
 have : a = b := by
  cases a; cases b
  simp only at e e1;simp [e.1, e1, e.2.2]
 rw [this] at hab;exact elt_irr b hab
theorem filter_two (l : List Ed) (p q : Ed → Bool) (h : ∀ e, q e = !p e) : (l.filter p).length + (l.filter q).length = l.length := by
 induction l with
 | nil => rfl
 | cons x r ih =>
  rw [List.filter_cons, List.filter_cons, h x]
  cases p x with
  | true => simp only [Bool.not_true, if_true, Bool.false_eq_true, if_false, List.length_cons]; omega
  | false => simp only [Bool.not_false, if_true, Bool.false_eq_true, if_false, List.length_cons]; omega
theorem all_len (m : mayR n ls es = true) (h : List ByteArray) : (turnE (gHide h) ls es).length + (turnE (gKeep h) ls es).length = es.length := by
 have h1 := keep_len m (fun s => decide (plc h s < 0))
 have h2 := keep_len m (fun s => decide (plc h s ≥ 0))
 unfold gHide gKeep
 rw [h1, h2]
 refine filter_two es _ _ fun e => ?_
 by_cases q : plc h (labN ls e.f1) < 0
 ·simp [q]
 ·simp [q]; omega
end
end Go.Proofs.Ytmcbkmfpmcbdpaa.H
set_option linter.unusedVariables false
set_option linter.unusedSimpArgs false
namespace Go.Proofs.Ytmcbkmfpmcbdpaa.H
open Go.RowKit Go.Proofs.Ytmcbkmfpmcbdpaa.Pr Go.Proofs.YtmcbkmfpmcbdpaaW.PrintWords Go.Proofs.Ytmcbkmfpmcbdpaa.Sem Go.Proofs.Ytmcbkmfpmcbdpaa.PL
theorem awake51 : Ev (fun k => Pl51b.f k) true := Ev.of Pl51b.mono (k := 40) (by kernel_rfl)
theorem few_ev (l : List ByteArray) : ∃ b, Ev (fun k => Pl51c.f k l) b ∧ (b = true → l.length < 20) := by
 have stop : ∀ i : Int, ∃ b, Ev (fun k => Pl51c.j1 k l i false) b ∧ (b = true → l.length < 20) := fun i =>
  ⟨_, Ev.step (fun k => Pl51c.j1.eq_2 ..) (Ev.neg (by simp) (Ev.now _)), fun h => by have := of_decide_eq_true h; omega⟩
 have key : ∀ d i : Nat, i + d = 20 → ∃ b, Ev (fun k => Pl51c.l0 k l (i : Int)) b ∧ (b = true → l.length < 20) := by
  intro d
  induction d with
  | zero =>
   intro i h;obtain ⟨b, hb, h2⟩ := stop (i : Int);refine ⟨b, Ev.step (fun k => Pl51c.l0.eq_2 ..) ?_, h2⟩;by_cases q : (i : Int) < (l.length : Int)
   ·refine Ev.pos q ?_;rw [decide_eq_false (by omega)];exact hb
   ·exact Ev.neg q hb
  | succ d ih =>
   intro i h;by_cases q : (i : Int) < (l.length : Int)
   ·by_cases q2 : ((rdOf ByteArray.empty l (i : Int)).size : Int) > 300
    ·refine ⟨false, Ev.step (fun k => Pl51c.l0.eq_2 ..) (Ev.pos q ?_), fun h => by cases h⟩;rw [decide_eq_true (by omega)];exact Ev.step (fun k => Pl51c.j1.eq_2 ..) (Ev.pos rfl (Ev.pos (by omega) (Ev.pos q (Ev.pos q2 (Ev.now _)))))
    ·obtain ⟨b, hb, h2⟩ := ih (i + 1) (by omega);refine ⟨b, Ev.step (fun k => Pl51c.l0.eq_2 ..) (Ev.pos q ?_), h2⟩;rw [decide_eq_true (by omega)];refine Ev.step (fun k => Pl51c.j1.eq_2 ..) (Ev.pos rfl (Ev.pos (by omega) (Ev.pos q (Ev.neg q2 ?_))));rw [w1n (by omega)];exact hb
   ·obtain ⟨b, hb, h2⟩ := stop (i : Int);exact ⟨b, Ev.step (fun k => Pl51c.l0.eq_2 ..) (Ev.neg q hb), h2⟩
 exact key 20 0 rfl
end Go.Proofs.Ytmcbkmfpmcbdpaa.H
set_option linter.unusedVariables false
set_option linter.unusedSimpArgs false
namespace Go.Proofs.Ytmcbkmfpmcbdpaa.H
open Go.RowKit Go.Proofs.Ytmcbkmfpmcbdpaa.Pr Go.Proofs.YtmcbkmfpmcbdpaaW.PrintWords Go.Proofs.Ytmcbkmfpmcbdpaa.Sem Go.Proofs.Ytmcbkmfpmcbdpaa.PL
theorem finer_in {p q : List Int} (hl : p.length = q.length) (hlen : p.length ≤ 1000000) (h : ∀ i k : Nat, k < i → i < p.length → rd p (i : Int) = rd p (k : Int) → rd q (i : Int) = rd q (k : Int)) {i : Nat} (hi : i < p.length) (hend : Ev (fun k => Pr31a.l0 k p q ((i + 1 : Nat) : Int)) true) :
  ∀ d j : Nat, j + d = i → Ev (fun k => Pr31a.l1 k p q (i : Int) (j : Int)) true := by
 intro d
 induction d with
 | zero =>
  intro j hj
  refine Ev.step (fun k => Pr31a.l1.eq_2 ..) (Ev.neg (by omega) ?_)
  rw [w1n (by omega)]
  exact hend
 | succ d ih =>
  intro j hj
  have ih' := ih (j + 1) (by omega)
  refine Ev.step (fun k => Pr31a.l1.eq_2 ..) (Ev.pos (by omega) (Ev.pos (by omega) (Ev.pos (by omega) (Ev.pos (by omega) (Ev.pos (by omega) ?_)))))
  rw [w1n (by omega)]
  by_cases hx : rd p (i : Int) = rd p (j : Int)
  ·exact Ev.pos hx (Ev.pos (by omega) (Ev.pos (by omega) (Ev.pos (h i j (by omega) hi hx) ih')))
  ·exact Ev.neg hx ih'
theorem finer_ev {p q : List Int} (hl : p.length = q.length) (hlen : p.length ≤ 1000000) (h : ∀ i k : Nat, k < i → i < p.length → rd p (i : Int) = rd p (k : Int) → rd q (i : Int) = rd q (k : Int)) : Ev (fun k => Pr31a.f k p q) true := by
 have key : ∀ d i : Nat, i + d = p.length → Ev (fun k => Pr31a.l0 k p q (i : Int)) true := by
  intro d
  induction d with
  | zero =>
   intro i hi
   exact Ev.step (fun k => Pr31a.l0.eq_2 ..) (Ev.neg (by omega) (Ev.now _))
  | succ d ih =>
   intro i hi
   exact Ev.step (fun k => Pr31a.l0.eq_2 ..) (Ev.pos (by omega) (finer_in hl hlen h (by omega) (ih (i + 1) (by omega)) i 0 (by omega)))
 exact key p.length 0 (by omega)
theorem turn_finer {n : Nat} {ls : List ByteArray} {es : List Ed} (g : ByteArray → ByteArray × Bool) (hm : mayR n ls es = true) (hm2 : mayR n (turnU g ls) (turnE g ls es) = true) (hn : n ≤ 2048) : Ev (fun k => Pr31a.f k (refL n es) (refL n (turnE g ls es))) true := by
 refine finer_ev (by rw [refL_lenK, refL_lenK]) (by rw [refL_lenK]; omega) fun i k hki hi he => ?_
 rw [refL_lenK] at hi
 have hB := (refl_atK hm (s := (i : Int)) (t := (k : Int)) ⟨by omega, by omega⟩ ⟨by omega, by omega⟩).1 he
 exact (refl_atK hm2 (s := (i : Int)) (t := (k : Int)) ⟨by omega, by omega⟩ ⟨by omega, by omega⟩).2 (turn_bis hB)
theorem relabelKeeps_true (n : Int) (ls : List ByteArray) (es : List Ed) (ps : List S55) (h : List ByteArray) : Ev (fun k => Pl51a.f k n ls es ps h) true := by
 have jt : Ev (fun k => Pl51a.j0 k ps h true n ls es) true := Ev.step (fun k => Pl51a.j0.eq_2 ..) (Ev.pos rfl (Ev.last awake51));have hL : Ev (fun k => Pl33a.f k n ls es) (light33 n ls es) := Ev.now _;refine Ev.bind hL ?_
 cases hl : light33 n ls es with
 | false => exact Ev.neg (by simp) jt
 | true =>
  refine Ev.pos rfl ?_;obtain ⟨c, hc, h2⟩ := few_ev h;refine Ev.bind hc ?_
  cases c with
  | false => exact Ev.neg (by simp) jt
  | true =>
   refine Ev.pos rfl ?_;have hh := h2 rfl;by_cases q : (ps.length : Int) > 20
   ·rw [decide_eq_true q];exact jt
   ·rw [decide_eq_false q];refine Ev.step (fun k => Pl51a.j0.eq_2 ..) (Ev.neg (by simp) ?_)
    cases hm : mayR n ls es with
    | false => exact Ev.bindS (a := ([], 1)) (by unfold Pra.f; rw [hm]; rfl) (Ev.neg (by decide) (Ev.last awake51))
    | true =>
     obtain ⟨m, rfl⟩ : ∃ m : Nat, (m : Int) = n := ⟨n.toNat, by have := lt_n hm; omega⟩
     have hn := lt_n hm;have mH : mayR m (turnU (gHide h) ls) (turnE (gHide h) ls es) = true := may_keep hm fun s => decide (plc h s < 0)
     have mK : mayR m (turnU (gKeep h) ls) (turnE (gKeep h) ls es) = true := may_keep hm fun s => decide (plc h s ≥ 0)
     have hH : Pxd.f m ls es h = some ((m : Int), turnU (gHide h) ls, turnE (gHide h) ls es, 0) := by unfold Pxd.f; rw [if_pos (by omega)]; unfold turnP; rw [if_pos hm, if_pos mH]
     have hK : Pxe.f m ls es h = some ((m : Int), turnU (gKeep h) ls, turnE (gKeep h) ls es, 0) := by unfold Pxe.f; rw [if_pos (by omega)]; unfold turnP; rw [if_pos hm, if_pos mK]
     refine Ev.bindS (a := (refL m es, 0)) (by unfold Pra.f; rw [hm]; rfl) (Ev.pos rfl (Ev.bindS hH (Ev.bindS hK (Ev.bindS (a := (refL m (turnE (gHide h) ls es), 0)) (by unfold Pra.f; rw [mH]; rfl) (Ev.pos rfl (Ev.pos rfl (Ev.pos rfl ?_)))))));refine Ev.bind (turn_finer (gHide h) hm mH (by omega)) (Ev.pos rfl ?_);have ha := all_len hm h;have hel := lt_len hm
     have hw : ((wrap64 (((turnE (gHide h) ls es).length : Int) + ((turnE (gKeep h) ls es).length : Int))) != (es.length : Int)) = false := by
      have : wrap64 (((turnE (gHide h) ls es).length : Int) + ((turnE (gKeep h) ls es).length : Int)) = (es.length : Int) := by
       revert ha;generalize (turnE (gHide h) ls es).length = x;generalize (turnE (gKeep h) ls es).length = y;intro ha;unfold wrap64;omega
      rw [this];simp
     rw [hw];refine Ev.step (fun k => Pl51a.j1.eq_2 ..) (Ev.neg (by simp) ?_);have hp : ps.length ≤ 1000000 := by omega
     cases mR : mayR m (turnU (gRename ps) ls) (turnE (gRename ps) ls es) with
     | false =>
      have hR : Pxb.f m ls es ps = some (0, [], [], 1) := by unfold Pxb.f; rw [if_pos hp]; unfold turnP; rw [if_pos hm, if_neg (by simp [mR])]
      exact Ev.bindS hR (Ev.neg (by decide) (Ev.last awake51))
     | true =>
      have hR : Pxb.f m ls es ps = some ((m : Int), turnU (gRename ps) ls, turnE (gRename ps) ls es, 0) := by unfold Pxb.f; rw [if_pos hp]; unfold turnP; rw [if_pos hm, if_pos mR]
      refine Ev.bindS hR (Ev.pos rfl (Ev.bindS (a := (refL m (turnE (gRename ps) ls es), 0)) (by unfold Pra.f; rw [mR]; rfl) (Ev.pos rfl ?_)));exact Ev.bind (turn_finer (gRename ps) hm mR (by omega)) (Ev.pos rfl (Ev.last awake51))
end Go.Proofs.Ytmcbkmfpmcbdpaa.H
set_option linter.unusedVariables false
set_option linter.unusedSimpArgs false
namespace Go.Proofs.Ytmcbkmfpmcbdpaa.relabelKeeps
open Go.ChangeShapes Go.WideShapes Go.ChangeAt Go.RowKit Go.Proofs.Ytmcbkmfpmcbdpaa.Pr Go.Proofs.YtmcbkmfpmcbdpaaW.PrintWords Go.Proofs.Ytmcbkmfpmcbdpaa.H
theorem own : ownKnob Try.prog.godebug = none := by kernel_rfl
set_option maxRecDepth 100000 in
theorem lifted (os : Os) (started : os.Started) (H : Type) (enc : TypeId × Value → H) :
  ReturnsInHanded {} Try.checked os 11 .any (Rows.relabelKeepsSpec.pre6 enc Try.prog Try.f11 Rows.relabelKeepsRow.domain false) (Rows.relabelKeepsSpec.post enc Try.prog Try.f11 false true false false) := by
 refine returnsInHanded_of_change_sized (C := Try.checked) own started (by kernel_rfl) Try.func11
  (ChangeSpec.witness6 (enc := enc) (C := Try.checked) false ⟨#[], #[.agg #[.int .i64 0, .slice none 0 0, .slice none 0 0], .slice none 0 0, .slice none 0 0], []⟩ 8 (by kernel_rfl) (by kernel_rfl) (by kernel_rfl) (by kernel_rfl)) ?_
 intro W base args ds gs before hval0 hW hcnd hsz0 _;have hval : ∀ (j : Nat) t v, Try.f11.params[j]? = some t → args[j]? = some v → Value.okWide Try.prog W .any base t v := hval0;have hW' := hW;obtain ⟨p, q, hA0, hV, rfl, hfz, hnd⟩ := hW;have hA : DataW.TrodAll enc Try.prog W 0 (fun _ => true) true Try.f11.params.toList args.toList ds p := hA0;rw [Try.params11] at hA hval;obtain ⟨v0, vs0, d0, ds0, p0, q0, hargs, rfl, rfl, h0, r0⟩ := trodAll_cons hA;obtain ⟨v1, vs1, d1, ds1, p1, q1, rfl, rfl, rfl, h1, r1⟩ := trodAll_cons r0;obtain ⟨v2, vs2, d2, ds2, p2, q2, rfl, rfl, rfl, h2, r2⟩ := trodAll_cons r1;obtain ⟨rfl, rfl, rfl⟩ := trodAll_nil r2;obtain rfl : args = #[v0, v1, v2] := by cases args; simp_all
 obtain ⟨rfl, rfl⟩ := trodVars_none hV;have k0 := h0;have lt0 : ∀ x ∈ p0, x.block < W.heap.size := by obtain ⟨m, hm⟩ := k0; exact DataW.trod_lt m _ _ _ hm
 obtain ⟨n0, ls0, es0, A0, B0, c0, e0, rfl, wf0, rl0, cl0, re0, ce0⟩ := open_lts2 (hval 0 25 v0 rfl rfl) h0;have k1 := h1;have lt1 : ∀ x ∈ p1, x.block < W.heap.size := by obtain ⟨m, hm⟩ := k1; exact DataW.trod_lt m _ _ _ hm
 obtain ⟨A1, x1, c1, rfl, rx1, cx1⟩ := open_row2 (dk := k55) Try.underlying53 (by kernel_rfl) el_spair (hval 1 53 v1 rfl rfl) h1;have k2 := h2;have lt2 : ∀ x ∈ p2, x.block < W.heap.size := by obtain ⟨m, hm⟩ := k2; exact DataW.trod_lt m _ _ _ hm
 obtain ⟨A2, x2, c2, rfl, rx2, cx2⟩ := open_row2 (dk := Kd.string) Try.underlying22 (by kernel_rfl) el_string (hval 2 22 v2 rfl rfl) h2;clear hA0 hval0 hsz0;obtain ⟨k, hk⟩ := (relabelKeeps_true n0 ls0 es0 x1 x2).rounds;refine (Pr.Pl51a.calls (k := k) (r := true) (w := W) (hr0_1 := rl0) (hc0_1 := cl0) (hr0_2 := re0) (hc0_2 := ce0) (hr1 := rx1) (hc1 := cx1) (hr2 := rx2) (hc2 := cx2) (h := hk) (hr_ := ⟨rfl⟩)).mono fun e W' ⟨he, bel⟩ => ?_
 subst he;exact ⟨_, rfl, _, _, _, [], _, [], hW', trodAll_mk1 (shut_bool Try.underlying4 _), (trodAll_cons_mk (Below.trod laid_out (by kernel_rfl) (of_decide_eq_true (by kernel_rfl)) k0 bel lt0) (trodAll_cons_mk (Below.trod laid_out (by kernel_rfl) (of_decide_eq_true (by kernel_rfl)) k1 bel lt1) (trodAll_cons_mk (Below.trod laid_out (by kernel_rfl) (of_decide_eq_true (by kernel_rfl)) k2 bel lt2) trodAll_mk0))), rfl, bel.frame _, fun h => by cases h⟩
theorem over : Rows.relabelKeepsRow.holds Try.pinned (OpenSpec.ofChange Rows.relabelKeepsSpec) :=
 OpenClaim.holds_of_wide 11 Try.f11 rfl rfl rfl rfl rfl rfl rfl ⟨rfl, rfl, rfl, rfl, rfl⟩ rfl rfl rfl rfl rfl (by kernel_rfl) Try.func11 (by kernel_rfl)
  (of_decide_eq_true (by kernel_rfl)) (by unfold Func.isWrapper; first | (rw [if_pos (by decide +kernel)]; kernel_rfl) | (rw [if_neg (by decide +kernel)]; exact ⟨rfl, rfl⟩))
  (fun os started H enc _ => lifted os started H enc)
theorem proved : Rows.RelabelKeepsSaid := over
#print axioms proved
end Go.Proofs.Ytmcbkmfpmcbdpaa.relabelKeeps
namespace Go.Proofs.Ytmcbkmfpmcbdpaa
theorem relabelKeeps_holds : Rows.RelabelKeepsSaid := relabelKeeps.proved
end Go.Proofs.Ytmcbkmfpmcbdpaa
