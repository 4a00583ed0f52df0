/-
  Parts of the proof of LtsTells (joined by wip/tools/bundle.py), part 3: plain words and walks of the functions that the law reaches.
-/
import Derived.Test.YthaaockbapbooaaZLtsTells2
namespace Go.Proofs.Ythaaockbapbooaa.Pr
open Go.RowKit Go.Proofs.YthaaockbapbooaaW.PrintWords Go.Proofs.YthaaockbapbooaaW.PrintLast Go.Proofs.YthaaockbapbooaaW.PrintMore
attribute [local go_sem] max2_int min2_int max_two min_two max_three min_three max_four min_four
set_option linter.unusedVariables false
set_option linter.unusedSimpArgs false
attribute [local go_sem high] eqA51
def Pl26b.f (k : Nat)  : Option (Bool) := (Pxd.f 3 (([(⟨#[97]⟩ : ByteArray)] : List ByteArray)) (([(⟨1, 0, 1⟩ : S51), (⟨0, 0, 1⟩ : S51), (⟨0, 0, 1⟩ : S51)] : List (S51)))).bind fun bt140 => (if bt140.2.2.2 = 0 then (if (bt140.2.2.1.length : Int) = 2 then (if 0 < (bt140.2.2.1.length : Int) then (if (((rd_T51 bt140.2.2.1 0).f0) == 0 && (((rd_T51 bt140.2.2.1 0).f1) == 0 && (((rd_T51 bt140.2.2.1 0).f2) == 1))) = true then ((Pxa.f bt140.1 bt140.2.1 bt140.2.2.1 0).bind fun t150 => ((Pr01b.f k t150 (([0, 1] : List Int))).bind fun t156 => (if t156 = true then ((Pxe.f k bt140.1 bt140.2.1 bt140.2.2.1 1 0).bind fun t157 => ((Pr01b.f k t157 (([0, 1] : List Int))).bind fun t163 => (if t163 = true then ((Pxf.f k bt140.1 bt140.2.1 bt140.2.2.1 0 0).bind fun t164 => ((Pr01b.f k t164 (([1] : List Int))).bind fun t170 => (if t170 = true then ((Pxb.f k bt140.1 bt140.2.1 bt140.2.2.1).bind fun t171 => (if t171 = true then ((Pxg.f bt140.1 bt140.2.1 bt140.2.2.1 1).bind fun t172 => (if (t172.length : Int) = 1 then ((Pxc.f 0 ([] : List ByteArray) ([] : List (S51))).bind fun t175 => (some (t175 == 1))) else (some false))) else (some false))) else (some false)))) else (some false)))) else (some false)))) else (some false)) else (none)) else (some false)) else (some false))
theorem Pl26b.mono : ∀ k, LeO (Pl26b.f k ) (Pl26b.f (k + 1) ) := by
 intro  k
 unfold Pl26b.f
 repeat' first
   | (with_reducible exact Pxe.mono _ _ _ _ _ _)
   | (with_reducible exact Pxb.mono _ _ _ _)
   | (with_reducible exact Pxf.mono _ _ _ _ _ _)
   | (with_reducible exact Pr01b.mono _ _ _)
   | (with_reducible exact LeO.refl _)
   | (with_reducible exact LeO.none _)
   | (with_reducible refine LeO.ite ?_ ?_)
   | (with_reducible refine LeO.bind ?_ (fun _ => ?_))
   | exact Pxe.mono _ _ _ _ _ _
   | exact Pxb.mono _ _ _ _
   | exact Pxf.mono _ _ _ _ _ _
   | exact Pr01b.mono _ _ _
   | exact LeO.none _
   | refine LeO.ite ?_ ?_
   | refine LeO.bind ?_ (fun _ => ?_)
set_option maxHeartbeats 8000000 in
set_option maxRecDepth 100000 in
theorem Pl26b.calls (k : Nat)  (r : Bool) (w : World) (h : Pl26b.f k  = some r) (hr_ : Aside0 (r = true)) :
  Calls Try.prog 24 #[] w fun e w' => e = .returned (.bool r) ∧ Below w.heap.size w w' := by
 have p8 := Try.underlying51
 have r9 := Try.underlying25
 have HB := Aside0.mk (Below.refl w.heap.size w)
 have H : ((Pxd.f 3 (([(⟨#[97]⟩ : ByteArray)] : List ByteArray)) (([(⟨1, 0, 1⟩ : S51), (⟨0, 0, 1⟩ : S51), (⟨0, 0, 1⟩ : S51)] : List (S51)))).bind fun a2 => (if a2.2.2.2 = 0 then (if (a2.2.2.1.length : Int) = 2 then (if 0 < (a2.2.2.1.length : Int) then (if (((rd_T51 a2.2.2.1 0).f0) == 0 && (((rd_T51 a2.2.2.1 0).f1) == 0 && (((rd_T51 a2.2.2.1 0).f2) == 1))) = true then ((Pxa.f a2.1 a2.2.1 a2.2.2.1 0).bind fun f8 => ((Pr01b.f k f8 (([0, 1] : List Int))).bind fun f5 => (if f5 = true then ((Pxe.f k a2.1 a2.2.1 a2.2.2.1 1 0).bind fun e0 => ((Pr01b.f k e0 (([0, 1] : List Int))).bind fun d5 => (if d5 = true then ((Pxf.f k a2.1 a2.2.1 a2.2.2.1 0 0).bind fun c6 => ((Pr01b.f k c6 (([1] : List Int))).bind fun b7 => (if b7 = true then ((Pxb.f k a2.1 a2.2.1 a2.2.2.1).bind fun b4 => (if b4 = true then ((Pxg.f a2.1 a2.2.1 a2.2.2.1 1).bind fun b0 => (if (b0.length : Int) = 1 then ((Pxc.f 0 ([] : List ByteArray) ([] : List (S51))).bind fun b2 => (some (b2 == 1))) else (some false))) else (some false))) else (some false)))) else (some false)))) else (some false)))) else (some false)) else (none)) else (some false)) else (some false))) = some r := h
 clear h
 obtain ⟨h2, g8⟩ : ∃ y_ : List ByteArray, y_ = (([(⟨#[97]⟩ : ByteArray)] : List ByteArray)) := ⟨_, rfl⟩
 replace H : ((Pxd.f 3 h2 (([(⟨1, 0, 1⟩ : S51), (⟨0, 0, 1⟩ : S51), (⟨0, 0, 1⟩ : S51)] : List (S51)))).bind fun a2 => (if a2.2.2.2 = 0 then (if (a2.2.2.1.length : Int) = 2 then (if 0 < (a2.2.2.1.length : Int) then (if (((rd_T51 a2.2.2.1 0).f0) == 0 && (((rd_T51 a2.2.2.1 0).f1) == 0 && (((rd_T51 a2.2.2.1 0).f2) == 1))) = true then ((Pxa.f a2.1 a2.2.1 a2.2.2.1 0).bind fun f8 => ((Pr01b.f k f8 (([0, 1] : List Int))).bind fun f5 => (if f5 = true then ((Pxe.f k a2.1 a2.2.1 a2.2.2.1 1 0).bind fun e0 => ((Pr01b.f k e0 (([0, 1] : List Int))).bind fun d5 => (if d5 = true then ((Pxf.f k a2.1 a2.2.1 a2.2.2.1 0 0).bind fun c6 => ((Pr01b.f k c6 (([1] : List Int))).bind fun b7 => (if b7 = true then ((Pxb.f k a2.1 a2.2.1 a2.2.2.1).bind fun b4 => (if b4 = true then ((Pxg.f a2.1 a2.2.1 a2.2.2.1 1).bind fun b0 => (if (b0.length : Int) = 1 then ((Pxc.f 0 ([] : List ByteArray) ([] : List (S51))).bind fun b2 => (some (b2 == 1))) else (some false))) else (some false))) else (some false)))) else (some false)))) else (some false)))) else (some false)) else (none)) else (some false)) else (some false))) = some r := by first | (rw [g8]; with_reducible exact H) | (have f4 := (Option.bind_some _ _).symm.trans H; rw [g8]; with_reducible exact f4) | (have f4 := (Option.bind_some _ _).symm.trans H; with_reducible exact f4) | with_reducible exact H | (rw [g8]; exact H) | exact H
 have h9 := Aside0.mk g8
 clear g8
 obtain ⟨h4, g7⟩ : ∃ y_ : List (S51), y_ = (([(⟨1, 0, 1⟩ : S51), (⟨0, 0, 1⟩ : S51), (⟨0, 0, 1⟩ : S51)] : List (S51))) := ⟨_, rfl⟩
 replace H : ((Pxd.f 3 h2 h4).bind fun a2 => (if a2.2.2.2 = 0 then (if (a2.2.2.1.length : Int) = 2 then (if 0 < (a2.2.2.1.length : Int) then (if (((rd_T51 a2.2.2.1 0).f0) == 0 && (((rd_T51 a2.2.2.1 0).f1) == 0 && (((rd_T51 a2.2.2.1 0).f2) == 1))) = true then ((Pxa.f a2.1 a2.2.1 a2.2.2.1 0).bind fun f8 => ((Pr01b.f k f8 (([0, 1] : List Int))).bind fun f5 => (if f5 = true then ((Pxe.f k a2.1 a2.2.1 a2.2.2.1 1 0).bind fun e0 => ((Pr01b.f k e0 (([0, 1] : List Int))).bind fun d5 => (if d5 = true then ((Pxf.f k a2.1 a2.2.1 a2.2.2.1 0 0).bind fun c6 => ((Pr01b.f k c6 (([1] : List Int))).bind fun b7 => (if b7 = true then ((Pxb.f k a2.1 a2.2.1 a2.2.2.1).bind fun b4 => (if b4 = true then ((Pxg.f a2.1 a2.2.1 a2.2.2.1 1).bind fun b0 => (if (b0.length : Int) = 1 then ((Pxc.f 0 ([] : List ByteArray) ([] : List (S51))).bind fun b2 => (some (b2 == 1))) else (some false))) else (some false))) else (some false)))) else (some false)))) else (some false)))) else (some false)) else (none)) else (some false)) else (some false))) = some r := by first | (rw [g7]; with_reducible exact H) | (have f4 := (Option.bind_some _ _).symm.trans H; rw [g7]; with_reducible exact f4) | (have f4 := (Option.bind_some _ _).symm.trans H; with_reducible exact f4) | with_reducible exact H | (rw [g7]; exact H) | exact H
 have i4 := Aside0.mk g7
 clear g7
 replace H := Option.bind_eq_some_iff.mp H
 obtain ⟨⟨a4, a3, a0, g4⟩, i1, H⟩ := H
 replace H : (if g4 = 0 then (if (a0.length : Int) = 2 then (if 0 < (a0.length : Int) then (if (((rd_T51 a0 0).f0) == 0 && (((rd_T51 a0 0).f1) == 0 && (((rd_T51 a0 0).f2) == 1))) = true then ((Pxa.f a4 a3 a0 0).bind fun f8 => ((Pr01b.f k f8 (([0, 1] : List Int))).bind fun f5 => (if f5 = true then ((Pxe.f k a4 a3 a0 1 0).bind fun e0 => ((Pr01b.f k e0 (([0, 1] : List Int))).bind fun d5 => (if d5 = true then ((Pxf.f k a4 a3 a0 0 0).bind fun c6 => ((Pr01b.f k c6 (([1] : List Int))).bind fun b7 => (if b7 = true then ((Pxb.f k a4 a3 a0).bind fun b4 => (if b4 = true then ((Pxg.f a4 a3 a0 1).bind fun b0 => (if (b0.length : Int) = 1 then ((Pxc.f 0 ([] : List ByteArray) ([] : List (S51))).bind fun b2 => (some (b2 == 1))) else (some false))) else (some false))) else (some false)))) else (some false)))) else (some false)))) else (some false)) else (none)) else (some false)) else (some false)) = some r := H
 have A1 := Aside0.mk i1
 clear i1
 by_cases c2 : g4 = 0
 ·rw [if_pos c2] at H
  have c2b0 : (g4 == 0) = true := beq_iff_eq.mpr c2
  have c2b1 : (g4 != 0) = false := bne_eq_false_iff_eq.mpr c2
  clear c2
  by_cases c3 : (a0.length : Int) = 2
  ·rw [if_pos c3] at H
   have c3b0 : ((a0.length : Int) == 2) = true := beq_iff_eq.mpr c3
   have c3b1 : ((a0.length : Int) != 2) = false := bne_eq_false_iff_eq.mpr c3
   clear c3
   by_cases c4 : 0 < (a0.length : Int)
   ·rw [if_pos c4] at H
    have c4b0 : decide (0 < (a0.length : Int)) = true := decide_eq_true c4
    have c4b1 : decide (0 < a0.length) = true := decide_eq_true (by omega)
    clear c4
    by_cases c5 : (((rd_T51 a0 0).f0) == 0 && (((rd_T51 a0 0).f1) == 0 && (((rd_T51 a0 0).f2) == 1))) = true
    ·rw [if_pos c5] at H
     have c5b0 : (((rd_T51 a0 0).f0) == 0 && (((rd_T51 a0 0).f1) == 0 && (((rd_T51 a0 0).f2) == 1))) = true := c5
     (try (have c5b1 : decide (((rd_T51 a0 0).f0) = 0 && (((rd_T51 a0 0).f1) == 0 && (((rd_T51 a0 0).f2) == 1))) = true := by simpa using c5))
     (try (have c5b2 : (((rd_T51 a0 0).f0) == 0 && (((rd_T51 a0 0).f1) == 0 && (((rd_T51 a0 0).f2) == 1))) = true := by simpa using c5))
     clear c5
     replace H := Option.bind_eq_some_iff.mp H
     obtain ⟨f8, k2, H⟩ := H
     replace H : ((Pr01b.f k f8 (([0, 1] : List Int))).bind fun f5 => (if f5 = true then ((Pxe.f k a4 a3 a0 1 0).bind fun e0 => ((Pr01b.f k e0 (([0, 1] : List Int))).bind fun d5 => (if d5 = true then ((Pxf.f k a4 a3 a0 0 0).bind fun c6 => ((Pr01b.f k c6 (([1] : List Int))).bind fun b7 => (if b7 = true then ((Pxb.f k a4 a3 a0).bind fun b4 => (if b4 = true then ((Pxg.f a4 a3 a0 1).bind fun b0 => (if (b0.length : Int) = 1 then ((Pxc.f 0 ([] : List ByteArray) ([] : List (S51))).bind fun b2 => (some (b2 == 1))) else (some false))) else (some false))) else (some false)))) else (some false)))) else (some false))) = some r := H
     have A6 := Aside0.mk k2
     clear k2
     obtain ⟨i8, g5⟩ : ∃ y_ : List Int, y_ = (([0, 1] : List Int)) := ⟨_, rfl⟩
     replace H : ((Pr01b.f k f8 i8).bind fun f5 => (if f5 = true then ((Pxe.f k a4 a3 a0 1 0).bind fun e0 => ((Pr01b.f k e0 (([0, 1] : List Int))).bind fun d5 => (if d5 = true then ((Pxf.f k a4 a3 a0 0 0).bind fun c6 => ((Pr01b.f k c6 (([1] : List Int))).bind fun b7 => (if b7 = true then ((Pxb.f k a4 a3 a0).bind fun b4 => (if b4 = true then ((Pxg.f a4 a3 a0 1).bind fun b0 => (if (b0.length : Int) = 1 then ((Pxc.f 0 ([] : List ByteArray) ([] : List (S51))).bind fun b2 => (some (b2 == 1))) else (some false))) else (some false))) else (some false)))) else (some false)))) else (some false))) = some r := by first | (rw [g5]; with_reducible exact H) | (have f4 := (Option.bind_some _ _).symm.trans H; rw [g5]; with_reducible exact f4) | (have f4 := (Option.bind_some _ _).symm.trans H; with_reducible exact f4) | with_reducible exact H | (rw [g5]; exact H) | exact H
     have i0 := Aside0.mk g5
     clear g5
     replace H := Option.bind_eq_some_iff.mp H
     obtain ⟨f5, k3, H⟩ := H
     replace H : (if f5 = true then ((Pxe.f k a4 a3 a0 1 0).bind fun e0 => ((Pr01b.f k e0 (([0, 1] : List Int))).bind fun d5 => (if d5 = true then ((Pxf.f k a4 a3 a0 0 0).bind fun c6 => ((Pr01b.f k c6 (([1] : List Int))).bind fun b7 => (if b7 = true then ((Pxb.f k a4 a3 a0).bind fun b4 => (if b4 = true then ((Pxg.f a4 a3 a0 1).bind fun b0 => (if (b0.length : Int) = 1 then ((Pxc.f 0 ([] : List ByteArray) ([] : List (S51))).bind fun b2 => (some (b2 == 1))) else (some false))) else (some false))) else (some false)))) else (some false)))) else (some false)) = some r := H
     have A7 := Aside0.mk k3
     clear k3
     by_cases c8 : f5 = true
     ·subst c8
      have H1 : ((Pxe.f k a4 a3 a0 1 0).bind fun e0 => ((Pr01b.f k e0 (([0, 1] : List Int))).bind fun d5 => (if d5 = true then ((Pxf.f k a4 a3 a0 0 0).bind fun c6 => ((Pr01b.f k c6 (([1] : List Int))).bind fun b7 => (if b7 = true then ((Pxb.f k a4 a3 a0).bind fun b4 => (if b4 = true then ((Pxg.f a4 a3 a0 1).bind fun b0 => (if (b0.length : Int) = 1 then ((Pxc.f 0 ([] : List ByteArray) ([] : List (S51))).bind fun b2 => (some (b2 == 1))) else (some false))) else (some false))) else (some false)))) else (some false)))) = some r := by rw [if_pos rfl] at H; exact H
      clear H
      have H := H1
      clear H1
      replace H := Option.bind_eq_some_iff.mp H
      obtain ⟨e0, k4, H⟩ := H
      replace H : ((Pr01b.f k e0 (([0, 1] : List Int))).bind fun d5 => (if d5 = true then ((Pxf.f k a4 a3 a0 0 0).bind fun c6 => ((Pr01b.f k c6 (([1] : List Int))).bind fun b7 => (if b7 = true then ((Pxb.f k a4 a3 a0).bind fun b4 => (if b4 = true then ((Pxg.f a4 a3 a0 1).bind fun b0 => (if (b0.length : Int) = 1 then ((Pxc.f 0 ([] : List ByteArray) ([] : List (S51))).bind fun b2 => (some (b2 == 1))) else (some false))) else (some false))) else (some false)))) else (some false))) = some r := H
      have A9 := Aside0.mk k4
      clear k4
      obtain ⟨j9, g6⟩ : ∃ y_ : List Int, y_ = (([0, 1] : List Int)) := ⟨_, rfl⟩
      replace H : ((Pr01b.f k e0 j9).bind fun d5 => (if d5 = true then ((Pxf.f k a4 a3 a0 0 0).bind fun c6 => ((Pr01b.f k c6 (([1] : List Int))).bind fun b7 => (if b7 = true then ((Pxb.f k a4 a3 a0).bind fun b4 => (if b4 = true then ((Pxg.f a4 a3 a0 1).bind fun b0 => (if (b0.length : Int) = 1 then ((Pxc.f 0 ([] : List ByteArray) ([] : List (S51))).bind fun b2 => (some (b2 == 1))) else (some false))) else (some false))) else (some false)))) else (some false))) = some r := by first | (rw [g6]; with_reducible exact H) | (have f4 := (Option.bind_some _ _).symm.trans H; rw [g6]; with_reducible exact f4) | (have f4 := (Option.bind_some _ _).symm.trans H; with_reducible exact f4) | with_reducible exact H | (rw [g6]; exact H) | exact H
      have i2 := Aside0.mk g6
      clear g6
      replace H := Option.bind_eq_some_iff.mp H
      obtain ⟨d5, j5, H⟩ := H
      replace H : (if d5 = true then ((Pxf.f k a4 a3 a0 0 0).bind fun c6 => ((Pr01b.f k c6 (([1] : List Int))).bind fun b7 => (if b7 = true then ((Pxb.f k a4 a3 a0).bind fun b4 => (if b4 = true then ((Pxg.f a4 a3 a0 1).bind fun b0 => (if (b0.length : Int) = 1 then ((Pxc.f 0 ([] : List ByteArray) ([] : List (S51))).bind fun b2 => (some (b2 == 1))) else (some false))) else (some false))) else (some false)))) else (some false)) = some r := H
      have i1 := Aside0.mk j5
      clear j5
      by_cases h8 : d5 = true
      ·subst h8
       have H1 : ((Pxf.f k a4 a3 a0 0 0).bind fun c6 => ((Pr01b.f k c6 (([1] : List Int))).bind fun b7 => (if b7 = true then ((Pxb.f k a4 a3 a0).bind fun b4 => (if b4 = true then ((Pxg.f a4 a3 a0 1).bind fun b0 => (if (b0.length : Int) = 1 then ((Pxc.f 0 ([] : List ByteArray) ([] : List (S51))).bind fun b2 => (some (b2 == 1))) else (some false))) else (some false))) else (some false)))) = some r := by rw [if_pos rfl] at H; exact H
       clear H
       have H := H1
       clear H1
       replace H := Option.bind_eq_some_iff.mp H
       obtain ⟨c6, i9, H⟩ := H
       replace H : ((Pr01b.f k c6 (([1] : List Int))).bind fun b7 => (if b7 = true then ((Pxb.f k a4 a3 a0).bind fun b4 => (if b4 = true then ((Pxg.f a4 a3 a0 1).bind fun b0 => (if (b0.length : Int) = 1 then ((Pxc.f 0 ([] : List ByteArray) ([] : List (S51))).bind fun b2 => (some (b2 == 1))) else (some false))) else (some false))) else (some false))) = some r := H
       have p2 := Aside0.mk i9
       clear i9
       obtain ⟨i6, g9⟩ : ∃ y_ : List Int, y_ = (([1] : List Int)) := ⟨_, rfl⟩
       replace H : ((Pr01b.f k c6 i6).bind fun b7 => (if b7 = true then ((Pxb.f k a4 a3 a0).bind fun b4 => (if b4 = true then ((Pxg.f a4 a3 a0 1).bind fun b0 => (if (b0.length : Int) = 1 then ((Pxc.f 0 ([] : List ByteArray) ([] : List (S51))).bind fun b2 => (some (b2 == 1))) else (some false))) else (some false))) else (some false))) = some r := by first | (rw [g9]; with_reducible exact H) | (have f4 := (Option.bind_some _ _).symm.trans H; rw [g9]; with_reducible exact f4) | (have f4 := (Option.bind_some _ _).symm.trans H; with_reducible exact f4) | with_reducible exact H | (rw [g9]; exact H) | exact H
       have i3 := Aside0.mk g9
       clear g9
       replace H := Option.bind_eq_some_iff.mp H
       obtain ⟨b7, j3, H⟩ := H
       replace H : (if b7 = true then ((Pxb.f k a4 a3 a0).bind fun b4 => (if b4 = true then ((Pxg.f a4 a3 a0 1).bind fun b0 => (if (b0.length : Int) = 1 then ((Pxc.f 0 ([] : List ByteArray) ([] : List (S51))).bind fun b2 => (some (b2 == 1))) else (some false))) else (some false))) else (some false)) = some r := H
       have p1 := Aside0.mk j3
       clear j3
       by_cases i5 : b7 = true
       ·subst i5
        have H1 : ((Pxb.f k a4 a3 a0).bind fun b4 => (if b4 = true then ((Pxg.f a4 a3 a0 1).bind fun b0 => (if (b0.length : Int) = 1 then ((Pxc.f 0 ([] : List ByteArray) ([] : List (S51))).bind fun b2 => (some (b2 == 1))) else (some false))) else (some false))) = some r := by rw [if_pos rfl] at H; exact H
        clear H
        have H := H1
        clear H1
        replace H := Option.bind_eq_some_iff.mp H
        obtain ⟨b4, j7, H⟩ := H
        replace H : (if b4 = true then ((Pxg.f a4 a3 a0 1).bind fun b0 => (if (b0.length : Int) = 1 then ((Pxc.f 0 ([] : List ByteArray) ([] : List (S51))).bind fun b2 => (some (b2 == 1))) else (some false))) else (some false)) = some r := H
        have p4 := Aside0.mk j7
        clear j7
        by_cases h7 : b4 = true
        ·subst h7
         have H1 : ((Pxg.f a4 a3 a0 1).bind fun b0 => (if (b0.length : Int) = 1 then ((Pxc.f 0 ([] : List ByteArray) ([] : List (S51))).bind fun b2 => (some (b2 == 1))) else (some false))) = some r := by rw [if_pos rfl] at H; exact H
         clear H
         have H := H1
         clear H1
         replace H := Option.bind_eq_some_iff.mp H
         obtain ⟨b0, k1, H⟩ := H
         replace H : (if (b0.length : Int) = 1 then ((Pxc.f 0 ([] : List ByteArray) ([] : List (S51))).bind fun b2 => (some (b2 == 1))) else (some false)) = some r := H
         have p0 := Aside0.mk k1
         clear k1
         by_cases h3 : (b0.length : Int) = 1
         ·rw [if_pos h3] at H
          have c18b0 : ((b0.length : Int) == 1) = true := beq_iff_eq.mpr h3
          have c18b1 : ((b0.length : Int) != 1) = false := bne_eq_false_iff_eq.mpr h3
          clear h3
          replace H := Option.bind_eq_some_iff.mp H
          obtain ⟨b2, k0, H⟩ := H
          replace H : (some (b2 == 1)) = some r := H
          have p3 := Aside0.mk k0
          clear k0
          obtain rfl := Option.some.inj H
          go_enter Try.func24, Try.ntmps24
          go_wp2_with (first | ((with_reducible refine gate_dst (N := 4) rfl ?_); (try (refine gate_guard (by rfl) ?_; dsimp only)); refine Kd.R_lit Kd.string _ 9 ?hg (N := 4) ?hd (xs := ([(⟨#[97]⟩ : ByteArray)] : List ByteArray)) (inner := [.string (⟨#[97]⟩ : ByteArray)]) (ok := fun _ => True) (okp := fun _ => True) ?hr ?hp (fun _ hk => hk) trivial (Below.refl _ _) (Nat.le_refl _) (by simp) ?_; (case hd => rfl); (case hg => rfl); (case hr => first | (go_simp; done) | (go_simp; rfl)); (case hp => exact (Reps.one (show Kd.M Kd.string _ _ _ (⟨#[97]⟩ : ByteArray) [.string (⟨#[97]⟩ : ByteArray)] from rfl) (Reps.none _ _))); intro q7 w20 ho21 hb hg_ hnew_; clear hg_ hnew_; (first | rw [← h9.out] at ho21 | (simp only [Int.reduceToNat] at ho21; rw [← h9.out] at ho21)); have b9 := Aside0.mk (Kd.R_lower ho21 (below_size (by repeat (first | (with_reducible first | exact HB.out | apply below_alloc | apply pw_below_drewN | apply below_drew1) | exact HB.out)))); have b8 := Aside0.mk (below_step (by repeat (first | (with_reducible first | exact HB.out | apply below_alloc | apply pw_below_drewN | apply below_drew1) | exact HB.out)) hb); clear HB; have a8 := b9; have HB := b8; clear b9 b8; clear hb ho21) | ((with_reducible refine gate_dst (N := 8) rfl ?_); (try (refine gate_guard (by rfl) ?_; dsimp only)); refine Kd.R_lit k51 _ 51 ?hg (N := 8) ?hd (xs := ([(⟨1, 0, 1⟩ : S51), (⟨0, 0, 1⟩ : S51), (⟨0, 0, 1⟩ : S51)] : List (S51))) (inner := [.int .i64 1, .int .i64 0, .int .i64 1, .int .i64 0, .int .i64 0, .int .i64 1, .int .i64 0, .int .i64 0, .int .i64 1]) (ok := fun _ => True) (okp := fun _ => True) ?hr ?hp (fun _ hk => hk) trivial (Below.refl _ _) (Nat.le_refl _) (by simp) ?_; (case hd => rfl); (case hg => rfl); (case hr => first | (go_simp; done) | (go_simp; rfl)); (case hp => exact (Reps.c3 (show Kd.M k51 _ _ _ (⟨1, 0, 1⟩ : S51) [.int .i64 1, .int .i64 0, .int .i64 1] from (k51_mkM _ _ _ (⟨1, 0, 1⟩ : S51) )) (Reps.c3 (show Kd.M k51 _ _ _ (⟨0, 0, 1⟩ : S51) [.int .i64 0, .int .i64 0, .int .i64 1] from (k51_mkM _ _ _ (⟨0, 0, 1⟩ : S51) )) (Reps.c3 (show Kd.M k51 _ _ _ (⟨0, 0, 1⟩ : S51) [.int .i64 0, .int .i64 0, .int .i64 1] from (k51_mkM _ _ _ (⟨0, 0, 1⟩ : S51) )) (Reps.none _ _))))); intro r2 w22 ho23 hb hg_ hnew_; clear hg_ hnew_; (first | rw [← i4.out] at ho23 | (simp only [Int.reduceToNat] at ho23; rw [← i4.out] at ho23)); have b9 := Aside0.mk (Kd.R_below (by (with_reducible repeat (first | apply Kd.R_alloc | apply Kd.R_drewN | apply Kd.R_drew)); exact a8.out) hb); have b8 := Aside0.mk (Kd.R_lower ho23 (below_size (by repeat (first | (with_reducible first | exact HB.out | apply below_alloc | apply pw_below_drewN | apply below_drew1) | exact HB.out)))); have c7 := Aside0.mk (below_step (by repeat (first | (with_reducible first | exact HB.out | apply below_alloc | apply pw_below_drewN | apply below_drew1) | exact HB.out)) hb); clear a8; clear HB; have a8 := b9; have a9 := b8; have HB := c7; clear b9 b8 c7; clear hb ho23; obtain ⟨i7, j8, l9⟩ := Kd.R_slice a9.out; subst l9; obtain ⟨j4, j2, l8⟩ := Kd.R_slice a8.out; subst l8) | ((with_reducible refine gate_callee (f := 25) rfl ?_); refine goesL_ (some 10) rfl rfl Try.func25 (by kernel_rfl) rfl #[.agg #[.int .i64 3, .slice j4 h2.length j2, .slice i7 h4.length j8]] rfl (by (try simp only [List.map_toArray, List.map_cons, List.map_nil]); first | done | rfl | (simp only [List.length_drop, List.length_take]; rfl)) ?_; (with_reducible refine (Pxd.calls 3 _ _ h2 _ _ h4 a4 a3 a0 g4 _ ?f9 ?g1 ?g2 ?g0 A1.out).mono ?_); (case f9 => repeat (first | exact (Kd.R_reads' a8.out).2.2 | (with_reducible refine Kd.C_alloc ?_ _) | (with_reducible refine Kd.C_drewN ?_ _) | (with_reducible refine Kd.C_drew ?_))); (case g1 => exact (Kd.R_reads' a8.out).2.1); (case g2 => repeat (first | exact (Kd.R_reads' a9.out).2.2 | (with_reducible refine Kd.C_alloc ?_ _) | (with_reducible refine Kd.C_drewN ?_ _) | (with_reducible refine Kd.C_drew ?_))); (case g0 => exact (Kd.R_reads' a9.out).2.1); rintro e w26 ⟨q5, r8, rfl, e5, j6, hb⟩; refine ⟨_, rfl, ?_⟩; have b9 := Aside0.mk (Kd.R_elder' (by (with_reducible repeat (first | apply Kd.R_alloc | apply Kd.R_drewN | apply Kd.R_drew)); exact a8.out) (Kd.R_base e5) hb); have b8 := Aside0.mk (Kd.R_elder' (by (with_reducible repeat (first | apply Kd.R_alloc | apply Kd.R_drewN | apply Kd.R_drew)); exact a9.out) (Kd.R_base j6) hb); have c7 := Aside0.mk (Kd.R_lower (Kd.R_new' e5 (Kd.R_lt (by (with_reducible repeat (first | apply Kd.R_alloc | apply Kd.R_drewN | apply Kd.R_drew)); exact a8.out))) (below_size (by repeat (first | (with_reducible first | exact HB.out | apply below_alloc | apply pw_below_drewN | apply below_drew1) | exact HB.out)))); have d1 := Aside0.mk (Kd.R_lower (Kd.R_new' j6 (Kd.R_lt (by (with_reducible repeat (first | apply Kd.R_alloc | apply Kd.R_drewN | apply Kd.R_drew)); exact a9.out))) (below_size (by repeat (first | (with_reducible first | exact HB.out | apply below_alloc | apply pw_below_drewN | apply below_drew1) | exact HB.out)))); have d2 := Aside0.mk (below_step (by repeat (first | (with_reducible first | exact HB.out | apply below_alloc | apply pw_below_drewN | apply below_drew1) | exact HB.out)) hb); clear a8; clear a9; clear HB; have a8 := b9; have a9 := b8; have a7 := c7; have a6 := d1; have HB := d2; clear b9 b8 c7 d1 d2; (try clear hb); (try clear hb2); (try clear hk); (try clear hi); (try clear e5); (try clear j6)) | ((with_reducible refine gate_dst (N := 1) rfl ?_); (try (refine gate_guard (by rfl) ?_; dsimp only)); refine box_event ?hg (N := 1) ?hd (cs := #[.int .i64 0, .slice none 0 0, .slice none 0 0]) (t := 25) ?hr ?_; (case hd => rfl); (case hg => rfl); (case hr => first | (go_simp; done) | (go_simp; rfl)); intro a5 hg w27 hbox hb; have b9 := Aside0.mk (Kd.R_below (by (with_reducible repeat (first | apply Kd.R_alloc | apply Kd.R_drewN | apply Kd.R_drew)); exact a8.out) hb); have b8 := Aside0.mk (Kd.R_below (by (with_reducible repeat (first | apply Kd.R_alloc | apply Kd.R_drewN | apply Kd.R_drew)); exact a9.out) hb); have c7 := Aside0.mk (Kd.R_below (by (with_reducible repeat (first | apply Kd.R_alloc | apply Kd.R_drewN | apply Kd.R_drew)); exact a7.out) hb); have d1 := Aside0.mk (Kd.R_below (by (with_reducible repeat (first | apply Kd.R_alloc | apply Kd.R_drewN | apply Kd.R_drew)); exact a6.out) hb); have d2 := Aside0.mk (below_step (by repeat (first | (with_reducible first | exact HB.out | apply below_alloc | apply pw_below_drewN | apply below_drew1) | exact HB.out)) hb); have d6 := Aside0.mk (hbox); have d8 := Aside0.mk ((by rw [hg]; exact (below_size (by repeat (first | (with_reducible first | exact HB.out | apply below_alloc | apply pw_below_drewN | apply below_drew1) | exact HB.out))) : w.heap.size ≤ a5)); have e1 := Aside0.mk ((by rw [hg]; exact (below_size (by repeat (first | (with_reducible first | exact HB.out | apply below_alloc | apply pw_below_drewN | apply below_drew1) | exact HB.out))) : w.heap.size ≤ a5)); clear a8; clear a9; clear a7; clear a6; clear HB; have a8 := b9; have a9 := b8; have a7 := c7; have a6 := d1; have HB := d2; have a1 := d6; have p5 := d8; have d7 := e1; clear b9 b8 c7 d1 d2 d6 d8 e1; clear hb hbox hg; have o3 : w27.cell? ⟨a5, 0, none⟩ = some (.int .i64 0) := (blk_cell a1.out 0).trans rfl; have m2 : w27.cell? ⟨a5, 1, none⟩ = some (.slice none 0 0) := (blk_cell a1.out 1).trans rfl; have o4 : w27.cell? ⟨a5, 2, none⟩ = some (.slice none 0 0) := (blk_cell a1.out 2).trans rfl; have n5 := blk_frozen a1.out 0; have m3 := blk_frozen a1.out 1; have o2 := blk_frozen a1.out 2; obtain ⟨d3, d0, k8⟩ := Kd.R_slice a7.out; subst k8; obtain ⟨q8, d4, l5⟩ := Kd.R_slice a6.out; subst l5; have h5 : 0 ≤ (0 : Int) := (by omega); have h6 : 0 < (a0.length : Int) := of_decide_eq_true (by first | (with_reducible assumption) | assumption); obtain ⟨b5, l7, e8, e7, e6⟩ := at_T51 (Kd.R_reads' a6.out).2.2 0 h5 h6; cases l7; have p6 : (0 < a0.length) = True := eq_true (by omega); (try rw [show ((0 : Int)).toNat = 0 from rfl] at e8); (try rw [show 0 * 3 = 0 from rfl] at e8); (try rw [Addr.add_zero'] at e8); (try rw [show ((0 : Int)).toNat = 0 from rfl] at e7); (try rw [show 0 * 3 = 0 from rfl] at e7); (try rw [Addr.add_zero'] at e7); (try rw [show ((0 : Int)).toNat = 0 from rfl] at e6); (try rw [show 0 * 3 = 0 from rfl] at e6); (try rw [Addr.add_zero'] at e6); have e2 : b5.block ≠ a5 := Kd.own_blk (Kd.R_ne a6.out a1.out (by decide)); have e4 : b5.block ≠ a5 := Kd.own_blk (Kd.R_ne a6.out a1.out (by decide)); have e3 : b5.block ≠ a5 := Kd.own_blk (Kd.R_ne a6.out a1.out (by decide)); replace e8 := (cell_far (p := ⟨a5, 0, none⟩) (by first | (rw [add_block]; exact e2) | (show (Addr.add _ _).block ≠ _; rw [add_block]; exact e2) | exact e2) (.int .i64 a4)).trans e8; replace e7 := (cell_far (p := ⟨a5, 0, none⟩) (by first | (rw [add_block]; exact e2) | (show (Addr.add _ _).block ≠ _; rw [add_block]; exact e2) | exact e2) (.int .i64 a4)).trans e7; replace e6 := (cell_far (p := ⟨a5, 0, none⟩) (by first | (rw [add_block]; exact e2) | (show (Addr.add _ _).block ≠ _; rw [add_block]; exact e2) | exact e2) (.int .i64 a4)).trans e6; replace e8 := (cell_far (p := ⟨a5, 1, none⟩) (by first | (rw [add_block]; exact e4) | (show (Addr.add _ _).block ≠ _; rw [add_block]; exact e4) | exact e4) (.slice d3 a3.length d0)).trans e8; replace e7 := (cell_far (p := ⟨a5, 1, none⟩) (by first | (rw [add_block]; exact e4) | (show (Addr.add _ _).block ≠ _; rw [add_block]; exact e4) | exact e4) (.slice d3 a3.length d0)).trans e7; replace e6 := (cell_far (p := ⟨a5, 1, none⟩) (by first | (rw [add_block]; exact e4) | (show (Addr.add _ _).block ≠ _; rw [add_block]; exact e4) | exact e4) (.slice d3 a3.length d0)).trans e6; replace e8 := (cell_far (p := ⟨a5, 2, none⟩) (by first | (rw [add_block]; exact e3) | (show (Addr.add _ _).block ≠ _; rw [add_block]; exact e3) | exact e3) (.slice (some b5) a0.length d4)).trans e8; replace e7 := (cell_far (p := ⟨a5, 2, none⟩) (by first | (rw [add_block]; exact e3) | (show (Addr.add _ _).block ≠ _; rw [add_block]; exact e3) | exact e3) (.slice (some b5) a0.length d4)).trans e7; replace e6 := (cell_far (p := ⟨a5, 2, none⟩) (by first | (rw [add_block]; exact e3) | (show (Addr.add _ _).block ≠ _; rw [add_block]; exact e3) | exact e3) (.slice (some b5) a0.length d4)).trans e6; clear e2; clear e4; clear e3; replace h5 := eq_true h5; replace h6 := eq_true h6) | (go_at_call 34; (with_reducible refine (Pxa.calls a4 _ _ a3 _ _ a0 0 f8 _ ?f9 ?g1 ?g2 ?g0 A6.out).mono ?_); (case f9 => refine (Kd.R_reads' (e := 9) (base := w.heap.size) (ok := fun k_ => (True ∧ some k_ ≠ (.slice j4 h2.length j2 : Value).ownBlock)) (n := a3.length) (c := d0) ?_).2.2; exact (by (with_reducible repeat (first | apply Kd.R_alloc | apply Kd.R_drewN | apply Kd.R_drew)); exact (Kd.R_mono (Kd.R_far (p := ⟨a5, 2, none⟩) (Kd.R_far (p := ⟨a5, 1, none⟩) (Kd.R_far (p := ⟨a5, 0, none⟩) (Kd.R_types a7.out a1.out (by decide)) (fun _ hk => hk.2) (.int .i64 a4)) (fun _ hk => hk.2) (.slice d3 a3.length d0)) (fun _ hk => hk.2) (.slice (some b5) a0.length d4)) (fun _ h_ => h_.1)))); (case g1 => exact (Kd.R_reads' a7.out).2.1); (case g2 => refine (Kd.R_reads' (e := 51) (base := w.heap.size) (ok := fun k_ => (True ∧ some k_ ≠ (.slice i7 h4.length j8 : Value).ownBlock)) (n := a0.length) (c := d4) ?_).2.2; exact (by (with_reducible repeat (first | apply Kd.R_alloc | apply Kd.R_drewN | apply Kd.R_drew)); exact (Kd.R_mono (Kd.R_far (p := ⟨a5, 2, none⟩) (Kd.R_far (p := ⟨a5, 1, none⟩) (Kd.R_far (p := ⟨a5, 0, none⟩) (Kd.R_types a6.out a1.out (by decide)) (fun _ hk => hk.2) (.int .i64 a4)) (fun _ hk => hk.2) (.slice d3 a3.length d0)) (fun _ hk => hk.2) (.slice (some b5) a0.length d4)) (fun _ h_ => h_.1)))); (case g0 => exact (Kd.R_reads' a6.out).2.1); rintro e w31 ⟨s0, rfl, e5, hb⟩; have b9 := Aside0.mk (Kd.R_below (by (with_reducible repeat (first | apply Kd.R_alloc | apply Kd.R_drewN | apply Kd.R_drew)); exact (Kd.R_mono (Kd.R_far (p := ⟨a5, 2, none⟩) (Kd.R_far (p := ⟨a5, 1, none⟩) (Kd.R_far (p := ⟨a5, 0, none⟩) (Kd.R_types a8.out a1.out (by decide)) (fun _ hk => hk.2) (.int .i64 a4)) (fun _ hk => hk.2) (.slice d3 a3.length d0)) (fun _ hk => hk.2) (.slice (some b5) a0.length d4)) (fun _ h_ => h_.1))) hb); have b8 := Aside0.mk (Kd.R_below (by (with_reducible repeat (first | apply Kd.R_alloc | apply Kd.R_drewN | apply Kd.R_drew)); exact (Kd.R_mono (Kd.R_far (p := ⟨a5, 2, none⟩) (Kd.R_far (p := ⟨a5, 1, none⟩) (Kd.R_far (p := ⟨a5, 0, none⟩) (Kd.R_types a9.out a1.out (by decide)) (fun _ hk => hk.2) (.int .i64 a4)) (fun _ hk => hk.2) (.slice d3 a3.length d0)) (fun _ hk => hk.2) (.slice (some b5) a0.length d4)) (fun _ h_ => h_.1))) hb); have c7 := Aside0.mk (Kd.R_below (by (with_reducible repeat (first | apply Kd.R_alloc | apply Kd.R_drewN | apply Kd.R_drew)); exact (Kd.R_mono (Kd.R_far (p := ⟨a5, 2, none⟩) (Kd.R_far (p := ⟨a5, 1, none⟩) (Kd.R_far (p := ⟨a5, 0, none⟩) (Kd.R_types a7.out a1.out (by decide)) (fun _ hk => hk.2) (.int .i64 a4)) (fun _ hk => hk.2) (.slice d3 a3.length d0)) (fun _ hk => hk.2) (.slice (some b5) a0.length d4)) (fun _ h_ => h_.1))) hb); have d1 := Aside0.mk (Kd.R_below (by (with_reducible repeat (first | apply Kd.R_alloc | apply Kd.R_drewN | apply Kd.R_drew)); exact (Kd.R_mono (Kd.R_far (p := ⟨a5, 2, none⟩) (Kd.R_far (p := ⟨a5, 1, none⟩) (Kd.R_far (p := ⟨a5, 0, none⟩) (Kd.R_types a6.out a1.out (by decide)) (fun _ hk => hk.2) (.int .i64 a4)) (fun _ hk => hk.2) (.slice d3 a3.length d0)) (fun _ hk => hk.2) (.slice (some b5) a0.length d4)) (fun _ h_ => h_.1))) hb); have d2 := Aside0.mk (Kd.R_lower e5 (below_size (by repeat (first | (with_reducible first | exact HB.out | apply below_alloc | apply pw_below_drewN | apply below_drew1 | refine below_set ?_ d7.out) | exact HB.out)))); have d6 := Aside0.mk (blk_below (g := a5) (o := .cells #[.int .i64 a4, .slice d3 a3.length d0, .slice (some b5) a0.length d4] 25 (0, 0)) (by (with_reducible repeat (first | refine blk_drewN ?_ _ | refine blk_drew ?_ | refine blk_alloc ?_ _)); refine blk_put (cs := #[.int .i64 a4, .slice d3 a3.length d0, .slice none 0 0]) ?_ 2 _ rfl; (with_reducible repeat (first | refine blk_drewN ?_ _ | refine blk_drew ?_ | refine blk_alloc ?_ _)); refine blk_put (cs := #[.int .i64 a4, .slice none 0 0, .slice none 0 0]) ?_ 1 _ rfl; (with_reducible repeat (first | refine blk_drewN ?_ _ | refine blk_drew ?_ | refine blk_alloc ?_ _)); refine blk_put (cs := #[.int .i64 0, .slice none 0 0, .slice none 0 0]) ?_ 0 _ rfl; (with_reducible repeat (first | refine blk_drewN ?_ _ | refine blk_drew ?_ | refine blk_alloc ?_ _)); exact a1.out) hb); have d8 := Aside0.mk (below_step (by repeat (first | (with_reducible first | exact HB.out | apply below_alloc | apply pw_below_drewN | apply below_drew1 | refine below_set ?_ d7.out) | exact HB.out)) hb); clear a8; clear a9; clear a7; clear a6; clear a1; clear HB; have a8 := b9; have a9 := b8; have a7 := c7; have a6 := d1; have b1 := d2; have a1 := d6; have HB := d8; clear b9 b8 c7 d1 d2 d6 d8; (try clear hb); (try clear hb2); (try clear hk); (try clear hi); (try clear e5)) | ((with_reducible refine gate_dst (N := 32) rfl ?_); (try (refine gate_guard (by rfl) ?_; dsimp only)); refine Kd.R_lit (Kd.int .i64) _ 3 ?hg (N := 32) ?hd (xs := ([0, 1] : List Int)) (inner := [.int .i64 0, .int .i64 1]) (ok := fun _ => True) (okp := fun _ => True) ?hr ?hp (fun _ hk => hk) trivial (Below.refl _ _) (Nat.le_refl _) (by simp) ?_; (case hd => rfl); (case hg => rfl); (case hr => first | (go_simp; done) | (go_simp; rfl)); (case hp => exact (Reps.one (show Kd.M (Kd.int .i64) _ _ _ 0 [.int .i64 0] from rfl) (Reps.one (show Kd.M (Kd.int .i64) _ _ _ 1 [.int .i64 1] from rfl) (Reps.none _ _)))); intro r6 w32 ho33 hb hg_ hnew_; clear hg_ hnew_; (first | rw [← i0.out] at ho33 | (simp only [Int.reduceToNat] at ho33; rw [← i0.out] at ho33)); have b9 := Aside0.mk (Kd.R_below (by (with_reducible repeat (first | apply Kd.R_alloc | apply Kd.R_drewN | apply Kd.R_drew)); exact a8.out) hb); have b8 := Aside0.mk (Kd.R_below (by (with_reducible repeat (first | apply Kd.R_alloc | apply Kd.R_drewN | apply Kd.R_drew)); exact a9.out) hb); have c7 := Aside0.mk (Kd.R_below (by (with_reducible repeat (first | apply Kd.R_alloc | apply Kd.R_drewN | apply Kd.R_drew)); exact a7.out) hb); have d1 := Aside0.mk (Kd.R_below (by (with_reducible repeat (first | apply Kd.R_alloc | apply Kd.R_drewN | apply Kd.R_drew)); exact a6.out) hb); have d2 := Aside0.mk (Kd.R_elder' (by (with_reducible repeat (first | apply Kd.R_alloc | apply Kd.R_drewN | apply Kd.R_drew)); exact b1.out) (Kd.R_base ho33) hb); have d6 := Aside0.mk (Kd.R_lower (Kd.R_new' ho33 (Kd.R_lt (by (with_reducible repeat (first | apply Kd.R_alloc | apply Kd.R_drewN | apply Kd.R_drew)); exact b1.out))) (below_size (by repeat (first | (with_reducible first | exact HB.out | apply below_alloc | apply pw_below_drewN | apply below_drew1 | refine below_set ?_ d7.out) | exact HB.out)))); have d8 := Aside0.mk (blk_below (g := a5) (o := .cells #[.int .i64 a4, .slice d3 a3.length d0, .slice (some b5) a0.length d4] 25 (0, 0)) (by (with_reducible repeat (first | refine blk_drewN ?_ _ | refine blk_drew ?_ | refine blk_alloc ?_ _)); exact a1.out) hb); have e1 := Aside0.mk (below_step (by repeat (first | (with_reducible first | exact HB.out | apply below_alloc | apply pw_below_drewN | apply below_drew1 | refine below_set ?_ d7.out) | exact HB.out)) hb); clear a8; clear a9; clear a7; clear a6; clear b1; clear a1; clear HB; have a8 := b9; have a9 := b8; have a7 := c7; have a6 := d1; have b1 := d2; have b3 := d6; have a1 := d8; have HB := e1; clear b9 b8 c7 d1 d2 d6 d8 e1; clear hb ho33; obtain ⟨q9, r5, k6⟩ := Kd.R_slice b1.out; subst k6; obtain ⟨s1, r0, l6⟩ := Kd.R_slice b3.out; subst l6) | (go_at_call 33; (with_reducible refine (Pr01b.calls k _ _ f8 _ _ i8 true _ ?f9 ?g1 ?g2 ?g0 A7.out).mono ?_); (case f9 => repeat (first | exact (Kd.R_reads' b1.out).2.2 | (with_reducible refine Kd.C_alloc ?_ _) | (with_reducible refine Kd.C_drewN ?_ _) | (with_reducible refine Kd.C_drew ?_))); (case g1 => exact (Kd.R_reads' b1.out).2.1); (case g2 => repeat (first | exact (Kd.R_reads' b3.out).2.2 | (with_reducible refine Kd.C_alloc ?_ _) | (with_reducible refine Kd.C_drewN ?_ _) | (with_reducible refine Kd.C_drew ?_))); (case g0 => exact (Kd.R_reads' b3.out).2.1); rintro e w' ⟨rfl, ⟨nd, rfl⟩⟩; have o9 : w32.cell? ⟨a5, 0, none⟩ = some (.int .i64 a4) := (blk_cell a1.out 0).trans rfl; have n4 : w32.cell? ⟨a5, 1, none⟩ = some (.slice d3 a3.length d0) := (blk_cell a1.out 1).trans rfl; have o7 : w32.cell? ⟨a5, 2, none⟩ = some (.slice (some b5) a0.length d4) := (blk_cell a1.out 2).trans rfl; have o1 := blk_frozen a1.out 0; have m6 := blk_frozen a1.out 1; have m7 := blk_frozen a1.out 2) | (go_at_call 29; (with_reducible refine (Pxe.calls k a4 _ _ a3 _ _ a0 1 0 e0 _ ?f9 ?g1 ?g2 ?g0 A9.out).mono ?_); (case f9 => repeat (first | exact (Kd.R_reads' a7.out).2.2 | (with_reducible refine Kd.C_alloc ?_ _) | (with_reducible refine Kd.C_drewN ?_ _) | (with_reducible refine Kd.C_drew ?_))); (case g1 => exact (Kd.R_reads' a7.out).2.1); (case g2 => repeat (first | exact (Kd.R_reads' a6.out).2.2 | (with_reducible refine Kd.C_alloc ?_ _) | (with_reducible refine Kd.C_drewN ?_ _) | (with_reducible refine Kd.C_drew ?_))); (case g0 => exact (Kd.R_reads' a6.out).2.1); rintro e w37 ⟨r7, rfl, e5, hb⟩; have b9 := Aside0.mk (Kd.R_below (by (with_reducible repeat (first | apply Kd.R_alloc | apply Kd.R_drewN | apply Kd.R_drew)); exact a8.out) hb); have b8 := Aside0.mk (Kd.R_below (by (with_reducible repeat (first | apply Kd.R_alloc | apply Kd.R_drewN | apply Kd.R_drew)); exact a9.out) hb); have c7 := Aside0.mk (Kd.R_below (by (with_reducible repeat (first | apply Kd.R_alloc | apply Kd.R_drewN | apply Kd.R_drew)); exact a7.out) hb); have d1 := Aside0.mk (Kd.R_below (by (with_reducible repeat (first | apply Kd.R_alloc | apply Kd.R_drewN | apply Kd.R_drew)); exact a6.out) hb); have d2 := Aside0.mk (Kd.R_elder' (by (with_reducible repeat (first | apply Kd.R_alloc | apply Kd.R_drewN | apply Kd.R_drew)); exact b1.out) (Kd.R_base e5) hb); have d6 := Aside0.mk (Kd.R_elder' (by (with_reducible repeat (first | apply Kd.R_alloc | apply Kd.R_drewN | apply Kd.R_drew)); exact b3.out) (Kd.R_base e5) hb); have d8 := Aside0.mk (Kd.R_lower (Kd.R_new' (Kd.R_new' e5 (Kd.R_lt (by (with_reducible repeat (first | apply Kd.R_alloc | apply Kd.R_drewN | apply Kd.R_drew)); exact b1.out))) (Kd.R_lt (by (with_reducible repeat (first | apply Kd.R_alloc | apply Kd.R_drewN | apply Kd.R_drew)); exact b3.out))) (below_size (by repeat (first | (with_reducible first | exact HB.out | apply below_alloc | apply pw_below_drewN | apply below_drew1 | refine below_set ?_ d7.out) | exact HB.out)))); have e1 := Aside0.mk (blk_below (g := a5) (o := .cells #[.int .i64 a4, .slice d3 a3.length d0, .slice (some b5) a0.length d4] 25 (0, 0)) (by (with_reducible repeat (first | refine blk_drewN ?_ _ | refine blk_drew ?_ | refine blk_alloc ?_ _)); exact a1.out) hb); have f3 := Aside0.mk (below_step (by repeat (first | (with_reducible first | exact HB.out | apply below_alloc | apply pw_below_drewN | apply below_drew1 | refine below_set ?_ d7.out) | exact HB.out)) hb); clear a8; clear a9; clear a7; clear a6; clear b1; clear b3; clear a1; clear HB; have a8 := b9; have a9 := b8; have a7 := c7; have a6 := d1; have b1 := d2; have b3 := d6; have b6 := d8; have a1 := e1; have HB := f3; clear b9 b8 c7 d1 d2 d6 d8 e1 f3; (try clear hb); (try clear hb2); (try clear hk); (try clear hi); (try clear e5)) | ((with_reducible refine gate_dst (N := 38) rfl ?_); (try (refine gate_guard (by rfl) ?_; dsimp only)); refine Kd.R_lit (Kd.int .i64) _ 3 ?hg (N := 38) ?hd (xs := ([0, 1] : List Int)) (inner := [.int .i64 0, .int .i64 1]) (ok := fun _ => True) (okp := fun _ => True) ?hr ?hp (fun _ hk => hk) trivial (Below.refl _ _) (Nat.le_refl _) (by simp) ?_; (case hd => rfl); (case hg => rfl); (case hr => first | (go_simp; done) | (go_simp; rfl)); (case hp => exact (Reps.one (show Kd.M (Kd.int .i64) _ _ _ 0 [.int .i64 0] from rfl) (Reps.one (show Kd.M (Kd.int .i64) _ _ _ 1 [.int .i64 1] from rfl) (Reps.none _ _)))); intro q6 w38 ho39 hb hg_ hnew_; clear hg_ hnew_; (first | rw [← i2.out] at ho39 | (simp only [Int.reduceToNat] at ho39; rw [← i2.out] at ho39)); have b9 := Aside0.mk (Kd.R_below (by (with_reducible repeat (first | apply Kd.R_alloc | apply Kd.R_drewN | apply Kd.R_drew)); exact a8.out) hb); have b8 := Aside0.mk (Kd.R_below (by (with_reducible repeat (first | apply Kd.R_alloc | apply Kd.R_drewN | apply Kd.R_drew)); exact a9.out) hb); have c7 := Aside0.mk (Kd.R_below (by (with_reducible repeat (first | apply Kd.R_alloc | apply Kd.R_drewN | apply Kd.R_drew)); exact a7.out) hb); have d1 := Aside0.mk (Kd.R_below (by (with_reducible repeat (first | apply Kd.R_alloc | apply Kd.R_drewN | apply Kd.R_drew)); exact a6.out) hb); have d2 := Aside0.mk (Kd.R_elder' (by (with_reducible repeat (first | apply Kd.R_alloc | apply Kd.R_drewN | apply Kd.R_drew)); exact b1.out) (Kd.R_base ho39) hb); have d6 := Aside0.mk (Kd.R_elder' (by (with_reducible repeat (first | apply Kd.R_alloc | apply Kd.R_drewN | apply Kd.R_drew)); exact b3.out) (Kd.R_base ho39) hb); have d8 := Aside0.mk (Kd.R_elder' (by (with_reducible repeat (first | apply Kd.R_alloc | apply Kd.R_drewN | apply Kd.R_drew)); exact b6.out) (Kd.R_base ho39) hb); have e1 := Aside0.mk (Kd.R_lower (Kd.R_new' (Kd.R_new' (Kd.R_new' ho39 (Kd.R_lt (by (with_reducible repeat (first | apply Kd.R_alloc | apply Kd.R_drewN | apply Kd.R_drew)); exact b1.out))) (Kd.R_lt (by (with_reducible repeat (first | apply Kd.R_alloc | apply Kd.R_drewN | apply Kd.R_drew)); exact b3.out))) (Kd.R_lt (by (with_reducible repeat (first | apply Kd.R_alloc | apply Kd.R_drewN | apply Kd.R_drew)); exact b6.out))) (below_size (by repeat (first | (with_reducible first | exact HB.out | apply below_alloc | apply pw_below_drewN | apply below_drew1 | refine below_set ?_ d7.out) | exact HB.out)))); have f3 := Aside0.mk (blk_below (g := a5) (o := .cells #[.int .i64 a4, .slice d3 a3.length d0, .slice (some b5) a0.length d4] 25 (0, 0)) (by (with_reducible repeat (first | refine blk_drewN ?_ _ | refine blk_drew ?_ | refine blk_alloc ?_ _)); exact a1.out) hb); have f7 := Aside0.mk (below_step (by repeat (first | (with_reducible first | exact HB.out | apply below_alloc | apply pw_below_drewN | apply below_drew1 | refine below_set ?_ d7.out) | exact HB.out)) hb); clear a8; clear a9; clear a7; clear a6; clear b1; clear b3; clear b6; clear a1; clear HB; have a8 := b9; have a9 := b8; have a7 := c7; have a6 := d1; have b1 := d2; have b3 := d6; have b6 := d8; have c9 := e1; have a1 := f3; have HB := f7; clear b9 b8 c7 d1 d2 d6 d8 e1 f3 f7; clear hb ho39; obtain ⟨p9, q1, l4⟩ := Kd.R_slice b6.out; subst l4; obtain ⟨s4, p7, k9⟩ := Kd.R_slice c9.out; subst k9) | (go_at_call 33; (with_reducible refine (Pr01b.calls k _ _ e0 _ _ j9 true _ ?f9 ?g1 ?g2 ?g0 i1.out).mono ?_); (case f9 => repeat (first | exact (Kd.R_reads' b6.out).2.2 | (with_reducible refine Kd.C_alloc ?_ _) | (with_reducible refine Kd.C_drewN ?_ _) | (with_reducible refine Kd.C_drew ?_))); (case g1 => exact (Kd.R_reads' b6.out).2.1); (case g2 => repeat (first | exact (Kd.R_reads' c9.out).2.2 | (with_reducible refine Kd.C_alloc ?_ _) | (with_reducible refine Kd.C_drewN ?_ _) | (with_reducible refine Kd.C_drew ?_))); (case g0 => exact (Kd.R_reads' c9.out).2.1); rintro e w' ⟨rfl, ⟨nd, rfl⟩⟩; have o5 : w38.cell? ⟨a5, 0, none⟩ = some (.int .i64 a4) := (blk_cell a1.out 0).trans rfl; have n0 : w38.cell? ⟨a5, 1, none⟩ = some (.slice d3 a3.length d0) := (blk_cell a1.out 1).trans rfl; have n6 : w38.cell? ⟨a5, 2, none⟩ = some (.slice (some b5) a0.length d4) := (blk_cell a1.out 2).trans rfl; have m8 := blk_frozen a1.out 0; have o8 := blk_frozen a1.out 1; have n7 := blk_frozen a1.out 2) | (go_at_call 28; (with_reducible refine (Pxf.calls k a4 _ _ a3 _ _ a0 0 0 c6 _ ?f9 ?g1 ?g2 ?g0 p2.out).mono ?_); (case f9 => repeat (first | exact (Kd.R_reads' a7.out).2.2 | (with_reducible refine Kd.C_alloc ?_ _) | (with_reducible refine Kd.C_drewN ?_ _) | (with_reducible refine Kd.C_drew ?_))); (case g1 => exact (Kd.R_reads' a7.out).2.1); (case g2 => repeat (first | exact (Kd.R_reads' a6.out).2.2 | (with_reducible refine Kd.C_alloc ?_ _) | (with_reducible refine Kd.C_drewN ?_ _) | (with_reducible refine Kd.C_drew ?_))); (case g0 => exact (Kd.R_reads' a6.out).2.1); rintro e w43 ⟨r1, rfl, e5, hb⟩; have b9 := Aside0.mk (Kd.R_below (by (with_reducible repeat (first | apply Kd.R_alloc | apply Kd.R_drewN | apply Kd.R_drew)); exact a8.out) hb); have b8 := Aside0.mk (Kd.R_below (by (with_reducible repeat (first | apply Kd.R_alloc | apply Kd.R_drewN | apply Kd.R_drew)); exact a9.out) hb); have c7 := Aside0.mk (Kd.R_below (by (with_reducible repeat (first | apply Kd.R_alloc | apply Kd.R_drewN | apply Kd.R_drew)); exact a7.out) hb); have d1 := Aside0.mk (Kd.R_below (by (with_reducible repeat (first | apply Kd.R_alloc | apply Kd.R_drewN | apply Kd.R_drew)); exact a6.out) hb); have d2 := Aside0.mk (Kd.R_elder' (by (with_reducible repeat (first | apply Kd.R_alloc | apply Kd.R_drewN | apply Kd.R_drew)); exact b1.out) (Kd.R_base e5) hb); have d6 := Aside0.mk (Kd.R_elder' (by (with_reducible repeat (first | apply Kd.R_alloc | apply Kd.R_drewN | apply Kd.R_drew)); exact b3.out) (Kd.R_base e5) hb); have d8 := Aside0.mk (Kd.R_elder' (by (with_reducible repeat (first | apply Kd.R_alloc | apply Kd.R_drewN | apply Kd.R_drew)); exact b6.out) (Kd.R_base e5) hb); have e1 := Aside0.mk (Kd.R_elder' (by (with_reducible repeat (first | apply Kd.R_alloc | apply Kd.R_drewN | apply Kd.R_drew)); exact c9.out) (Kd.R_base e5) hb); have f3 := Aside0.mk (Kd.R_lower (Kd.R_new' (Kd.R_new' (Kd.R_new' (Kd.R_new' e5 (Kd.R_lt (by (with_reducible repeat (first | apply Kd.R_alloc | apply Kd.R_drewN | apply Kd.R_drew)); exact b1.out))) (Kd.R_lt (by (with_reducible repeat (first | apply Kd.R_alloc | apply Kd.R_drewN | apply Kd.R_drew)); exact b3.out))) (Kd.R_lt (by (with_reducible repeat (first | apply Kd.R_alloc | apply Kd.R_drewN | apply Kd.R_drew)); exact b6.out))) (Kd.R_lt (by (with_reducible repeat (first | apply Kd.R_alloc | apply Kd.R_drewN | apply Kd.R_drew)); exact c9.out))) (below_size (by repeat (first | (with_reducible first | exact HB.out | apply below_alloc | apply pw_below_drewN | apply below_drew1 | refine below_set ?_ d7.out) | exact HB.out)))); have f7 := Aside0.mk (blk_below (g := a5) (o := .cells #[.int .i64 a4, .slice d3 a3.length d0, .slice (some b5) a0.length d4] 25 (0, 0)) (by (with_reducible repeat (first | refine blk_drewN ?_ _ | refine blk_drew ?_ | refine blk_alloc ?_ _)); exact a1.out) hb); have f6 := Aside0.mk (below_step (by repeat (first | (with_reducible first | exact HB.out | apply below_alloc | apply pw_below_drewN | apply below_drew1 | refine below_set ?_ d7.out) | exact HB.out)) hb); clear a8; clear a9; clear a7; clear a6; clear b1; clear b3; clear b6; clear c9; clear a1; clear HB; have a8 := b9; have a9 := b8; have a7 := c7; have a6 := d1; have b1 := d2; have b3 := d6; have b6 := d8; have c9 := e1; have d9 := f3; have a1 := f7; have HB := f6; clear b9 b8 c7 d1 d2 d6 d8 e1 f3 f7 f6; (try clear hb); (try clear hb2); (try clear hk); (try clear hi); (try clear e5)) | ((with_reducible refine gate_dst (N := 44) rfl ?_); (try (refine gate_guard (by rfl) ?_; dsimp only)); refine Kd.R_lit (Kd.int .i64) _ 3 ?hg (N := 44) ?hd (xs := ([1] : List Int)) (inner := [.int .i64 1]) (ok := fun _ => True) (okp := fun _ => True) ?hr ?hp (fun _ hk => hk) trivial (Below.refl _ _) (Nat.le_refl _) (by simp) ?_; (case hd => rfl); (case hg => rfl); (case hr => first | (go_simp; done) | (go_simp; rfl)); (case hp => exact (Reps.one (show Kd.M (Kd.int .i64) _ _ _ 1 [.int .i64 1] from rfl) (Reps.none _ _))); intro r3 w44 ho45 hb hg_ hnew_; clear hg_ hnew_; (first | rw [← i3.out] at ho45 | (simp only [Int.reduceToNat] at ho45; rw [← i3.out] at ho45)); have b9 := Aside0.mk (Kd.R_below (by (with_reducible repeat (first | apply Kd.R_alloc | apply Kd.R_drewN | apply Kd.R_drew)); exact a8.out) hb); have b8 := Aside0.mk (Kd.R_below (by (with_reducible repeat (first | apply Kd.R_alloc | apply Kd.R_drewN | apply Kd.R_drew)); exact a9.out) hb); have c7 := Aside0.mk (Kd.R_below (by (with_reducible repeat (first | apply Kd.R_alloc | apply Kd.R_drewN | apply Kd.R_drew)); exact a7.out) hb); have d1 := Aside0.mk (Kd.R_below (by (with_reducible repeat (first | apply Kd.R_alloc | apply Kd.R_drewN | apply Kd.R_drew)); exact a6.out) hb); have d2 := Aside0.mk (Kd.R_elder' (by (with_reducible repeat (first | apply Kd.R_alloc | apply Kd.R_drewN | apply Kd.R_drew)); exact b1.out) (Kd.R_base ho45) hb); have d6 := Aside0.mk (Kd.R_elder' (by (with_reducible repeat (first | apply Kd.R_alloc | apply Kd.R_drewN | apply Kd.R_drew)); exact b3.out) (Kd.R_base ho45) hb); have d8 := Aside0.mk (Kd.R_elder' (by (with_reducible repeat (first | apply Kd.R_alloc | apply Kd.R_drewN | apply Kd.R_drew)); exact b6.out) (Kd.R_base ho45) hb); have e1 := Aside0.mk (Kd.R_elder' (by (with_reducible repeat (first | apply Kd.R_alloc | apply Kd.R_drewN | apply Kd.R_drew)); exact c9.out) (Kd.R_base ho45) hb); have f3 := Aside0.mk (Kd.R_elder' (by (with_reducible repeat (first | apply Kd.R_alloc | apply Kd.R_drewN | apply Kd.R_drew)); exact d9.out) (Kd.R_base ho45) hb); have f7 := Aside0.mk (Kd.R_lower (Kd.R_new' (Kd.R_new' (Kd.R_new' (Kd.R_new' (Kd.R_new' ho45 (Kd.R_lt (by (with_reducible repeat (first | apply Kd.R_alloc | apply Kd.R_drewN | apply Kd.R_drew)); exact b1.out))) (Kd.R_lt (by (with_reducible repeat (first | apply Kd.R_alloc | apply Kd.R_drewN | apply Kd.R_drew)); exact b3.out))) (Kd.R_lt (by (with_reducible repeat (first | apply Kd.R_alloc | apply Kd.R_drewN | apply Kd.R_drew)); exact b6.out))) (Kd.R_lt (by (with_reducible repeat (first | apply Kd.R_alloc | apply Kd.R_drewN | apply Kd.R_drew)); exact c9.out))) (Kd.R_lt (by (with_reducible repeat (first | apply Kd.R_alloc | apply Kd.R_drewN | apply Kd.R_drew)); exact d9.out))) (below_size (by repeat (first | (with_reducible first | exact HB.out | apply below_alloc | apply pw_below_drewN | apply below_drew1 | refine below_set ?_ d7.out) | exact HB.out)))); have f6 := Aside0.mk (blk_below (g := a5) (o := .cells #[.int .i64 a4, .slice d3 a3.length d0, .slice (some b5) a0.length d4] 25 (0, 0)) (by (with_reducible repeat (first | refine blk_drewN ?_ _ | refine blk_drew ?_ | refine blk_alloc ?_ _)); exact a1.out) hb); have g3 := Aside0.mk (below_step (by repeat (first | (with_reducible first | exact HB.out | apply below_alloc | apply pw_below_drewN | apply below_drew1 | refine below_set ?_ d7.out) | exact HB.out)) hb); clear a8; clear a9; clear a7; clear a6; clear b1; clear b3; clear b6; clear c9; clear d9; clear a1; clear HB; have a8 := b9; have a9 := b8; have a7 := c7; have a6 := d1; have b1 := d2; have b3 := d6; have b6 := d8; have c9 := e1; have d9 := f3; have e9 := f7; have a1 := f6; have HB := g3; clear b9 b8 c7 d1 d2 d6 d8 e1 f3 f7 f6 g3; clear hb ho45; obtain ⟨q0, q2, k5⟩ := Kd.R_slice d9.out; subst k5; obtain ⟨q3, s3, l3⟩ := Kd.R_slice e9.out; subst l3) | (go_at_call 33; (with_reducible refine (Pr01b.calls k _ _ c6 _ _ i6 true _ ?f9 ?g1 ?g2 ?g0 p1.out).mono ?_); (case f9 => repeat (first | exact (Kd.R_reads' d9.out).2.2 | (with_reducible refine Kd.C_alloc ?_ _) | (with_reducible refine Kd.C_drewN ?_ _) | (with_reducible refine Kd.C_drew ?_))); (case g1 => exact (Kd.R_reads' d9.out).2.1); (case g2 => repeat (first | exact (Kd.R_reads' e9.out).2.2 | (with_reducible refine Kd.C_alloc ?_ _) | (with_reducible refine Kd.C_drewN ?_ _) | (with_reducible refine Kd.C_drew ?_))); (case g0 => exact (Kd.R_reads' e9.out).2.1); rintro e w' ⟨rfl, ⟨nd, rfl⟩⟩; have n2 : w44.cell? ⟨a5, 0, none⟩ = some (.int .i64 a4) := (blk_cell a1.out 0).trans rfl; have n1 : w44.cell? ⟨a5, 1, none⟩ = some (.slice d3 a3.length d0) := (blk_cell a1.out 1).trans rfl; have n3 : w44.cell? ⟨a5, 2, none⟩ = some (.slice (some b5) a0.length d4) := (blk_cell a1.out 2).trans rfl; have m1 := blk_frozen a1.out 0; have n8 := blk_frozen a1.out 1; have m0 := blk_frozen a1.out 2) | (go_at_call 31; (with_reducible refine (Pxb.calls k a4 _ _ a3 _ _ a0 true _ ?f9 ?g1 ?g2 ?g0 p4.out).mono ?_); (case f9 => repeat (first | exact (Kd.R_reads' a7.out).2.2 | (with_reducible refine Kd.C_alloc ?_ _) | (with_reducible refine Kd.C_drewN ?_ _) | (with_reducible refine Kd.C_drew ?_))); (case g1 => exact (Kd.R_reads' a7.out).2.1); (case g2 => repeat (first | exact (Kd.R_reads' a6.out).2.2 | (with_reducible refine Kd.C_alloc ?_ _) | (with_reducible refine Kd.C_drewN ?_ _) | (with_reducible refine Kd.C_drew ?_))); (case g0 => exact (Kd.R_reads' a6.out).2.1); rintro e w49 ⟨rfl, hb⟩; have b9 := Aside0.mk (Kd.R_below (by (with_reducible repeat (first | apply Kd.R_alloc | apply Kd.R_drewN | apply Kd.R_drew)); exact a8.out) hb); have b8 := Aside0.mk (Kd.R_below (by (with_reducible repeat (first | apply Kd.R_alloc | apply Kd.R_drewN | apply Kd.R_drew)); exact a9.out) hb); have c7 := Aside0.mk (Kd.R_below (by (with_reducible repeat (first | apply Kd.R_alloc | apply Kd.R_drewN | apply Kd.R_drew)); exact a7.out) hb); have d1 := Aside0.mk (Kd.R_below (by (with_reducible repeat (first | apply Kd.R_alloc | apply Kd.R_drewN | apply Kd.R_drew)); exact a6.out) hb); have d2 := Aside0.mk (Kd.R_below (by (with_reducible repeat (first | apply Kd.R_alloc | apply Kd.R_drewN | apply Kd.R_drew)); exact b1.out) hb); have d6 := Aside0.mk (Kd.R_below (by (with_reducible repeat (first | apply Kd.R_alloc | apply Kd.R_drewN | apply Kd.R_drew)); exact b3.out) hb); have d8 := Aside0.mk (Kd.R_below (by (with_reducible repeat (first | apply Kd.R_alloc | apply Kd.R_drewN | apply Kd.R_drew)); exact b6.out) hb); have e1 := Aside0.mk (Kd.R_below (by (with_reducible repeat (first | apply Kd.R_alloc | apply Kd.R_drewN | apply Kd.R_drew)); exact c9.out) hb); have f3 := Aside0.mk (Kd.R_below (by (with_reducible repeat (first | apply Kd.R_alloc | apply Kd.R_drewN | apply Kd.R_drew)); exact d9.out) hb); have f7 := Aside0.mk (Kd.R_below (by (with_reducible repeat (first | apply Kd.R_alloc | apply Kd.R_drewN | apply Kd.R_drew)); exact e9.out) hb); have f6 := Aside0.mk (blk_below (g := a5) (o := .cells #[.int .i64 a4, .slice d3 a3.length d0, .slice (some b5) a0.length d4] 25 (0, 0)) (by (with_reducible repeat (first | refine blk_drewN ?_ _ | refine blk_drew ?_ | refine blk_alloc ?_ _)); exact a1.out) hb); have g3 := Aside0.mk (below_step (by repeat (first | (with_reducible first | exact HB.out | apply below_alloc | apply pw_below_drewN | apply below_drew1 | refine below_set ?_ d7.out) | exact HB.out)) hb); clear a8; clear a9; clear a7; clear a6; clear b1; clear b3; clear b6; clear c9; clear d9; clear e9; clear a1; clear HB; have a8 := b9; have a9 := b8; have a7 := c7; have a6 := d1; have b1 := d2; have b3 := d6; have b6 := d8; have c9 := e1; have d9 := f3; have e9 := f7; have a1 := f6; have HB := g3; clear b9 b8 c7 d1 d2 d6 d8 e1 f3 f7 f6 g3; (try clear hb); (try clear hb2); (try clear hk); (try clear hi); have n9 : w49.cell? ⟨a5, 0, none⟩ = some (.int .i64 a4) := (blk_cell a1.out 0).trans rfl; have o6 : w49.cell? ⟨a5, 1, none⟩ = some (.slice d3 a3.length d0) := (blk_cell a1.out 1).trans rfl; have m5 : w49.cell? ⟨a5, 2, none⟩ = some (.slice (some b5) a0.length d4) := (blk_cell a1.out 2).trans rfl; have m9 := blk_frozen a1.out 0; have o0 := blk_frozen a1.out 1; have m4 := blk_frozen a1.out 2) | (go_at_call 30; (with_reducible refine (Pxg.calls a4 _ _ a3 _ _ a0 1 b0 _ ?f9 ?g1 ?g2 ?g0 p0.out).mono ?_); (case f9 => repeat (first | exact (Kd.R_reads' a7.out).2.2 | (with_reducible refine Kd.C_alloc ?_ _) | (with_reducible refine Kd.C_drewN ?_ _) | (with_reducible refine Kd.C_drew ?_))); (case g1 => exact (Kd.R_reads' a7.out).2.1); (case g2 => repeat (first | exact (Kd.R_reads' a6.out).2.2 | (with_reducible refine Kd.C_alloc ?_ _) | (with_reducible refine Kd.C_drewN ?_ _) | (with_reducible refine Kd.C_drew ?_))); (case g0 => exact (Kd.R_reads' a6.out).2.1); rintro e w51 ⟨r4, rfl, e5, hb⟩; have b9 := Aside0.mk (Kd.R_below (by (with_reducible repeat (first | apply Kd.R_alloc | apply Kd.R_drewN | apply Kd.R_drew)); exact a8.out) hb); have b8 := Aside0.mk (Kd.R_elder' (by (with_reducible repeat (first | apply Kd.R_alloc | apply Kd.R_drewN | apply Kd.R_drew)); exact a9.out) (Kd.R_base e5) hb); have c7 := Aside0.mk (Kd.R_below (by (with_reducible repeat (first | apply Kd.R_alloc | apply Kd.R_drewN | apply Kd.R_drew)); exact a7.out) hb); have d1 := Aside0.mk (Kd.R_elder' (by (with_reducible repeat (first | apply Kd.R_alloc | apply Kd.R_drewN | apply Kd.R_drew)); exact a6.out) (Kd.R_base e5) hb); have d2 := Aside0.mk (Kd.R_below (by (with_reducible repeat (first | apply Kd.R_alloc | apply Kd.R_drewN | apply Kd.R_drew)); exact b1.out) hb); have d6 := Aside0.mk (Kd.R_below (by (with_reducible repeat (first | apply Kd.R_alloc | apply Kd.R_drewN | apply Kd.R_drew)); exact b3.out) hb); have d8 := Aside0.mk (Kd.R_below (by (with_reducible repeat (first | apply Kd.R_alloc | apply Kd.R_drewN | apply Kd.R_drew)); exact b6.out) hb); have e1 := Aside0.mk (Kd.R_below (by (with_reducible repeat (first | apply Kd.R_alloc | apply Kd.R_drewN | apply Kd.R_drew)); exact c9.out) hb); have f3 := Aside0.mk (Kd.R_below (by (with_reducible repeat (first | apply Kd.R_alloc | apply Kd.R_drewN | apply Kd.R_drew)); exact d9.out) hb); have f7 := Aside0.mk (Kd.R_below (by (with_reducible repeat (first | apply Kd.R_alloc | apply Kd.R_drewN | apply Kd.R_drew)); exact e9.out) hb); have f6 := Aside0.mk (Kd.R_lower (Kd.R_new' (Kd.R_new' e5 (Kd.R_lt (by (with_reducible repeat (first | apply Kd.R_alloc | apply Kd.R_drewN | apply Kd.R_drew)); exact a9.out))) (Kd.R_lt (by (with_reducible repeat (first | apply Kd.R_alloc | apply Kd.R_drewN | apply Kd.R_drew)); exact a6.out))) (below_size (by repeat (first | (with_reducible first | exact HB.out | apply below_alloc | apply pw_below_drewN | apply below_drew1 | refine below_set ?_ d7.out) | exact HB.out)))); have g3 := Aside0.mk (blk_below (g := a5) (o := .cells #[.int .i64 a4, .slice d3 a3.length d0, .slice (some b5) a0.length d4] 25 (0, 0)) (by (with_reducible repeat (first | refine blk_drewN ?_ _ | refine blk_drew ?_ | refine blk_alloc ?_ _)); exact a1.out) hb); have h1 := Aside0.mk (below_step (by repeat (first | (with_reducible first | exact HB.out | apply below_alloc | apply pw_below_drewN | apply below_drew1 | refine below_set ?_ d7.out) | exact HB.out)) hb); clear a8; clear a9; clear a7; clear a6; clear b1; clear b3; clear b6; clear c9; clear d9; clear e9; clear a1; clear HB; have a8 := b9; have a9 := b8; have a7 := c7; have a6 := d1; have b1 := d2; have b3 := d6; have b6 := d8; have c9 := e1; have d9 := f3; have e9 := f7; have h0 := f6; have a1 := g3; have HB := h1; clear b9 b8 c7 d1 d2 d6 d8 e1 f3 f7 f6 g3 h1; (try clear hb); (try clear hb2); (try clear hk); (try clear hi); (try clear e5); obtain ⟨s2, q4, k7⟩ := Kd.R_slice h0.out; subst k7) | (go_at_call 27; (refine (Pxc.calls 0 _ _ ([] : List ByteArray) _ _ ([] : List (S51)) b2 _ ?f9 ?g1 ?g2 ?g0 p3.out).mono ?_); (case f9 => exact Kd.C_nil _ _); (case g1 => exact Nat.le_refl _); (case g2 => exact Kd.C_nil _ _); (case g0 => exact Nat.le_refl _); rintro e w53 ⟨rfl, hb⟩; have b9 := Aside0.mk (Kd.R_below (by (with_reducible repeat (first | apply Kd.R_alloc | apply Kd.R_drewN | apply Kd.R_drew)); exact a8.out) hb); have b8 := Aside0.mk (Kd.R_below (by (with_reducible repeat (first | apply Kd.R_alloc | apply Kd.R_drewN | apply Kd.R_drew)); exact a9.out) hb); have c7 := Aside0.mk (Kd.R_below (by (with_reducible repeat (first | apply Kd.R_alloc | apply Kd.R_drewN | apply Kd.R_drew)); exact a7.out) hb); have d1 := Aside0.mk (Kd.R_below (by (with_reducible repeat (first | apply Kd.R_alloc | apply Kd.R_drewN | apply Kd.R_drew)); exact a6.out) hb); have d2 := Aside0.mk (Kd.R_below (by (with_reducible repeat (first | apply Kd.R_alloc | apply Kd.R_drewN | apply Kd.R_drew)); exact b1.out) hb); have d6 := Aside0.mk (Kd.R_below (by (with_reducible repeat (first | apply Kd.R_alloc | apply Kd.R_drewN | apply Kd.R_drew)); exact b3.out) hb); have d8 := Aside0.mk (Kd.R_below (by (with_reducible repeat (first | apply Kd.R_alloc | apply Kd.R_drewN | apply Kd.R_drew)); exact b6.out) hb); have e1 := Aside0.mk (Kd.R_below (by (with_reducible repeat (first | apply Kd.R_alloc | apply Kd.R_drewN | apply Kd.R_drew)); exact c9.out) hb); have f3 := Aside0.mk (Kd.R_below (by (with_reducible repeat (first | apply Kd.R_alloc | apply Kd.R_drewN | apply Kd.R_drew)); exact d9.out) hb); have f7 := Aside0.mk (Kd.R_below (by (with_reducible repeat (first | apply Kd.R_alloc | apply Kd.R_drewN | apply Kd.R_drew)); exact e9.out) hb); have f6 := Aside0.mk (Kd.R_below (by (with_reducible repeat (first | apply Kd.R_alloc | apply Kd.R_drewN | apply Kd.R_drew)); exact h0.out) hb); have g3 := Aside0.mk (blk_below (g := a5) (o := .cells #[.int .i64 a4, .slice d3 a3.length d0, .slice (some b5) a0.length d4] 25 (0, 0)) (by (with_reducible repeat (first | refine blk_drewN ?_ _ | refine blk_drew ?_ | refine blk_alloc ?_ _)); exact a1.out) hb); have h1 := Aside0.mk (below_step (by repeat (first | (with_reducible first | exact HB.out | apply below_alloc | apply pw_below_drewN | apply below_drew1 | refine below_set ?_ d7.out) | exact HB.out)) hb); clear a8; clear a9; clear a7; clear a6; clear b1; clear b3; clear b6; clear c9; clear d9; clear e9; clear h0; clear a1; clear HB; have a8 := b9; have a9 := b8; have a7 := c7; have a6 := d1; have b1 := d2; have b3 := d6; have b6 := d8; have c9 := e1; have d9 := f3; have e9 := f7; have h0 := f6; have a1 := g3; have HB := h1; clear b9 b8 c7 d1 d2 d6 d8 e1 f3 f7 f6 g3 h1; (try clear hb); (try clear hb2); (try clear hk); (try clear hi)))
          go_ret
          exact ⟨by first | rfl | (simp [errW_none, errW_some] <;> rfl) | (simp [*, errW_none, errW_some] <;> rfl), by repeat (first | (with_reducible first | exact HB.out | apply below_alloc | apply pw_below_drewN | apply below_drew1 | refine below_set ?_ d7.out) | exact HB.out)⟩
         ·rw [if_neg h3] at H
          have c18b0 : ((b0.length : Int) == 1) = false := beq_eq_false_iff_ne.mpr h3
          have c18b1 : ((b0.length : Int) != 1) = true := bne_iff_ne.mpr h3
          obtain rfl := Option.some.inj H
          exact absurd hr_.out (by decide)
        ·replace h7 := Bool.eq_false_iff.mpr h7
         subst h7
         have H1 : (some false) = some r := by rw [if_neg (show ¬ (false = true) by decide)] at H; exact H
         clear H
         have H := H1
         clear H1
         obtain rfl := Option.some.inj H
         exact absurd hr_.out (by decide)
       ·replace i5 := Bool.eq_false_iff.mpr i5
        subst i5
        have H1 : (some false) = some r := by rw [if_neg (show ¬ (false = true) by decide)] at H; exact H
        clear H
        have H := H1
        clear H1
        obtain rfl := Option.some.inj H
        exact absurd hr_.out (by decide)
      ·replace h8 := Bool.eq_false_iff.mpr h8
       subst h8
       have H1 : (some false) = some r := by rw [if_neg (show ¬ (false = true) by decide)] at H; exact H
       clear H
       have H := H1
       clear H1
       obtain rfl := Option.some.inj H
       exact absurd hr_.out (by decide)
     ·replace c8 := Bool.eq_false_iff.mpr c8
      subst c8
      have H1 : (some false) = some r := by rw [if_neg (show ¬ (false = true) by decide)] at H; exact H
      clear H
      have H := H1
      clear H1
      obtain rfl := Option.some.inj H
      exact absurd hr_.out (by decide)
    ·rw [if_neg c5] at H
     have c5b0 : (((rd_T51 a0 0).f0) == 0 && (((rd_T51 a0 0).f1) == 0 && (((rd_T51 a0 0).f2) == 1))) = false := by simpa using c5
     (try (have c5b1 : decide (((rd_T51 a0 0).f0) = 0 && (((rd_T51 a0 0).f1) == 0 && (((rd_T51 a0 0).f2) == 1))) = false := by simpa using c5))
     (try (have c5b2 : (((rd_T51 a0 0).f0) == 0 && (((rd_T51 a0 0).f1) == 0 && (((rd_T51 a0 0).f2) == 1))) = false := by simpa using c5))
     (try (have c5b3 : ¬ (((rd_T51 a0 0).f0) = 0 && (((rd_T51 a0 0).f1) == 0 && (((rd_T51 a0 0).f2) == 1))) := by simpa using c5))
     clear c5
     obtain rfl := Option.some.inj H
     exact absurd hr_.out (by decide)
   ·rw [if_neg c4] at H
    exact absurd H (by simp)
  ·rw [if_neg c3] at H
   have c3b0 : ((a0.length : Int) == 2) = false := beq_eq_false_iff_ne.mpr c3
   have c3b1 : ((a0.length : Int) != 2) = true := bne_iff_ne.mpr c3
   obtain rfl := Option.some.inj H
   exact absurd hr_.out (by decide)
 ·rw [if_neg c2] at H
  have c2b0 : (g4 == 0) = false := beq_eq_false_iff_ne.mpr c2
  have c2b1 : (g4 != 0) = true := bne_iff_ne.mpr c2
  obtain rfl := Option.some.inj H
  exact absurd hr_.out (by decide)
end Go.Proofs.Ythaaockbapbooaa.Pr
namespace Go.Proofs.Ythaaockbapbooaa.Pr
open Go.RowKit Go.Proofs.YthaaockbapbooaaW.PrintWords Go.Proofs.YthaaockbapbooaaW.PrintLast Go.Proofs.YthaaockbapbooaaW.PrintMore
attribute [local go_sem] max2_int min2_int max_two min_two max_three min_three max_four min_four
set_option linter.unusedVariables false
set_option linter.unusedSimpArgs false
def Pr26b.l0 : Nat → Int → Int → List Int → Int → Int → List ByteArray → List (S51) → Option (List Int)
 | 0, _, _, _, _, _, _, _ => none
 | k + 1, x1, x2, x7, x8, x177000, x177001, x177002 => if x8 < (x177002.length : Int) then (if 0 ≤ x8 then (if ((rd_T51 x177002 x8).f0) = x1 then (if ((rd_T51 x177002 x8).f1) = x2 then (if x7.length < 17592186044416 then (Pr26b.l0 k x1 x2 (x7 ++ [(rd_T51 x177002 x8).f2]) (wrap64 (x8 + 1)) x177000 x177001 x177002) else (none)) else (Pr26b.l0 k x1 x2 x7 (wrap64 (x8 + 1)) x177000 x177001 x177002)) else (Pr26b.l0 k x1 x2 x7 (wrap64 (x8 + 1)) x177000 x177001 x177002)) else (none)) else (some x7)
def Pr26b.f (k : Nat) (a0_0 : Int) (l0_1 : List ByteArray) (l0_2 : List (S51)) (a1 : Int) (a2 : Int) : Option (List Int) := Pr26b.l0 k a1 a2 (([] : List Int)) 0 a0_0 l0_1 l0_2
theorem Pr26b.mono_l : ∀ k, (∀ y0 y1 y2 y3 y4 y5 y6, LeO (Pr26b.l0 k y0 y1 y2 y3 y4 y5 y6) (Pr26b.l0 (k + 1) y0 y1 y2 y3 y4 y5 y6))
 | 0 => fun _ _ _ _ _ _ _ r h => by simp [Pr26b.l0] at h
 | k + 1 => by
  have ih0 := Pr26b.mono_l k
  ·intro y0 y1 y2 y3 y4 y5 y6
   unfold Pr26b.l0
   repeat' first
   | (with_reducible exact ih0 _ _ _ _ _ _ _)
   | (with_reducible exact LeO.refl _)
   | (with_reducible exact LeO.none _)
   | (with_reducible refine LeO.ite ?_ ?_)
   | (with_reducible refine LeO.bind ?_ (fun _ => ?_))
   | exact ih0 _ _ _ _ _ _ _
   | exact LeO.none _
   | refine LeO.ite ?_ ?_
   | refine LeO.bind ?_ (fun _ => ?_)
theorem Pr26b.mono : ∀ a0 a1 a2 a3 a4 k, LeO (Pr26b.f k a0 a1 a2 a3 a4) (Pr26b.f (k + 1) a0 a1 a2 a3 a4) := by
 intro a0 a1 a2 a3 a4 k
 have ih0 := Pr26b.mono_l k
 unfold Pr26b.f
 repeat' first
   | (with_reducible exact ih0 _ _ _ _ _ _ _)
   | (with_reducible exact LeO.refl _)
   | (with_reducible exact LeO.none _)
   | (with_reducible refine LeO.ite ?_ ?_)
   | (with_reducible refine LeO.bind ?_ (fun _ => ?_))
   | exact ih0 _ _ _ _ _ _ _
   | exact LeO.none _
   | refine LeO.ite ?_ ?_
   | refine LeO.bind ?_ (fun _ => ?_)
set_option maxHeartbeats 8000000 in
set_option maxRecDepth 100000 in
theorem Pr26b.calls (k : Nat) (a0_0 : Int) (A0_1 : Option Addr) (c0_1 : Nat) (l0_1 : List ByteArray) (A0_2 : Option Addr) (c0_2 : Nat) (l0_2 : List (S51)) (a1 : Int) (a2 : Int) (r : List Int) (w : World) (hr0_1 : Kd.C Kd.string w A0_1 l0_1.length l0_1) (hc0_1 : l0_1.length ≤ c0_1) (hr0_2 : Kd.C k51 w A0_2 l0_2.length l0_2) (hc0_2 : l0_2.length ≤ c0_2) (h : Pr26b.f k a0_0 l0_1 l0_2 a1 a2 = some r) :
  Calls Try.prog 32 #[.agg #[.int .i64 a0_0, .slice A0_1 l0_1.length c0_1, .slice A0_2 l0_2.length c0_2], .int .i64 a1, .int .i64 a2] w fun e w' => ∃ v0_ : Value, e = .returned (v0_) ∧ Kd.R (Kd.int .i64) 3 w' w.heap.size (fun _ => True) v0_ r ∧ Below w.heap.size w w' := by
 have i8 := Try.underlying25
 have i5 := Aside0.mk hr0_1
 have i2 := Aside0.mk hc0_1
 clear hr0_1 hc0_1
 have b5 := Aside0.mk hr0_2
 have i3 := Aside0.mk hc0_2
 clear hr0_2 hc0_2
 have HB := Aside0.mk (Below.refl w.heap.size w)
 have H : (Pr26b.l0 k a1 a2 (([] : List Int)) 0 a0_0 l0_1 l0_2) = some r := h
 clear h
 obtain ⟨e6, b9⟩ : ∃ y_ : List Int, y_ = (([] : List Int)) := ⟨_, rfl⟩
 replace H : (Pr26b.l0 k a1 a2 e6 0 a0_0 l0_1 l0_2) = some r := by first | (rw [b9]; with_reducible exact H) | (have d5 := (Option.bind_some _ _).symm.trans H; rw [b9]; with_reducible exact d5) | (have d5 := (Option.bind_some _ _).symm.trans H; with_reducible exact d5) | with_reducible exact H | (rw [b9]; exact H) | exact H
 have e5 := Aside0.mk b9
 clear b9
 have H' := Aside0.mk H
 clear H
 go_enter Try.func32, Try.ntmps32
 go_wp2_with (first | ((with_reducible refine gate_dst (N := 3) rfl ?_); refine box_event ?hg (N := 3) ?hd (cs := #[.int .i64 a0_0, .slice A0_1 l0_1.length c0_1, .slice A0_2 l0_2.length c0_2]) (t := 25) ?hr ?_; (case hd => rfl); (case hg => rfl); (case hr => first | (go_simp; done) | (go_simp; rfl)); intro a4 hg w4 hbox hb; have d4 := Aside0.mk (below_step (by repeat (first | (with_reducible first | exact HB.out | apply below_alloc | apply pw_below_drewN | apply below_drew1) | exact HB.out)) hb); have d3 := Aside0.mk (hbox); have d2 := Aside0.mk ((by rw [hg]; exact (below_size (by repeat (first | (with_reducible first | exact HB.out | apply below_alloc | apply pw_below_drewN | apply below_drew1) | exact HB.out))) : w.heap.size ≤ a4)); have f6 := Aside0.mk ((by rw [hg]; exact (below_size (by repeat (first | (with_reducible first | exact HB.out | apply below_alloc | apply pw_below_drewN | apply below_drew1) | exact HB.out))) : w.heap.size ≤ a4)); clear HB; have HB := d4; have a0 := d3; have i4 := d2; have b1 := f6; clear d4 d3 d2 f6; clear hb hbox hg) | ((with_reducible refine gate_dst (N := 9) rfl ?_); refine Kd.R_lit (Kd.int .i64) _ 3 ?hg (N := 9) ?hd (xs := ([] : List Int)) (inner := []) (ok := fun _ => True) (okp := fun _ => True) ?hr ?hp (fun _ hk => hk) trivial (Below.refl _ _) (Nat.le_refl _) (by simp) ?_; (case hd => rfl); (case hg => rfl); (case hr => first | (go_simp; done) | (go_simp; rfl)); (case hp => exact (Reps.none _ _)); intro i6 w5 ho6 hb hg_ hnew_; clear hg_ hnew_; (first | rw [← e5.out] at ho6 | (simp only [Int.reduceToNat] at ho6; rw [← e5.out] at ho6)); have d4 := Aside0.mk (Kd.R_lower ho6 (below_size (by repeat (first | (with_reducible first | exact HB.out | apply below_alloc | apply pw_below_drewN | apply below_drew1 | refine below_set ?_ b1.out) | exact HB.out)))); have d3 := Aside0.mk (blk_below (g := a4) (o := .cells #[.int .i64 a0_0, .slice A0_1 l0_1.length c0_1, .slice A0_2 l0_2.length c0_2] 25 (0, 0)) (by (with_reducible repeat (first | refine blk_drewN ?_ _ | refine blk_drew ?_ | refine blk_alloc ?_ _)); exact a0.out) hb); have d2 := Aside0.mk (below_step (by repeat (first | (with_reducible first | exact HB.out | apply below_alloc | apply pw_below_drewN | apply below_drew1 | refine below_set ?_ b1.out) | exact HB.out)) hb); clear a0; clear HB; have f5 := d4; have a0 := d3; have HB := d2; clear d4 d3 d2; clear hb ho6))
 go_loopg [7, 8] k (fun kq v7 v8 w' => ∃ (b4 : List Int) (a3 : Int), v8 = .int .i64 a3 ∧ Aside0 (Pr26b.l0 kq a1 a2 b4 a3 a0_0 l0_1 l0_2 = some r) ∧ Aside0 (kq ≤ k) ∧ Aside0 (Kd.R (Kd.int .i64) 3 w' w.heap.size (fun _ => True) v7 b4) ∧ Aside0 (w'.heap[a4]? = some (.cells #[.int .i64 a0_0, (.slice A0_1 l0_1.length c0_1), (.slice A0_2 l0_2.length c0_2)] 25 (0, 0))) ∧ Aside0 (Below w.heap.size w w'))
 case atStart => exact ⟨(e6), (0), (by first | rfl | (simp; done) | (simp [*]; done)), H', ⟨Nat.le_refl _⟩, ⟨by (with_reducible repeat (first | apply Kd.R_alloc | apply Kd.R_drewN | apply Kd.R_drew)); exact f5.out⟩, ⟨by (with_reducible repeat (first | refine blk_drewN ?_ _ | refine blk_drew ?_ | refine blk_alloc ?_ _)); exact a0.out⟩, ⟨by repeat (first | (with_reducible first | exact HB.out | apply below_alloc | apply pw_below_drewN | apply below_drew1 | refine below_set ?_ b1.out) | exact HB.out)⟩⟩
 case round =>
  clear H'
  try clear p2
  try clear c3
  obtain ⟨b4, a3, rfl, HA, d9, c6, a0, HB⟩ := hrel
  cases gk with
  | zero => exact absurd HA.out (by simp [Pr26b.l0])
  | succ k1 =>
   have H := HA.out
   clear HA
   simp only [Pr26b.l0] at H
   by_cases c7 : a3 < (l0_2.length : Int)
   ·rw [if_pos c7] at H
    have c7b0 : decide (a3 < (l0_2.length : Int)) = true := decide_eq_true c7
    clear c7
    by_cases c8 : 0 ≤ a3
    ·rw [if_pos c8] at H
     have c8b0 : decide (0 ≤ a3) = true := decide_eq_true c8
     clear c8
     by_cases c9 : ((rd_T51 l0_2 a3).f0) = a1
     ·rw [if_pos c9] at H
      have c9b0 : (((rd_T51 l0_2 a3).f0) == a1) = true := beq_iff_eq.mpr c9
      have c9b1 : (((rd_T51 l0_2 a3).f0) != a1) = false := bne_eq_false_iff_eq.mpr c9
      clear c9
      by_cases d7 : ((rd_T51 l0_2 a3).f1) = a2
      ·rw [if_pos d7] at H
       have c10b0 : (((rd_T51 l0_2 a3).f1) == a2) = true := beq_iff_eq.mpr d7
       have c10b1 : (((rd_T51 l0_2 a3).f1) != a2) = false := bne_eq_false_iff_eq.mpr d7
       clear d7
       by_cases e4 : b4.length < 17592186044416
       ·rw [if_pos e4] at H
        have e9 := Aside0.mk e4
        clear e4
        obtain ⟨e7, c4⟩ : ∃ y_ : List Int, y_ = (b4 ++ [(rd_T51 l0_2 a3).f2]) := ⟨_, rfl⟩
        replace H : (Pr26b.l0 k1 a1 a2 e7 (d6 (a3 + 1)) a0_0 l0_1 l0_2) = some r := by first | (rw [c4]; with_reducible exact H) | (have d5 := (Option.bind_some _ _).symm.trans H; rw [c4]; with_reducible exact d5) | (have d5 := (Option.bind_some _ _).symm.trans H; with_reducible exact d5) | with_reducible exact H | (rw [c4]; exact H) | exact H
        have e8 := Aside0.mk c4
        clear c4
        have H' := Aside0.mk H
        clear H
        have g0 : wr.cell? ⟨a4, 0, none⟩ = some (.int .i64 a0_0) := (blk_cell a0.out 0).trans rfl
        have g7 : wr.cell? ⟨a4, 1, none⟩ = some (.slice A0_1 l0_1.length c0_1) := (blk_cell a0.out 1).trans rfl
        have g8 : wr.cell? ⟨a4, 2, none⟩ = some (.slice A0_2 l0_2.length c0_2) := (blk_cell a0.out 2).trans rfl
        have f9 := blk_frozen a0.out 0
        have g1 := blk_frozen a0.out 1
        have g3 := blk_frozen a0.out 2
        have b2 : 0 ≤ (a3 : Int) := of_decide_eq_true (by first | (with_reducible assumption) | assumption)
        have b3 : a3 < (l0_2.length : Int) := of_decide_eq_true (by first | (with_reducible assumption) | assumption)
        obtain ⟨b6, d8, a7, a6, a5⟩ := at_T51 b5.out a3 b2 b3
        cases d8
        replace a7 := (HB.out.cell (World.block_lt_of_cell? w _ a7)).trans a7
        replace a6 := (HB.out.cell (World.block_lt_of_cell? w _ a6)).trans a6
        replace a5 := (HB.out.cell (World.block_lt_of_cell? w _ a5)).trans a5
        replace b2 := eq_true b2
        replace b3 := eq_true b3
        have b7 : 0 ≤ (a3 : Int) := of_decide_eq_true (by first | (with_reducible assumption) | assumption)
        have b8 : a3 < (l0_2.length : Int) := of_decide_eq_true (by first | (with_reducible assumption) | assumption)
        obtain ⟨e0, e3, a9, a8, b0⟩ := at_T51 b5.out a3 b7 b8
        obtain rfl : b6 = e0 := (by injection e3)
        replace a9 := (HB.out.cell (World.block_lt_of_cell? w _ a9)).trans a9
        replace a8 := (HB.out.cell (World.block_lt_of_cell? w _ a8)).trans a8
        replace b0 := (HB.out.cell (World.block_lt_of_cell? w _ b0)).trans b0
        replace b7 := eq_true b7
        replace b8 := eq_true b8
        have e1 : 0 ≤ (a3 : Int) := of_decide_eq_true (by first | (with_reducible assumption) | assumption)
        have e2 : a3 < (l0_2.length : Int) := of_decide_eq_true (by first | (with_reducible assumption) | assumption)
        obtain ⟨f4, f7, d0, d1, c5⟩ := at_T51 b5.out a3 e1 e2
        obtain rfl : b6 = f4 := (by injection f7)
        replace d0 := (HB.out.cell (World.block_lt_of_cell? w _ d0)).trans d0
        replace d1 := (HB.out.cell (World.block_lt_of_cell? w _ d1)).trans d1
        replace c5 := (HB.out.cell (World.block_lt_of_cell? w _ c5)).trans c5
        replace e1 := eq_true e1
        replace e2 := eq_true e2
        go_wp2_with (first | ((with_reducible refine gate_builtin (b := .append) (xs := #[.tmp 35, .tmp 42]) rfl ?_); at_builtin; refine Kd.R_append (Kd.int .i64) (w0 := w) w.heap.size rfl (.tmp 35) (.tmp 42) 47 3 (.int .i64 0) 8 rfl Try.underlying47 info3 rfl (by decide) (by omega) u7 b4 ((rd_T51 l0_2 a3).f2) [.int .i64 ((rd_T51 l0_2 a3).f2)] (fun _ => True) (fun _ => False) rfl rfl ?aP (fun _ hk => hk.elim) ?aF ?aO ?aB ?aS ?aL ?_; (case aP => exact rfl); (case aB => exact (by repeat (first | (with_reducible first | exact HB.out | apply below_alloc | apply pw_below_drewN | apply below_drew1 | refine below_set ?_ b1.out) | exact HB.out))); (case aF => exact (fun _ _ => trivial)); (case aO => exact (by (with_reducible repeat (first | apply Kd.R_alloc | apply Kd.R_drewN | apply Kd.R_drew)); exact c6.out)); (case aS => exact (below_size (by repeat (first | (with_reducible first | exact HB.out | apply below_alloc | apply pw_below_drewN | apply below_drew1 | refine below_set ?_ b1.out) | exact HB.out)))); (case aL => have := e9.out; omega); intro i7 w13 ho hb hg hat; rw [← e8.out] at ho; have d4 := Aside0.mk (blk_grown (g := a4) (o := .cells #[.int .i64 a0_0, .slice A0_1 l0_1.length c0_1, .slice (some b6) l0_2.length c0_2] 25 (0, 0)) (by (with_reducible repeat (first | refine blk_drewN ?_ _ | refine blk_drew ?_ | refine blk_alloc ?_ _)); exact a0.out) hg (Kd.R_ne c6.out a0.out (by decide))); have d3 := Aside0.mk (hb); have d2 := Aside0.mk (ho); clear a0; clear HB; clear c6; have a0 := d4; have HB := d3; have f3 := d2; clear d4 d3 d2; clear ho hb hg hat))
        go_roundg k1
        case measure => have := d9.out; omega
        case rel => exact ⟨(e7), (d6 (a3 + 1)), (by first | rfl | (simp; done) | (simp [*]; done)), H', ⟨by have := d9.out; omega⟩, ⟨by (with_reducible repeat (first | apply Kd.R_alloc | apply Kd.R_drewN | apply Kd.R_drew)); exact f3.out⟩, ⟨by (with_reducible repeat (first | refine blk_drewN ?_ _ | refine blk_drew ?_ | refine blk_alloc ?_ _)); exact a0.out⟩, ⟨by repeat (first | (with_reducible first | exact HB.out | apply below_alloc | apply pw_below_drewN | apply below_drew1 | refine below_set ?_ b1.out) | exact HB.out)⟩⟩
       ·rw [if_neg e4] at H
        exact absurd H (by simp)
      ·rw [if_neg d7] at H
       have c10b0 : (((rd_T51 l0_2 a3).f1) == a2) = false := beq_eq_false_iff_ne.mpr d7
       have c10b1 : (((rd_T51 l0_2 a3).f1) != a2) = true := bne_iff_ne.mpr d7
       have H' := Aside0.mk H
       clear H
       have h7 : wr.cell? ⟨a4, 0, none⟩ = some (.int .i64 a0_0) := (blk_cell a0.out 0).trans rfl
       have g2 : wr.cell? ⟨a4, 1, none⟩ = some (.slice A0_1 l0_1.length c0_1) := (blk_cell a0.out 1).trans rfl
       have h6 : wr.cell? ⟨a4, 2, none⟩ = some (.slice A0_2 l0_2.length c0_2) := (blk_cell a0.out 2).trans rfl
       have g5 := blk_frozen a0.out 0
       have h8 := blk_frozen a0.out 1
       have h2 := blk_frozen a0.out 2
       have b2 : 0 ≤ (a3 : Int) := of_decide_eq_true (by first | (with_reducible assumption) | assumption)
       have b3 : a3 < (l0_2.length : Int) := of_decide_eq_true (by first | (with_reducible assumption) | assumption)
       obtain ⟨b6, d8, a7, a6, a5⟩ := at_T51 b5.out a3 b2 b3
       cases d8
       replace a7 := (HB.out.cell (World.block_lt_of_cell? w _ a7)).trans a7
       replace a6 := (HB.out.cell (World.block_lt_of_cell? w _ a6)).trans a6
       replace a5 := (HB.out.cell (World.block_lt_of_cell? w _ a5)).trans a5
       replace b2 := eq_true b2
       replace b3 := eq_true b3
       have b7 : 0 ≤ (a3 : Int) := of_decide_eq_true (by first | (with_reducible assumption) | assumption)
       have b8 : a3 < (l0_2.length : Int) := of_decide_eq_true (by first | (with_reducible assumption) | assumption)
       obtain ⟨e0, e3, a9, a8, b0⟩ := at_T51 b5.out a3 b7 b8
       obtain rfl : b6 = e0 := (by injection e3)
       replace a9 := (HB.out.cell (World.block_lt_of_cell? w _ a9)).trans a9
       replace a8 := (HB.out.cell (World.block_lt_of_cell? w _ a8)).trans a8
       replace b0 := (HB.out.cell (World.block_lt_of_cell? w _ b0)).trans b0
       replace b7 := eq_true b7
       replace b8 := eq_true b8
       go_wp2
       go_roundg k1
       case measure => have := d9.out; omega
       case rel => exact ⟨(b4), (d6 (a3 + 1)), (by first | rfl | (simp; done) | (simp [*]; done)), H', ⟨by have := d9.out; omega⟩, ⟨by (with_reducible repeat (first | apply Kd.R_alloc | apply Kd.R_drewN | apply Kd.R_drew)); exact c6.out⟩, ⟨by (with_reducible repeat (first | refine blk_drewN ?_ _ | refine blk_drew ?_ | refine blk_alloc ?_ _)); exact a0.out⟩, ⟨by repeat (first | (with_reducible first | exact HB.out | apply below_alloc | apply pw_below_drewN | apply below_drew1 | refine below_set ?_ b1.out) | exact HB.out)⟩⟩
     ·rw [if_neg c9] at H
      have c9b0 : (((rd_T51 l0_2 a3).f0) == a1) = false := beq_eq_false_iff_ne.mpr c9
      have c9b1 : (((rd_T51 l0_2 a3).f0) != a1) = true := bne_iff_ne.mpr c9
      have H' := Aside0.mk H
      clear H
      have h3 : wr.cell? ⟨a4, 0, none⟩ = some (.int .i64 a0_0) := (blk_cell a0.out 0).trans rfl
      have h4 : wr.cell? ⟨a4, 1, none⟩ = some (.slice A0_1 l0_1.length c0_1) := (blk_cell a0.out 1).trans rfl
      have i1 : wr.cell? ⟨a4, 2, none⟩ = some (.slice A0_2 l0_2.length c0_2) := (blk_cell a0.out 2).trans rfl
      have g6 := blk_frozen a0.out 0
      have h1 := blk_frozen a0.out 1
      have h0 := blk_frozen a0.out 2
      have b2 : 0 ≤ (a3 : Int) := of_decide_eq_true (by first | (with_reducible assumption) | assumption)
      have b3 : a3 < (l0_2.length : Int) := of_decide_eq_true (by first | (with_reducible assumption) | assumption)
      obtain ⟨b6, d8, a7, a6, a5⟩ := at_T51 b5.out a3 b2 b3
      cases d8
      replace a7 := (HB.out.cell (World.block_lt_of_cell? w _ a7)).trans a7
      replace a6 := (HB.out.cell (World.block_lt_of_cell? w _ a6)).trans a6
      replace a5 := (HB.out.cell (World.block_lt_of_cell? w _ a5)).trans a5
      replace b2 := eq_true b2
      replace b3 := eq_true b3
      go_wp2
      go_roundg k1
      case measure => have := d9.out; omega
      case rel => exact ⟨(b4), (d6 (a3 + 1)), (by first | rfl | (simp; done) | (simp [*]; done)), H', ⟨by have := d9.out; omega⟩, ⟨by (with_reducible repeat (first | apply Kd.R_alloc | apply Kd.R_drewN | apply Kd.R_drew)); exact c6.out⟩, ⟨by (with_reducible repeat (first | refine blk_drewN ?_ _ | refine blk_drew ?_ | refine blk_alloc ?_ _)); exact a0.out⟩, ⟨by repeat (first | (with_reducible first | exact HB.out | apply below_alloc | apply pw_below_drewN | apply below_drew1 | refine below_set ?_ b1.out) | exact HB.out)⟩⟩
    ·rw [if_neg c8] at H
     exact absurd H (by simp)
   ·rw [if_neg c7] at H
    have c7b0 : decide (a3 < (l0_2.length : Int)) = false := decide_eq_false c7
    clear c7
    obtain rfl := Option.some.inj H
    have g9 : wr.cell? ⟨a4, 0, none⟩ = some (.int .i64 a0_0) := (blk_cell a0.out 0).trans rfl
    have f8 : wr.cell? ⟨a4, 1, none⟩ = some (.slice A0_1 l0_1.length c0_1) := (blk_cell a0.out 1).trans rfl
    have h5 : wr.cell? ⟨a4, 2, none⟩ = some (.slice A0_2 l0_2.length c0_2) := (blk_cell a0.out 2).trans rfl
    have i0 := blk_frozen a0.out 0
    have g4 := blk_frozen a0.out 1
    have h9 := blk_frozen a0.out 2
    go_wp2
    go_ret
    exact ⟨_, by first | rfl | (simp [errW_none, errW_some] <;> rfl) | (simp [*, errW_none, errW_some] <;> rfl), by (with_reducible repeat (first | apply Kd.R_alloc | apply Kd.R_drewN | apply Kd.R_drew)); exact c6.out, by repeat (first | (with_reducible first | exact HB.out | apply below_alloc | apply pw_below_drewN | apply below_drew1 | refine below_set ?_ b1.out) | exact HB.out)⟩
end Go.Proofs.Ythaaockbapbooaa.Pr
namespace Go.Proofs.Ythaaockbapbooaa.Pr
open Go.RowKit Go.Proofs.YthaaockbapbooaaW.PrintWords Go.Proofs.YthaaockbapbooaaW.PrintLast Go.Proofs.YthaaockbapbooaaW.PrintMore
attribute [local go_sem] max2_int min2_int max_two min_two max_three min_three max_four min_four
set_option linter.unusedVariables false
set_option linter.unusedSimpArgs false
mutual
def Pl26a.l0 : Nat → Int → Int → List Int → List Int → List (S51) → List Int → List (S51) → Bool → Int → Int → List ByteArray → List (S51) → Option (Bool)
 | 0, _, _, _, _, _, _, _, _, _, _, _, _ => none
 | k + 1, x1, x2, x7, x8, x9, x10, x11, x12, x13, x187000, x187001, x187002 => if x13 < (x187002.length : Int) then (if 0 ≤ x13 then (if ((rd_T51 x187002 x13).f2) = x1 then (Pl26a.j1 k x1 x2 x7 x8 x9 x10 x11 x12 x13 (((rd_T51 x187002 x13).f1) == x2) x187000 x187001 x187002 ((rd_T51 x187002 x13).f0) ((rd_T51 x187002 x13).f1) ((rd_T51 x187002 x13).f2)) else (Pl26a.j1 k x1 x2 x7 x8 x9 x10 x11 x12 x13 false x187000 x187001 x187002 ((rd_T51 x187002 x13).f0) ((rd_T51 x187002 x13).f1) ((rd_T51 x187002 x13).f2))) else (none)) else ((Pr26b.f k x187000 x187001 x187002 x1 x2).bind fun t230 => ((Pr01b.f k x7 t230).bind fun t233 => (if t233 = true then ((Pr01b.f k x8 x10).bind fun t234 => (if t234 = true then ((Pr26c.f k 0 ([] : List ByteArray) x9 0 ([] : List ByteArray) x11).bind fun t235 => (if t235 = true then ((Pxb.f k x187000 x187001 x187002).bind fun t236 => (if (t236 == x12) = true then ((Pl26b.f k).bind fun t237 => (some t237)) else (some false))) else (some false))) else (some false))) else (some false))))
def Pl26a.j1 : Nat → Int → Int → List Int → List Int → List (S51) → List Int → List (S51) → Bool → Int → Bool → Int → List ByteArray → List (S51) → Int → Int → Int → Option (Bool)
 | 0, _, _, _, _, _, _, _, _, _, _, _, _, _, _, _, _ => none
 | k + 1, x1, x2, x7, x8, x9, x10, x11, x12, x13, x77, x187000, x187001, x187002, x209000, x209001, x209002 => if x77 = true then (if x10.length < 17592186044416 then ((some (x10 ++ [x209000] : List Int)).bind fun y209 => (if x209000 = x1 then (if x11.length < 5864062014805 then ((some (x11 ++ [(⟨x209000, x209001, x209002⟩ : S51)] : List (S51))).bind fun y212 => (if x12 = true then ((Pr26b.f k x187000 x187001 x187002 x209000 x209001).bind fun t215 => (Pl26a.l0 k x1 x2 x7 x8 x9 y209 y212 ((t215.length : Int) == 1) (wrap64 (x13 + 1)) x187000 x187001 x187002)) else (Pl26a.l0 k x1 x2 x7 x8 x9 y209 y212 false (wrap64 (x13 + 1)) x187000 x187001 x187002))) else (none)) else (if x12 = true then ((Pr26b.f k x187000 x187001 x187002 x209000 x209001).bind fun t218 => (Pl26a.l0 k x1 x2 x7 x8 x9 y209 x11 ((t218.length : Int) == 1) (wrap64 (x13 + 1)) x187000 x187001 x187002)) else (Pl26a.l0 k x1 x2 x7 x8 x9 y209 x11 false (wrap64 (x13 + 1)) x187000 x187001 x187002)))) else (none)) else (if x209000 = x1 then (if x11.length < 5864062014805 then ((some (x11 ++ [(⟨x209000, x209001, x209002⟩ : S51)] : List (S51))).bind fun y221 => (if x12 = true then ((Pr26b.f k x187000 x187001 x187002 x209000 x209001).bind fun t224 => (Pl26a.l0 k x1 x2 x7 x8 x9 x10 y221 ((t224.length : Int) == 1) (wrap64 (x13 + 1)) x187000 x187001 x187002)) else (Pl26a.l0 k x1 x2 x7 x8 x9 x10 y221 false (wrap64 (x13 + 1)) x187000 x187001 x187002))) else (none)) else (if x12 = true then ((Pr26b.f k x187000 x187001 x187002 x209000 x209001).bind fun t227 => (Pl26a.l0 k x1 x2 x7 x8 x9 x10 x11 ((t227.length : Int) == 1) (wrap64 (x13 + 1)) x187000 x187001 x187002)) else (Pl26a.l0 k x1 x2 x7 x8 x9 x10 x11 false (wrap64 (x13 + 1)) x187000 x187001 x187002)))
end
def Pl26a.f (k : Nat) (a0_0 : Int) (l0_1 : List ByteArray) (l0_2 : List (S51)) (a1 : Int) (a2 : Int) : Option (Bool) := (Pr26a.f k a0_0 l0_1 l0_2).bind fun t187 => (if t187 = true then ((Pxf.f k a0_0 l0_1 l0_2 a1 a2).bind fun t189 => ((Pxe.f k a0_0 l0_1 l0_2 a1 a2).bind fun t192 => ((Pxg.f a0_0 l0_1 l0_2 a1).bind fun t195 => ((Pr26d.f a0_0 l0_1 l0_2).bind fun t198 => (if t198 = true then (Pl26a.l0 k a1 a2 t189 t192 t195 (([] : List Int)) (([] : List (S51))) true 0 a0_0 l0_1 l0_2) else (if (t189.length : Int) = 0 then (if (t192.length : Int) = 0 then (if (t195.length : Int) = 0 then ((Pxb.f k a0_0 l0_1 l0_2).bind fun t199 => (if t199 = true then (some false) else ((Pl26b.f k).bind fun t200 => (some t200)))) else (some false)) else (some false)) else (some false))))))) else ((Pl26b.f k).bind fun t188 => (some t188)))
theorem Pl26a.mono_l : ∀ k, (∀ y0 y1 y2 y3 y4 y5 y6 y7 y8 y9 y10 y11, LeO (Pl26a.l0 k y0 y1 y2 y3 y4 y5 y6 y7 y8 y9 y10 y11) (Pl26a.l0 (k + 1) y0 y1 y2 y3 y4 y5 y6 y7 y8 y9 y10 y11)) ∧ (∀ y0 y1 y2 y3 y4 y5 y6 y7 y8 y9 y10 y11 y12 y13 y14 y15, LeO (Pl26a.j1 k y0 y1 y2 y3 y4 y5 y6 y7 y8 y9 y10 y11 y12 y13 y14 y15) (Pl26a.j1 (k + 1) y0 y1 y2 y3 y4 y5 y6 y7 y8 y9 y10 y11 y12 y13 y14 y15))
 | 0 => ⟨fun _ _ _ _ _ _ _ _ _ _ _ _ r h => by simp [Pl26a.l0] at h, fun _ _ _ _ _ _ _ _ _ _ _ _ _ _ _ _ r h => by simp [Pl26a.j1] at h⟩
 | k + 1 => by
  obtain ⟨ih0, ih1⟩ := Pl26a.mono_l k
  refine ⟨?_, ?_⟩
  ·intro y0 y1 y2 y3 y4 y5 y6 y7 y8 y9 y10 y11
   unfold Pl26a.l0
   repeat' first
   | (with_reducible exact ih0 _ _ _ _ _ _ _ _ _ _ _ _)
   | (with_reducible exact ih1 _ _ _ _ _ _ _ _ _ _ _ _ _ _ _ _)
   | (with_reducible exact Pxe.mono _ _ _ _ _ _)
   | (with_reducible exact Pxb.mono _ _ _ _)
   | (with_reducible exact Pxf.mono _ _ _ _ _ _)
   | (with_reducible exact Pl26b.mono _)
   | (with_reducible exact Pr01b.mono _ _ _)
   | (with_reducible exact Pr26a.mono _ _ _ _)
   | (with_reducible exact Pr26c.mono _ _ _ _ _ _ _)
   | (with_reducible exact Pr26b.mono _ _ _ _ _ _)
   | (with_reducible exact LeO.refl _)
   | (with_reducible exact LeO.none _)
   | (with_reducible refine LeO.ite ?_ ?_)
   | (with_reducible refine LeO.bind ?_ (fun _ => ?_))
   | exact ih0 _ _ _ _ _ _ _ _ _ _ _ _
   | exact ih1 _ _ _ _ _ _ _ _ _ _ _ _ _ _ _ _
   | exact Pxe.mono _ _ _ _ _ _
   | exact Pxb.mono _ _ _ _
   | exact Pxf.mono _ _ _ _ _ _
   | exact Pl26b.mono _
   | exact Pr01b.mono _ _ _
   | exact Pr26a.mono _ _ _ _
   | exact Pr26c.mono _ _ _ _ _ _ _
   | exact Pr26b.mono _ _ _ _ _ _
   | exact LeO.none _
   | refine LeO.ite ?_ ?_
   | refine LeO.bind ?_ (fun _ => ?_)
  ·intro y0 y1 y2 y3 y4 y5 y6 y7 y8 y9 y10 y11 y12 y13 y14 y15
   unfold Pl26a.j1
   repeat' first
   | (with_reducible exact ih0 _ _ _ _ _ _ _ _ _ _ _ _)
   | (with_reducible exact ih1 _ _ _ _ _ _ _ _ _ _ _ _ _ _ _ _)
   | (with_reducible exact Pxe.mono _ _ _ _ _ _)
   | (with_reducible exact Pxb.mono _ _ _ _)
   | (with_reducible exact Pxf.mono _ _ _ _ _ _)
   | (with_reducible exact Pl26b.mono _)
   | (with_reducible exact Pr01b.mono _ _ _)
   | (with_reducible exact Pr26a.mono _ _ _ _)
   | (with_reducible exact Pr26c.mono _ _ _ _ _ _ _)
   | (with_reducible exact Pr26b.mono _ _ _ _ _ _)
   | (with_reducible exact LeO.refl _)
   | (with_reducible exact LeO.none _)
   | (with_reducible refine LeO.ite ?_ ?_)
   | (with_reducible refine LeO.bind ?_ (fun _ => ?_))
   | exact ih0 _ _ _ _ _ _ _ _ _ _ _ _
   | exact ih1 _ _ _ _ _ _ _ _ _ _ _ _ _ _ _ _
   | exact Pxe.mono _ _ _ _ _ _
   | exact Pxb.mono _ _ _ _
   | exact Pxf.mono _ _ _ _ _ _
   | exact Pl26b.mono _
   | exact Pr01b.mono _ _ _
   | exact Pr26a.mono _ _ _ _
   | exact Pr26c.mono _ _ _ _ _ _ _
   | exact Pr26b.mono _ _ _ _ _ _
   | exact LeO.none _
   | refine LeO.ite ?_ ?_
   | refine LeO.bind ?_ (fun _ => ?_)
theorem Pl26a.mono : ∀ a0 a1 a2 a3 a4 k, LeO (Pl26a.f k a0 a1 a2 a3 a4) (Pl26a.f (k + 1) a0 a1 a2 a3 a4) := by
 intro a0 a1 a2 a3 a4 k
 obtain ⟨ih0, ih1⟩ := Pl26a.mono_l k
 unfold Pl26a.f
 repeat' first
   | (with_reducible exact ih0 _ _ _ _ _ _ _ _ _ _ _ _)
   | (with_reducible exact ih1 _ _ _ _ _ _ _ _ _ _ _ _ _ _ _ _)
   | (with_reducible exact Pxe.mono _ _ _ _ _ _)
   | (with_reducible exact Pxb.mono _ _ _ _)
   | (with_reducible exact Pxf.mono _ _ _ _ _ _)
   | (with_reducible exact Pl26b.mono _)
   | (with_reducible exact Pr01b.mono _ _ _)
   | (with_reducible exact Pr26a.mono _ _ _ _)
   | (with_reducible exact Pr26c.mono _ _ _ _ _ _ _)
   | (with_reducible exact Pr26b.mono _ _ _ _ _ _)
   | (with_reducible exact LeO.refl _)
   | (with_reducible exact LeO.none _)
   | (with_reducible refine LeO.ite ?_ ?_)
   | (with_reducible refine LeO.bind ?_ (fun _ => ?_))
   | exact ih0 _ _ _ _ _ _ _ _ _ _ _ _
   | exact ih1 _ _ _ _ _ _ _ _ _ _ _ _ _ _ _ _
   | exact Pxe.mono _ _ _ _ _ _
   | exact Pxb.mono _ _ _ _
   | exact Pxf.mono _ _ _ _ _ _
   | exact Pl26b.mono _
   | exact Pr01b.mono _ _ _
   | exact Pr26a.mono _ _ _ _
   | exact Pr26c.mono _ _ _ _ _ _ _
   | exact Pr26b.mono _ _ _ _ _ _
   | exact LeO.none _
   | refine LeO.ite ?_ ?_
   | refine LeO.bind ?_ (fun _ => ?_)
def Pl26a.T3 : Bool × List (List Nat × List Nat) := (true, [([], []), ([], []), ([], []), ([0, 1, 2], [0, 1, 2]), ([], []), ([], []), ([], []), ([4, 5, 6, 3], [4, 5, 6]), ([], []), ([], []), ([8, 9, 7], [8, 9]), ([3, 10, 0, 1, 2, 3], [3]), ([7, 11, 0, 1, 2, 3, 4, 5, 6, 7, 11], [7]), ([10, 12, 0, 1, 2, 3, 4, 5, 6, 7, 8, 9, 10, 11, 12], [10])])
def Pl26a.B3 : List Nat := [0, 0, 0, 7, 0, 0, 0, 127, 0, 0, 1023, 2047, 4095, 8191]
theorem Pl26a.tab3 : rtab .any (opsOf Try.f7 3) = Pl26a.T3 := by kernel_rfl
theorem Pl26a.bits3 : waitsOk Pl26a.T3.2 Pl26a.B3 = true := by kernel_rfl
set_option maxHeartbeats 8000000 in
set_option maxRecDepth 100000 in
theorem Pl26a.calls (k : Nat) (a0_0 : Int) (A0_1 : Option Addr) (c0_1 : Nat) (l0_1 : List ByteArray) (A0_2 : Option Addr) (c0_2 : Nat) (l0_2 : List (S51)) (a1 : Int) (a2 : Int) (r : Bool) (w : World) (hr0_1 : Kd.C Kd.string w A0_1 l0_1.length l0_1) (hc0_1 : l0_1.length ≤ c0_1) (hr0_2 : Kd.C k51 w A0_2 l0_2.length l0_2) (hc0_2 : l0_2.length ≤ c0_2) (h : Pl26a.f k a0_0 l0_1 l0_2 a1 a2 = some r) (hr_ : Aside0 (r = true)) :
  Calls Try.prog 7 #[.agg #[.int .i64 a0_0, .slice A0_1 l0_1.length c0_1, .slice A0_2 l0_2.length c0_2], .int .i64 a1, .int .i64 a2] w fun e w' => e = .returned (.bool r) ∧ Below w.heap.size w w' := by
 have T1 := Try.underlying25
 have S8 := Try.underlying51
 have f5 := Aside0.mk hr0_1
 have f3 := Aside0.mk hc0_1
 clear hr0_1 hc0_1
 have e9 := Aside0.mk hr0_2
 have f4 := Aside0.mk hc0_2
 clear hr0_2 hc0_2
 have HB := Aside0.mk (Below.refl w.heap.size w)
 have H : ((Pr26a.f k a0_0 l0_1 l0_2).bind fun m0 => (if m0 = true then ((Pxf.f k a0_0 l0_1 l0_2 a1 a2).bind fun b9 => ((Pxe.f k a0_0 l0_1 l0_2 a1 a2).bind fun b8 => ((Pxg.f a0_0 l0_1 l0_2 a1).bind fun b5 => ((Pr26d.f a0_0 l0_1 l0_2).bind fun g5 => (if g5 = true then (Pl26a.l0 k a1 a2 b9 b8 b5 (([] : List Int)) (([] : List (S51))) true 0 a0_0 l0_1 l0_2) else (if (b9.length : Int) = 0 then (if (b8.length : Int) = 0 then (if (b5.length : Int) = 0 then ((Pxb.f k a0_0 l0_1 l0_2).bind fun f9 => (if f9 = true then (some false) else ((Pl26b.f k).bind fun f6 => (some f6)))) else (some false)) else (some false)) else (some false))))))) else ((Pl26b.f k).bind fun i0 => (some i0)))) = some r := h
 clear h
 replace H := Option.bind_eq_some_iff.mp H
 obtain ⟨m0, v6, H⟩ := H
 replace H : (if m0 = true then ((Pxf.f k a0_0 l0_1 l0_2 a1 a2).bind fun b9 => ((Pxe.f k a0_0 l0_1 l0_2 a1 a2).bind fun b8 => ((Pxg.f a0_0 l0_1 l0_2 a1).bind fun b5 => ((Pr26d.f a0_0 l0_1 l0_2).bind fun g5 => (if g5 = true then (Pl26a.l0 k a1 a2 b9 b8 b5 (([] : List Int)) (([] : List (S51))) true 0 a0_0 l0_1 l0_2) else (if (b9.length : Int) = 0 then (if (b8.length : Int) = 0 then (if (b5.length : Int) = 0 then ((Pxb.f k a0_0 l0_1 l0_2).bind fun f9 => (if f9 = true then (some false) else ((Pl26b.f k).bind fun f6 => (some f6)))) else (some false)) else (some false)) else (some false))))))) else ((Pl26b.f k).bind fun i0 => (some i0))) = some r := H
 have A4 := Aside0.mk v6
 clear v6
 by_cases c5 : m0 = true
 ·subst c5
  have H1 : ((Pxf.f k a0_0 l0_1 l0_2 a1 a2).bind fun b9 => ((Pxe.f k a0_0 l0_1 l0_2 a1 a2).bind fun b8 => ((Pxg.f a0_0 l0_1 l0_2 a1).bind fun b5 => ((Pr26d.f a0_0 l0_1 l0_2).bind fun g5 => (if g5 = true then (Pl26a.l0 k a1 a2 b9 b8 b5 (([] : List Int)) (([] : List (S51))) true 0 a0_0 l0_1 l0_2) else (if (b9.length : Int) = 0 then (if (b8.length : Int) = 0 then (if (b5.length : Int) = 0 then ((Pxb.f k a0_0 l0_1 l0_2).bind fun f9 => (if f9 = true then (some false) else ((Pl26b.f k).bind fun f6 => (some f6)))) else (some false)) else (some false)) else (some false))))))) = some r := by rw [if_pos rfl] at H; exact H
  clear H
  have H := H1
  clear H1
  replace H := Option.bind_eq_some_iff.mp H
  obtain ⟨b9, v9, H⟩ := H
  replace H : ((Pxe.f k a0_0 l0_1 l0_2 a1 a2).bind fun b8 => ((Pxg.f a0_0 l0_1 l0_2 a1).bind fun b5 => ((Pr26d.f a0_0 l0_1 l0_2).bind fun g5 => (if g5 = true then (Pl26a.l0 k a1 a2 b9 b8 b5 (([] : List Int)) (([] : List (S51))) true 0 a0_0 l0_1 l0_2) else (if (b9.length : Int) = 0 then (if (b8.length : Int) = 0 then (if (b5.length : Int) = 0 then ((Pxb.f k a0_0 l0_1 l0_2).bind fun f9 => (if f9 = true then (some false) else ((Pl26b.f k).bind fun f6 => (some f6)))) else (some false)) else (some false)) else (some false)))))) = some r := H
  have A6 := Aside0.mk v9
  clear v9
  replace H := Option.bind_eq_some_iff.mp H
  obtain ⟨b8, v4, H⟩ := H
  replace H : ((Pxg.f a0_0 l0_1 l0_2 a1).bind fun b5 => ((Pr26d.f a0_0 l0_1 l0_2).bind fun g5 => (if g5 = true then (Pl26a.l0 k a1 a2 b9 b8 b5 (([] : List Int)) (([] : List (S51))) true 0 a0_0 l0_1 l0_2) else (if (b9.length : Int) = 0 then (if (b8.length : Int) = 0 then (if (b5.length : Int) = 0 then ((Pxb.f k a0_0 l0_1 l0_2).bind fun f9 => (if f9 = true then (some false) else ((Pl26b.f k).bind fun f6 => (some f6)))) else (some false)) else (some false)) else (some false))))) = some r := H
  have A7 := Aside0.mk v4
  clear v4
  replace H := Option.bind_eq_some_iff.mp H
  obtain ⟨b5, v3, H⟩ := H
  replace H : ((Pr26d.f a0_0 l0_1 l0_2).bind fun g5 => (if g5 = true then (Pl26a.l0 k a1 a2 b9 b8 b5 (([] : List Int)) (([] : List (S51))) true 0 a0_0 l0_1 l0_2) else (if (b9.length : Int) = 0 then (if (b8.length : Int) = 0 then (if (b5.length : Int) = 0 then ((Pxb.f k a0_0 l0_1 l0_2).bind fun f9 => (if f9 = true then (some false) else ((Pl26b.f k).bind fun f6 => (some f6)))) else (some false)) else (some false)) else (some false)))) = some r := H
  have A8 := Aside0.mk v3
  clear v3
  replace H := Option.bind_eq_some_iff.mp H
  obtain ⟨g5, v5, H⟩ := H
  replace H : (if g5 = true then (Pl26a.l0 k a1 a2 b9 b8 b5 (([] : List Int)) (([] : List (S51))) true 0 a0_0 l0_1 l0_2) else (if (b9.length : Int) = 0 then (if (b8.length : Int) = 0 then (if (b5.length : Int) = 0 then ((Pxb.f k a0_0 l0_1 l0_2).bind fun f9 => (if f9 = true then (some false) else ((Pl26b.f k).bind fun f6 => (some f6)))) else (some false)) else (some false)) else (some false))) = some r := H
  have A9 := Aside0.mk v5
  clear v5
  by_cases k5 : g5 = true
  ·subst k5
   have H1 : (Pl26a.l0 k a1 a2 b9 b8 b5 (([] : List Int)) (([] : List (S51))) true 0 a0_0 l0_1 l0_2) = some r := by rw [if_pos rfl] at H; exact H
   clear H
   have H := H1
   clear H1
   obtain ⟨n0, j3⟩ : ∃ y_ : List Int, y_ = (([] : List Int)) := ⟨_, rfl⟩
   replace H : (Pl26a.l0 k a1 a2 b9 b8 b5 n0 (([] : List (S51))) true 0 a0_0 l0_1 l0_2) = some r := by first | (rw [j3]; with_reducible exact H) | (have g4 := (Option.bind_some _ _).symm.trans H; rw [j3]; with_reducible exact g4) | (have g4 := (Option.bind_some _ _).symm.trans H; with_reducible exact g4) | with_reducible exact H | (rw [j3]; exact H) | exact H
   have o1 := Aside0.mk j3
   clear j3
   obtain ⟨s4, i7⟩ : ∃ y_ : List (S51), y_ = (([] : List (S51))) := ⟨_, rfl⟩
   replace H : (Pl26a.l0 k a1 a2 b9 b8 b5 n0 s4 true 0 a0_0 l0_1 l0_2) = some r := by first | (rw [i7]; with_reducible exact H) | (have g4 := (Option.bind_some _ _).symm.trans H; rw [i7]; with_reducible exact g4) | (have g4 := (Option.bind_some _ _).symm.trans H; with_reducible exact g4) | with_reducible exact H | (rw [i7]; exact H) | exact H
   have o4 := Aside0.mk i7
   clear i7
   have H' := Aside0.mk H
   clear H
   go_enter Try.func7, Try.ntmps7
   try go_wp2_with (first | ((with_reducible refine gate_dst (N := 3) rfl ?_); (try (refine gate_guard (by rfl) ?_; dsimp only)); refine box_event ?hg (N := 3) ?hd (cs := #[.int .i64 a0_0, .slice A0_1 l0_1.length c0_1, .slice A0_2 l0_2.length c0_2]) (t := 25) ?hr ?_; (case hd => rfl); (case hg => rfl); (case hr => first | (go_simp; done) | (go_simp; rfl)); intro a6 hg w11 hbox hb; have a9 := Aside0.mk (below_step (by repeat (first | (with_reducible first | exact HB.out | apply below_alloc | apply pw_below_drewN | apply below_drew1) | exact HB.out)) hb); have b0 := Aside0.mk (hbox); have b4 := Aside0.mk ((by rw [hg]; exact (below_size (by repeat (first | (with_reducible first | exact HB.out | apply below_alloc | apply pw_below_drewN | apply below_drew1) | exact HB.out))) : w.heap.size ≤ a6)); have b7 := Aside0.mk ((by rw [hg]; exact (below_size (by repeat (first | (with_reducible first | exact HB.out | apply below_alloc | apply pw_below_drewN | apply below_drew1) | exact HB.out))) : w.heap.size ≤ a6)); clear HB; have HB := a9; have a3 := b0; have n9 := b4; have a7 := b7; clear a9 b0 b4 b7; clear hb hbox hg; have k3 : w11.cell? ⟨a6, 0, none⟩ = some (.int .i64 a0_0) := (blk_cell a3.out 0).trans rfl; have l5 : w11.cell? ⟨a6, 1, none⟩ = some (.slice A0_1 l0_1.length c0_1) := (blk_cell a3.out 1).trans rfl; have k9 : w11.cell? ⟨a6, 2, none⟩ = some (.slice A0_2 l0_2.length c0_2) := (blk_cell a3.out 2).trans rfl; have l3 := blk_frozen a3.out 0; have l4 := blk_frozen a3.out 1; have k6 := blk_frozen a3.out 2) | ((with_reducible refine gate_callee (f := 23) rfl ?_); refine goesL_ (some 16) rfl rfl Try.func23 (by kernel_rfl) rfl #[.agg #[.int .i64 a0_0, .slice A0_1 l0_1.length c0_1, .slice A0_2 l0_2.length c0_2]] rfl (by (try simp only [List.map_toArray, List.map_cons, List.map_nil]); first | done | rfl | (simp only [List.length_drop, List.length_take]; rfl)) ?_; (with_reducible refine (Pr26a.calls k a0_0 _ _ l0_1 _ _ l0_2 true _ ?e3 ?e4 ?e7 ?e6 A4.out).mono ?_); (case e3 => repeat (first | exact (Kd.C_below f5.out HB.out) | (with_reducible refine Kd.C_alloc ?_ _) | (with_reducible refine Kd.C_drewN ?_ _) | (with_reducible refine Kd.C_drew ?_))); (case e4 => exact f3.out); (case e7 => repeat (first | exact (Kd.C_below e9.out HB.out) | (with_reducible refine Kd.C_alloc ?_ _) | (with_reducible refine Kd.C_drewN ?_ _) | (with_reducible refine Kd.C_drew ?_))); (case e6 => exact f4.out); rintro e w13 ⟨rfl, hb⟩; refine ⟨_, rfl, ?_⟩; have a9 := Aside0.mk (blk_below (g := a6) (o := .cells #[.int .i64 a0_0, .slice A0_1 l0_1.length c0_1, .slice A0_2 l0_2.length c0_2] 25 (0, 0)) (by (with_reducible repeat (first | refine blk_drewN ?_ _ | refine blk_drew ?_ | refine blk_alloc ?_ _)); exact a3.out) hb); have b0 := Aside0.mk (below_step (by repeat (first | (with_reducible first | exact HB.out | apply below_alloc | apply pw_below_drewN | apply below_drew1 | refine below_set ?_ a7.out) | exact HB.out)) hb); clear a3; clear HB; have a3 := a9; have HB := b0; clear a9 b0; (try clear hb); (try clear hb2); (try clear hk); (try clear hi)))
   have a9 := Aside0.mk (blk_drew a3.out)
   have b0 := Aside0.mk (below_drew1 HB.out)
   clear a3
   clear HB
   have a3 := a9
   have HB := b0
   clear a9 b0
   refine start_ (n := 14) (S := fun w' => w'.cell? ⟨a6, 0, none⟩ = some (.int .i64 a0_0) ∧ w'.cell? ⟨a6, 1, none⟩ = some (.slice A0_1 l0_1.length c0_1) ∧ w'.cell? ⟨a6, 2, none⟩ = some (.slice A0_2 l0_2.length c0_2)) (ds := []) #[false, false, false, false, false, false, false, false, false, false, false, false, false, false] (by kernel_rfl) rfl rfl ⟨(blk_cell a3.out 0).trans rfl, (blk_cell a3.out 1).trans rfl, (blk_cell a3.out 2).trans rfl⟩ (fun hHeld => ?_); refine with_tabW Pl26a.tab3 Pl26a.bits3 (fun HT_ HW_ => ?_)
   generalize w13.drew = w14 at a3 HB hHeld ⊢
   refine pure_ (i := 1) (N := some 20) (v := ?_) (a' := ?_) #[false, true, false, false, false, false, false, false, false, false, false, false, false, false] rfl rfl (any_of HT_.out (by kernel_rfl)) (fun _ _ _ h => h) (Or.inl ⟨by rfl, ?_⟩) ?_ ?_
   rotate_left
   ·intro w'
    go_simp
    with_reducible rfl
   rotate_left
   ·simp only [Act.put, List.setIfInBounds_toArray, List.set_cons_zero, List.set_cons_succ, i64_w, i32_w]
    rfl
   refine pure_ (i := 2) (N := some 21) (v := ?_) (a' := ?_) #[false, true, true, false, false, false, false, false, false, false, false, false, false, false] rfl rfl (any_of HT_.out (by kernel_rfl)) (fun _ _ _ h => h) (Or.inl ⟨by rfl, ?_⟩) ?_ ?_
   rotate_left
   ·intro w'
    go_simp
    with_reducible rfl
   rotate_left
   ·simp only [Act.put, List.setIfInBounds_toArray, List.set_cons_zero, List.set_cons_succ, i64_w, i32_w]
    rfl
   refine pure_ (i := 5) (N := some 24) (v := ?_) (a' := ?_) #[false, true, true, false, false, true, false, false, false, false, false, false, false, false] rfl rfl (any_of HT_.out (by kernel_rfl)) (fun _ _ _ h => h) (Or.inl ⟨by rfl, ?_⟩) ?_ ?_
   rotate_left
   ·intro w'
    go_simp
    with_reducible rfl
   rotate_left
   ·simp only [Act.put, List.setIfInBounds_toArray, List.set_cons_zero, List.set_cons_succ, i64_w, i32_w]
    rfl
   refine pure_ (i := 6) (N := some 25) (v := ?_) (a' := ?_) #[false, true, true, false, false, true, true, false, false, false, false, false, false, false] rfl rfl (any_of HT_.out (by kernel_rfl)) (fun _ _ _ h => h) (Or.inl ⟨by rfl, ?_⟩) ?_ ?_
   rotate_left
   ·intro w'
    go_simp
    with_reducible rfl
   rotate_left
   ·simp only [Act.put, List.setIfInBounds_toArray, List.set_cons_zero, List.set_cons_succ, i64_w, i32_w]
    rfl
   refine pure_ (i := 9) (N := some 28) (v := ?_) (a' := ?_) #[false, true, true, false, false, true, true, false, false, true, false, false, false, false] rfl rfl (any_of HT_.out (by kernel_rfl)) (fun _ _ _ h => h) (Or.inl ⟨by rfl, ?_⟩) ?_ ?_
   rotate_left
   ·intro w'
    go_simp
    with_reducible rfl
   rotate_left
   ·simp only [Act.put, List.setIfInBounds_toArray, List.set_cons_zero, List.set_cons_succ, i64_w, i32_w]
    rfl
   refine take_ (i := 0) (N := some 19) (v := ?_) (a' := ?_) #[true, true, true, false, false, true, true, false, false, true, false, false, false, false] rfl rfl (take_ofW HT_.out HW_.out (by kernel_rfl)) (fun _ _ _ h => h) (Or.inl ⟨by rfl, ?_⟩) hHeld ?_ ?_
   rotate_left
   ·rintro w' ⟨s0, s1, s2⟩
    go_simp
    with_reducible rfl
   rotate_left
   ·simp only [Act.put, List.setIfInBounds_toArray, List.set_cons_zero, List.set_cons_succ, i64_w, i32_w]
    rfl
   refine take_ (i := 4) (N := some 23) (v := ?_) (a' := ?_) #[true, true, true, false, true, true, true, false, false, true, false, false, false, false] rfl rfl (take_ofW HT_.out HW_.out (by kernel_rfl)) (fun _ _ _ h => h) (Or.inl ⟨by rfl, ?_⟩) hHeld ?_ ?_
   rotate_left
   ·rintro w' ⟨s0, s1, s2⟩
    go_simp
    with_reducible rfl
   rotate_left
   ·simp only [Act.put, List.setIfInBounds_toArray, List.set_cons_zero, List.set_cons_succ, i64_w, i32_w]
    rfl
   refine take_ (i := 8) (N := some 27) (v := ?_) (a' := ?_) #[true, true, true, false, true, true, true, false, true, true, false, false, false, false] rfl rfl (take_ofW HT_.out HW_.out (by kernel_rfl)) (fun _ _ _ h => h) (Or.inl ⟨by rfl, ?_⟩) hHeld ?_ ?_
   rotate_left
   ·rintro w' ⟨s0, s1, s2⟩
    go_simp
    with_reducible rfl
   rotate_left
   ·simp only [Act.put, List.setIfInBounds_toArray, List.set_cons_zero, List.set_cons_succ, i64_w, i32_w]
    rfl
   refine one_ (i := 3) (N := some 22) #[true, true, true, true, true, true, true, false, true, true, false, false, false, false] rfl rfl (one_of HT_.out (by kernel_rfl)) (by decide) (fun K hK => ?_)
   refine goes_ Try.func28 (by kernel_rfl) rfl #[.agg #[.int .i64 a0_0, .slice A0_1 l0_1.length c0_1, .slice A0_2 l0_2.length c0_2], .int .i64 a1, .int .i64 a2] (by rfl) rfl rfl (by (try simp only [List.map_toArray, List.map_cons, List.map_nil]); first | done | rfl | (simp only [List.length_drop, List.length_take]; rfl)) ?_
   with_reducible refine (Pxf.calls k a0_0 _ _ l0_1 _ _ l0_2 a1 a2 b9 _ ?e3 ?e4 ?e7 ?e6 A6.out).mono ?_
   (case e3 => repeat (first | exact (Kd.C_below f5.out HB.out) | (with_reducible refine Kd.C_alloc ?_ _) | (with_reducible refine Kd.C_drewN ?_ _) | (with_reducible refine Kd.C_drew ?_)))
   (case e4 => exact f3.out)
   (case e7 => repeat (first | exact (Kd.C_below e9.out HB.out) | (with_reducible refine Kd.C_alloc ?_ _) | (with_reducible refine Kd.C_drewN ?_ _) | (with_reducible refine Kd.C_drew ?_)))
   (case e6 => exact f4.out)
   rintro e w15 ⟨g2, rfl, d8, hb⟩
   refine ⟨_, rfl, ?_⟩
   have a9 := Aside0.mk (Kd.R_lower d8 (below_size (by repeat (first | (with_reducible first | exact HB.out | apply below_alloc | apply pw_below_drewN | apply below_drew1 | refine below_set ?_ a7.out) | exact HB.out))))
   have b0 := Aside0.mk (blk_below (g := a6) (o := .cells #[.int .i64 a0_0, .slice A0_1 l0_1.length c0_1, .slice A0_2 l0_2.length c0_2] 25 (0, 0)) (by (with_reducible repeat (first | refine blk_drewN ?_ _ | refine blk_drew ?_ | refine blk_alloc ?_ _)); exact a3.out) hb)
   have b4 := Aside0.mk (below_step (by repeat (first | (with_reducible first | exact HB.out | apply below_alloc | apply pw_below_drewN | apply below_drew1 | refine below_set ?_ a7.out) | exact HB.out)) hb)
   clear a3
   clear HB
   have d0 := a9
   have a3 := b0
   have HB := b4
   clear a9 b0 b4
   (try clear hb)
   (try clear hb2)
   (try clear hk)
   (try clear hi)
   (try clear d8)
   refine hK.out _ _ ⟨(blk_cell a3.out 0).trans rfl, (blk_cell a3.out 1).trans rfl, (blk_cell a3.out 2).trans rfl⟩ (fun hHeld => ?_)
   clear hK K
   refine norm_ (a' := ?_) ?_ ?_
   rotate_left
   ·show Act.put _ (some 22) _ = _
    simp only [Act.put, List.setIfInBounds_toArray, List.set_cons_zero, List.set_cons_succ, i64_w, i32_w]
    rfl
   refine one_ (i := 7) (N := some 26) #[true, true, true, true, true, true, true, true, true, true, false, false, false, false] rfl rfl (one_of HT_.out (by kernel_rfl)) (by decide) (fun K hK => ?_)
   refine goes_ Try.func29 (by kernel_rfl) rfl #[.agg #[.int .i64 a0_0, .slice A0_1 l0_1.length c0_1, .slice A0_2 l0_2.length c0_2], .int .i64 a1, .int .i64 a2] (by rfl) rfl rfl (by (try simp only [List.map_toArray, List.map_cons, List.map_nil]); first | done | rfl | (simp only [List.length_drop, List.length_take]; rfl)) ?_
   with_reducible refine (Pxe.calls k a0_0 _ _ l0_1 _ _ l0_2 a1 a2 b8 _ ?e3 ?e4 ?e7 ?e6 A7.out).mono ?_
   (case e3 => repeat (first | exact (Kd.C_below f5.out HB.out) | (with_reducible refine Kd.C_alloc ?_ _) | (with_reducible refine Kd.C_drewN ?_ _) | (with_reducible refine Kd.C_drew ?_)))
   (case e4 => exact f3.out)
   (case e7 => repeat (first | exact (Kd.C_below e9.out HB.out) | (with_reducible refine Kd.C_alloc ?_ _) | (with_reducible refine Kd.C_drewN ?_ _) | (with_reducible refine Kd.C_drew ?_)))
   (case e6 => exact f4.out)
   rintro e w16 ⟨g3, rfl, d8, hb⟩
   refine ⟨_, rfl, ?_⟩
   have a9 := Aside0.mk (Kd.R_elder' (by (with_reducible repeat (first | apply Kd.R_alloc | apply Kd.R_drewN | apply Kd.R_drew)); exact d0.out) (Kd.R_base d8) hb)
   have b0 := Aside0.mk (Kd.R_lower (Kd.R_new' d8 (Kd.R_lt (by (with_reducible repeat (first | apply Kd.R_alloc | apply Kd.R_drewN | apply Kd.R_drew)); exact d0.out))) (below_size (by repeat (first | (with_reducible first | exact HB.out | apply below_alloc | apply pw_below_drewN | apply below_drew1 | refine below_set ?_ a7.out) | exact HB.out))))
   have b4 := Aside0.mk (blk_below (g := a6) (o := .cells #[.int .i64 a0_0, .slice A0_1 l0_1.length c0_1, .slice A0_2 l0_2.length c0_2] 25 (0, 0)) (by (with_reducible repeat (first | refine blk_drewN ?_ _ | refine blk_drew ?_ | refine blk_alloc ?_ _)); exact a3.out) hb)
   have b7 := Aside0.mk (below_step (by repeat (first | (with_reducible first | exact HB.out | apply below_alloc | apply pw_below_drewN | apply below_drew1 | refine below_set ?_ a7.out) | exact HB.out)) hb)
   clear d0
   clear a3
   clear HB
   have d0 := a9
   have d9 := b0
   have a3 := b4
   have HB := b7
   clear a9 b0 b4 b7
   (try clear hb)
   (try clear hb2)
   (try clear hk)
   (try clear hi)
   (try clear d8)
   refine hK.out _ _ ⟨(blk_cell a3.out 0).trans rfl, (blk_cell a3.out 1).trans rfl, (blk_cell a3.out 2).trans rfl⟩ (fun hHeld => ?_)
   clear hK K
   refine norm_ (a' := ?_) ?_ ?_
   rotate_left
   ·show Act.put _ (some 26) _ = _
    simp only [Act.put, List.setIfInBounds_toArray, List.set_cons_zero, List.set_cons_succ, i64_w, i32_w]
    rfl
   refine one_ (i := 10) (N := some 29) #[true, true, true, true, true, true, true, true, true, true, true, false, false, false] rfl rfl (one_of HT_.out (by kernel_rfl)) (by decide) (fun K hK => ?_)
   refine goes_ Try.func30 (by kernel_rfl) rfl #[.agg #[.int .i64 a0_0, .slice A0_1 l0_1.length c0_1, .slice A0_2 l0_2.length c0_2], .int .i64 a1] (by rfl) rfl rfl (by (try simp only [List.map_toArray, List.map_cons, List.map_nil]); first | done | rfl | (simp only [List.length_drop, List.length_take]; rfl)) ?_
   with_reducible refine (Pxg.calls a0_0 _ _ l0_1 _ _ l0_2 a1 b5 _ ?e3 ?e4 ?e7 ?e6 A8.out).mono ?_
   (case e3 => repeat (first | exact (Kd.C_below f5.out HB.out) | (with_reducible refine Kd.C_alloc ?_ _) | (with_reducible refine Kd.C_drewN ?_ _) | (with_reducible refine Kd.C_drew ?_)))
   (case e4 => exact f3.out)
   (case e7 => repeat (first | exact (Kd.C_below e9.out HB.out) | (with_reducible refine Kd.C_alloc ?_ _) | (with_reducible refine Kd.C_drewN ?_ _) | (with_reducible refine Kd.C_drew ?_)))
   (case e6 => exact f4.out)
   rintro e w17 ⟨h3, rfl, d8, hb⟩
   refine ⟨_, rfl, ?_⟩
   have a9 := Aside0.mk (Kd.R_below (by (with_reducible repeat (first | apply Kd.R_alloc | apply Kd.R_drewN | apply Kd.R_drew)); exact d0.out) hb)
   have b0 := Aside0.mk (Kd.R_below (by (with_reducible repeat (first | apply Kd.R_alloc | apply Kd.R_drewN | apply Kd.R_drew)); exact d9.out) hb)
   have b4 := Aside0.mk (Kd.R_lower d8 (below_size (by repeat (first | (with_reducible first | exact HB.out | apply below_alloc | apply pw_below_drewN | apply below_drew1 | refine below_set ?_ a7.out) | exact HB.out))))
   have b7 := Aside0.mk (blk_below (g := a6) (o := .cells #[.int .i64 a0_0, .slice A0_1 l0_1.length c0_1, .slice A0_2 l0_2.length c0_2] 25 (0, 0)) (by (with_reducible repeat (first | refine blk_drewN ?_ _ | refine blk_drew ?_ | refine blk_alloc ?_ _)); exact a3.out) hb)
   have c4 := Aside0.mk (below_step (by repeat (first | (with_reducible first | exact HB.out | apply below_alloc | apply pw_below_drewN | apply below_drew1 | refine below_set ?_ a7.out) | exact HB.out)) hb)
   clear d0
   clear d9
   clear a3
   clear HB
   have d0 := a9
   have d9 := b0
   have e0 := b4
   have a3 := b7
   have HB := c4
   clear a9 b0 b4 b7 c4
   (try clear hb)
   (try clear hb2)
   (try clear hk)
   (try clear hi)
   (try clear d8)
   refine hK.out _ _ ⟨(blk_cell a3.out 0).trans rfl, (blk_cell a3.out 1).trans rfl, (blk_cell a3.out 2).trans rfl⟩ (fun hHeld => ?_)
   clear hK K
   refine norm_ (a' := ?_) ?_ ?_
   rotate_left
   ·show Act.put _ (some 29) _ = _
    simp only [Act.put, List.setIfInBounds_toArray, List.set_cons_zero, List.set_cons_succ, i64_w, i32_w]
    rfl
   refine pure_ (i := 11) (N := some 7) (v := ?_) (a' := ?_) #[true, true, true, true, true, true, true, true, true, true, true, true, false, false] rfl rfl (any_of HT_.out (by kernel_rfl)) (fun _ _ _ h => h) (Or.inl ⟨by rfl, ?_⟩) ?_ ?_
   rotate_left
   ·intro w'
    go_simp
    with_reducible rfl
   rotate_left
   ·simp only [Act.put, List.setIfInBounds_toArray, List.set_cons_zero, List.set_cons_succ, i64_w, i32_w]
    rfl
   refine pure_ (i := 12) (N := some 8) (v := ?_) (a' := ?_) #[true, true, true, true, true, true, true, true, true, true, true, true, true, false] rfl rfl (any_of HT_.out (by kernel_rfl)) (fun _ _ _ h => h) (Or.inl ⟨by rfl, ?_⟩) ?_ ?_
   rotate_left
   ·intro w'
    go_simp
    with_reducible rfl
   rotate_left
   ·simp only [Act.put, List.setIfInBounds_toArray, List.set_cons_zero, List.set_cons_succ, i64_w, i32_w]
    rfl
   refine pure_ (i := 13) (N := some 9) (v := ?_) (a' := ?_) #[true, true, true, true, true, true, true, true, true, true, true, true, true, true] rfl rfl (any_of HT_.out (by kernel_rfl)) (fun _ _ _ h => h) (Or.inl ⟨by rfl, ?_⟩) ?_ ?_
   rotate_left
   ·intro w'
    go_simp
    with_reducible rfl
   rotate_left
   ·simp only [Act.put, List.setIfInBounds_toArray, List.set_cons_zero, List.set_cons_succ, i64_w, i32_w]
    rfl
   refine done_ (done_of HT_.out (by kernel_rfl)) ?_
   have l8 : w17.cell? ⟨a6, 0, none⟩ = some (.int .i64 a0_0) := (blk_cell a3.out 0).trans rfl
   have l6 : w17.cell? ⟨a6, 1, none⟩ = some (.slice A0_1 l0_1.length c0_1) := (blk_cell a3.out 1).trans rfl
   have k4 : w17.cell? ⟨a6, 2, none⟩ = some (.slice A0_2 l0_2.length c0_2) := (blk_cell a3.out 2).trans rfl
   have l9 := blk_frozen a3.out 0
   have l7 := blk_frozen a3.out 1
   have k8 := blk_frozen a3.out 2
   try go_wp2_with (first | ((with_reducible refine gate_callee (f := 15) rfl ?_); refine goesL_ (some 31) rfl rfl Try.func15 (by kernel_rfl) rfl #[.agg #[.int .i64 a0_0, .slice A0_1 l0_1.length c0_1, .slice A0_2 l0_2.length c0_2]] rfl (by (try simp only [List.map_toArray, List.map_cons, List.map_nil]); first | done | rfl | (simp only [List.length_drop, List.length_take]; rfl)) ?_; (with_reducible refine (Pr26d.calls a0_0 _ _ l0_1 _ _ l0_2 true _ ?e3 ?e4 ?e7 ?e6 A9.out).mono ?_); (case e3 => repeat (first | exact (Kd.C_below f5.out HB.out) | (with_reducible refine Kd.C_alloc ?_ _) | (with_reducible refine Kd.C_drewN ?_ _) | (with_reducible refine Kd.C_drew ?_))); (case e4 => exact f3.out); (case e7 => repeat (first | exact (Kd.C_below e9.out HB.out) | (with_reducible refine Kd.C_alloc ?_ _) | (with_reducible refine Kd.C_drewN ?_ _) | (with_reducible refine Kd.C_drew ?_))); (case e6 => exact f4.out); rintro e w19 ⟨rfl, hb⟩; refine ⟨_, rfl, ?_⟩; have a9 := Aside0.mk (Kd.R_below (by (with_reducible repeat (first | apply Kd.R_alloc | apply Kd.R_drewN | apply Kd.R_drew)); exact d0.out) hb); have b0 := Aside0.mk (Kd.R_below (by (with_reducible repeat (first | apply Kd.R_alloc | apply Kd.R_drewN | apply Kd.R_drew)); exact d9.out) hb); have b4 := Aside0.mk (Kd.R_below (by (with_reducible repeat (first | apply Kd.R_alloc | apply Kd.R_drewN | apply Kd.R_drew)); exact e0.out) hb); have b7 := Aside0.mk (blk_below (g := a6) (o := .cells #[.int .i64 a0_0, .slice A0_1 l0_1.length c0_1, .slice A0_2 l0_2.length c0_2] 25 (0, 0)) (by (with_reducible repeat (first | refine blk_drewN ?_ _ | refine blk_drew ?_ | refine blk_alloc ?_ _)); exact a3.out) hb); have c4 := Aside0.mk (below_step (by repeat (first | (with_reducible first | exact HB.out | apply below_alloc | apply pw_below_drewN | apply below_drew1 | refine below_set ?_ a7.out) | exact HB.out)) hb); clear d0; clear d9; clear e0; clear a3; clear HB; have d0 := a9; have d9 := b0; have e0 := b4; have a3 := b7; have HB := c4; clear a9 b0 b4 b7 c4; (try clear hb); (try clear hb2); (try clear hk); (try clear hi)) | ((with_reducible refine gate_dst (N := 54) rfl ?_); (try (refine gate_guard (by rfl) ?_; dsimp only)); refine Kd.R_lit (Kd.int .i64) _ 3 ?hg (N := 54) ?hd (xs := ([] : List Int)) (inner := []) (ok := fun _ => True) (okp := fun _ => True) ?hr ?hp (fun _ hk => hk) trivial (Below.refl _ _) (Nat.le_refl _) (by simp) ?_; (case hd => rfl); (case hg => rfl); (case hr => first | (go_simp; done) | (go_simp; rfl)); (case hp => exact (Reps.none _ _)); intro R8 w20 ho21 hb hg_ hnew_; clear hg_ hnew_; (first | rw [← o1.out] at ho21 | (simp only [Int.reduceToNat] at ho21; rw [← o1.out] at ho21)); have a9 := Aside0.mk (Kd.R_elder' (by (with_reducible repeat (first | apply Kd.R_alloc | apply Kd.R_drewN | apply Kd.R_drew)); exact d0.out) (Kd.R_base ho21) hb); have b0 := Aside0.mk (Kd.R_elder' (by (with_reducible repeat (first | apply Kd.R_alloc | apply Kd.R_drewN | apply Kd.R_drew)); exact d9.out) (Kd.R_base ho21) hb); have b4 := Aside0.mk (Kd.R_below (by (with_reducible repeat (first | apply Kd.R_alloc | apply Kd.R_drewN | apply Kd.R_drew)); exact e0.out) hb); have b7 := Aside0.mk (Kd.R_lower (Kd.R_new' (Kd.R_new' ho21 (Kd.R_lt (by (with_reducible repeat (first | apply Kd.R_alloc | apply Kd.R_drewN | apply Kd.R_drew)); exact d0.out))) (Kd.R_lt (by (with_reducible repeat (first | apply Kd.R_alloc | apply Kd.R_drewN | apply Kd.R_drew)); exact d9.out))) (below_size (by repeat (first | (with_reducible first | exact HB.out | apply below_alloc | apply pw_below_drewN | apply below_drew1 | refine below_set ?_ a7.out) | exact HB.out)))); have c4 := Aside0.mk (blk_below (g := a6) (o := .cells #[.int .i64 a0_0, .slice A0_1 l0_1.length c0_1, .slice A0_2 l0_2.length c0_2] 25 (0, 0)) (by (with_reducible repeat (first | refine blk_drewN ?_ _ | refine blk_drew ?_ | refine blk_alloc ?_ _)); exact a3.out) hb); have d2 := Aside0.mk (below_step (by repeat (first | (with_reducible first | exact HB.out | apply below_alloc | apply pw_below_drewN | apply below_drew1 | refine below_set ?_ a7.out) | exact HB.out)) hb); clear d0; clear d9; clear e0; clear a3; clear HB; have d0 := a9; have d9 := b0; have e0 := b4; have j8 := b7; have a3 := c4; have HB := d2; clear a9 b0 b4 b7 c4 d2; clear hb ho21) | ((with_reducible refine gate_dst (N := 55) rfl ?_); (try (refine gate_guard (by rfl) ?_; dsimp only)); refine Kd.R_lit k51 _ 51 ?hg (N := 55) ?hd (xs := ([] : List (S51))) (inner := []) (ok := fun _ => True) (okp := fun _ => True) ?hr ?hp (fun _ hk => hk) trivial (Below.refl _ _) (Nat.le_refl _) (by simp) ?_; (case hd => rfl); (case hg => rfl); (case hr => first | (go_simp; done) | (go_simp; rfl)); (case hp => exact (Reps.none _ _)); intro S9 w22 ho23 hb hg_ hnew_; clear hg_ hnew_; (first | rw [← o4.out] at ho23 | (simp only [Int.reduceToNat] at ho23; rw [← o4.out] at ho23)); have a9 := Aside0.mk (Kd.R_below (by (with_reducible repeat (first | apply Kd.R_alloc | apply Kd.R_drewN | apply Kd.R_drew)); exact d0.out) hb); have b0 := Aside0.mk (Kd.R_below (by (with_reducible repeat (first | apply Kd.R_alloc | apply Kd.R_drewN | apply Kd.R_drew)); exact d9.out) hb); have b4 := Aside0.mk (Kd.R_elder' (by (with_reducible repeat (first | apply Kd.R_alloc | apply Kd.R_drewN | apply Kd.R_drew)); exact e0.out) (Kd.R_base ho23) hb); have b7 := Aside0.mk (Kd.R_below (by (with_reducible repeat (first | apply Kd.R_alloc | apply Kd.R_drewN | apply Kd.R_drew)); exact j8.out) hb); have c4 := Aside0.mk (Kd.R_lower (Kd.R_new' ho23 (Kd.R_lt (by (with_reducible repeat (first | apply Kd.R_alloc | apply Kd.R_drewN | apply Kd.R_drew)); exact e0.out))) (below_size (by repeat (first | (with_reducible first | exact HB.out | apply below_alloc | apply pw_below_drewN | apply below_drew1 | refine below_set ?_ a7.out) | exact HB.out)))); have d2 := Aside0.mk (blk_below (g := a6) (o := .cells #[.int .i64 a0_0, .slice A0_1 l0_1.length c0_1, .slice A0_2 l0_2.length c0_2] 25 (0, 0)) (by (with_reducible repeat (first | refine blk_drewN ?_ _ | refine blk_drew ?_ | refine blk_alloc ?_ _)); exact a3.out) hb); have d6 := Aside0.mk (below_step (by repeat (first | (with_reducible first | exact HB.out | apply below_alloc | apply pw_below_drewN | apply below_drew1 | refine below_set ?_ a7.out) | exact HB.out)) hb); clear d0; clear d9; clear e0; clear j8; clear a3; clear HB; have d0 := a9; have d9 := b0; have e0 := b4; have j8 := b7; have t9 := c4; have a3 := d2; have HB := d6; clear a9 b0 b4 b7 c4 d2 d6; clear hb ho23))
   go_loopg [10, 11, 12, 13] k (fun kq r9 v7 M9 v13 w' => ∃ (d3 : List Int) (c9 : List (S51)) (d4 : Bool) (a0 : Int), M9 = .bool d4 ∧ v13 = .int .i64 a0 ∧ Aside0 (Pl26a.l0 kq a1 a2 b9 b8 b5 d3 c9 d4 a0 a0_0 l0_1 l0_2 = some r) ∧ Aside0 (kq ≤ k) ∧ Aside0 (Kd.R (Kd.int .i64) 3 w' w.heap.size (fun k_ => some k_ ≠ (g3 : Value).ownBlock ∧ some k_ ≠ (r9 : Value).ownBlock) g2 b9) ∧ Aside0 (Kd.R (Kd.int .i64) 3 w' w.heap.size (fun k_ => some k_ ≠ (g2 : Value).ownBlock ∧ some k_ ≠ (r9 : Value).ownBlock) g3 b8) ∧ Aside0 (Kd.R k51 51 w' w.heap.size (fun k_ => some k_ ≠ (v7 : Value).ownBlock) h3 b5) ∧ Aside0 (Kd.R (Kd.int .i64) 3 w' w.heap.size (fun k_ => some k_ ≠ (g2 : Value).ownBlock ∧ some k_ ≠ (g3 : Value).ownBlock) r9 d3) ∧ Aside0 (Kd.R k51 51 w' w.heap.size (fun k_ => some k_ ≠ (h3 : Value).ownBlock) v7 c9) ∧ Aside0 (w'.heap[a6]? = some (.cells #[.int .i64 a0_0, (.slice A0_1 l0_1.length c0_1), (.slice A0_2 l0_2.length c0_2)] 25 (0, 0))) ∧ Aside0 (Below w.heap.size w w'))
   case atStart => exact ⟨(n0), (s4), (true), (0), (by first | rfl | (simp; done) | (simp [*]; done)), (by first | rfl | (simp; done) | (simp [*]; done)), H', ⟨Nat.le_refl _⟩, ⟨by (with_reducible repeat (first | apply Kd.R_alloc | apply Kd.R_drewN | apply Kd.R_drew)); exact Kd.R_mono d0.out (fun _ hk => ⟨hk.1.2, hk.2⟩)⟩, ⟨by (with_reducible repeat (first | apply Kd.R_alloc | apply Kd.R_drewN | apply Kd.R_drew)); exact Kd.R_mono d9.out (fun _ hk => ⟨hk.1.2, hk.2⟩)⟩, ⟨by (with_reducible repeat (first | apply Kd.R_alloc | apply Kd.R_drewN | apply Kd.R_drew)); exact Kd.R_mono e0.out (fun _ hk => hk.2)⟩, ⟨by (with_reducible repeat (first | apply Kd.R_alloc | apply Kd.R_drewN | apply Kd.R_drew)); exact Kd.R_mono j8.out (fun _ hk => ⟨hk.1.2, hk.2⟩)⟩, ⟨by (with_reducible repeat (first | apply Kd.R_alloc | apply Kd.R_drewN | apply Kd.R_drew)); exact Kd.R_mono t9.out (fun _ hk => hk.2)⟩, ⟨by (with_reducible repeat (first | refine blk_drewN ?_ _ | refine blk_drew ?_ | refine blk_alloc ?_ _)); exact a3.out⟩, ⟨by repeat (first | (with_reducible first | exact HB.out | apply below_alloc | apply pw_below_drewN | apply below_drew1 | refine below_set ?_ a7.out) | exact HB.out)⟩⟩
   case round =>
    clear H'
    try clear c1
    try clear c2
    try clear p2
    try clear c3
    try clear c5
    try clear c7
    try clear k5
    try clear N3
    try clear M6
    try clear k3
    try clear l5
    try clear k9
    try clear l8
    try clear l6
    try clear k4
    try clear l3
    try clear l4
    try clear k6
    try clear l9
    try clear l7
    try clear k8
    obtain ⟨d3, c9, d4, a0, rfl, rfl, HA, g6, b3, b2, b6, b1, a8, a3, HB⟩ := hrel
    cases gk with
    | zero => exact absurd HA.out (by simp [Pl26a.l0])
    | succ k1 =>
     have H := HA.out
     clear HA
     simp only [Pl26a.l0] at H
     by_cases j9 : a0 < (l0_2.length : Int)
     ·rw [if_pos j9] at H
      have c24b0 : decide (a0 < (l0_2.length : Int)) = true := decide_eq_true j9
      clear j9
      by_cases m7 : 0 ≤ a0
      ·rw [if_pos m7] at H
       have c25b0 : decide (0 ≤ a0) = true := decide_eq_true m7
       clear m7
       have m9 := Aside0.mk H
       clear H
       have p6 : wr.cell? ⟨a6, 0, none⟩ = some (.int .i64 a0_0) := (blk_cell a3.out 0).trans rfl
       have r4 : wr.cell? ⟨a6, 1, none⟩ = some (.slice A0_1 l0_1.length c0_1) := (blk_cell a3.out 1).trans rfl
       have q4 : wr.cell? ⟨a6, 2, none⟩ = some (.slice A0_2 l0_2.length c0_2) := (blk_cell a3.out 2).trans rfl
       have p8 := blk_frozen a3.out 0
       have p9 := blk_frozen a3.out 1
       have q5 := blk_frozen a3.out 2
       have m3 : 0 ≤ (a0 : Int) := of_decide_eq_true (by first | (with_reducible assumption) | assumption)
       have m1 : a0 < (l0_2.length : Int) := of_decide_eq_true (by first | (with_reducible assumption) | assumption)
       obtain ⟨e5, y2, i2, i3, i4⟩ := at_T51 e9.out a0 m3 m1
       cases y2
       replace i2 := (HB.out.cell (World.block_lt_of_cell? w _ i2)).trans i2
       replace i3 := (HB.out.cell (World.block_lt_of_cell? w _ i3)).trans i3
       replace i4 := (HB.out.cell (World.block_lt_of_cell? w _ i4)).trans i4
       replace m3 := eq_true m3
       replace m1 := eq_true m1
       go_upto_region 11 with (first | ((with_reducible refine gate_dst (N := 14) rfl ?_); (try (refine gate_guard (by rfl) ?_; dsimp only)); refine box_event ?hg (N := 14) ?hd (cs := #[.int .i64 0, .int .i64 0, .int .i64 0]) (t := 51) ?hr ?_; (case hd => rfl); (case hg => rfl); (case hr => first | (go_simp; done) | (go_simp; rfl)); intro a5 hg w28 hbox hb; have a9 := Aside0.mk (Kd.R_below (by (with_reducible repeat (first | apply Kd.R_alloc | apply Kd.R_drewN | apply Kd.R_drew)); exact b3.out) hb); have b0 := Aside0.mk (Kd.R_below (by (with_reducible repeat (first | apply Kd.R_alloc | apply Kd.R_drewN | apply Kd.R_drew)); exact b2.out) hb); have b4 := Aside0.mk (Kd.R_below (Kd.R_elderB (by (with_reducible repeat (first | apply Kd.R_alloc | apply Kd.R_drewN | apply Kd.R_drew)); exact b6.out) a5 (Nat.le_of_eq hg.symm)) hb); have b7 := Aside0.mk (Kd.R_below (by (with_reducible repeat (first | apply Kd.R_alloc | apply Kd.R_drewN | apply Kd.R_drew)); exact b1.out) hb); have c4 := Aside0.mk (Kd.R_below (Kd.R_elderB (by (with_reducible repeat (first | apply Kd.R_alloc | apply Kd.R_drewN | apply Kd.R_drew)); exact a8.out) a5 (Nat.le_of_eq hg.symm)) hb); have d2 := Aside0.mk (blk_below (g := a6) (o := .cells #[.int .i64 a0_0, .slice A0_1 l0_1.length c0_1, .slice (some e5) l0_2.length c0_2] 25 (0, 0)) (by (with_reducible repeat (first | refine blk_drewN ?_ _ | refine blk_drew ?_ | refine blk_alloc ?_ _)); exact a3.out) hb); have d6 := Aside0.mk (below_step (by repeat (first | (with_reducible first | exact HB.out | apply below_alloc | apply pw_below_drewN | apply below_drew1 | refine below_set ?_ a7.out) | exact HB.out)) hb); have d7 := Aside0.mk (hbox); have h1 := Aside0.mk ((by rw [hg]; exact (below_size (by repeat (first | (with_reducible first | exact HB.out | apply below_alloc | apply pw_below_drewN | apply below_drew1 | refine below_set ?_ a7.out) | exact HB.out))) : w.heap.size ≤ a5)); have v8 := Aside0.mk ((by rw [hg]; exact (below_size (by repeat (first | (with_reducible first | exact HB.out | apply below_alloc | apply pw_below_drewN | apply below_drew1 | refine below_set ?_ a7.out) | exact HB.out))) : w.heap.size ≤ a5)); have s7 := Aside0.mk ((by rw [hg]; exact Nat.ne_of_lt (blk_lt (g := a6) (o := .cells #[.int .i64 a0_0, .slice A0_1 l0_1.length c0_1, .slice (some e5) l0_2.length c0_2] 25 (0, 0)) (by (with_reducible repeat (first | refine blk_drewN ?_ _ | refine blk_drew ?_ | refine blk_alloc ?_ _)); exact a3.out)) : a6 ≠ a5)); have s5 := Aside0.mk ((by rw [hg]; exact Nat.ne_of_gt (blk_lt (g := a6) (o := .cells #[.int .i64 a0_0, .slice A0_1 l0_1.length c0_1, .slice (some e5) l0_2.length c0_2] 25 (0, 0)) (by (with_reducible repeat (first | refine blk_drewN ?_ _ | refine blk_drew ?_ | refine blk_alloc ?_ _)); exact a3.out)) : a5 ≠ a6)); clear b3; clear b2; clear b6; clear b1; clear a8; clear a3; clear HB; have b3 := a9; have b2 := b0; have b6 := b4; have b1 := b7; have a8 := c4; have a3 := d2; have HB := d6; have a4 := d7; have R0 := h1; have d1 := v8; have d5 := s7; have e2 := s5; clear a9 b0 b4 b7 c4 d2 d6 d7 h1 v8 s7 s5; clear hb hbox hg; have Q2 := e2.out; have O7 := d5.out; have r7 : w28.cell? ⟨a5, 0, none⟩ = some (.int .i64 0) := (blk_cell a4.out 0).trans rfl; have q9 : w28.cell? ⟨a5, 1, none⟩ = some (.int .i64 0) := (blk_cell a4.out 1).trans rfl; have r2 : w28.cell? ⟨a5, 2, none⟩ = some (.int .i64 0) := (blk_cell a4.out 2).trans rfl; have r5 := blk_frozen a4.out 0; have q1 := blk_frozen a4.out 1; have r3 := blk_frozen a4.out 2))
       (try simp only [Act.put, List.setIfInBounds_toArray, List.set_cons_zero, List.set_cons_succ])
       go_cut [77] (fun M8 wc => ∃ (kq : Nat) (j2 : Bool), M8 = .bool j2 ∧ Aside0 (Pl26a.j1 kq a1 a2 b9 b8 b5 d3 c9 d4 a0 j2 a0_0 l0_1 l0_2 ((rd_T51 l0_2 a0).f0) ((rd_T51 l0_2 a0).f1) ((rd_T51 l0_2 a0).f2) = some r) ∧ Aside0 (kq ≤ k1) ∧ Aside0 (Kd.R (Kd.int .i64) 3 wc w.heap.size (fun k_ => some k_ ≠ (g3 : Value).ownBlock ∧ some k_ ≠ (k7 : Value).ownBlock) g2 b9) ∧ Aside0 (Kd.R (Kd.int .i64) 3 wc w.heap.size (fun k_ => some k_ ≠ (g2 : Value).ownBlock ∧ some k_ ≠ (k7 : Value).ownBlock) g3 b8) ∧ Aside0 (Kd.R k51 51 wc w.heap.size (fun k_ => some k_ ≠ (m6 : Value).ownBlock ∧ k_ ≠ a5) h3 b5) ∧ Aside0 (Kd.R (Kd.int .i64) 3 wc w.heap.size (fun k_ => some k_ ≠ (g2 : Value).ownBlock ∧ some k_ ≠ (g3 : Value).ownBlock) k7 d3) ∧ Aside0 (Kd.R k51 51 wc w.heap.size (fun k_ => some k_ ≠ (h3 : Value).ownBlock ∧ k_ ≠ a5) m6 c9) ∧ Aside0 (wc.heap[a6]? = some (.cells #[.int .i64 a0_0, (.slice A0_1 l0_1.length c0_1), (.slice (some e5) l0_2.length c0_2)] 25 (0, 0))) ∧ Aside0 (wc.heap[a5]? = some (.cells #[.int .i64 ((rd_T51 l0_2 a0).f0), .int .i64 ((rd_T51 l0_2 a0).f1), .int .i64 ((rd_T51 l0_2 a0).f2)] 51 (0, 0))) ∧ Aside0 (Below w.heap.size w wc))
       case first =>
        have H := m9.out
        clear m9
        by_cases j5 : ((rd_T51 l0_2 a0).f2) = a1
        ·rw [if_pos j5] at H
         have c31b0 : (((rd_T51 l0_2 a0).f2) == a1) = true := beq_iff_eq.mpr j5
         have c31b1 : (((rd_T51 l0_2 a0).f2) != a1) = false := bne_eq_false_iff_eq.mpr j5
         clear j5
         (first | rw [c31b0] | (simp only [i64_w, i32_w]; rw [c31b0]) | skip)
         have H' := Aside0.mk H
         clear H
         have O1 := e2.out
         have Q4 := d5.out
         have p4 : w28.cell? ⟨a5, 0, none⟩ = some (.int .i64 0) := (blk_cell a4.out 0).trans rfl
         have p5 : w28.cell? ⟨a5, 1, none⟩ = some (.int .i64 0) := (blk_cell a4.out 1).trans rfl
         have r0 : w28.cell? ⟨a5, 2, none⟩ = some (.int .i64 0) := (blk_cell a4.out 2).trans rfl
         have p7 := blk_frozen a4.out 0
         have r8 := blk_frozen a4.out 1
         have q3 := blk_frozen a4.out 2
         go_wp2
         go_meet
         case rel => exact ⟨_, ((((rd_T51 l0_2 a0).f1) == a2)), (by first | rfl | (simp; done) | (simp [*]; done)), H', ⟨by have := g6.out; first | omega | exact Nat.le_refl _⟩, ⟨by (with_reducible repeat (first | apply Kd.R_alloc | apply Kd.R_drewN | apply Kd.R_drew)); exact Kd.R_mono (Kd.R_far (p := ⟨a5, 2, none⟩) (Kd.R_far (p := ⟨a5, 1, none⟩) (Kd.R_far (p := ⟨a5, 0, none⟩) (Kd.R_types b3.out a4.out (by decide)) (fun _ hk => hk.2) (.int .i64 ((rd_T51 l0_2 a0).f0))) (fun _ hk => hk.2) (.int .i64 ((rd_T51 l0_2 a0).f1))) (fun _ hk => hk.2) (.int .i64 ((rd_T51 l0_2 a0).f2))) (fun _ hk => ⟨hk.1.1, hk.1.2⟩)⟩, ⟨by (with_reducible repeat (first | apply Kd.R_alloc | apply Kd.R_drewN | apply Kd.R_drew)); exact Kd.R_mono (Kd.R_far (p := ⟨a5, 2, none⟩) (Kd.R_far (p := ⟨a5, 1, none⟩) (Kd.R_far (p := ⟨a5, 0, none⟩) (Kd.R_types b2.out a4.out (by decide)) (fun _ hk => hk.2) (.int .i64 ((rd_T51 l0_2 a0).f0))) (fun _ hk => hk.2) (.int .i64 ((rd_T51 l0_2 a0).f1))) (fun _ hk => hk.2) (.int .i64 ((rd_T51 l0_2 a0).f2))) (fun _ hk => ⟨hk.1.1, hk.1.2⟩)⟩, ⟨by (with_reducible repeat (first | apply Kd.R_alloc | apply Kd.R_drewN | apply Kd.R_drew)); exact Kd.R_mono (Kd.R_far (p := ⟨a5, 2, none⟩) (Kd.R_far (p := ⟨a5, 1, none⟩) (Kd.R_far (p := ⟨a5, 0, none⟩) (Kd.R_mono b6.out (fun k_ hk => (⟨hk, hk.2⟩ : _ ∧ k_ ≠ a5))) (fun _ hk => hk.2) (.int .i64 ((rd_T51 l0_2 a0).f0))) (fun _ hk => hk.2) (.int .i64 ((rd_T51 l0_2 a0).f1))) (fun _ hk => hk.2) (.int .i64 ((rd_T51 l0_2 a0).f2))) (fun _ hk => ⟨hk.1.1, hk.1.2⟩)⟩, ⟨by (with_reducible repeat (first | apply Kd.R_alloc | apply Kd.R_drewN | apply Kd.R_drew)); exact Kd.R_mono (Kd.R_far (p := ⟨a5, 2, none⟩) (Kd.R_far (p := ⟨a5, 1, none⟩) (Kd.R_far (p := ⟨a5, 0, none⟩) (Kd.R_types b1.out a4.out (by decide)) (fun _ hk => hk.2) (.int .i64 ((rd_T51 l0_2 a0).f0))) (fun _ hk => hk.2) (.int .i64 ((rd_T51 l0_2 a0).f1))) (fun _ hk => hk.2) (.int .i64 ((rd_T51 l0_2 a0).f2))) (fun _ hk => ⟨hk.1.1, hk.1.2⟩)⟩, ⟨by (with_reducible repeat (first | apply Kd.R_alloc | apply Kd.R_drewN | apply Kd.R_drew)); exact Kd.R_mono (Kd.R_far (p := ⟨a5, 2, none⟩) (Kd.R_far (p := ⟨a5, 1, none⟩) (Kd.R_far (p := ⟨a5, 0, none⟩) (Kd.R_mono a8.out (fun k_ hk => (⟨hk, hk.2⟩ : _ ∧ k_ ≠ a5))) (fun _ hk => hk.2) (.int .i64 ((rd_T51 l0_2 a0).f0))) (fun _ hk => hk.2) (.int .i64 ((rd_T51 l0_2 a0).f1))) (fun _ hk => hk.2) (.int .i64 ((rd_T51 l0_2 a0).f2))) (fun _ hk => ⟨hk.1.1, hk.1.2⟩)⟩, ⟨by (with_reducible repeat (first | refine blk_drewN ?_ _ | refine blk_drew ?_ | refine blk_alloc ?_ _)); refine blk_far ?_ d5.out _; (with_reducible repeat (first | refine blk_drewN ?_ _ | refine blk_drew ?_ | refine blk_alloc ?_ _)); refine blk_far ?_ d5.out _; (with_reducible repeat (first | refine blk_drewN ?_ _ | refine blk_drew ?_ | refine blk_alloc ?_ _)); refine blk_far ?_ d5.out _; (with_reducible repeat (first | refine blk_drewN ?_ _ | refine blk_drew ?_ | refine blk_alloc ?_ _)); exact a3.out⟩, ⟨by (with_reducible repeat (first | refine blk_drewN ?_ _ | refine blk_drew ?_ | refine blk_alloc ?_ _)); refine blk_put (cs := #[.int .i64 ((rd_T51 l0_2 a0).f0), .int .i64 ((rd_T51 l0_2 a0).f1), .int .i64 0]) ?_ 2 _ rfl; (with_reducible repeat (first | refine blk_drewN ?_ _ | refine blk_drew ?_ | refine blk_alloc ?_ _)); refine blk_put (cs := #[.int .i64 ((rd_T51 l0_2 a0).f0), .int .i64 0, .int .i64 0]) ?_ 1 _ rfl; (with_reducible repeat (first | refine blk_drewN ?_ _ | refine blk_drew ?_ | refine blk_alloc ?_ _)); refine blk_put (cs := #[.int .i64 0, .int .i64 0, .int .i64 0]) ?_ 0 _ rfl; (with_reducible repeat (first | refine blk_drewN ?_ _ | refine blk_drew ?_ | refine blk_alloc ?_ _)); exact a4.out⟩, ⟨by repeat (first | (with_reducible first | exact HB.out | apply below_alloc | apply pw_below_drewN | apply below_drew1 | refine below_set ?_ a7.out | refine below_set ?_ d1.out) | exact HB.out)⟩⟩
        ·rw [if_neg j5] at H
         have c31b0 : (((rd_T51 l0_2 a0).f2) == a1) = false := beq_eq_false_iff_ne.mpr j5
         have c31b1 : (((rd_T51 l0_2 a0).f2) != a1) = true := bne_iff_ne.mpr j5
         (first | rw [c31b0] | (simp only [i64_w, i32_w]; rw [c31b0]) | skip)
         have H' := Aside0.mk H
         clear H
         have Q0 := e2.out
         have R4 := d5.out
         have q7 : w28.cell? ⟨a5, 0, none⟩ = some (.int .i64 0) := (blk_cell a4.out 0).trans rfl
         have r1 : w28.cell? ⟨a5, 1, none⟩ = some (.int .i64 0) := (blk_cell a4.out 1).trans rfl
         have r6 : w28.cell? ⟨a5, 2, none⟩ = some (.int .i64 0) := (blk_cell a4.out 2).trans rfl
         have q6 := blk_frozen a4.out 0
         have q0 := blk_frozen a4.out 1
         have q8 := blk_frozen a4.out 2
         go_wp2
         go_meet
         case rel => exact ⟨_, (false), (by first | rfl | (simp; done) | (simp [*]; done)), H', ⟨by have := g6.out; first | omega | exact Nat.le_refl _⟩, ⟨by (with_reducible repeat (first | apply Kd.R_alloc | apply Kd.R_drewN | apply Kd.R_drew)); exact Kd.R_mono (Kd.R_far (p := ⟨a5, 2, none⟩) (Kd.R_far (p := ⟨a5, 1, none⟩) (Kd.R_far (p := ⟨a5, 0, none⟩) (Kd.R_types b3.out a4.out (by decide)) (fun _ hk => hk.2) (.int .i64 ((rd_T51 l0_2 a0).f0))) (fun _ hk => hk.2) (.int .i64 ((rd_T51 l0_2 a0).f1))) (fun _ hk => hk.2) (.int .i64 ((rd_T51 l0_2 a0).f2))) (fun _ hk => ⟨hk.1.1, hk.1.2⟩)⟩, ⟨by (with_reducible repeat (first | apply Kd.R_alloc | apply Kd.R_drewN | apply Kd.R_drew)); exact Kd.R_mono (Kd.R_far (p := ⟨a5, 2, none⟩) (Kd.R_far (p := ⟨a5, 1, none⟩) (Kd.R_far (p := ⟨a5, 0, none⟩) (Kd.R_types b2.out a4.out (by decide)) (fun _ hk => hk.2) (.int .i64 ((rd_T51 l0_2 a0).f0))) (fun _ hk => hk.2) (.int .i64 ((rd_T51 l0_2 a0).f1))) (fun _ hk => hk.2) (.int .i64 ((rd_T51 l0_2 a0).f2))) (fun _ hk => ⟨hk.1.1, hk.1.2⟩)⟩, ⟨by (with_reducible repeat (first | apply Kd.R_alloc | apply Kd.R_drewN | apply Kd.R_drew)); exact Kd.R_mono (Kd.R_far (p := ⟨a5, 2, none⟩) (Kd.R_far (p := ⟨a5, 1, none⟩) (Kd.R_far (p := ⟨a5, 0, none⟩) (Kd.R_mono b6.out (fun k_ hk => (⟨hk, hk.2⟩ : _ ∧ k_ ≠ a5))) (fun _ hk => hk.2) (.int .i64 ((rd_T51 l0_2 a0).f0))) (fun _ hk => hk.2) (.int .i64 ((rd_T51 l0_2 a0).f1))) (fun _ hk => hk.2) (.int .i64 ((rd_T51 l0_2 a0).f2))) (fun _ hk => ⟨hk.1.1, hk.1.2⟩)⟩, ⟨by (with_reducible repeat (first | apply Kd.R_alloc | apply Kd.R_drewN | apply Kd.R_drew)); exact Kd.R_mono (Kd.R_far (p := ⟨a5, 2, none⟩) (Kd.R_far (p := ⟨a5, 1, none⟩) (Kd.R_far (p := ⟨a5, 0, none⟩) (Kd.R_types b1.out a4.out (by decide)) (fun _ hk => hk.2) (.int .i64 ((rd_T51 l0_2 a0).f0))) (fun _ hk => hk.2) (.int .i64 ((rd_T51 l0_2 a0).f1))) (fun _ hk => hk.2) (.int .i64 ((rd_T51 l0_2 a0).f2))) (fun _ hk => ⟨hk.1.1, hk.1.2⟩)⟩, ⟨by (with_reducible repeat (first | apply Kd.R_alloc | apply Kd.R_drewN | apply Kd.R_drew)); exact Kd.R_mono (Kd.R_far (p := ⟨a5, 2, none⟩) (Kd.R_far (p := ⟨a5, 1, none⟩) (Kd.R_far (p := ⟨a5, 0, none⟩) (Kd.R_mono a8.out (fun k_ hk => (⟨hk, hk.2⟩ : _ ∧ k_ ≠ a5))) (fun _ hk => hk.2) (.int .i64 ((rd_T51 l0_2 a0).f0))) (fun _ hk => hk.2) (.int .i64 ((rd_T51 l0_2 a0).f1))) (fun _ hk => hk.2) (.int .i64 ((rd_T51 l0_2 a0).f2))) (fun _ hk => ⟨hk.1.1, hk.1.2⟩)⟩, ⟨by (with_reducible repeat (first | refine blk_drewN ?_ _ | refine blk_drew ?_ | refine blk_alloc ?_ _)); refine blk_far ?_ d5.out _; (with_reducible repeat (first | refine blk_drewN ?_ _ | refine blk_drew ?_ | refine blk_alloc ?_ _)); refine blk_far ?_ d5.out _; (with_reducible repeat (first | refine blk_drewN ?_ _ | refine blk_drew ?_ | refine blk_alloc ?_ _)); refine blk_far ?_ d5.out _; (with_reducible repeat (first | refine blk_drewN ?_ _ | refine blk_drew ?_ | refine blk_alloc ?_ _)); exact a3.out⟩, ⟨by (with_reducible repeat (first | refine blk_drewN ?_ _ | refine blk_drew ?_ | refine blk_alloc ?_ _)); refine blk_put (cs := #[.int .i64 ((rd_T51 l0_2 a0).f0), .int .i64 ((rd_T51 l0_2 a0).f1), .int .i64 0]) ?_ 2 _ rfl; (with_reducible repeat (first | refine blk_drewN ?_ _ | refine blk_drew ?_ | refine blk_alloc ?_ _)); refine blk_put (cs := #[.int .i64 ((rd_T51 l0_2 a0).f0), .int .i64 0, .int .i64 0]) ?_ 1 _ rfl; (with_reducible repeat (first | refine blk_drewN ?_ _ | refine blk_drew ?_ | refine blk_alloc ?_ _)); refine blk_put (cs := #[.int .i64 0, .int .i64 0, .int .i64 0]) ?_ 0 _ rfl; (with_reducible repeat (first | refine blk_drewN ?_ _ | refine blk_drew ?_ | refine blk_alloc ?_ _)); exact a4.out⟩, ⟨by repeat (first | (with_reducible first | exact HB.out | apply below_alloc | apply pw_below_drewN | apply below_drew1 | refine below_set ?_ a7.out | refine below_set ?_ d1.out) | exact HB.out)⟩⟩
       case rest =>
        clear m9
        try clear c1
        try clear c2
        try clear p2
        try clear q2
        try clear hx2
        try clear c3
        try clear c5
        try clear c7
        try clear k5
        try clear N3
        try clear p20
        try clear q20
        try clear hx20
        try clear M6
        try clear j9
        try clear c24b0
        try clear m7
        try clear c25b0
        try clear T5
        try clear T8
        try clear T6
        try clear j5
        try clear c31b0
        try clear c31b1
        try clear T7
        try clear c34
        try clear k3
        try clear l5
        try clear k9
        try clear l8
        try clear l6
        try clear k4
        try clear p6
        try clear r4
        try clear q4
        try clear r7
        try clear q9
        try clear r2
        try clear p4
        try clear p5
        try clear r0
        try clear q7
        try clear r1
        try clear r6
        try clear l3
        try clear l4
        try clear k6
        try clear l9
        try clear l7
        try clear k8
        try clear p8
        try clear p9
        try clear q5
        try clear r5
        try clear q1
        try clear r3
        try clear p7
        try clear r8
        try clear q3
        try clear q6
        try clear q0
        try clear q8
        try clear i2
        try clear i3
        try clear i4
        try clear p2
        try clear m3
        try clear m1
        obtain ⟨kq, j2, rfl, HA, g0, b3, b2, b6, b1, a8, a3, a4, HB⟩ := hcut
        cases kq with
        | zero => exact absurd HA.out (by simp [Pl26a.j1])
        | succ c8 =>
         have H := HA.out
         clear HA
         simp only [Pl26a.j1] at H
         by_cases o7 : j2 = true
         ·subst o7
          have H1 : (if d3.length < 17592186044416 then ((some (d3 ++ [((rd_T51 l0_2 a0).f0)] : List Int)).bind fun f7 => (if ((rd_T51 l0_2 a0).f0) = a1 then (if c9.length < 5864062014805 then ((some (c9 ++ [(⟨((rd_T51 l0_2 a0).f0), ((rd_T51 l0_2 a0).f1), ((rd_T51 l0_2 a0).f2)⟩ : S51)] : List (S51))).bind fun g7 => (if d4 = true then ((Pr26b.f c8 a0_0 l0_1 l0_2 ((rd_T51 l0_2 a0).f0) ((rd_T51 l0_2 a0).f1)).bind fun h0 => (Pl26a.l0 c8 a1 a2 b9 b8 b5 f7 g7 ((h0.length : Int) == 1) (c6 (a0 + 1)) a0_0 l0_1 l0_2)) else (Pl26a.l0 c8 a1 a2 b9 b8 b5 f7 g7 false (c6 (a0 + 1)) a0_0 l0_1 l0_2))) else (none)) else (if d4 = true then ((Pr26b.f c8 a0_0 l0_1 l0_2 ((rd_T51 l0_2 a0).f0) ((rd_T51 l0_2 a0).f1)).bind fun h5 => (Pl26a.l0 c8 a1 a2 b9 b8 b5 f7 c9 ((h5.length : Int) == 1) (c6 (a0 + 1)) a0_0 l0_1 l0_2)) else (Pl26a.l0 c8 a1 a2 b9 b8 b5 f7 c9 false (c6 (a0 + 1)) a0_0 l0_1 l0_2)))) else (none)) = some r := by rw [if_pos rfl] at H; exact H
          clear H
          have H := H1
          clear H1
          by_cases o9 : d3.length < 17592186044416
          ·rw [if_pos o9] at H
           have j6 := Aside0.mk o9
           clear o9
           obtain ⟨f7, j4⟩ : ∃ y_ : List Int, y_ = (d3 ++ [((rd_T51 l0_2 a0).f0)]) := ⟨_, rfl⟩
           replace H : (if ((rd_T51 l0_2 a0).f0) = a1 then (if c9.length < 5864062014805 then ((some (c9 ++ [(⟨((rd_T51 l0_2 a0).f0), ((rd_T51 l0_2 a0).f1), ((rd_T51 l0_2 a0).f2)⟩ : S51)] : List (S51))).bind fun g7 => (if d4 = true then ((Pr26b.f c8 a0_0 l0_1 l0_2 ((rd_T51 l0_2 a0).f0) ((rd_T51 l0_2 a0).f1)).bind fun h0 => (Pl26a.l0 c8 a1 a2 b9 b8 b5 f7 g7 ((h0.length : Int) == 1) (c6 (a0 + 1)) a0_0 l0_1 l0_2)) else (Pl26a.l0 c8 a1 a2 b9 b8 b5 f7 g7 false (c6 (a0 + 1)) a0_0 l0_1 l0_2))) else (none)) else (if d4 = true then ((Pr26b.f c8 a0_0 l0_1 l0_2 ((rd_T51 l0_2 a0).f0) ((rd_T51 l0_2 a0).f1)).bind fun h5 => (Pl26a.l0 c8 a1 a2 b9 b8 b5 f7 c9 ((h5.length : Int) == 1) (c6 (a0 + 1)) a0_0 l0_1 l0_2)) else (Pl26a.l0 c8 a1 a2 b9 b8 b5 f7 c9 false (c6 (a0 + 1)) a0_0 l0_1 l0_2))) = some r := by first | (rw [j4]; with_reducible exact H) | (have g4 := (Option.bind_some _ _).symm.trans H; rw [j4]; with_reducible exact g4) | (have g4 := (Option.bind_some _ _).symm.trans H; with_reducible exact g4) | with_reducible exact H | (rw [j4]; exact H) | exact H
           have j7 := Aside0.mk j4
           clear j4
           by_cases k0 : ((rd_T51 l0_2 a0).f0) = a1
           ·rw [if_pos k0] at H
            have c38b0 : (((rd_T51 l0_2 a0).f0) == a1) = true := beq_iff_eq.mpr k0
            have c38b1 : (((rd_T51 l0_2 a0).f0) != a1) = false := bne_eq_false_iff_eq.mpr k0
            clear k0
            by_cases p0 : c9.length < 5864062014805
            ·rw [if_pos p0] at H
             have p3 := Aside0.mk p0
             clear p0
             obtain ⟨g7, i9⟩ : ∃ y_ : List (S51), y_ = (c9 ++ [(⟨((rd_T51 l0_2 a0).f0), ((rd_T51 l0_2 a0).f1), ((rd_T51 l0_2 a0).f2)⟩ : S51)]) := ⟨_, rfl⟩
             replace H : (if d4 = true then ((Pr26b.f c8 a0_0 l0_1 l0_2 ((rd_T51 l0_2 a0).f0) ((rd_T51 l0_2 a0).f1)).bind fun h0 => (Pl26a.l0 c8 a1 a2 b9 b8 b5 f7 g7 ((h0.length : Int) == 1) (c6 (a0 + 1)) a0_0 l0_1 l0_2)) else (Pl26a.l0 c8 a1 a2 b9 b8 b5 f7 g7 false (c6 (a0 + 1)) a0_0 l0_1 l0_2)) = some r := by first | (rw [i9]; with_reducible exact H) | (have g4 := (Option.bind_some _ _).symm.trans H; rw [i9]; with_reducible exact g4) | (have g4 := (Option.bind_some _ _).symm.trans H; with_reducible exact g4) | with_reducible exact H | (rw [i9]; exact H) | exact H
             have p1 := Aside0.mk i9
             clear i9
             by_cases o6 : d4 = true
             ·subst o6
              have H1 : ((Pr26b.f c8 a0_0 l0_1 l0_2 ((rd_T51 l0_2 a0).f0) ((rd_T51 l0_2 a0).f1)).bind fun h0 => (Pl26a.l0 c8 a1 a2 b9 b8 b5 f7 g7 ((h0.length : Int) == 1) (c6 (a0 + 1)) a0_0 l0_1 l0_2)) = some r := by rw [if_pos rfl] at H; exact H
              clear H
              have H := H1
              clear H1
              replace H := Option.bind_eq_some_iff.mp H
              obtain ⟨h0, t2, H⟩ := H
              replace H : (Pl26a.l0 c8 a1 a2 b9 b8 b5 f7 g7 ((h0.length : Int) == 1) (c6 (a0 + 1)) a0_0 l0_1 l0_2) = some r := H
              have M7 := Aside0.mk t2
              clear t2
              have H' := Aside0.mk H
              clear H
              have Q5 := e2.out
              have P6 := d5.out
              have L3 : wc.cell? ⟨a5, 0, none⟩ = some (.int .i64 ((rd_T51 l0_2 a0).f0)) := (blk_cell a4.out 0).trans rfl
              have J1 : wc.cell? ⟨a5, 1, none⟩ = some (.int .i64 ((rd_T51 l0_2 a0).f1)) := (blk_cell a4.out 1).trans rfl
              have D4 : wc.cell? ⟨a5, 2, none⟩ = some (.int .i64 ((rd_T51 l0_2 a0).f2)) := (blk_cell a4.out 2).trans rfl
              have B5 := blk_frozen a4.out 0
              have F5 := blk_frozen a4.out 1
              have C3 := blk_frozen a4.out 2
              go_wp2_with (first | ((with_reducible refine gate_builtin (b := .append) (xs := #[.tmp 78, .tmp 81]) rfl ?_); (try (refine gate_guard (by rfl) ?_; dsimp only)); at_builtin; refine Kd.R_append (Kd.int .i64) (w0 := w) w.heap.size rfl (.tmp 78) (.tmp 81) 47 3 (.int .i64 0) 8 rfl Try.underlying47 info3 rfl (by decide) (by omega) k7 d3 ((rd_T51 l0_2 a0).f0) [.int .i64 ((rd_T51 l0_2 a0).f0)] (fun k_ => some k_ ≠ (g2 : Value).ownBlock ∧ some k_ ≠ (g3 : Value).ownBlock) (fun _ => False) rfl rfl ?aP (fun _ hk => hk.elim) ?aF ?aO ?aB ?aS ?aL ?_; (case aP => exact rfl); (case aB => exact (by repeat (first | (with_reducible first | exact HB.out | apply below_alloc | apply pw_below_drewN | apply below_drew1 | refine below_set ?_ a7.out | refine below_set ?_ d1.out) | exact HB.out))); (case aF => exact (fun k_ hk => ⟨Kd.fresh' (Kd.R_lt (by (with_reducible repeat (first | apply Kd.R_alloc | apply Kd.R_drewN | apply Kd.R_drew)); exact b3.out)) k_ hk, Kd.fresh' (Kd.R_lt (by (with_reducible repeat (first | apply Kd.R_alloc | apply Kd.R_drewN | apply Kd.R_drew)); exact b2.out)) k_ hk⟩)); (case aO => exact (by (with_reducible repeat (first | apply Kd.R_alloc | apply Kd.R_drewN | apply Kd.R_drew)); exact b1.out)); (case aS => exact (below_size (by repeat (first | (with_reducible first | exact HB.out | apply below_alloc | apply pw_below_drewN | apply below_drew1 | refine below_set ?_ a7.out | refine below_set ?_ d1.out) | exact HB.out)))); (case aL => have := j6.out; omega); intro m8 w44 ho hb hg hat; rw [← j7.out] at ho; have a9 := Aside0.mk (Kd.R_after (ok := (fun k_ => some k_ ≠ (g3 : Value).ownBlock)) (by (with_reducible repeat (first | apply Kd.R_alloc | apply Kd.R_drewN | apply Kd.R_drew)); exact b3.out) hg hat); have b0 := Aside0.mk (Kd.R_after (ok := (fun k_ => some k_ ≠ (g2 : Value).ownBlock)) (by (with_reducible repeat (first | apply Kd.R_alloc | apply Kd.R_drewN | apply Kd.R_drew)); exact b2.out) hg hat); have b4 := Aside0.mk (Kd.R_over' (by (with_reducible repeat (first | apply Kd.R_alloc | apply Kd.R_drewN | apply Kd.R_drew)); exact b6.out) (Kd.R_typed (by (with_reducible repeat (first | apply Kd.R_alloc | apply Kd.R_drewN | apply Kd.R_drew)); exact b1.out)) (by decide) hg); have b7 := Aside0.mk (Kd.R_over' (by (with_reducible repeat (first | apply Kd.R_alloc | apply Kd.R_drewN | apply Kd.R_drew)); exact a8.out) (Kd.R_typed (by (with_reducible repeat (first | apply Kd.R_alloc | apply Kd.R_drewN | apply Kd.R_drew)); exact b1.out)) (by decide) hg); have c4 := Aside0.mk (blk_grown (g := a6) (o := .cells #[.int .i64 a0_0, .slice A0_1 l0_1.length c0_1, .slice (some e5) l0_2.length c0_2] 25 (0, 0)) (by (with_reducible repeat (first | refine blk_drewN ?_ _ | refine blk_drew ?_ | refine blk_alloc ?_ _)); exact a3.out) hg (Kd.R_ne b1.out a3.out (by decide))); have d2 := Aside0.mk (blk_grown (g := a5) (o := .cells #[.int .i64 ((rd_T51 l0_2 a0).f0), .int .i64 ((rd_T51 l0_2 a0).f1), .int .i64 ((rd_T51 l0_2 a0).f2)] 51 (0, 0)) (by (with_reducible repeat (first | refine blk_drewN ?_ _ | refine blk_drew ?_ | refine blk_alloc ?_ _)); exact a4.out) hg (Kd.R_ne b1.out a4.out (by decide))); have d6 := Aside0.mk (hb); have d7 := Aside0.mk (ho); clear b3; clear b2; clear b6; clear a8; clear a3; clear a4; clear HB; clear b1; have b3 := a9; have b2 := b0; have b6 := b4; have a8 := b7; have a3 := c4; have a4 := d2; have HB := d6; have e1 := d7; clear a9 b0 b4 b7 c4 d2 d6 d7; clear ho hb hg hat; have J3 : w44.cell? ⟨a5, 0, none⟩ = some (.int .i64 ((rd_T51 l0_2 a0).f0)) := (blk_cell a4.out 0).trans rfl; have L5 : w44.cell? ⟨a5, 1, none⟩ = some (.int .i64 ((rd_T51 l0_2 a0).f1)) := (blk_cell a4.out 1).trans rfl; have E6 : w44.cell? ⟨a5, 2, none⟩ = some (.int .i64 ((rd_T51 l0_2 a0).f2)) := (blk_cell a4.out 2).trans rfl; have G4 := blk_frozen a4.out 0; have D2 := blk_frozen a4.out 1; have L1 := blk_frozen a4.out 2) | ((with_reducible refine gate_builtin (b := .append) (xs := #[.tmp 87, .tmp 89]) rfl ?_); (try (refine gate_guard (by rfl) ?_; dsimp only)); at_builtin; refine Kd.R_append k51 (w0 := w) w.heap.size rfl (.tmp 87) (.tmp 89) 23 51 (.agg #[(.int .i64 0), (.int .i64 0), (.int .i64 0)]) 24 rfl Try.underlying23 info51 rfl (by decide) (by omega) m6 c9 (⟨((rd_T51 l0_2 a0).f0), ((rd_T51 l0_2 a0).f1), ((rd_T51 l0_2 a0).f2)⟩ : S51) [.int .i64 ((rd_T51 l0_2 a0).f0), .int .i64 ((rd_T51 l0_2 a0).f1), .int .i64 ((rd_T51 l0_2 a0).f2)] (fun k_ => some k_ ≠ (h3 : Value).ownBlock ∧ k_ ≠ a5) (fun _ => False) rfl rfl ?aP (fun _ hk => hk.elim) ?aF ?aO ?aB ?aS ?aL ?_; (case aP => exact k51_mkM _ _ _ (⟨((rd_T51 l0_2 a0).f0), ((rd_T51 l0_2 a0).f1), ((rd_T51 l0_2 a0).f2)⟩ : S51)); (case aB => exact (by repeat (first | (with_reducible first | exact HB.out | apply below_alloc | apply pw_below_drewN | apply below_drew1 | refine below_set ?_ a7.out | refine below_set ?_ d1.out) | exact HB.out))); (case aF => exact (fun k_ hk => ⟨Kd.fresh' (Kd.R_lt (by (with_reducible repeat (first | apply Kd.R_alloc | apply Kd.R_drewN | apply Kd.R_drew)); exact b6.out)) k_ hk, Kd.freshB (g := a5) (o := .cells #[.int .i64 ((rd_T51 l0_2 a0).f0), .int .i64 ((rd_T51 l0_2 a0).f1), .int .i64 ((rd_T51 l0_2 a0).f2)] 51 (0, 0)) (by (with_reducible repeat (first | refine blk_drewN ?_ _ | refine blk_drew ?_ | refine blk_alloc ?_ _)); exact a4.out) k_ hk⟩)); (case aO => exact (by (with_reducible repeat (first | apply Kd.R_alloc | apply Kd.R_drewN | apply Kd.R_drew)); exact a8.out)); (case aS => exact (below_size (by repeat (first | (with_reducible first | exact HB.out | apply below_alloc | apply pw_below_drewN | apply below_drew1 | refine below_set ?_ a7.out | refine below_set ?_ d1.out) | exact HB.out)))); (case aL => have := p3.out; omega); intro y6 w46 ho hb hg hat; rw [← p1.out] at ho; have a9 := Aside0.mk (Kd.R_over' (by (with_reducible repeat (first | apply Kd.R_alloc | apply Kd.R_drewN | apply Kd.R_drew)); exact b3.out) (Kd.R_typed (by (with_reducible repeat (first | apply Kd.R_alloc | apply Kd.R_drewN | apply Kd.R_drew)); exact a8.out)) (by decide) hg); have b0 := Aside0.mk (Kd.R_over' (by (with_reducible repeat (first | apply Kd.R_alloc | apply Kd.R_drewN | apply Kd.R_drew)); exact b2.out) (Kd.R_typed (by (with_reducible repeat (first | apply Kd.R_alloc | apply Kd.R_drewN | apply Kd.R_drew)); exact a8.out)) (by decide) hg); have b4 := Aside0.mk (Kd.R_after (ok := (fun k_ => k_ ≠ a5)) (by (with_reducible repeat (first | apply Kd.R_alloc | apply Kd.R_drewN | apply Kd.R_drew)); exact Kd.R_mono b6.out (fun _ hk => ⟨hk.2, hk.1⟩)) hg hat); have b7 := Aside0.mk (blk_grown (g := a6) (o := .cells #[.int .i64 a0_0, .slice A0_1 l0_1.length c0_1, .slice (some e5) l0_2.length c0_2] 25 (0, 0)) (by (with_reducible repeat (first | refine blk_drewN ?_ _ | refine blk_drew ?_ | refine blk_alloc ?_ _)); exact a3.out) hg (Kd.R_ne a8.out a3.out (by decide))); have c4 := Aside0.mk (blk_grown (g := a5) (o := .cells #[.int .i64 ((rd_T51 l0_2 a0).f0), .int .i64 ((rd_T51 l0_2 a0).f1), .int .i64 ((rd_T51 l0_2 a0).f2)] 51 (0, 0)) (by (with_reducible repeat (first | refine blk_drewN ?_ _ | refine blk_drew ?_ | refine blk_alloc ?_ _)); exact a4.out) hg (Kd.R_away a8.out (fun _ hk => hk.2))); have d2 := Aside0.mk (Kd.R_over' (by (with_reducible repeat (first | apply Kd.R_alloc | apply Kd.R_drewN | apply Kd.R_drew)); exact e1.out) (Kd.R_typed (by (with_reducible repeat (first | apply Kd.R_alloc | apply Kd.R_drewN | apply Kd.R_drew)); exact a8.out)) (by decide) hg); have d6 := Aside0.mk (hb); have d7 := Aside0.mk (ho); clear b3; clear b2; clear b6; clear a3; clear a4; clear e1; clear HB; clear a8; have b3 := a9; have b2 := b0; have b6 := b4; have a3 := b7; have a4 := c4; have e1 := d2; have HB := d6; have i5 := d7; clear a9 b0 b4 b7 c4 d2 d6 d7; clear ho hb hg hat; have E5 : w46.cell? ⟨a6, 0, none⟩ = some (.int .i64 a0_0) := (blk_cell a3.out 0).trans rfl; have G1 : w46.cell? ⟨a6, 1, none⟩ = some (.slice A0_1 l0_1.length c0_1) := (blk_cell a3.out 1).trans rfl; have C7 : w46.cell? ⟨a6, 2, none⟩ = some (.slice (some e5) l0_2.length c0_2) := (blk_cell a3.out 2).trans rfl; have C2 := blk_frozen a3.out 0; have I9 := blk_frozen a3.out 1; have K5 := blk_frozen a3.out 2; have H9 : w46.cell? ⟨a5, 0, none⟩ = some (.int .i64 ((rd_T51 l0_2 a0).f0)) := (blk_cell a4.out 0).trans rfl; have F1 : w46.cell? ⟨a5, 1, none⟩ = some (.int .i64 ((rd_T51 l0_2 a0).f1)) := (blk_cell a4.out 1).trans rfl; have F3 : w46.cell? ⟨a5, 2, none⟩ = some (.int .i64 ((rd_T51 l0_2 a0).f2)) := (blk_cell a4.out 2).trans rfl; have G8 := blk_frozen a4.out 0; have I6 := blk_frozen a4.out 1; have G7 := blk_frozen a4.out 2) | (go_at_call 32; (with_reducible refine (Pr26b.calls c8 a0_0 _ _ l0_1 _ _ l0_2 ((rd_T51 l0_2 a0).f0) ((rd_T51 l0_2 a0).f1) h0 _ ?e3 ?e4 ?e7 ?e6 M7.out).mono ?_); (case e3 => repeat (first | exact (Kd.C_below f5.out HB.out) | (with_reducible refine Kd.C_alloc ?_ _) | (with_reducible refine Kd.C_drewN ?_ _) | (with_reducible refine Kd.C_drew ?_))); (case e4 => exact f3.out); (case e7 => repeat (first | exact (Kd.C_below e9.out HB.out) | (with_reducible refine Kd.C_alloc ?_ _) | (with_reducible refine Kd.C_drewN ?_ _) | (with_reducible refine Kd.C_drew ?_))); (case e6 => exact f4.out); rintro e w49 ⟨S3, rfl, d8, hb⟩; have a9 := Aside0.mk (Kd.R_elder' (by (with_reducible repeat (first | apply Kd.R_alloc | apply Kd.R_drewN | apply Kd.R_drew)); exact b3.out) (Kd.R_base d8) hb); have b0 := Aside0.mk (Kd.R_elder' (by (with_reducible repeat (first | apply Kd.R_alloc | apply Kd.R_drewN | apply Kd.R_drew)); exact b2.out) (Kd.R_base d8) hb); have b4 := Aside0.mk (Kd.R_below (by (with_reducible repeat (first | apply Kd.R_alloc | apply Kd.R_drewN | apply Kd.R_drew)); exact b6.out) hb); have b7 := Aside0.mk (Kd.R_elder' (by (with_reducible repeat (first | apply Kd.R_alloc | apply Kd.R_drewN | apply Kd.R_drew)); exact e1.out) (Kd.R_base d8) hb); have c4 := Aside0.mk (Kd.R_below (by (with_reducible repeat (first | apply Kd.R_alloc | apply Kd.R_drewN | apply Kd.R_drew)); exact i5.out) hb); have d2 := Aside0.mk (Kd.R_lower (Kd.R_new' (Kd.R_new' (Kd.R_new' d8 (Kd.R_lt (by (with_reducible repeat (first | apply Kd.R_alloc | apply Kd.R_drewN | apply Kd.R_drew)); exact b3.out))) (Kd.R_lt (by (with_reducible repeat (first | apply Kd.R_alloc | apply Kd.R_drewN | apply Kd.R_drew)); exact b2.out))) (Kd.R_lt (by (with_reducible repeat (first | apply Kd.R_alloc | apply Kd.R_drewN | apply Kd.R_drew)); exact e1.out))) (below_size (by repeat (first | (with_reducible first | exact HB.out | apply below_alloc | apply pw_below_drewN | apply below_drew1 | refine below_set ?_ a7.out | refine below_set ?_ d1.out) | exact HB.out)))); have d6 := Aside0.mk (blk_below (g := a6) (o := .cells #[.int .i64 a0_0, .slice A0_1 l0_1.length c0_1, .slice (some e5) l0_2.length c0_2] 25 (0, 0)) (by (with_reducible repeat (first | refine blk_drewN ?_ _ | refine blk_drew ?_ | refine blk_alloc ?_ _)); exact a3.out) hb); have d7 := Aside0.mk (blk_below (g := a5) (o := .cells #[.int .i64 ((rd_T51 l0_2 a0).f0), .int .i64 ((rd_T51 l0_2 a0).f1), .int .i64 ((rd_T51 l0_2 a0).f2)] 51 (0, 0)) (by (with_reducible repeat (first | refine blk_drewN ?_ _ | refine blk_drew ?_ | refine blk_alloc ?_ _)); exact a4.out) hb); have h1 := Aside0.mk (below_step (by repeat (first | (with_reducible first | exact HB.out | apply below_alloc | apply pw_below_drewN | apply below_drew1 | refine below_set ?_ a7.out | refine below_set ?_ d1.out) | exact HB.out)) hb); clear b3; clear b2; clear b6; clear e1; clear i5; clear a3; clear a4; clear HB; have b3 := a9; have b2 := b0; have b6 := b4; have e1 := b7; have i5 := c4; have u0 := d2; have a3 := d6; have a4 := d7; have HB := h1; clear a9 b0 b4 b7 c4 d2 d6 d7 h1; (try clear hb); (try clear hb2); (try clear hk); (try clear hi); (try clear d8); obtain ⟨S0, S6, y7⟩ := Kd.R_slice u0.out; subst y7))
              go_roundg c8
              case measure => have := g6.out; have := g0.out; omega
              case rel => exact ⟨(f7), (g7), (((h0.length : Int) == 1)), (c6 (a0 + 1)), (by first | rfl | (simp; done) | (simp [*]; done)), (by first | rfl | (simp; done) | (simp [*]; done)), H', ⟨by have := g6.out; have := g0.out; omega⟩, ⟨by (with_reducible repeat (first | apply Kd.R_alloc | apply Kd.R_drewN | apply Kd.R_drew)); exact Kd.R_mono b3.out (fun _ hk => ⟨hk.1.1, hk.1.2⟩)⟩, ⟨by (with_reducible repeat (first | apply Kd.R_alloc | apply Kd.R_drewN | apply Kd.R_drew)); exact Kd.R_mono b2.out (fun _ hk => ⟨hk.1.1, hk.1.2⟩)⟩, ⟨by (with_reducible repeat (first | apply Kd.R_alloc | apply Kd.R_drewN | apply Kd.R_drew)); exact Kd.R_mono b6.out (fun _ hk => hk.2)⟩, ⟨by (with_reducible repeat (first | apply Kd.R_alloc | apply Kd.R_drewN | apply Kd.R_drew)); exact Kd.R_mono e1.out (fun _ hk => ⟨hk.1.1, hk.1.2⟩)⟩, ⟨by (with_reducible repeat (first | apply Kd.R_alloc | apply Kd.R_drewN | apply Kd.R_drew)); exact Kd.R_mono i5.out (fun _ hk => hk.1)⟩, ⟨by (with_reducible repeat (first | refine blk_drewN ?_ _ | refine blk_drew ?_ | refine blk_alloc ?_ _)); exact a3.out⟩, ⟨by repeat (first | (with_reducible first | exact HB.out | apply below_alloc | apply pw_below_drewN | apply below_drew1 | refine below_set ?_ a7.out | refine below_set ?_ d1.out) | exact HB.out)⟩⟩
             ·replace o6 := Bool.eq_false_iff.mpr o6
              subst o6
              have H1 : (Pl26a.l0 c8 a1 a2 b9 b8 b5 f7 g7 false (c6 (a0 + 1)) a0_0 l0_1 l0_2) = some r := by rw [if_neg (show ¬ (false = true) by decide)] at H; exact H
              clear H
              have H := H1
              clear H1
              have H' := Aside0.mk H
              clear H
              have P2 := e2.out
              have N6 := d5.out
              have J6 : wc.cell? ⟨a5, 0, none⟩ = some (.int .i64 ((rd_T51 l0_2 a0).f0)) := (blk_cell a4.out 0).trans rfl
              have H3 : wc.cell? ⟨a5, 1, none⟩ = some (.int .i64 ((rd_T51 l0_2 a0).f1)) := (blk_cell a4.out 1).trans rfl
              have J4 : wc.cell? ⟨a5, 2, none⟩ = some (.int .i64 ((rd_T51 l0_2 a0).f2)) := (blk_cell a4.out 2).trans rfl
              have J2 := blk_frozen a4.out 0
              have F2 := blk_frozen a4.out 1
              have C1 := blk_frozen a4.out 2
              go_wp2_with (first | ((with_reducible refine gate_builtin (b := .append) (xs := #[.tmp 78, .tmp 81]) rfl ?_); (try (refine gate_guard (by rfl) ?_; dsimp only)); at_builtin; refine Kd.R_append (Kd.int .i64) (w0 := w) w.heap.size rfl (.tmp 78) (.tmp 81) 47 3 (.int .i64 0) 8 rfl Try.underlying47 info3 rfl (by decide) (by omega) k7 d3 ((rd_T51 l0_2 a0).f0) [.int .i64 ((rd_T51 l0_2 a0).f0)] (fun k_ => some k_ ≠ (g2 : Value).ownBlock ∧ some k_ ≠ (g3 : Value).ownBlock) (fun _ => False) rfl rfl ?aP (fun _ hk => hk.elim) ?aF ?aO ?aB ?aS ?aL ?_; (case aP => exact rfl); (case aB => exact (by repeat (first | (with_reducible first | exact HB.out | apply below_alloc | apply pw_below_drewN | apply below_drew1 | refine below_set ?_ a7.out | refine below_set ?_ d1.out) | exact HB.out))); (case aF => exact (fun k_ hk => ⟨Kd.fresh' (Kd.R_lt (by (with_reducible repeat (first | apply Kd.R_alloc | apply Kd.R_drewN | apply Kd.R_drew)); exact b3.out)) k_ hk, Kd.fresh' (Kd.R_lt (by (with_reducible repeat (first | apply Kd.R_alloc | apply Kd.R_drewN | apply Kd.R_drew)); exact b2.out)) k_ hk⟩)); (case aO => exact (by (with_reducible repeat (first | apply Kd.R_alloc | apply Kd.R_drewN | apply Kd.R_drew)); exact b1.out)); (case aS => exact (below_size (by repeat (first | (with_reducible first | exact HB.out | apply below_alloc | apply pw_below_drewN | apply below_drew1 | refine below_set ?_ a7.out | refine below_set ?_ d1.out) | exact HB.out)))); (case aL => have := j6.out; omega); intro m8 w53 ho hb hg hat; rw [← j7.out] at ho; have a9 := Aside0.mk (Kd.R_after (ok := (fun k_ => some k_ ≠ (g3 : Value).ownBlock)) (by (with_reducible repeat (first | apply Kd.R_alloc | apply Kd.R_drewN | apply Kd.R_drew)); exact b3.out) hg hat); have b0 := Aside0.mk (Kd.R_after (ok := (fun k_ => some k_ ≠ (g2 : Value).ownBlock)) (by (with_reducible repeat (first | apply Kd.R_alloc | apply Kd.R_drewN | apply Kd.R_drew)); exact b2.out) hg hat); have b4 := Aside0.mk (Kd.R_over' (by (with_reducible repeat (first | apply Kd.R_alloc | apply Kd.R_drewN | apply Kd.R_drew)); exact b6.out) (Kd.R_typed (by (with_reducible repeat (first | apply Kd.R_alloc | apply Kd.R_drewN | apply Kd.R_drew)); exact b1.out)) (by decide) hg); have b7 := Aside0.mk (Kd.R_over' (by (with_reducible repeat (first | apply Kd.R_alloc | apply Kd.R_drewN | apply Kd.R_drew)); exact a8.out) (Kd.R_typed (by (with_reducible repeat (first | apply Kd.R_alloc | apply Kd.R_drewN | apply Kd.R_drew)); exact b1.out)) (by decide) hg); have c4 := Aside0.mk (blk_grown (g := a6) (o := .cells #[.int .i64 a0_0, .slice A0_1 l0_1.length c0_1, .slice (some e5) l0_2.length c0_2] 25 (0, 0)) (by (with_reducible repeat (first | refine blk_drewN ?_ _ | refine blk_drew ?_ | refine blk_alloc ?_ _)); exact a3.out) hg (Kd.R_ne b1.out a3.out (by decide))); have d2 := Aside0.mk (blk_grown (g := a5) (o := .cells #[.int .i64 ((rd_T51 l0_2 a0).f0), .int .i64 ((rd_T51 l0_2 a0).f1), .int .i64 ((rd_T51 l0_2 a0).f2)] 51 (0, 0)) (by (with_reducible repeat (first | refine blk_drewN ?_ _ | refine blk_drew ?_ | refine blk_alloc ?_ _)); exact a4.out) hg (Kd.R_ne b1.out a4.out (by decide))); have d6 := Aside0.mk (hb); have d7 := Aside0.mk (ho); clear b3; clear b2; clear b6; clear a8; clear a3; clear a4; clear HB; clear b1; have b3 := a9; have b2 := b0; have b6 := b4; have a8 := b7; have a3 := c4; have a4 := d2; have HB := d6; have e1 := d7; clear a9 b0 b4 b7 c4 d2 d6 d7; clear ho hb hg hat; have I5 : w53.cell? ⟨a5, 0, none⟩ = some (.int .i64 ((rd_T51 l0_2 a0).f0)) := (blk_cell a4.out 0).trans rfl; have E4 : w53.cell? ⟨a5, 1, none⟩ = some (.int .i64 ((rd_T51 l0_2 a0).f1)) := (blk_cell a4.out 1).trans rfl; have G9 : w53.cell? ⟨a5, 2, none⟩ = some (.int .i64 ((rd_T51 l0_2 a0).f2)) := (blk_cell a4.out 2).trans rfl; have C5 := blk_frozen a4.out 0; have F8 := blk_frozen a4.out 1; have H5 := blk_frozen a4.out 2) | ((with_reducible refine gate_builtin (b := .append) (xs := #[.tmp 87, .tmp 89]) rfl ?_); (try (refine gate_guard (by rfl) ?_; dsimp only)); at_builtin; refine Kd.R_append k51 (w0 := w) w.heap.size rfl (.tmp 87) (.tmp 89) 23 51 (.agg #[(.int .i64 0), (.int .i64 0), (.int .i64 0)]) 24 rfl Try.underlying23 info51 rfl (by decide) (by omega) m6 c9 (⟨((rd_T51 l0_2 a0).f0), ((rd_T51 l0_2 a0).f1), ((rd_T51 l0_2 a0).f2)⟩ : S51) [.int .i64 ((rd_T51 l0_2 a0).f0), .int .i64 ((rd_T51 l0_2 a0).f1), .int .i64 ((rd_T51 l0_2 a0).f2)] (fun k_ => some k_ ≠ (h3 : Value).ownBlock ∧ k_ ≠ a5) (fun _ => False) rfl rfl ?aP (fun _ hk => hk.elim) ?aF ?aO ?aB ?aS ?aL ?_; (case aP => exact k51_mkM _ _ _ (⟨((rd_T51 l0_2 a0).f0), ((rd_T51 l0_2 a0).f1), ((rd_T51 l0_2 a0).f2)⟩ : S51)); (case aB => exact (by repeat (first | (with_reducible first | exact HB.out | apply below_alloc | apply pw_below_drewN | apply below_drew1 | refine below_set ?_ a7.out | refine below_set ?_ d1.out) | exact HB.out))); (case aF => exact (fun k_ hk => ⟨Kd.fresh' (Kd.R_lt (by (with_reducible repeat (first | apply Kd.R_alloc | apply Kd.R_drewN | apply Kd.R_drew)); exact b6.out)) k_ hk, Kd.freshB (g := a5) (o := .cells #[.int .i64 ((rd_T51 l0_2 a0).f0), .int .i64 ((rd_T51 l0_2 a0).f1), .int .i64 ((rd_T51 l0_2 a0).f2)] 51 (0, 0)) (by (with_reducible repeat (first | refine blk_drewN ?_ _ | refine blk_drew ?_ | refine blk_alloc ?_ _)); exact a4.out) k_ hk⟩)); (case aO => exact (by (with_reducible repeat (first | apply Kd.R_alloc | apply Kd.R_drewN | apply Kd.R_drew)); exact a8.out)); (case aS => exact (below_size (by repeat (first | (with_reducible first | exact HB.out | apply below_alloc | apply pw_below_drewN | apply below_drew1 | refine below_set ?_ a7.out | refine below_set ?_ d1.out) | exact HB.out)))); (case aL => have := p3.out; omega); intro y6 w55 ho hb hg hat; rw [← p1.out] at ho; have a9 := Aside0.mk (Kd.R_over' (by (with_reducible repeat (first | apply Kd.R_alloc | apply Kd.R_drewN | apply Kd.R_drew)); exact b3.out) (Kd.R_typed (by (with_reducible repeat (first | apply Kd.R_alloc | apply Kd.R_drewN | apply Kd.R_drew)); exact a8.out)) (by decide) hg); have b0 := Aside0.mk (Kd.R_over' (by (with_reducible repeat (first | apply Kd.R_alloc | apply Kd.R_drewN | apply Kd.R_drew)); exact b2.out) (Kd.R_typed (by (with_reducible repeat (first | apply Kd.R_alloc | apply Kd.R_drewN | apply Kd.R_drew)); exact a8.out)) (by decide) hg); have b4 := Aside0.mk (Kd.R_after (ok := (fun k_ => k_ ≠ a5)) (by (with_reducible repeat (first | apply Kd.R_alloc | apply Kd.R_drewN | apply Kd.R_drew)); exact Kd.R_mono b6.out (fun _ hk => ⟨hk.2, hk.1⟩)) hg hat); have b7 := Aside0.mk (blk_grown (g := a6) (o := .cells #[.int .i64 a0_0, .slice A0_1 l0_1.length c0_1, .slice (some e5) l0_2.length c0_2] 25 (0, 0)) (by (with_reducible repeat (first | refine blk_drewN ?_ _ | refine blk_drew ?_ | refine blk_alloc ?_ _)); exact a3.out) hg (Kd.R_ne a8.out a3.out (by decide))); have c4 := Aside0.mk (blk_grown (g := a5) (o := .cells #[.int .i64 ((rd_T51 l0_2 a0).f0), .int .i64 ((rd_T51 l0_2 a0).f1), .int .i64 ((rd_T51 l0_2 a0).f2)] 51 (0, 0)) (by (with_reducible repeat (first | refine blk_drewN ?_ _ | refine blk_drew ?_ | refine blk_alloc ?_ _)); exact a4.out) hg (Kd.R_away a8.out (fun _ hk => hk.2))); have d2 := Aside0.mk (Kd.R_over' (by (with_reducible repeat (first | apply Kd.R_alloc | apply Kd.R_drewN | apply Kd.R_drew)); exact e1.out) (Kd.R_typed (by (with_reducible repeat (first | apply Kd.R_alloc | apply Kd.R_drewN | apply Kd.R_drew)); exact a8.out)) (by decide) hg); have d6 := Aside0.mk (hb); have d7 := Aside0.mk (ho); clear b3; clear b2; clear b6; clear a3; clear a4; clear e1; clear HB; clear a8; have b3 := a9; have b2 := b0; have b6 := b4; have a3 := b7; have a4 := c4; have e1 := d2; have HB := d6; have i5 := d7; clear a9 b0 b4 b7 c4 d2 d6 d7; clear ho hb hg hat))
              go_roundg c8
              case measure => have := g6.out; have := g0.out; omega
              case rel => exact ⟨(f7), (g7), (false), (c6 (a0 + 1)), (by first | rfl | (simp; done) | (simp [*]; done)), (by first | rfl | (simp; done) | (simp [*]; done)), H', ⟨by have := g6.out; have := g0.out; omega⟩, ⟨by (with_reducible repeat (first | apply Kd.R_alloc | apply Kd.R_drewN | apply Kd.R_drew)); exact b3.out⟩, ⟨by (with_reducible repeat (first | apply Kd.R_alloc | apply Kd.R_drewN | apply Kd.R_drew)); exact b2.out⟩, ⟨by (with_reducible repeat (first | apply Kd.R_alloc | apply Kd.R_drewN | apply Kd.R_drew)); exact Kd.R_mono b6.out (fun _ hk => hk.2)⟩, ⟨by (with_reducible repeat (first | apply Kd.R_alloc | apply Kd.R_drewN | apply Kd.R_drew)); exact e1.out⟩, ⟨by (with_reducible repeat (first | apply Kd.R_alloc | apply Kd.R_drewN | apply Kd.R_drew)); exact Kd.R_mono i5.out (fun _ hk => hk.1)⟩, ⟨by (with_reducible repeat (first | refine blk_drewN ?_ _ | refine blk_drew ?_ | refine blk_alloc ?_ _)); exact a3.out⟩, ⟨by repeat (first | (with_reducible first | exact HB.out | apply below_alloc | apply pw_below_drewN | apply below_drew1 | refine below_set ?_ a7.out | refine below_set ?_ d1.out) | exact HB.out)⟩⟩
            ·rw [if_neg p0] at H
             exact absurd H (by simp)
           ·rw [if_neg k0] at H
            have c38b0 : (((rd_T51 l0_2 a0).f0) == a1) = false := beq_eq_false_iff_ne.mpr k0
            have c38b1 : (((rd_T51 l0_2 a0).f0) != a1) = true := bne_iff_ne.mpr k0
            by_cases o2 : d4 = true
            ·subst o2
             have H1 : ((Pr26b.f c8 a0_0 l0_1 l0_2 ((rd_T51 l0_2 a0).f0) ((rd_T51 l0_2 a0).f1)).bind fun h5 => (Pl26a.l0 c8 a1 a2 b9 b8 b5 f7 c9 ((h5.length : Int) == 1) (c6 (a0 + 1)) a0_0 l0_1 l0_2)) = some r := by rw [if_pos rfl] at H; exact H
             clear H
             have H := H1
             clear H1
             replace H := Option.bind_eq_some_iff.mp H
             obtain ⟨h5, s8, H⟩ := H
             replace H : (Pl26a.l0 c8 a1 a2 b9 b8 b5 f7 c9 ((h5.length : Int) == 1) (c6 (a0 + 1)) a0_0 l0_1 l0_2) = some r := H
             have N2 := Aside0.mk s8
             clear s8
             have H' := Aside0.mk H
             clear H
             have R1 := e2.out
             have P0 := d5.out
             have C8 : wc.cell? ⟨a5, 0, none⟩ = some (.int .i64 ((rd_T51 l0_2 a0).f0)) := (blk_cell a4.out 0).trans rfl
             have G5 : wc.cell? ⟨a5, 1, none⟩ = some (.int .i64 ((rd_T51 l0_2 a0).f1)) := (blk_cell a4.out 1).trans rfl
             have D8 : wc.cell? ⟨a5, 2, none⟩ = some (.int .i64 ((rd_T51 l0_2 a0).f2)) := (blk_cell a4.out 2).trans rfl
             have K2 := blk_frozen a4.out 0
             have K8 := blk_frozen a4.out 1
             have K9 := blk_frozen a4.out 2
             go_wp2_with (first | ((with_reducible refine gate_builtin (b := .append) (xs := #[.tmp 78, .tmp 81]) rfl ?_); (try (refine gate_guard (by rfl) ?_; dsimp only)); at_builtin; refine Kd.R_append (Kd.int .i64) (w0 := w) w.heap.size rfl (.tmp 78) (.tmp 81) 47 3 (.int .i64 0) 8 rfl Try.underlying47 info3 rfl (by decide) (by omega) k7 d3 ((rd_T51 l0_2 a0).f0) [.int .i64 ((rd_T51 l0_2 a0).f0)] (fun k_ => some k_ ≠ (g2 : Value).ownBlock ∧ some k_ ≠ (g3 : Value).ownBlock) (fun _ => False) rfl rfl ?aP (fun _ hk => hk.elim) ?aF ?aO ?aB ?aS ?aL ?_; (case aP => exact rfl); (case aB => exact (by repeat (first | (with_reducible first | exact HB.out | apply below_alloc | apply pw_below_drewN | apply below_drew1 | refine below_set ?_ a7.out | refine below_set ?_ d1.out) | exact HB.out))); (case aF => exact (fun k_ hk => ⟨Kd.fresh' (Kd.R_lt (by (with_reducible repeat (first | apply Kd.R_alloc | apply Kd.R_drewN | apply Kd.R_drew)); exact b3.out)) k_ hk, Kd.fresh' (Kd.R_lt (by (with_reducible repeat (first | apply Kd.R_alloc | apply Kd.R_drewN | apply Kd.R_drew)); exact b2.out)) k_ hk⟩)); (case aO => exact (by (with_reducible repeat (first | apply Kd.R_alloc | apply Kd.R_drewN | apply Kd.R_drew)); exact b1.out)); (case aS => exact (below_size (by repeat (first | (with_reducible first | exact HB.out | apply below_alloc | apply pw_below_drewN | apply below_drew1 | refine below_set ?_ a7.out | refine below_set ?_ d1.out) | exact HB.out)))); (case aL => have := j6.out; omega); intro m8 w60 ho hb hg hat; rw [← j7.out] at ho; have a9 := Aside0.mk (Kd.R_after (ok := (fun k_ => some k_ ≠ (g3 : Value).ownBlock)) (by (with_reducible repeat (first | apply Kd.R_alloc | apply Kd.R_drewN | apply Kd.R_drew)); exact b3.out) hg hat); have b0 := Aside0.mk (Kd.R_after (ok := (fun k_ => some k_ ≠ (g2 : Value).ownBlock)) (by (with_reducible repeat (first | apply Kd.R_alloc | apply Kd.R_drewN | apply Kd.R_drew)); exact b2.out) hg hat); have b4 := Aside0.mk (Kd.R_over' (by (with_reducible repeat (first | apply Kd.R_alloc | apply Kd.R_drewN | apply Kd.R_drew)); exact b6.out) (Kd.R_typed (by (with_reducible repeat (first | apply Kd.R_alloc | apply Kd.R_drewN | apply Kd.R_drew)); exact b1.out)) (by decide) hg); have b7 := Aside0.mk (Kd.R_over' (by (with_reducible repeat (first | apply Kd.R_alloc | apply Kd.R_drewN | apply Kd.R_drew)); exact a8.out) (Kd.R_typed (by (with_reducible repeat (first | apply Kd.R_alloc | apply Kd.R_drewN | apply Kd.R_drew)); exact b1.out)) (by decide) hg); have c4 := Aside0.mk (blk_grown (g := a6) (o := .cells #[.int .i64 a0_0, .slice A0_1 l0_1.length c0_1, .slice (some e5) l0_2.length c0_2] 25 (0, 0)) (by (with_reducible repeat (first | refine blk_drewN ?_ _ | refine blk_drew ?_ | refine blk_alloc ?_ _)); exact a3.out) hg (Kd.R_ne b1.out a3.out (by decide))); have d2 := Aside0.mk (blk_grown (g := a5) (o := .cells #[.int .i64 ((rd_T51 l0_2 a0).f0), .int .i64 ((rd_T51 l0_2 a0).f1), .int .i64 ((rd_T51 l0_2 a0).f2)] 51 (0, 0)) (by (with_reducible repeat (first | refine blk_drewN ?_ _ | refine blk_drew ?_ | refine blk_alloc ?_ _)); exact a4.out) hg (Kd.R_ne b1.out a4.out (by decide))); have d6 := Aside0.mk (hb); have d7 := Aside0.mk (ho); clear b3; clear b2; clear b6; clear a8; clear a3; clear a4; clear HB; clear b1; have b3 := a9; have b2 := b0; have b6 := b4; have a8 := b7; have a3 := c4; have a4 := d2; have HB := d6; have e1 := d7; clear a9 b0 b4 b7 c4 d2 d6 d7; clear ho hb hg hat; have I3 : w60.cell? ⟨a5, 0, none⟩ = some (.int .i64 ((rd_T51 l0_2 a0).f0)) := (blk_cell a4.out 0).trans rfl; have K1 : w60.cell? ⟨a5, 1, none⟩ = some (.int .i64 ((rd_T51 l0_2 a0).f1)) := (blk_cell a4.out 1).trans rfl; have J9 : w60.cell? ⟨a5, 2, none⟩ = some (.int .i64 ((rd_T51 l0_2 a0).f2)) := (blk_cell a4.out 2).trans rfl; have M1 := blk_frozen a4.out 0; have J0 := blk_frozen a4.out 1; have D5 := blk_frozen a4.out 2; have H6 : w60.cell? ⟨a6, 0, none⟩ = some (.int .i64 a0_0) := (blk_cell a3.out 0).trans rfl; have F7 : w60.cell? ⟨a6, 1, none⟩ = some (.slice A0_1 l0_1.length c0_1) := (blk_cell a3.out 1).trans rfl; have K7 : w60.cell? ⟨a6, 2, none⟩ = some (.slice (some e5) l0_2.length c0_2) := (blk_cell a3.out 2).trans rfl; have D3 := blk_frozen a3.out 0; have F4 := blk_frozen a3.out 1; have I2 := blk_frozen a3.out 2) | (go_at_call 32; (with_reducible refine (Pr26b.calls c8 a0_0 _ _ l0_1 _ _ l0_2 ((rd_T51 l0_2 a0).f0) ((rd_T51 l0_2 a0).f1) h5 _ ?e3 ?e4 ?e7 ?e6 N2.out).mono ?_); (case e3 => repeat (first | exact (Kd.C_below f5.out HB.out) | (with_reducible refine Kd.C_alloc ?_ _) | (with_reducible refine Kd.C_drewN ?_ _) | (with_reducible refine Kd.C_drew ?_))); (case e4 => exact f3.out); (case e7 => repeat (first | exact (Kd.C_below e9.out HB.out) | (with_reducible refine Kd.C_alloc ?_ _) | (with_reducible refine Kd.C_drewN ?_ _) | (with_reducible refine Kd.C_drew ?_))); (case e6 => exact f4.out); rintro e w63 ⟨R9, rfl, d8, hb⟩; have a9 := Aside0.mk (Kd.R_elder' (by (with_reducible repeat (first | apply Kd.R_alloc | apply Kd.R_drewN | apply Kd.R_drew)); exact b3.out) (Kd.R_base d8) hb); have b0 := Aside0.mk (Kd.R_elder' (by (with_reducible repeat (first | apply Kd.R_alloc | apply Kd.R_drewN | apply Kd.R_drew)); exact b2.out) (Kd.R_base d8) hb); have b4 := Aside0.mk (Kd.R_below (by (with_reducible repeat (first | apply Kd.R_alloc | apply Kd.R_drewN | apply Kd.R_drew)); exact b6.out) hb); have b7 := Aside0.mk (Kd.R_below (by (with_reducible repeat (first | apply Kd.R_alloc | apply Kd.R_drewN | apply Kd.R_drew)); exact a8.out) hb); have c4 := Aside0.mk (Kd.R_elder' (by (with_reducible repeat (first | apply Kd.R_alloc | apply Kd.R_drewN | apply Kd.R_drew)); exact e1.out) (Kd.R_base d8) hb); have d2 := Aside0.mk (Kd.R_lower (Kd.R_new' (Kd.R_new' (Kd.R_new' d8 (Kd.R_lt (by (with_reducible repeat (first | apply Kd.R_alloc | apply Kd.R_drewN | apply Kd.R_drew)); exact b3.out))) (Kd.R_lt (by (with_reducible repeat (first | apply Kd.R_alloc | apply Kd.R_drewN | apply Kd.R_drew)); exact b2.out))) (Kd.R_lt (by (with_reducible repeat (first | apply Kd.R_alloc | apply Kd.R_drewN | apply Kd.R_drew)); exact e1.out))) (below_size (by repeat (first | (with_reducible first | exact HB.out | apply below_alloc | apply pw_below_drewN | apply below_drew1 | refine below_set ?_ a7.out | refine below_set ?_ d1.out) | exact HB.out)))); have d6 := Aside0.mk (blk_below (g := a6) (o := .cells #[.int .i64 a0_0, .slice A0_1 l0_1.length c0_1, .slice (some e5) l0_2.length c0_2] 25 (0, 0)) (by (with_reducible repeat (first | refine blk_drewN ?_ _ | refine blk_drew ?_ | refine blk_alloc ?_ _)); exact a3.out) hb); have d7 := Aside0.mk (blk_below (g := a5) (o := .cells #[.int .i64 ((rd_T51 l0_2 a0).f0), .int .i64 ((rd_T51 l0_2 a0).f1), .int .i64 ((rd_T51 l0_2 a0).f2)] 51 (0, 0)) (by (with_reducible repeat (first | refine blk_drewN ?_ _ | refine blk_drew ?_ | refine blk_alloc ?_ _)); exact a4.out) hb); have h1 := Aside0.mk (below_step (by repeat (first | (with_reducible first | exact HB.out | apply below_alloc | apply pw_below_drewN | apply below_drew1 | refine below_set ?_ a7.out | refine below_set ?_ d1.out) | exact HB.out)) hb); clear b3; clear b2; clear b6; clear a8; clear e1; clear a3; clear a4; clear HB; have b3 := a9; have b2 := b0; have b6 := b4; have a8 := b7; have e1 := c4; have t5 := d2; have a3 := d6; have a4 := d7; have HB := h1; clear a9 b0 b4 b7 c4 d2 d6 d7 h1; (try clear hb); (try clear hb2); (try clear hk); (try clear hi); (try clear d8); obtain ⟨T0, S4, x9⟩ := Kd.R_slice t5.out; subst x9))
             go_roundg c8
             case measure => have := g6.out; have := g0.out; omega
             case rel => exact ⟨(f7), (c9), (((h5.length : Int) == 1)), (c6 (a0 + 1)), (by first | rfl | (simp; done) | (simp [*]; done)), (by first | rfl | (simp; done) | (simp [*]; done)), H', ⟨by have := g6.out; have := g0.out; omega⟩, ⟨by (with_reducible repeat (first | apply Kd.R_alloc | apply Kd.R_drewN | apply Kd.R_drew)); exact Kd.R_mono b3.out (fun _ hk => ⟨hk.1.1, hk.1.2⟩)⟩, ⟨by (with_reducible repeat (first | apply Kd.R_alloc | apply Kd.R_drewN | apply Kd.R_drew)); exact Kd.R_mono b2.out (fun _ hk => ⟨hk.1.1, hk.1.2⟩)⟩, ⟨by (with_reducible repeat (first | apply Kd.R_alloc | apply Kd.R_drewN | apply Kd.R_drew)); exact Kd.R_mono b6.out (fun _ hk => hk.1)⟩, ⟨by (with_reducible repeat (first | apply Kd.R_alloc | apply Kd.R_drewN | apply Kd.R_drew)); exact Kd.R_mono e1.out (fun _ hk => ⟨hk.1.1, hk.1.2⟩)⟩, ⟨by (with_reducible repeat (first | apply Kd.R_alloc | apply Kd.R_drewN | apply Kd.R_drew)); exact Kd.R_mono a8.out (fun _ hk => hk.1)⟩, ⟨by (with_reducible repeat (first | refine blk_drewN ?_ _ | refine blk_drew ?_ | refine blk_alloc ?_ _)); exact a3.out⟩, ⟨by repeat (first | (with_reducible first | exact HB.out | apply below_alloc | apply pw_below_drewN | apply below_drew1 | refine below_set ?_ a7.out | refine below_set ?_ d1.out) | exact HB.out)⟩⟩
            ·replace o2 := Bool.eq_false_iff.mpr o2
             subst o2
             have H1 : (Pl26a.l0 c8 a1 a2 b9 b8 b5 f7 c9 false (c6 (a0 + 1)) a0_0 l0_1 l0_2) = some r := by rw [if_neg (show ¬ (false = true) by decide)] at H; exact H
             clear H
             have H := H1
             clear H1
             have H' := Aside0.mk H
             clear H
             have P5 := e2.out
             have O0 := d5.out
             have I4 : wc.cell? ⟨a5, 0, none⟩ = some (.int .i64 ((rd_T51 l0_2 a0).f0)) := (blk_cell a4.out 0).trans rfl
             have E7 : wc.cell? ⟨a5, 1, none⟩ = some (.int .i64 ((rd_T51 l0_2 a0).f1)) := (blk_cell a4.out 1).trans rfl
             have D6 : wc.cell? ⟨a5, 2, none⟩ = some (.int .i64 ((rd_T51 l0_2 a0).f2)) := (blk_cell a4.out 2).trans rfl
             have L7 := blk_frozen a4.out 0
             have L4 := blk_frozen a4.out 1
             have K3 := blk_frozen a4.out 2
             go_wp2_with (first | ((with_reducible refine gate_builtin (b := .append) (xs := #[.tmp 78, .tmp 81]) rfl ?_); (try (refine gate_guard (by rfl) ?_; dsimp only)); at_builtin; refine Kd.R_append (Kd.int .i64) (w0 := w) w.heap.size rfl (.tmp 78) (.tmp 81) 47 3 (.int .i64 0) 8 rfl Try.underlying47 info3 rfl (by decide) (by omega) k7 d3 ((rd_T51 l0_2 a0).f0) [.int .i64 ((rd_T51 l0_2 a0).f0)] (fun k_ => some k_ ≠ (g2 : Value).ownBlock ∧ some k_ ≠ (g3 : Value).ownBlock) (fun _ => False) rfl rfl ?aP (fun _ hk => hk.elim) ?aF ?aO ?aB ?aS ?aL ?_; (case aP => exact rfl); (case aB => exact (by repeat (first | (with_reducible first | exact HB.out | apply below_alloc | apply pw_below_drewN | apply below_drew1 | refine below_set ?_ a7.out | refine below_set ?_ d1.out) | exact HB.out))); (case aF => exact (fun k_ hk => ⟨Kd.fresh' (Kd.R_lt (by (with_reducible repeat (first | apply Kd.R_alloc | apply Kd.R_drewN | apply Kd.R_drew)); exact b3.out)) k_ hk, Kd.fresh' (Kd.R_lt (by (with_reducible repeat (first | apply Kd.R_alloc | apply Kd.R_drewN | apply Kd.R_drew)); exact b2.out)) k_ hk⟩)); (case aO => exact (by (with_reducible repeat (first | apply Kd.R_alloc | apply Kd.R_drewN | apply Kd.R_drew)); exact b1.out)); (case aS => exact (below_size (by repeat (first | (with_reducible first | exact HB.out | apply below_alloc | apply pw_below_drewN | apply below_drew1 | refine below_set ?_ a7.out | refine below_set ?_ d1.out) | exact HB.out)))); (case aL => have := j6.out; omega); intro m8 w67 ho hb hg hat; rw [← j7.out] at ho; have a9 := Aside0.mk (Kd.R_after (ok := (fun k_ => some k_ ≠ (g3 : Value).ownBlock)) (by (with_reducible repeat (first | apply Kd.R_alloc | apply Kd.R_drewN | apply Kd.R_drew)); exact b3.out) hg hat); have b0 := Aside0.mk (Kd.R_after (ok := (fun k_ => some k_ ≠ (g2 : Value).ownBlock)) (by (with_reducible repeat (first | apply Kd.R_alloc | apply Kd.R_drewN | apply Kd.R_drew)); exact b2.out) hg hat); have b4 := Aside0.mk (Kd.R_over' (by (with_reducible repeat (first | apply Kd.R_alloc | apply Kd.R_drewN | apply Kd.R_drew)); exact b6.out) (Kd.R_typed (by (with_reducible repeat (first | apply Kd.R_alloc | apply Kd.R_drewN | apply Kd.R_drew)); exact b1.out)) (by decide) hg); have b7 := Aside0.mk (Kd.R_over' (by (with_reducible repeat (first | apply Kd.R_alloc | apply Kd.R_drewN | apply Kd.R_drew)); exact a8.out) (Kd.R_typed (by (with_reducible repeat (first | apply Kd.R_alloc | apply Kd.R_drewN | apply Kd.R_drew)); exact b1.out)) (by decide) hg); have c4 := Aside0.mk (blk_grown (g := a6) (o := .cells #[.int .i64 a0_0, .slice A0_1 l0_1.length c0_1, .slice (some e5) l0_2.length c0_2] 25 (0, 0)) (by (with_reducible repeat (first | refine blk_drewN ?_ _ | refine blk_drew ?_ | refine blk_alloc ?_ _)); exact a3.out) hg (Kd.R_ne b1.out a3.out (by decide))); have d2 := Aside0.mk (blk_grown (g := a5) (o := .cells #[.int .i64 ((rd_T51 l0_2 a0).f0), .int .i64 ((rd_T51 l0_2 a0).f1), .int .i64 ((rd_T51 l0_2 a0).f2)] 51 (0, 0)) (by (with_reducible repeat (first | refine blk_drewN ?_ _ | refine blk_drew ?_ | refine blk_alloc ?_ _)); exact a4.out) hg (Kd.R_ne b1.out a4.out (by decide))); have d6 := Aside0.mk (hb); have d7 := Aside0.mk (ho); clear b3; clear b2; clear b6; clear a8; clear a3; clear a4; clear HB; clear b1; have b3 := a9; have b2 := b0; have b6 := b4; have a8 := b7; have a3 := c4; have a4 := d2; have HB := d6; have e1 := d7; clear a9 b0 b4 b7 c4 d2 d6 d7; clear ho hb hg hat; have J8 : w67.cell? ⟨a5, 0, none⟩ = some (.int .i64 ((rd_T51 l0_2 a0).f0)) := (blk_cell a4.out 0).trans rfl; have E2 : w67.cell? ⟨a5, 1, none⟩ = some (.int .i64 ((rd_T51 l0_2 a0).f1)) := (blk_cell a4.out 1).trans rfl; have I8 : w67.cell? ⟨a5, 2, none⟩ = some (.int .i64 ((rd_T51 l0_2 a0).f2)) := (blk_cell a4.out 2).trans rfl; have B8 := blk_frozen a4.out 0; have J5 := blk_frozen a4.out 1; have F6 := blk_frozen a4.out 2))
             go_roundg c8
             case measure => have := g6.out; have := g0.out; omega
             case rel => exact ⟨(f7), (c9), (false), (c6 (a0 + 1)), (by first | rfl | (simp; done) | (simp [*]; done)), (by first | rfl | (simp; done) | (simp [*]; done)), H', ⟨by have := g6.out; have := g0.out; omega⟩, ⟨by (with_reducible repeat (first | apply Kd.R_alloc | apply Kd.R_drewN | apply Kd.R_drew)); exact b3.out⟩, ⟨by (with_reducible repeat (first | apply Kd.R_alloc | apply Kd.R_drewN | apply Kd.R_drew)); exact b2.out⟩, ⟨by (with_reducible repeat (first | apply Kd.R_alloc | apply Kd.R_drewN | apply Kd.R_drew)); exact Kd.R_mono b6.out (fun _ hk => hk.1)⟩, ⟨by (with_reducible repeat (first | apply Kd.R_alloc | apply Kd.R_drewN | apply Kd.R_drew)); exact e1.out⟩, ⟨by (with_reducible repeat (first | apply Kd.R_alloc | apply Kd.R_drewN | apply Kd.R_drew)); exact Kd.R_mono a8.out (fun _ hk => hk.1)⟩, ⟨by (with_reducible repeat (first | refine blk_drewN ?_ _ | refine blk_drew ?_ | refine blk_alloc ?_ _)); exact a3.out⟩, ⟨by repeat (first | (with_reducible first | exact HB.out | apply below_alloc | apply pw_below_drewN | apply below_drew1 | refine below_set ?_ a7.out | refine below_set ?_ d1.out) | exact HB.out)⟩⟩
          ·rw [if_neg o9] at H
           exact absurd H (by simp)
         ·replace o7 := Bool.eq_false_iff.mpr o7
          subst o7
          have H1 : (if ((rd_T51 l0_2 a0).f0) = a1 then (if c9.length < 5864062014805 then ((some (c9 ++ [(⟨((rd_T51 l0_2 a0).f0), ((rd_T51 l0_2 a0).f1), ((rd_T51 l0_2 a0).f2)⟩ : S51)] : List (S51))).bind fun h2 => (if d4 = true then ((Pr26b.f c8 a0_0 l0_1 l0_2 ((rd_T51 l0_2 a0).f0) ((rd_T51 l0_2 a0).f1)).bind fun h4 => (Pl26a.l0 c8 a1 a2 b9 b8 b5 d3 h2 ((h4.length : Int) == 1) (c6 (a0 + 1)) a0_0 l0_1 l0_2)) else (Pl26a.l0 c8 a1 a2 b9 b8 b5 d3 h2 false (c6 (a0 + 1)) a0_0 l0_1 l0_2))) else (none)) else (if d4 = true then ((Pr26b.f c8 a0_0 l0_1 l0_2 ((rd_T51 l0_2 a0).f0) ((rd_T51 l0_2 a0).f1)).bind fun i6 => (Pl26a.l0 c8 a1 a2 b9 b8 b5 d3 c9 ((i6.length : Int) == 1) (c6 (a0 + 1)) a0_0 l0_1 l0_2)) else (Pl26a.l0 c8 a1 a2 b9 b8 b5 d3 c9 false (c6 (a0 + 1)) a0_0 l0_1 l0_2))) = some r := by rw [if_neg (show ¬ (false = true) by decide)] at H; exact H
          clear H
          have H := H1
          clear H1
          by_cases k2 : ((rd_T51 l0_2 a0).f0) = a1
          ·rw [if_pos k2] at H
           have c69b0 : (((rd_T51 l0_2 a0).f0) == a1) = true := beq_iff_eq.mpr k2
           have c69b1 : (((rd_T51 l0_2 a0).f0) != a1) = false := bne_eq_false_iff_eq.mpr k2
           clear k2
           by_cases n3 : c9.length < 5864062014805
           ·rw [if_pos n3] at H
            have o0 := Aside0.mk n3
            clear n3
            obtain ⟨h2, i8⟩ : ∃ y_ : List (S51), y_ = (c9 ++ [(⟨((rd_T51 l0_2 a0).f0), ((rd_T51 l0_2 a0).f1), ((rd_T51 l0_2 a0).f2)⟩ : S51)]) := ⟨_, rfl⟩
            replace H : (if d4 = true then ((Pr26b.f c8 a0_0 l0_1 l0_2 ((rd_T51 l0_2 a0).f0) ((rd_T51 l0_2 a0).f1)).bind fun h4 => (Pl26a.l0 c8 a1 a2 b9 b8 b5 d3 h2 ((h4.length : Int) == 1) (c6 (a0 + 1)) a0_0 l0_1 l0_2)) else (Pl26a.l0 c8 a1 a2 b9 b8 b5 d3 h2 false (c6 (a0 + 1)) a0_0 l0_1 l0_2)) = some r := by first | (rw [i8]; with_reducible exact H) | (have g4 := (Option.bind_some _ _).symm.trans H; rw [i8]; with_reducible exact g4) | (have g4 := (Option.bind_some _ _).symm.trans H; with_reducible exact g4) | with_reducible exact H | (rw [i8]; exact H) | exact H
            have n7 := Aside0.mk i8
            clear i8
            by_cases n4 : d4 = true
            ·subst n4
             have H1 : ((Pr26b.f c8 a0_0 l0_1 l0_2 ((rd_T51 l0_2 a0).f0) ((rd_T51 l0_2 a0).f1)).bind fun h4 => (Pl26a.l0 c8 a1 a2 b9 b8 b5 d3 h2 ((h4.length : Int) == 1) (c6 (a0 + 1)) a0_0 l0_1 l0_2)) = some r := by rw [if_pos rfl] at H; exact H
             clear H
             have H := H1
             clear H1
             replace H := Option.bind_eq_some_iff.mp H
             obtain ⟨h4, s6, H⟩ := H
             replace H : (Pl26a.l0 c8 a1 a2 b9 b8 b5 d3 h2 ((h4.length : Int) == 1) (c6 (a0 + 1)) a0_0 l0_1 l0_2) = some r := H
             have M5 := Aside0.mk s6
             clear s6
             have H' := Aside0.mk H
             clear H
             have O6 := e2.out
             have P9 := d5.out
             have K4 : wc.cell? ⟨a5, 0, none⟩ = some (.int .i64 ((rd_T51 l0_2 a0).f0)) := (blk_cell a4.out 0).trans rfl
             have F9 : wc.cell? ⟨a5, 1, none⟩ = some (.int .i64 ((rd_T51 l0_2 a0).f1)) := (blk_cell a4.out 1).trans rfl
             have B4 : wc.cell? ⟨a5, 2, none⟩ = some (.int .i64 ((rd_T51 l0_2 a0).f2)) := (blk_cell a4.out 2).trans rfl
             have J7 := blk_frozen a4.out 0
             have I0 := blk_frozen a4.out 1
             have H0 := blk_frozen a4.out 2
             go_wp2_with (first | ((with_reducible refine gate_builtin (b := .append) (xs := #[.tmp 87, .tmp 89]) rfl ?_); (try (refine gate_guard (by rfl) ?_; dsimp only)); at_builtin; refine Kd.R_append k51 (w0 := w) w.heap.size rfl (.tmp 87) (.tmp 89) 23 51 (.agg #[(.int .i64 0), (.int .i64 0), (.int .i64 0)]) 24 rfl Try.underlying23 info51 rfl (by decide) (by omega) m6 c9 (⟨((rd_T51 l0_2 a0).f0), ((rd_T51 l0_2 a0).f1), ((rd_T51 l0_2 a0).f2)⟩ : S51) [.int .i64 ((rd_T51 l0_2 a0).f0), .int .i64 ((rd_T51 l0_2 a0).f1), .int .i64 ((rd_T51 l0_2 a0).f2)] (fun k_ => some k_ ≠ (h3 : Value).ownBlock ∧ k_ ≠ a5) (fun _ => False) rfl rfl ?aP (fun _ hk => hk.elim) ?aF ?aO ?aB ?aS ?aL ?_; (case aP => exact k51_mkM _ _ _ (⟨((rd_T51 l0_2 a0).f0), ((rd_T51 l0_2 a0).f1), ((rd_T51 l0_2 a0).f2)⟩ : S51)); (case aB => exact (by repeat (first | (with_reducible first | exact HB.out | apply below_alloc | apply pw_below_drewN | apply below_drew1 | refine below_set ?_ a7.out | refine below_set ?_ d1.out) | exact HB.out))); (case aF => exact (fun k_ hk => ⟨Kd.fresh' (Kd.R_lt (by (with_reducible repeat (first | apply Kd.R_alloc | apply Kd.R_drewN | apply Kd.R_drew)); exact b6.out)) k_ hk, Kd.freshB (g := a5) (o := .cells #[.int .i64 ((rd_T51 l0_2 a0).f0), .int .i64 ((rd_T51 l0_2 a0).f1), .int .i64 ((rd_T51 l0_2 a0).f2)] 51 (0, 0)) (by (with_reducible repeat (first | refine blk_drewN ?_ _ | refine blk_drew ?_ | refine blk_alloc ?_ _)); exact a4.out) k_ hk⟩)); (case aO => exact (by (with_reducible repeat (first | apply Kd.R_alloc | apply Kd.R_drewN | apply Kd.R_drew)); exact a8.out)); (case aS => exact (below_size (by repeat (first | (with_reducible first | exact HB.out | apply below_alloc | apply pw_below_drewN | apply below_drew1 | refine below_set ?_ a7.out | refine below_set ?_ d1.out) | exact HB.out)))); (case aL => have := o0.out; omega); intro x2 w75 ho hb hg hat; rw [← n7.out] at ho; have a9 := Aside0.mk (Kd.R_over' (by (with_reducible repeat (first | apply Kd.R_alloc | apply Kd.R_drewN | apply Kd.R_drew)); exact b3.out) (Kd.R_typed (by (with_reducible repeat (first | apply Kd.R_alloc | apply Kd.R_drewN | apply Kd.R_drew)); exact a8.out)) (by decide) hg); have b0 := Aside0.mk (Kd.R_over' (by (with_reducible repeat (first | apply Kd.R_alloc | apply Kd.R_drewN | apply Kd.R_drew)); exact b2.out) (Kd.R_typed (by (with_reducible repeat (first | apply Kd.R_alloc | apply Kd.R_drewN | apply Kd.R_drew)); exact a8.out)) (by decide) hg); have b4 := Aside0.mk (Kd.R_after (ok := (fun k_ => k_ ≠ a5)) (by (with_reducible repeat (first | apply Kd.R_alloc | apply Kd.R_drewN | apply Kd.R_drew)); exact Kd.R_mono b6.out (fun _ hk => ⟨hk.2, hk.1⟩)) hg hat); have b7 := Aside0.mk (Kd.R_over' (by (with_reducible repeat (first | apply Kd.R_alloc | apply Kd.R_drewN | apply Kd.R_drew)); exact b1.out) (Kd.R_typed (by (with_reducible repeat (first | apply Kd.R_alloc | apply Kd.R_drewN | apply Kd.R_drew)); exact a8.out)) (by decide) hg); have c4 := Aside0.mk (blk_grown (g := a6) (o := .cells #[.int .i64 a0_0, .slice A0_1 l0_1.length c0_1, .slice (some e5) l0_2.length c0_2] 25 (0, 0)) (by (with_reducible repeat (first | refine blk_drewN ?_ _ | refine blk_drew ?_ | refine blk_alloc ?_ _)); exact a3.out) hg (Kd.R_ne a8.out a3.out (by decide))); have d2 := Aside0.mk (blk_grown (g := a5) (o := .cells #[.int .i64 ((rd_T51 l0_2 a0).f0), .int .i64 ((rd_T51 l0_2 a0).f1), .int .i64 ((rd_T51 l0_2 a0).f2)] 51 (0, 0)) (by (with_reducible repeat (first | refine blk_drewN ?_ _ | refine blk_drew ?_ | refine blk_alloc ?_ _)); exact a4.out) hg (Kd.R_away a8.out (fun _ hk => hk.2))); have d6 := Aside0.mk (hb); have d7 := Aside0.mk (ho); clear b3; clear b2; clear b6; clear b1; clear a3; clear a4; clear HB; clear a8; have b3 := a9; have b2 := b0; have b6 := b4; have b1 := b7; have a3 := c4; have a4 := d2; have HB := d6; have i1 := d7; clear a9 b0 b4 b7 c4 d2 d6 d7; clear ho hb hg hat; have C9 : w75.cell? ⟨a6, 0, none⟩ = some (.int .i64 a0_0) := (blk_cell a3.out 0).trans rfl; have E8 : w75.cell? ⟨a6, 1, none⟩ = some (.slice A0_1 l0_1.length c0_1) := (blk_cell a3.out 1).trans rfl; have L6 : w75.cell? ⟨a6, 2, none⟩ = some (.slice (some e5) l0_2.length c0_2) := (blk_cell a3.out 2).trans rfl; have B7 := blk_frozen a3.out 0; have E1 := blk_frozen a3.out 1; have G2 := blk_frozen a3.out 2; have D7 : w75.cell? ⟨a5, 0, none⟩ = some (.int .i64 ((rd_T51 l0_2 a0).f0)) := (blk_cell a4.out 0).trans rfl; have H8 : w75.cell? ⟨a5, 1, none⟩ = some (.int .i64 ((rd_T51 l0_2 a0).f1)) := (blk_cell a4.out 1).trans rfl; have G0 : w75.cell? ⟨a5, 2, none⟩ = some (.int .i64 ((rd_T51 l0_2 a0).f2)) := (blk_cell a4.out 2).trans rfl; have H2 := blk_frozen a4.out 0; have L0 := blk_frozen a4.out 1; have H7 := blk_frozen a4.out 2) | (go_at_call 32; (with_reducible refine (Pr26b.calls c8 a0_0 _ _ l0_1 _ _ l0_2 ((rd_T51 l0_2 a0).f0) ((rd_T51 l0_2 a0).f1) h4 _ ?e3 ?e4 ?e7 ?e6 M5.out).mono ?_); (case e3 => repeat (first | exact (Kd.C_below f5.out HB.out) | (with_reducible refine Kd.C_alloc ?_ _) | (with_reducible refine Kd.C_drewN ?_ _) | (with_reducible refine Kd.C_drew ?_))); (case e4 => exact f3.out); (case e7 => repeat (first | exact (Kd.C_below e9.out HB.out) | (with_reducible refine Kd.C_alloc ?_ _) | (with_reducible refine Kd.C_drewN ?_ _) | (with_reducible refine Kd.C_drew ?_))); (case e6 => exact f4.out); rintro e w78 ⟨S5, rfl, d8, hb⟩; have a9 := Aside0.mk (Kd.R_elder' (by (with_reducible repeat (first | apply Kd.R_alloc | apply Kd.R_drewN | apply Kd.R_drew)); exact b3.out) (Kd.R_base d8) hb); have b0 := Aside0.mk (Kd.R_elder' (by (with_reducible repeat (first | apply Kd.R_alloc | apply Kd.R_drewN | apply Kd.R_drew)); exact b2.out) (Kd.R_base d8) hb); have b4 := Aside0.mk (Kd.R_below (by (with_reducible repeat (first | apply Kd.R_alloc | apply Kd.R_drewN | apply Kd.R_drew)); exact b6.out) hb); have b7 := Aside0.mk (Kd.R_elder' (by (with_reducible repeat (first | apply Kd.R_alloc | apply Kd.R_drewN | apply Kd.R_drew)); exact b1.out) (Kd.R_base d8) hb); have c4 := Aside0.mk (Kd.R_below (by (with_reducible repeat (first | apply Kd.R_alloc | apply Kd.R_drewN | apply Kd.R_drew)); exact i1.out) hb); have d2 := Aside0.mk (Kd.R_lower (Kd.R_new' (Kd.R_new' (Kd.R_new' d8 (Kd.R_lt (by (with_reducible repeat (first | apply Kd.R_alloc | apply Kd.R_drewN | apply Kd.R_drew)); exact b3.out))) (Kd.R_lt (by (with_reducible repeat (first | apply Kd.R_alloc | apply Kd.R_drewN | apply Kd.R_drew)); exact b2.out))) (Kd.R_lt (by (with_reducible repeat (first | apply Kd.R_alloc | apply Kd.R_drewN | apply Kd.R_drew)); exact b1.out))) (below_size (by repeat (first | (with_reducible first | exact HB.out | apply below_alloc | apply pw_below_drewN | apply below_drew1 | refine below_set ?_ a7.out | refine below_set ?_ d1.out) | exact HB.out)))); have d6 := Aside0.mk (blk_below (g := a6) (o := .cells #[.int .i64 a0_0, .slice A0_1 l0_1.length c0_1, .slice (some e5) l0_2.length c0_2] 25 (0, 0)) (by (with_reducible repeat (first | refine blk_drewN ?_ _ | refine blk_drew ?_ | refine blk_alloc ?_ _)); exact a3.out) hb); have d7 := Aside0.mk (blk_below (g := a5) (o := .cells #[.int .i64 ((rd_T51 l0_2 a0).f0), .int .i64 ((rd_T51 l0_2 a0).f1), .int .i64 ((rd_T51 l0_2 a0).f2)] 51 (0, 0)) (by (with_reducible repeat (first | refine blk_drewN ?_ _ | refine blk_drew ?_ | refine blk_alloc ?_ _)); exact a4.out) hb); have h1 := Aside0.mk (below_step (by repeat (first | (with_reducible first | exact HB.out | apply below_alloc | apply pw_below_drewN | apply below_drew1 | refine below_set ?_ a7.out | refine below_set ?_ d1.out) | exact HB.out)) hb); clear b3; clear b2; clear b6; clear b1; clear i1; clear a3; clear a4; clear HB; have b3 := a9; have b2 := b0; have b6 := b4; have b1 := b7; have i1 := c4; have t8 := d2; have a3 := d6; have a4 := d7; have HB := h1; clear a9 b0 b4 b7 c4 d2 d6 d7 h1; (try clear hb); (try clear hb2); (try clear hk); (try clear hi); (try clear d8); obtain ⟨T4, R7, z4⟩ := Kd.R_slice t8.out; subst z4))
             go_roundg c8
             case measure => have := g6.out; have := g0.out; omega
             case rel => exact ⟨(d3), (h2), (((h4.length : Int) == 1)), (c6 (a0 + 1)), (by first | rfl | (simp; done) | (simp [*]; done)), (by first | rfl | (simp; done) | (simp [*]; done)), H', ⟨by have := g6.out; have := g0.out; omega⟩, ⟨by (with_reducible repeat (first | apply Kd.R_alloc | apply Kd.R_drewN | apply Kd.R_drew)); exact Kd.R_mono b3.out (fun _ hk => ⟨hk.1.1, hk.1.2⟩)⟩, ⟨by (with_reducible repeat (first | apply Kd.R_alloc | apply Kd.R_drewN | apply Kd.R_drew)); exact Kd.R_mono b2.out (fun _ hk => ⟨hk.1.1, hk.1.2⟩)⟩, ⟨by (with_reducible repeat (first | apply Kd.R_alloc | apply Kd.R_drewN | apply Kd.R_drew)); exact Kd.R_mono b6.out (fun _ hk => hk.2)⟩, ⟨by (with_reducible repeat (first | apply Kd.R_alloc | apply Kd.R_drewN | apply Kd.R_drew)); exact Kd.R_mono b1.out (fun _ hk => ⟨hk.1.1, hk.1.2⟩)⟩, ⟨by (with_reducible repeat (first | apply Kd.R_alloc | apply Kd.R_drewN | apply Kd.R_drew)); exact Kd.R_mono i1.out (fun _ hk => hk.1)⟩, ⟨by (with_reducible repeat (first | refine blk_drewN ?_ _ | refine blk_drew ?_ | refine blk_alloc ?_ _)); exact a3.out⟩, ⟨by repeat (first | (with_reducible first | exact HB.out | apply below_alloc | apply pw_below_drewN | apply below_drew1 | refine below_set ?_ a7.out | refine below_set ?_ d1.out) | exact HB.out)⟩⟩
            ·replace n4 := Bool.eq_false_iff.mpr n4
             subst n4
             have H1 : (Pl26a.l0 c8 a1 a2 b9 b8 b5 d3 h2 false (c6 (a0 + 1)) a0_0 l0_1 l0_2) = some r := by rw [if_neg (show ¬ (false = true) by decide)] at H; exact H
             clear H
             have H := H1
             clear H1
             have H' := Aside0.mk H
             clear H
             have Q1 := e2.out
             have N9 := d5.out
             have E3 : wc.cell? ⟨a5, 0, none⟩ = some (.int .i64 ((rd_T51 l0_2 a0).f0)) := (blk_cell a4.out 0).trans rfl
             have G6 : wc.cell? ⟨a5, 1, none⟩ = some (.int .i64 ((rd_T51 l0_2 a0).f1)) := (blk_cell a4.out 1).trans rfl
             have M2 : wc.cell? ⟨a5, 2, none⟩ = some (.int .i64 ((rd_T51 l0_2 a0).f2)) := (blk_cell a4.out 2).trans rfl
             have G3 := blk_frozen a4.out 0
             have B6 := blk_frozen a4.out 1
             have I7 := blk_frozen a4.out 2
             go_wp2_with (first | ((with_reducible refine gate_builtin (b := .append) (xs := #[.tmp 87, .tmp 89]) rfl ?_); (try (refine gate_guard (by rfl) ?_; dsimp only)); at_builtin; refine Kd.R_append k51 (w0 := w) w.heap.size rfl (.tmp 87) (.tmp 89) 23 51 (.agg #[(.int .i64 0), (.int .i64 0), (.int .i64 0)]) 24 rfl Try.underlying23 info51 rfl (by decide) (by omega) m6 c9 (⟨((rd_T51 l0_2 a0).f0), ((rd_T51 l0_2 a0).f1), ((rd_T51 l0_2 a0).f2)⟩ : S51) [.int .i64 ((rd_T51 l0_2 a0).f0), .int .i64 ((rd_T51 l0_2 a0).f1), .int .i64 ((rd_T51 l0_2 a0).f2)] (fun k_ => some k_ ≠ (h3 : Value).ownBlock ∧ k_ ≠ a5) (fun _ => False) rfl rfl ?aP (fun _ hk => hk.elim) ?aF ?aO ?aB ?aS ?aL ?_; (case aP => exact k51_mkM _ _ _ (⟨((rd_T51 l0_2 a0).f0), ((rd_T51 l0_2 a0).f1), ((rd_T51 l0_2 a0).f2)⟩ : S51)); (case aB => exact (by repeat (first | (with_reducible first | exact HB.out | apply below_alloc | apply pw_below_drewN | apply below_drew1 | refine below_set ?_ a7.out | refine below_set ?_ d1.out) | exact HB.out))); (case aF => exact (fun k_ hk => ⟨Kd.fresh' (Kd.R_lt (by (with_reducible repeat (first | apply Kd.R_alloc | apply Kd.R_drewN | apply Kd.R_drew)); exact b6.out)) k_ hk, Kd.freshB (g := a5) (o := .cells #[.int .i64 ((rd_T51 l0_2 a0).f0), .int .i64 ((rd_T51 l0_2 a0).f1), .int .i64 ((rd_T51 l0_2 a0).f2)] 51 (0, 0)) (by (with_reducible repeat (first | refine blk_drewN ?_ _ | refine blk_drew ?_ | refine blk_alloc ?_ _)); exact a4.out) k_ hk⟩)); (case aO => exact (by (with_reducible repeat (first | apply Kd.R_alloc | apply Kd.R_drewN | apply Kd.R_drew)); exact a8.out)); (case aS => exact (below_size (by repeat (first | (with_reducible first | exact HB.out | apply below_alloc | apply pw_below_drewN | apply below_drew1 | refine below_set ?_ a7.out | refine below_set ?_ d1.out) | exact HB.out)))); (case aL => have := o0.out; omega); intro x2 w82 ho hb hg hat; rw [← n7.out] at ho; have a9 := Aside0.mk (Kd.R_over' (by (with_reducible repeat (first | apply Kd.R_alloc | apply Kd.R_drewN | apply Kd.R_drew)); exact b3.out) (Kd.R_typed (by (with_reducible repeat (first | apply Kd.R_alloc | apply Kd.R_drewN | apply Kd.R_drew)); exact a8.out)) (by decide) hg); have b0 := Aside0.mk (Kd.R_over' (by (with_reducible repeat (first | apply Kd.R_alloc | apply Kd.R_drewN | apply Kd.R_drew)); exact b2.out) (Kd.R_typed (by (with_reducible repeat (first | apply Kd.R_alloc | apply Kd.R_drewN | apply Kd.R_drew)); exact a8.out)) (by decide) hg); have b4 := Aside0.mk (Kd.R_after (ok := (fun k_ => k_ ≠ a5)) (by (with_reducible repeat (first | apply Kd.R_alloc | apply Kd.R_drewN | apply Kd.R_drew)); exact Kd.R_mono b6.out (fun _ hk => ⟨hk.2, hk.1⟩)) hg hat); have b7 := Aside0.mk (Kd.R_over' (by (with_reducible repeat (first | apply Kd.R_alloc | apply Kd.R_drewN | apply Kd.R_drew)); exact b1.out) (Kd.R_typed (by (with_reducible repeat (first | apply Kd.R_alloc | apply Kd.R_drewN | apply Kd.R_drew)); exact a8.out)) (by decide) hg); have c4 := Aside0.mk (blk_grown (g := a6) (o := .cells #[.int .i64 a0_0, .slice A0_1 l0_1.length c0_1, .slice (some e5) l0_2.length c0_2] 25 (0, 0)) (by (with_reducible repeat (first | refine blk_drewN ?_ _ | refine blk_drew ?_ | refine blk_alloc ?_ _)); exact a3.out) hg (Kd.R_ne a8.out a3.out (by decide))); have d2 := Aside0.mk (blk_grown (g := a5) (o := .cells #[.int .i64 ((rd_T51 l0_2 a0).f0), .int .i64 ((rd_T51 l0_2 a0).f1), .int .i64 ((rd_T51 l0_2 a0).f2)] 51 (0, 0)) (by (with_reducible repeat (first | refine blk_drewN ?_ _ | refine blk_drew ?_ | refine blk_alloc ?_ _)); exact a4.out) hg (Kd.R_away a8.out (fun _ hk => hk.2))); have d6 := Aside0.mk (hb); have d7 := Aside0.mk (ho); clear b3; clear b2; clear b6; clear b1; clear a3; clear a4; clear HB; clear a8; have b3 := a9; have b2 := b0; have b6 := b4; have b1 := b7; have a3 := c4; have a4 := d2; have HB := d6; have i1 := d7; clear a9 b0 b4 b7 c4 d2 d6 d7; clear ho hb hg hat))
             go_roundg c8
             case measure => have := g6.out; have := g0.out; omega
             case rel => exact ⟨(d3), (h2), (false), (c6 (a0 + 1)), (by first | rfl | (simp; done) | (simp [*]; done)), (by first | rfl | (simp; done) | (simp [*]; done)), H', ⟨by have := g6.out; have := g0.out; omega⟩, ⟨by (with_reducible repeat (first | apply Kd.R_alloc | apply Kd.R_drewN | apply Kd.R_drew)); exact b3.out⟩, ⟨by (with_reducible repeat (first | apply Kd.R_alloc | apply Kd.R_drewN | apply Kd.R_drew)); exact b2.out⟩, ⟨by (with_reducible repeat (first | apply Kd.R_alloc | apply Kd.R_drewN | apply Kd.R_drew)); exact Kd.R_mono b6.out (fun _ hk => hk.2)⟩, ⟨by (with_reducible repeat (first | apply Kd.R_alloc | apply Kd.R_drewN | apply Kd.R_drew)); exact b1.out⟩, ⟨by (with_reducible repeat (first | apply Kd.R_alloc | apply Kd.R_drewN | apply Kd.R_drew)); exact Kd.R_mono i1.out (fun _ hk => hk.1)⟩, ⟨by (with_reducible repeat (first | refine blk_drewN ?_ _ | refine blk_drew ?_ | refine blk_alloc ?_ _)); exact a3.out⟩, ⟨by repeat (first | (with_reducible first | exact HB.out | apply below_alloc | apply pw_below_drewN | apply below_drew1 | refine below_set ?_ a7.out | refine below_set ?_ d1.out) | exact HB.out)⟩⟩
           ·rw [if_neg n3] at H
            exact absurd H (by simp)
          ·rw [if_neg k2] at H
           have c69b0 : (((rd_T51 l0_2 a0).f0) == a1) = false := beq_eq_false_iff_ne.mpr k2
           have c69b1 : (((rd_T51 l0_2 a0).f0) != a1) = true := bne_iff_ne.mpr k2
           by_cases o8 : d4 = true
           ·subst o8
            have H1 : ((Pr26b.f c8 a0_0 l0_1 l0_2 ((rd_T51 l0_2 a0).f0) ((rd_T51 l0_2 a0).f1)).bind fun i6 => (Pl26a.l0 c8 a1 a2 b9 b8 b5 d3 c9 ((i6.length : Int) == 1) (c6 (a0 + 1)) a0_0 l0_1 l0_2)) = some r := by rw [if_pos rfl] at H; exact H
            clear H
            have H := H1
            clear H1
            replace H := Option.bind_eq_some_iff.mp H
            obtain ⟨i6, t4, H⟩ := H
            replace H : (Pl26a.l0 c8 a1 a2 b9 b8 b5 d3 c9 ((i6.length : Int) == 1) (c6 (a0 + 1)) a0_0 l0_1 l0_2) = some r := H
            have N1 := Aside0.mk t4
            clear t4
            have H' := Aside0.mk H
            clear H
            have O3 := e2.out
            have O9 := d5.out
            have H4 : wc.cell? ⟨a5, 0, none⟩ = some (.int .i64 ((rd_T51 l0_2 a0).f0)) := (blk_cell a4.out 0).trans rfl
            have L9 : wc.cell? ⟨a5, 1, none⟩ = some (.int .i64 ((rd_T51 l0_2 a0).f1)) := (blk_cell a4.out 1).trans rfl
            have K0 : wc.cell? ⟨a5, 2, none⟩ = some (.int .i64 ((rd_T51 l0_2 a0).f2)) := (blk_cell a4.out 2).trans rfl
            have E9 := blk_frozen a4.out 0
            have D1 := blk_frozen a4.out 1
            have E0 := blk_frozen a4.out 2
            have F0 : wc.cell? ⟨a6, 0, none⟩ = some (.int .i64 a0_0) := (blk_cell a3.out 0).trans rfl
            have I1 : wc.cell? ⟨a6, 1, none⟩ = some (.slice A0_1 l0_1.length c0_1) := (blk_cell a3.out 1).trans rfl
            have L8 : wc.cell? ⟨a6, 2, none⟩ = some (.slice (some e5) l0_2.length c0_2) := (blk_cell a3.out 2).trans rfl
            have C4 := blk_frozen a3.out 0
            have L2 := blk_frozen a3.out 1
            have C6 := blk_frozen a3.out 2
            go_wp2_with (first | (go_at_call 32; (with_reducible refine (Pr26b.calls c8 a0_0 _ _ l0_1 _ _ l0_2 ((rd_T51 l0_2 a0).f0) ((rd_T51 l0_2 a0).f1) i6 _ ?e3 ?e4 ?e7 ?e6 N1.out).mono ?_); (case e3 => repeat (first | exact (Kd.C_below f5.out HB.out) | (with_reducible refine Kd.C_alloc ?_ _) | (with_reducible refine Kd.C_drewN ?_ _) | (with_reducible refine Kd.C_drew ?_))); (case e4 => exact f3.out); (case e7 => repeat (first | exact (Kd.C_below e9.out HB.out) | (with_reducible refine Kd.C_alloc ?_ _) | (with_reducible refine Kd.C_drewN ?_ _) | (with_reducible refine Kd.C_drew ?_))); (case e6 => exact f4.out); rintro e w88 ⟨S2, rfl, d8, hb⟩; have a9 := Aside0.mk (Kd.R_elder' (by (with_reducible repeat (first | apply Kd.R_alloc | apply Kd.R_drewN | apply Kd.R_drew)); exact b3.out) (Kd.R_base d8) hb); have b0 := Aside0.mk (Kd.R_elder' (by (with_reducible repeat (first | apply Kd.R_alloc | apply Kd.R_drewN | apply Kd.R_drew)); exact b2.out) (Kd.R_base d8) hb); have b4 := Aside0.mk (Kd.R_below (by (with_reducible repeat (first | apply Kd.R_alloc | apply Kd.R_drewN | apply Kd.R_drew)); exact b6.out) hb); have b7 := Aside0.mk (Kd.R_elder' (by (with_reducible repeat (first | apply Kd.R_alloc | apply Kd.R_drewN | apply Kd.R_drew)); exact b1.out) (Kd.R_base d8) hb); have c4 := Aside0.mk (Kd.R_below (by (with_reducible repeat (first | apply Kd.R_alloc | apply Kd.R_drewN | apply Kd.R_drew)); exact a8.out) hb); have d2 := Aside0.mk (Kd.R_lower (Kd.R_new' (Kd.R_new' (Kd.R_new' d8 (Kd.R_lt (by (with_reducible repeat (first | apply Kd.R_alloc | apply Kd.R_drewN | apply Kd.R_drew)); exact b3.out))) (Kd.R_lt (by (with_reducible repeat (first | apply Kd.R_alloc | apply Kd.R_drewN | apply Kd.R_drew)); exact b2.out))) (Kd.R_lt (by (with_reducible repeat (first | apply Kd.R_alloc | apply Kd.R_drewN | apply Kd.R_drew)); exact b1.out))) (below_size (by repeat (first | (with_reducible first | exact HB.out | apply below_alloc | apply pw_below_drewN | apply below_drew1 | refine below_set ?_ a7.out | refine below_set ?_ d1.out) | exact HB.out)))); have d6 := Aside0.mk (blk_below (g := a6) (o := .cells #[.int .i64 a0_0, .slice A0_1 l0_1.length c0_1, .slice (some e5) l0_2.length c0_2] 25 (0, 0)) (by (with_reducible repeat (first | refine blk_drewN ?_ _ | refine blk_drew ?_ | refine blk_alloc ?_ _)); exact a3.out) hb); have d7 := Aside0.mk (blk_below (g := a5) (o := .cells #[.int .i64 ((rd_T51 l0_2 a0).f0), .int .i64 ((rd_T51 l0_2 a0).f1), .int .i64 ((rd_T51 l0_2 a0).f2)] 51 (0, 0)) (by (with_reducible repeat (first | refine blk_drewN ?_ _ | refine blk_drew ?_ | refine blk_alloc ?_ _)); exact a4.out) hb); have h1 := Aside0.mk (below_step (by repeat (first | (with_reducible first | exact HB.out | apply below_alloc | apply pw_below_drewN | apply below_drew1 | refine below_set ?_ a7.out | refine below_set ?_ d1.out) | exact HB.out)) hb); clear b3; clear b2; clear b6; clear b1; clear a8; clear a3; clear a4; clear HB; have b3 := a9; have b2 := b0; have b6 := b4; have b1 := b7; have a8 := c4; have v0 := d2; have a3 := d6; have a4 := d7; have HB := h1; clear a9 b0 b4 b7 c4 d2 d6 d7 h1; (try clear hb); (try clear hb2); (try clear hk); (try clear hi); (try clear d8); obtain ⟨T2, S7, A2⟩ := Kd.R_slice v0.out; subst A2))
            go_roundg c8
            case measure => have := g6.out; have := g0.out; omega
            case rel => exact ⟨(d3), (c9), (((i6.length : Int) == 1)), (c6 (a0 + 1)), (by first | rfl | (simp; done) | (simp [*]; done)), (by first | rfl | (simp; done) | (simp [*]; done)), H', ⟨by have := g6.out; have := g0.out; omega⟩, ⟨by (with_reducible repeat (first | apply Kd.R_alloc | apply Kd.R_drewN | apply Kd.R_drew)); exact Kd.R_mono b3.out (fun _ hk => ⟨hk.1.1, hk.1.2⟩)⟩, ⟨by (with_reducible repeat (first | apply Kd.R_alloc | apply Kd.R_drewN | apply Kd.R_drew)); exact Kd.R_mono b2.out (fun _ hk => ⟨hk.1.1, hk.1.2⟩)⟩, ⟨by (with_reducible repeat (first | apply Kd.R_alloc | apply Kd.R_drewN | apply Kd.R_drew)); exact Kd.R_mono b6.out (fun _ hk => hk.1)⟩, ⟨by (with_reducible repeat (first | apply Kd.R_alloc | apply Kd.R_drewN | apply Kd.R_drew)); exact Kd.R_mono b1.out (fun _ hk => ⟨hk.1.1, hk.1.2⟩)⟩, ⟨by (with_reducible repeat (first | apply Kd.R_alloc | apply Kd.R_drewN | apply Kd.R_drew)); exact Kd.R_mono a8.out (fun _ hk => hk.1)⟩, ⟨by (with_reducible repeat (first | refine blk_drewN ?_ _ | refine blk_drew ?_ | refine blk_alloc ?_ _)); exact a3.out⟩, ⟨by repeat (first | (with_reducible first | exact HB.out | apply below_alloc | apply pw_below_drewN | apply below_drew1 | refine below_set ?_ a7.out | refine below_set ?_ d1.out) | exact HB.out)⟩⟩
           ·replace o8 := Bool.eq_false_iff.mpr o8
            subst o8
            have H1 : (Pl26a.l0 c8 a1 a2 b9 b8 b5 d3 c9 false (c6 (a0 + 1)) a0_0 l0_1 l0_2) = some r := by rw [if_neg (show ¬ (false = true) by decide)] at H; exact H
            clear H
            have H := H1
            clear H1
            have H' := Aside0.mk H
            clear H
            have Q8 := e2.out
            have O4 := d5.out
            have K6 : wc.cell? ⟨a5, 0, none⟩ = some (.int .i64 ((rd_T51 l0_2 a0).f0)) := (blk_cell a4.out 0).trans rfl
            have D9 : wc.cell? ⟨a5, 1, none⟩ = some (.int .i64 ((rd_T51 l0_2 a0).f1)) := (blk_cell a4.out 1).trans rfl
            have D0 : wc.cell? ⟨a5, 2, none⟩ = some (.int .i64 ((rd_T51 l0_2 a0).f2)) := (blk_cell a4.out 2).trans rfl
            have M0 := blk_frozen a4.out 0
            have B9 := blk_frozen a4.out 1
            have C0 := blk_frozen a4.out 2
            go_wp2
            go_roundg c8
            case measure => have := g6.out; have := g0.out; omega
            case rel => exact ⟨(d3), (c9), (false), (c6 (a0 + 1)), (by first | rfl | (simp; done) | (simp [*]; done)), (by first | rfl | (simp; done) | (simp [*]; done)), H', ⟨by have := g6.out; have := g0.out; omega⟩, ⟨by (with_reducible repeat (first | apply Kd.R_alloc | apply Kd.R_drewN | apply Kd.R_drew)); exact b3.out⟩, ⟨by (with_reducible repeat (first | apply Kd.R_alloc | apply Kd.R_drewN | apply Kd.R_drew)); exact b2.out⟩, ⟨by (with_reducible repeat (first | apply Kd.R_alloc | apply Kd.R_drewN | apply Kd.R_drew)); exact Kd.R_mono b6.out (fun _ hk => hk.1)⟩, ⟨by (with_reducible repeat (first | apply Kd.R_alloc | apply Kd.R_drewN | apply Kd.R_drew)); exact b1.out⟩, ⟨by (with_reducible repeat (first | apply Kd.R_alloc | apply Kd.R_drewN | apply Kd.R_drew)); exact Kd.R_mono a8.out (fun _ hk => hk.1)⟩, ⟨by (with_reducible repeat (first | refine blk_drewN ?_ _ | refine blk_drew ?_ | refine blk_alloc ?_ _)); exact a3.out⟩, ⟨by repeat (first | (with_reducible first | exact HB.out | apply below_alloc | apply pw_below_drewN | apply below_drew1 | refine below_set ?_ a7.out | refine below_set ?_ d1.out) | exact HB.out)⟩⟩
      ·rw [if_neg m7] at H
       exact absurd H (by simp)
     ·rw [if_neg j9] at H
      have c24b0 : decide (a0 < (l0_2.length : Int)) = false := decide_eq_false j9
      clear j9
      replace H := Option.bind_eq_some_iff.mp H
      obtain ⟨m2, s9, H⟩ := H
      replace H : ((Pr01b.f k1 b9 m2).bind fun m5 => (if m5 = true then ((Pr01b.f k1 b8 d3).bind fun h8 => (if h8 = true then ((Pr26c.f k1 0 ([] : List ByteArray) b5 0 ([] : List ByteArray) c9).bind fun g8 => (if g8 = true then ((Pxb.f k1 a0_0 l0_1 l0_2).bind fun e8 => (if (e8 == d4) = true then ((Pl26b.f k1).bind fun f8 => (some f8)) else (some false))) else (some false))) else (some false))) else (some false))) = some r := H
      have M3 := Aside0.mk s9
      clear s9
      replace H := Option.bind_eq_some_iff.mp H
      obtain ⟨m5, t0, H⟩ := H
      replace H : (if m5 = true then ((Pr01b.f k1 b8 d3).bind fun h8 => (if h8 = true then ((Pr26c.f k1 0 ([] : List ByteArray) b5 0 ([] : List ByteArray) c9).bind fun g8 => (if g8 = true then ((Pxb.f k1 a0_0 l0_1 l0_2).bind fun e8 => (if (e8 == d4) = true then ((Pl26b.f k1).bind fun f8 => (some f8)) else (some false))) else (some false))) else (some false))) else (some false)) = some r := H
      have N0 := Aside0.mk t0
      clear t0
      by_cases n2 : m5 = true
      ·subst n2
       have H1 : ((Pr01b.f k1 b8 d3).bind fun h8 => (if h8 = true then ((Pr26c.f k1 0 ([] : List ByteArray) b5 0 ([] : List ByteArray) c9).bind fun g8 => (if g8 = true then ((Pxb.f k1 a0_0 l0_1 l0_2).bind fun e8 => (if (e8 == d4) = true then ((Pl26b.f k1).bind fun f8 => (some f8)) else (some false))) else (some false))) else (some false))) = some r := by rw [if_pos rfl] at H; exact H
       clear H
       have H := H1
       clear H1
       replace H := Option.bind_eq_some_iff.mp H
       obtain ⟨h8, s3, H⟩ := H
       replace H : (if h8 = true then ((Pr26c.f k1 0 ([] : List ByteArray) b5 0 ([] : List ByteArray) c9).bind fun g8 => (if g8 = true then ((Pxb.f k1 a0_0 l0_1 l0_2).bind fun e8 => (if (e8 == d4) = true then ((Pl26b.f k1).bind fun f8 => (some f8)) else (some false))) else (some false))) else (some false)) = some r := H
       have N4 := Aside0.mk s3
       clear s3
       by_cases o3 : h8 = true
       ·subst o3
        have H1 : ((Pr26c.f k1 0 ([] : List ByteArray) b5 0 ([] : List ByteArray) c9).bind fun g8 => (if g8 = true then ((Pxb.f k1 a0_0 l0_1 l0_2).bind fun e8 => (if (e8 == d4) = true then ((Pl26b.f k1).bind fun f8 => (some f8)) else (some false))) else (some false))) = some r := by rw [if_pos rfl] at H; exact H
        clear H
        have H := H1
        clear H1
        replace H := Option.bind_eq_some_iff.mp H
        obtain ⟨g8, t1, H⟩ := H
        replace H : (if g8 = true then ((Pxb.f k1 a0_0 l0_1 l0_2).bind fun e8 => (if (e8 == d4) = true then ((Pl26b.f k1).bind fun f8 => (some f8)) else (some false))) else (some false)) = some r := H
        have M4 := Aside0.mk t1
        clear t1
        by_cases n5 : g8 = true
        ·subst n5
         have H1 : ((Pxb.f k1 a0_0 l0_1 l0_2).bind fun e8 => (if (e8 == d4) = true then ((Pl26b.f k1).bind fun f8 => (some f8)) else (some false))) = some r := by rw [if_pos rfl] at H; exact H
         clear H
         have H := H1
         clear H1
         replace H := Option.bind_eq_some_iff.mp H
         obtain ⟨e8, t3, H⟩ := H
         replace H : (if (e8 == d4) = true then ((Pl26b.f k1).bind fun f8 => (some f8)) else (some false)) = some r := H
         have N5 := Aside0.mk t3
         clear t3
         by_cases g9 : (e8 == d4) = true
         ·rw [if_pos g9] at H
          have c100b0 : (e8 == d4) = true := g9
          (try (have c100b1 : decide (e8 = d4) = true := by simpa using g9))
          (try (have c100b2 : (e8 == d4) = true := by simpa using g9))
          clear g9
          replace H := Option.bind_eq_some_iff.mp H
          obtain ⟨f8, n6, H⟩ := H
          replace H : (some f8) = some r := H
          have y5 := Aside0.mk n6
          clear n6
          obtain rfl := Option.some.inj H
          have x5 : wr.cell? ⟨a6, 0, none⟩ = some (.int .i64 a0_0) := (blk_cell a3.out 0).trans rfl
          have y4 : wr.cell? ⟨a6, 1, none⟩ = some (.slice A0_1 l0_1.length c0_1) := (blk_cell a3.out 1).trans rfl
          have w7 : wr.cell? ⟨a6, 2, none⟩ = some (.slice A0_2 l0_2.length c0_2) := (blk_cell a3.out 2).trans rfl
          have x8 := blk_frozen a3.out 0
          have w4 := blk_frozen a3.out 1
          have y8 := blk_frozen a3.out 2
          go_wp2_with (first | ((with_reducible refine gate_callee (f := 32) rfl ?_); refine goesL_ (some 106) rfl rfl Try.func32 (by kernel_rfl) rfl #[.agg #[.int .i64 a0_0, .slice A0_1 l0_1.length c0_1, .slice A0_2 l0_2.length c0_2], .int .i64 a1, .int .i64 a2] rfl (by (try simp only [List.map_toArray, List.map_cons, List.map_nil]); first | done | rfl | (simp only [List.length_drop, List.length_take]; rfl)) ?_; (with_reducible refine (Pr26b.calls k1 a0_0 _ _ l0_1 _ _ l0_2 a1 a2 m2 _ ?e3 ?e4 ?e7 ?e6 M3.out).mono ?_); (case e3 => repeat (first | exact (Kd.C_below f5.out HB.out) | (with_reducible refine Kd.C_alloc ?_ _) | (with_reducible refine Kd.C_drewN ?_ _) | (with_reducible refine Kd.C_drew ?_))); (case e4 => exact f3.out); (case e7 => repeat (first | exact (Kd.C_below e9.out HB.out) | (with_reducible refine Kd.C_alloc ?_ _) | (with_reducible refine Kd.C_drewN ?_ _) | (with_reducible refine Kd.C_drew ?_))); (case e6 => exact f4.out); rintro e w103 ⟨S1, rfl, d8, hb⟩; refine ⟨_, rfl, ?_⟩; have a9 := Aside0.mk (Kd.R_elder' (by (with_reducible repeat (first | apply Kd.R_alloc | apply Kd.R_drewN | apply Kd.R_drew)); exact b3.out) (Kd.R_base d8) hb); have b0 := Aside0.mk (Kd.R_elder' (by (with_reducible repeat (first | apply Kd.R_alloc | apply Kd.R_drewN | apply Kd.R_drew)); exact b2.out) (Kd.R_base d8) hb); have b4 := Aside0.mk (Kd.R_below (by (with_reducible repeat (first | apply Kd.R_alloc | apply Kd.R_drewN | apply Kd.R_drew)); exact b6.out) hb); have b7 := Aside0.mk (Kd.R_elder' (by (with_reducible repeat (first | apply Kd.R_alloc | apply Kd.R_drewN | apply Kd.R_drew)); exact b1.out) (Kd.R_base d8) hb); have c4 := Aside0.mk (Kd.R_below (by (with_reducible repeat (first | apply Kd.R_alloc | apply Kd.R_drewN | apply Kd.R_drew)); exact a8.out) hb); have d2 := Aside0.mk (Kd.R_lower (Kd.R_new' (Kd.R_new' (Kd.R_new' d8 (Kd.R_lt (by (with_reducible repeat (first | apply Kd.R_alloc | apply Kd.R_drewN | apply Kd.R_drew)); exact b3.out))) (Kd.R_lt (by (with_reducible repeat (first | apply Kd.R_alloc | apply Kd.R_drewN | apply Kd.R_drew)); exact b2.out))) (Kd.R_lt (by (with_reducible repeat (first | apply Kd.R_alloc | apply Kd.R_drewN | apply Kd.R_drew)); exact b1.out))) (below_size (by repeat (first | (with_reducible first | exact HB.out | apply below_alloc | apply pw_below_drewN | apply below_drew1 | refine below_set ?_ a7.out) | exact HB.out)))); have d6 := Aside0.mk (blk_below (g := a6) (o := .cells #[.int .i64 a0_0, .slice A0_1 l0_1.length c0_1, .slice A0_2 l0_2.length c0_2] 25 (0, 0)) (by (with_reducible repeat (first | refine blk_drewN ?_ _ | refine blk_drew ?_ | refine blk_alloc ?_ _)); exact a3.out) hb); have d7 := Aside0.mk (below_step (by repeat (first | (with_reducible first | exact HB.out | apply below_alloc | apply pw_below_drewN | apply below_drew1 | refine below_set ?_ a7.out) | exact HB.out)) hb); clear b3; clear b2; clear b6; clear b1; clear a8; clear a3; clear HB; have b3 := a9; have b2 := b0; have b6 := b4; have b1 := b7; have a8 := c4; have g1 := d2; have a3 := d6; have HB := d7; clear a9 b0 b4 b7 c4 d2 d6 d7; (try clear hb); (try clear hb2); (try clear hk); (try clear hi); (try clear d8); obtain ⟨u5, u8, u2⟩ := Kd.R_slice b3.out; subst u2; obtain ⟨v2, u4, u7⟩ := Kd.R_slice g1.out; subst u7) | ((with_reducible refine gate_callee (f := 33) rfl ?_); refine goesL_ (some 107) rfl rfl Try.func33 (by kernel_rfl) rfl #[.slice u5 b9.length u8, .slice v2 m2.length u4] rfl (by (try simp only [List.map_toArray, List.map_cons, List.map_nil]); first | done | rfl | (simp only [List.length_drop, List.length_take]; rfl)) ?_; (with_reducible refine (Pr01b.calls k1 _ _ b9 _ _ m2 true _ ?e3 ?e4 ?e7 ?e6 N0.out).mono ?_); (case e3 => repeat (first | exact (Kd.R_reads' b3.out).2.2 | (with_reducible refine Kd.C_alloc ?_ _) | (with_reducible refine Kd.C_drewN ?_ _) | (with_reducible refine Kd.C_drew ?_))); (case e4 => exact (Kd.R_reads' b3.out).2.1); (case e7 => repeat (first | exact (Kd.R_reads' g1.out).2.2 | (with_reducible refine Kd.C_alloc ?_ _) | (with_reducible refine Kd.C_drewN ?_ _) | (with_reducible refine Kd.C_drew ?_))); (case e6 => exact (Kd.R_reads' g1.out).2.1); rintro e w' ⟨rfl, ⟨nd, rfl⟩⟩; refine ⟨_, rfl, ?_⟩; obtain ⟨R5, O8, t6⟩ := Kd.R_slice b2.out; subst t6; obtain ⟨R3, Q7, u9⟩ := Kd.R_slice b1.out; subst u9) | (go_at_call 33; (with_reducible refine (Pr01b.calls k1 _ _ b8 _ _ d3 true _ ?e3 ?e4 ?e7 ?e6 N4.out).mono ?_); (case e3 => repeat (first | exact (Kd.R_reads' b2.out).2.2 | (with_reducible refine Kd.C_alloc ?_ _) | (with_reducible refine Kd.C_drewN ?_ _) | (with_reducible refine Kd.C_drew ?_))); (case e4 => exact (Kd.R_reads' b2.out).2.1); (case e7 => repeat (first | exact (Kd.R_reads' b1.out).2.2 | (with_reducible refine Kd.C_alloc ?_ _) | (with_reducible refine Kd.C_drewN ?_ _) | (with_reducible refine Kd.C_drew ?_))); (case e6 => exact (Kd.R_reads' b1.out).2.1); rintro e w' ⟨rfl, ⟨nd, rfl⟩⟩; obtain ⟨Q6, P4, v1⟩ := Kd.R_slice b6.out; subst v1; obtain ⟨P7, P1, t7⟩ := Kd.R_slice a8.out; subst t7) | (go_at_call 16; (refine (Pr26c.calls k1 0 _ _ ([] : List ByteArray) _ _ b5 0 _ _ ([] : List ByteArray) _ _ c9 true _ ?e3 ?e4 ?e7 ?e6 ?O2 ?O5 ?N7 ?R2 M4.out).mono ?_); (case e3 => exact Kd.C_nil _ _); (case e4 => exact Nat.le_refl _); (case e7 => repeat (first | exact (Kd.R_reads' b6.out).2.2 | (with_reducible refine Kd.C_alloc ?_ _) | (with_reducible refine Kd.C_drewN ?_ _) | (with_reducible refine Kd.C_drew ?_))); (case e6 => exact (Kd.R_reads' b6.out).2.1); (case O2 => exact Kd.C_nil _ _); (case O5 => exact Nat.le_refl _); (case N7 => repeat (first | exact (Kd.R_reads' a8.out).2.2 | (with_reducible refine Kd.C_alloc ?_ _) | (with_reducible refine Kd.C_drewN ?_ _) | (with_reducible refine Kd.C_drew ?_))); (case R2 => exact (Kd.R_reads' a8.out).2.1); rintro e w110 ⟨rfl, hb⟩; have a9 := Aside0.mk (Kd.R_below (by (with_reducible repeat (first | apply Kd.R_alloc | apply Kd.R_drewN | apply Kd.R_drew)); exact b3.out) hb); have b0 := Aside0.mk (Kd.R_below (by (with_reducible repeat (first | apply Kd.R_alloc | apply Kd.R_drewN | apply Kd.R_drew)); exact b2.out) hb); have b4 := Aside0.mk (Kd.R_below (by (with_reducible repeat (first | apply Kd.R_alloc | apply Kd.R_drewN | apply Kd.R_drew)); exact b6.out) hb); have b7 := Aside0.mk (Kd.R_below (by (with_reducible repeat (first | apply Kd.R_alloc | apply Kd.R_drewN | apply Kd.R_drew)); exact b1.out) hb); have c4 := Aside0.mk (Kd.R_below (by (with_reducible repeat (first | apply Kd.R_alloc | apply Kd.R_drewN | apply Kd.R_drew)); exact a8.out) hb); have d2 := Aside0.mk (Kd.R_below (by (with_reducible repeat (first | apply Kd.R_alloc | apply Kd.R_drewN | apply Kd.R_drew)); exact g1.out) hb); have d6 := Aside0.mk (blk_below (g := a6) (o := .cells #[.int .i64 a0_0, .slice A0_1 l0_1.length c0_1, .slice A0_2 l0_2.length c0_2] 25 (0, 0)) (by (with_reducible repeat (first | refine blk_drewN ?_ _ | refine blk_drew ?_ | refine blk_alloc ?_ _)); exact a3.out) hb); have d7 := Aside0.mk (below_step (by repeat (first | (with_reducible first | exact HB.out | apply below_alloc | apply pw_below_drewN | apply below_drew1 | refine below_set ?_ a7.out) | exact HB.out)) hb); clear b3; clear b2; clear b6; clear b1; clear a8; clear g1; clear a3; clear HB; have b3 := a9; have b2 := b0; have b6 := b4; have b1 := b7; have a8 := c4; have g1 := d2; have a3 := d6; have HB := d7; clear a9 b0 b4 b7 c4 d2 d6 d7; (try clear hb); (try clear hb2); (try clear hk); (try clear hi); have A3 : w110.cell? ⟨a6, 0, none⟩ = some (.int .i64 a0_0) := (blk_cell a3.out 0).trans rfl; have z7 : w110.cell? ⟨a6, 1, none⟩ = some (.slice A0_1 l0_1.length c0_1) := (blk_cell a3.out 1).trans rfl; have B0 : w110.cell? ⟨a6, 2, none⟩ = some (.slice A0_2 l0_2.length c0_2) := (blk_cell a3.out 2).trans rfl; have x0 := blk_frozen a3.out 0; have w5 := blk_frozen a3.out 1; have w8 := blk_frozen a3.out 2) | (go_at_call 31; (with_reducible refine (Pxb.calls k1 a0_0 _ _ l0_1 _ _ l0_2 e8 _ ?e3 ?e4 ?e7 ?e6 N5.out).mono ?_); (case e3 => repeat (first | exact (Kd.C_below f5.out HB.out) | (with_reducible refine Kd.C_alloc ?_ _) | (with_reducible refine Kd.C_drewN ?_ _) | (with_reducible refine Kd.C_drew ?_))); (case e4 => exact f3.out); (case e7 => repeat (first | exact (Kd.C_below e9.out HB.out) | (with_reducible refine Kd.C_alloc ?_ _) | (with_reducible refine Kd.C_drewN ?_ _) | (with_reducible refine Kd.C_drew ?_))); (case e6 => exact f4.out); rintro e w112 ⟨rfl, hb⟩; have a9 := Aside0.mk (Kd.R_below (by (with_reducible repeat (first | apply Kd.R_alloc | apply Kd.R_drewN | apply Kd.R_drew)); exact b3.out) hb); have b0 := Aside0.mk (Kd.R_below (by (with_reducible repeat (first | apply Kd.R_alloc | apply Kd.R_drewN | apply Kd.R_drew)); exact b2.out) hb); have b4 := Aside0.mk (Kd.R_below (by (with_reducible repeat (first | apply Kd.R_alloc | apply Kd.R_drewN | apply Kd.R_drew)); exact b6.out) hb); have b7 := Aside0.mk (Kd.R_below (by (with_reducible repeat (first | apply Kd.R_alloc | apply Kd.R_drewN | apply Kd.R_drew)); exact b1.out) hb); have c4 := Aside0.mk (Kd.R_below (by (with_reducible repeat (first | apply Kd.R_alloc | apply Kd.R_drewN | apply Kd.R_drew)); exact a8.out) hb); have d2 := Aside0.mk (Kd.R_below (by (with_reducible repeat (first | apply Kd.R_alloc | apply Kd.R_drewN | apply Kd.R_drew)); exact g1.out) hb); have d6 := Aside0.mk (blk_below (g := a6) (o := .cells #[.int .i64 a0_0, .slice A0_1 l0_1.length c0_1, .slice A0_2 l0_2.length c0_2] 25 (0, 0)) (by (with_reducible repeat (first | refine blk_drewN ?_ _ | refine blk_drew ?_ | refine blk_alloc ?_ _)); exact a3.out) hb); have d7 := Aside0.mk (below_step (by repeat (first | (with_reducible first | exact HB.out | apply below_alloc | apply pw_below_drewN | apply below_drew1 | refine below_set ?_ a7.out) | exact HB.out)) hb); clear b3; clear b2; clear b6; clear b1; clear a8; clear g1; clear a3; clear HB; have b3 := a9; have b2 := b0; have b6 := b4; have b1 := b7; have a8 := c4; have g1 := d2; have a3 := d6; have HB := d7; clear a9 b0 b4 b7 c4 d2 d6 d7; (try clear hb); (try clear hb2); (try clear hk); (try clear hi)) | (go_at_call 24; (with_reducible refine (Pl26b.calls k1  f8 _ y5.out hr_).mono ?_); rintro e w113 ⟨rfl, hb⟩; have a9 := Aside0.mk (Kd.R_below (by (with_reducible repeat (first | apply Kd.R_alloc | apply Kd.R_drewN | apply Kd.R_drew)); exact b3.out) hb); have b0 := Aside0.mk (Kd.R_below (by (with_reducible repeat (first | apply Kd.R_alloc | apply Kd.R_drewN | apply Kd.R_drew)); exact b2.out) hb); have b4 := Aside0.mk (Kd.R_below (by (with_reducible repeat (first | apply Kd.R_alloc | apply Kd.R_drewN | apply Kd.R_drew)); exact b6.out) hb); have b7 := Aside0.mk (Kd.R_below (by (with_reducible repeat (first | apply Kd.R_alloc | apply Kd.R_drewN | apply Kd.R_drew)); exact b1.out) hb); have c4 := Aside0.mk (Kd.R_below (by (with_reducible repeat (first | apply Kd.R_alloc | apply Kd.R_drewN | apply Kd.R_drew)); exact a8.out) hb); have d2 := Aside0.mk (Kd.R_below (by (with_reducible repeat (first | apply Kd.R_alloc | apply Kd.R_drewN | apply Kd.R_drew)); exact g1.out) hb); have d6 := Aside0.mk (blk_below (g := a6) (o := .cells #[.int .i64 a0_0, .slice A0_1 l0_1.length c0_1, .slice A0_2 l0_2.length c0_2] 25 (0, 0)) (by (with_reducible repeat (first | refine blk_drewN ?_ _ | refine blk_drew ?_ | refine blk_alloc ?_ _)); exact a3.out) hb); have d7 := Aside0.mk (below_step (by repeat (first | (with_reducible first | exact HB.out | apply below_alloc | apply pw_below_drewN | apply below_drew1 | refine below_set ?_ a7.out) | exact HB.out)) hb); clear b3; clear b2; clear b6; clear b1; clear a8; clear g1; clear a3; clear HB; have b3 := a9; have b2 := b0; have b6 := b4; have b1 := b7; have a8 := c4; have g1 := d2; have a3 := d6; have HB := d7; clear a9 b0 b4 b7 c4 d2 d6 d7; (try clear hb); (try clear hb2); (try clear hk); (try clear hi)))
          go_ret
          exact ⟨by first | rfl | (simp [errW_none, errW_some] <;> rfl) | (simp [*, errW_none, errW_some] <;> rfl), by repeat (first | (with_reducible first | exact HB.out | apply below_alloc | apply pw_below_drewN | apply below_drew1 | refine below_set ?_ a7.out) | exact HB.out)⟩
         ·rw [if_neg g9] at H
          have c100b0 : (e8 == d4) = false := by simpa using g9
          (try (have c100b1 : decide (e8 = d4) = false := by simpa using g9))
          (try (have c100b2 : (e8 == d4) = false := by simpa using g9))
          (try (have c100b3 : ¬ (e8 = d4) := by simpa using g9))
          clear g9
          obtain rfl := Option.some.inj H
          exact absurd hr_.out (by decide)
        ·replace n5 := Bool.eq_false_iff.mpr n5
         subst n5
         have H1 : (some false) = some r := by rw [if_neg (show ¬ (false = true) by decide)] at H; exact H
         clear H
         have H := H1
         clear H1
         obtain rfl := Option.some.inj H
         exact absurd hr_.out (by decide)
       ·replace o3 := Bool.eq_false_iff.mpr o3
        subst o3
        have H1 : (some false) = some r := by rw [if_neg (show ¬ (false = true) by decide)] at H; exact H
        clear H
        have H := H1
        clear H1
        obtain rfl := Option.some.inj H
        exact absurd hr_.out (by decide)
      ·replace n2 := Bool.eq_false_iff.mpr n2
       subst n2
       have H1 : (some false) = some r := by rw [if_neg (show ¬ (false = true) by decide)] at H; exact H
       clear H
       have H := H1
       clear H1
       obtain rfl := Option.some.inj H
       exact absurd hr_.out (by decide)
  ·replace k5 := Bool.eq_false_iff.mpr k5
   subst k5
   have H1 : (if (b9.length : Int) = 0 then (if (b8.length : Int) = 0 then (if (b5.length : Int) = 0 then ((Pxb.f k a0_0 l0_1 l0_2).bind fun f9 => (if f9 = true then (some false) else ((Pl26b.f k).bind fun f6 => (some f6)))) else (some false)) else (some false)) else (some false)) = some r := by rw [if_neg (show ¬ (false = true) by decide)] at H; exact H
   clear H
   have H := H1
   clear H1
   by_cases h9 : (b9.length : Int) = 0
   ·rw [if_pos h9] at H
    have c144b0 : ((b9.length : Int) == 0) = true := beq_iff_eq.mpr h9
    have c144b1 : ((b9.length : Int) != 0) = false := bne_eq_false_iff_eq.mpr h9
    clear h9
    by_cases h7 : (b8.length : Int) = 0
    ·rw [if_pos h7] at H
     have c145b0 : ((b8.length : Int) == 0) = true := beq_iff_eq.mpr h7
     have c145b1 : ((b8.length : Int) != 0) = false := bne_eq_false_iff_eq.mpr h7
     clear h7
     by_cases h6 : (b5.length : Int) = 0
     ·rw [if_pos h6] at H
      have c146b0 : ((b5.length : Int) == 0) = true := beq_iff_eq.mpr h6
      have c146b1 : ((b5.length : Int) != 0) = false := bne_eq_false_iff_eq.mpr h6
      clear h6
      replace H := Option.bind_eq_some_iff.mp H
      obtain ⟨f9, n1, H⟩ := H
      replace H : (if f9 = true then (some false) else ((Pl26b.f k).bind fun f6 => (some f6))) = some r := H
      have w9 := Aside0.mk n1
      clear n1
      by_cases m4 : f9 = true
      ·subst m4
       have H1 : (some false) = some r := by rw [if_pos rfl] at H; exact H
       clear H
       have H := H1
       clear H1
       obtain rfl := Option.some.inj H
       exact absurd hr_.out (by decide)
      ·replace m4 := Bool.eq_false_iff.mpr m4
       subst m4
       have H1 : ((Pl26b.f k).bind fun f6 => (some f6)) = some r := by rw [if_neg (show ¬ (false = true) by decide)] at H; exact H
       clear H
       have H := H1
       clear H1
       replace H := Option.bind_eq_some_iff.mp H
       obtain ⟨f6, n8, H⟩ := H
       replace H : (some f6) = some r := H
       have y9 := Aside0.mk n8
       clear n8
       obtain rfl := Option.some.inj H
       go_enter Try.func7, Try.ntmps7
       try go_wp2_with (first | ((with_reducible refine gate_dst (N := 3) rfl ?_); (try (refine gate_guard (by rfl) ?_; dsimp only)); refine box_event ?hg (N := 3) ?hd (cs := #[.int .i64 a0_0, .slice A0_1 l0_1.length c0_1, .slice A0_2 l0_2.length c0_2]) (t := 25) ?hr ?_; (case hd => rfl); (case hg => rfl); (case hr => first | (go_simp; done) | (go_simp; rfl)); intro a6 hg w164 hbox hb; have a9 := Aside0.mk (below_step (by repeat (first | (with_reducible first | exact HB.out | apply below_alloc | apply pw_below_drewN | apply below_drew1) | exact HB.out)) hb); have b0 := Aside0.mk (hbox); have b4 := Aside0.mk ((by rw [hg]; exact (below_size (by repeat (first | (with_reducible first | exact HB.out | apply below_alloc | apply pw_below_drewN | apply below_drew1) | exact HB.out))) : w.heap.size ≤ a6)); have b7 := Aside0.mk ((by rw [hg]; exact (below_size (by repeat (first | (with_reducible first | exact HB.out | apply below_alloc | apply pw_below_drewN | apply below_drew1) | exact HB.out))) : w.heap.size ≤ a6)); clear HB; have HB := a9; have a3 := b0; have n9 := b4; have a7 := b7; clear a9 b0 b4 b7; clear hb hbox hg; have w3 : w164.cell? ⟨a6, 0, none⟩ = some (.int .i64 a0_0) := (blk_cell a3.out 0).trans rfl; have x7 : w164.cell? ⟨a6, 1, none⟩ = some (.slice A0_1 l0_1.length c0_1) := (blk_cell a3.out 1).trans rfl; have x6 : w164.cell? ⟨a6, 2, none⟩ = some (.slice A0_2 l0_2.length c0_2) := (blk_cell a3.out 2).trans rfl; have z0 := blk_frozen a3.out 0; have B1 := blk_frozen a3.out 1; have x1 := blk_frozen a3.out 2) | ((with_reducible refine gate_callee (f := 23) rfl ?_); refine goesL_ (some 16) rfl rfl Try.func23 (by kernel_rfl) rfl #[.agg #[.int .i64 a0_0, .slice A0_1 l0_1.length c0_1, .slice A0_2 l0_2.length c0_2]] rfl (by (try simp only [List.map_toArray, List.map_cons, List.map_nil]); first | done | rfl | (simp only [List.length_drop, List.length_take]; rfl)) ?_; (with_reducible refine (Pr26a.calls k a0_0 _ _ l0_1 _ _ l0_2 true _ ?e3 ?e4 ?e7 ?e6 A4.out).mono ?_); (case e3 => repeat (first | exact (Kd.C_below f5.out HB.out) | (with_reducible refine Kd.C_alloc ?_ _) | (with_reducible refine Kd.C_drewN ?_ _) | (with_reducible refine Kd.C_drew ?_))); (case e4 => exact f3.out); (case e7 => repeat (first | exact (Kd.C_below e9.out HB.out) | (with_reducible refine Kd.C_alloc ?_ _) | (with_reducible refine Kd.C_drewN ?_ _) | (with_reducible refine Kd.C_drew ?_))); (case e6 => exact f4.out); rintro e w166 ⟨rfl, hb⟩; refine ⟨_, rfl, ?_⟩; have a9 := Aside0.mk (blk_below (g := a6) (o := .cells #[.int .i64 a0_0, .slice A0_1 l0_1.length c0_1, .slice A0_2 l0_2.length c0_2] 25 (0, 0)) (by (with_reducible repeat (first | refine blk_drewN ?_ _ | refine blk_drew ?_ | refine blk_alloc ?_ _)); exact a3.out) hb); have b0 := Aside0.mk (below_step (by repeat (first | (with_reducible first | exact HB.out | apply below_alloc | apply pw_below_drewN | apply below_drew1 | refine below_set ?_ a7.out) | exact HB.out)) hb); clear a3; clear HB; have a3 := a9; have HB := b0; clear a9 b0; (try clear hb); (try clear hb2); (try clear hk); (try clear hi)))
       have a9 := Aside0.mk (blk_drew a3.out)
       have b0 := Aside0.mk (below_drew1 HB.out)
       clear a3
       clear HB
       have a3 := a9
       have HB := b0
       clear a9 b0
       refine start_ (n := 14) (S := fun w' => w'.cell? ⟨a6, 0, none⟩ = some (.int .i64 a0_0) ∧ w'.cell? ⟨a6, 1, none⟩ = some (.slice A0_1 l0_1.length c0_1) ∧ w'.cell? ⟨a6, 2, none⟩ = some (.slice A0_2 l0_2.length c0_2)) (ds := []) #[false, false, false, false, false, false, false, false, false, false, false, false, false, false] (by kernel_rfl) rfl rfl ⟨(blk_cell a3.out 0).trans rfl, (blk_cell a3.out 1).trans rfl, (blk_cell a3.out 2).trans rfl⟩ (fun hHeld => ?_); refine with_tabW Pl26a.tab3 Pl26a.bits3 (fun HT_ HW_ => ?_)
       generalize w166.drew = w167 at a3 HB hHeld ⊢
       refine pure_ (i := 1) (N := some 20) (v := ?_) (a' := ?_) #[false, true, false, false, false, false, false, false, false, false, false, false, false, false] rfl rfl (any_of HT_.out (by kernel_rfl)) (fun _ _ _ h => h) (Or.inl ⟨by rfl, ?_⟩) ?_ ?_
       rotate_left
       ·intro w'
        go_simp
        with_reducible rfl
       rotate_left
       ·simp only [Act.put, List.setIfInBounds_toArray, List.set_cons_zero, List.set_cons_succ, i64_w, i32_w]
        rfl
       refine pure_ (i := 2) (N := some 21) (v := ?_) (a' := ?_) #[false, true, true, false, false, false, false, false, false, false, false, false, false, false] rfl rfl (any_of HT_.out (by kernel_rfl)) (fun _ _ _ h => h) (Or.inl ⟨by rfl, ?_⟩) ?_ ?_
       rotate_left
       ·intro w'
        go_simp
        with_reducible rfl
       rotate_left
       ·simp only [Act.put, List.setIfInBounds_toArray, List.set_cons_zero, List.set_cons_succ, i64_w, i32_w]
        rfl
       refine pure_ (i := 5) (N := some 24) (v := ?_) (a' := ?_) #[false, true, true, false, false, true, false, false, false, false, false, false, false, false] rfl rfl (any_of HT_.out (by kernel_rfl)) (fun _ _ _ h => h) (Or.inl ⟨by rfl, ?_⟩) ?_ ?_
       rotate_left
       ·intro w'
        go_simp
        with_reducible rfl
       rotate_left
       ·simp only [Act.put, List.setIfInBounds_toArray, List.set_cons_zero, List.set_cons_succ, i64_w, i32_w]
        rfl
       refine pure_ (i := 6) (N := some 25) (v := ?_) (a' := ?_) #[false, true, true, false, false, true, true, false, false, false, false, false, false, false] rfl rfl (any_of HT_.out (by kernel_rfl)) (fun _ _ _ h => h) (Or.inl ⟨by rfl, ?_⟩) ?_ ?_
       rotate_left
       ·intro w'
        go_simp
        with_reducible rfl
       rotate_left
       ·simp only [Act.put, List.setIfInBounds_toArray, List.set_cons_zero, List.set_cons_succ, i64_w, i32_w]
        rfl
       refine pure_ (i := 9) (N := some 28) (v := ?_) (a' := ?_) #[false, true, true, false, false, true, true, false, false, true, false, false, false, false] rfl rfl (any_of HT_.out (by kernel_rfl)) (fun _ _ _ h => h) (Or.inl ⟨by rfl, ?_⟩) ?_ ?_
       rotate_left
       ·intro w'
        go_simp
        with_reducible rfl
       rotate_left
       ·simp only [Act.put, List.setIfInBounds_toArray, List.set_cons_zero, List.set_cons_succ, i64_w, i32_w]
        rfl
       refine take_ (i := 0) (N := some 19) (v := ?_) (a' := ?_) #[true, true, true, false, false, true, true, false, false, true, false, false, false, false] rfl rfl (take_ofW HT_.out HW_.out (by kernel_rfl)) (fun _ _ _ h => h) (Or.inl ⟨by rfl, ?_⟩) hHeld ?_ ?_
       rotate_left
       ·rintro w' ⟨s0, s1, s2⟩
        go_simp
        with_reducible rfl
       rotate_left
       ·simp only [Act.put, List.setIfInBounds_toArray, List.set_cons_zero, List.set_cons_succ, i64_w, i32_w]
        rfl
       refine take_ (i := 4) (N := some 23) (v := ?_) (a' := ?_) #[true, true, true, false, true, true, true, false, false, true, false, false, false, false] rfl rfl (take_ofW HT_.out HW_.out (by kernel_rfl)) (fun _ _ _ h => h) (Or.inl ⟨by rfl, ?_⟩) hHeld ?_ ?_
       rotate_left
       ·rintro w' ⟨s0, s1, s2⟩
        go_simp
        with_reducible rfl
       rotate_left
       ·simp only [Act.put, List.setIfInBounds_toArray, List.set_cons_zero, List.set_cons_succ, i64_w, i32_w]
        rfl
       refine take_ (i := 8) (N := some 27) (v := ?_) (a' := ?_) #[true, true, true, false, true, true, true, false, true, true, false, false, false, false] rfl rfl (take_ofW HT_.out HW_.out (by kernel_rfl)) (fun _ _ _ h => h) (Or.inl ⟨by rfl, ?_⟩) hHeld ?_ ?_
       rotate_left
       ·rintro w' ⟨s0, s1, s2⟩
        go_simp
        with_reducible rfl
       rotate_left
       ·simp only [Act.put, List.setIfInBounds_toArray, List.set_cons_zero, List.set_cons_succ, i64_w, i32_w]
        rfl
       refine one_ (i := 3) (N := some 22) #[true, true, true, true, true, true, true, false, true, true, false, false, false, false] rfl rfl (one_of HT_.out (by kernel_rfl)) (by decide) (fun K hK => ?_)
       refine goes_ Try.func28 (by kernel_rfl) rfl #[.agg #[.int .i64 a0_0, .slice A0_1 l0_1.length c0_1, .slice A0_2 l0_2.length c0_2], .int .i64 a1, .int .i64 a2] (by rfl) rfl rfl (by (try simp only [List.map_toArray, List.map_cons, List.map_nil]); first | done | rfl | (simp only [List.length_drop, List.length_take]; rfl)) ?_
       with_reducible refine (Pxf.calls k a0_0 _ _ l0_1 _ _ l0_2 a1 a2 b9 _ ?e3 ?e4 ?e7 ?e6 A6.out).mono ?_
       (case e3 => repeat (first | exact (Kd.C_below f5.out HB.out) | (with_reducible refine Kd.C_alloc ?_ _) | (with_reducible refine Kd.C_drewN ?_ _) | (with_reducible refine Kd.C_drew ?_)))
       (case e4 => exact f3.out)
       (case e7 => repeat (first | exact (Kd.C_below e9.out HB.out) | (with_reducible refine Kd.C_alloc ?_ _) | (with_reducible refine Kd.C_drewN ?_ _) | (with_reducible refine Kd.C_drew ?_)))
       (case e6 => exact f4.out)
       rintro e w168 ⟨g2, rfl, d8, hb⟩
       refine ⟨_, rfl, ?_⟩
       have a9 := Aside0.mk (Kd.R_lower d8 (below_size (by repeat (first | (with_reducible first | exact HB.out | apply below_alloc | apply pw_below_drewN | apply below_drew1 | refine below_set ?_ a7.out) | exact HB.out))))
       have b0 := Aside0.mk (blk_below (g := a6) (o := .cells #[.int .i64 a0_0, .slice A0_1 l0_1.length c0_1, .slice A0_2 l0_2.length c0_2] 25 (0, 0)) (by (with_reducible repeat (first | refine blk_drewN ?_ _ | refine blk_drew ?_ | refine blk_alloc ?_ _)); exact a3.out) hb)
       have b4 := Aside0.mk (below_step (by repeat (first | (with_reducible first | exact HB.out | apply below_alloc | apply pw_below_drewN | apply below_drew1 | refine below_set ?_ a7.out) | exact HB.out)) hb)
       clear a3
       clear HB
       have d0 := a9
       have a3 := b0
       have HB := b4
       clear a9 b0 b4
       (try clear hb)
       (try clear hb2)
       (try clear hk)
       (try clear hi)
       (try clear d8)
       refine hK.out _ _ ⟨(blk_cell a3.out 0).trans rfl, (blk_cell a3.out 1).trans rfl, (blk_cell a3.out 2).trans rfl⟩ (fun hHeld => ?_)
       clear hK K
       refine norm_ (a' := ?_) ?_ ?_
       rotate_left
       ·show Act.put _ (some 22) _ = _
        simp only [Act.put, List.setIfInBounds_toArray, List.set_cons_zero, List.set_cons_succ, i64_w, i32_w]
        rfl
       refine one_ (i := 7) (N := some 26) #[true, true, true, true, true, true, true, true, true, true, false, false, false, false] rfl rfl (one_of HT_.out (by kernel_rfl)) (by decide) (fun K hK => ?_)
       refine goes_ Try.func29 (by kernel_rfl) rfl #[.agg #[.int .i64 a0_0, .slice A0_1 l0_1.length c0_1, .slice A0_2 l0_2.length c0_2], .int .i64 a1, .int .i64 a2] (by rfl) rfl rfl (by (try simp only [List.map_toArray, List.map_cons, List.map_nil]); first | done | rfl | (simp only [List.length_drop, List.length_take]; rfl)) ?_
       with_reducible refine (Pxe.calls k a0_0 _ _ l0_1 _ _ l0_2 a1 a2 b8 _ ?e3 ?e4 ?e7 ?e6 A7.out).mono ?_
       (case e3 => repeat (first | exact (Kd.C_below f5.out HB.out) | (with_reducible refine Kd.C_alloc ?_ _) | (with_reducible refine Kd.C_drewN ?_ _) | (with_reducible refine Kd.C_drew ?_)))
       (case e4 => exact f3.out)
       (case e7 => repeat (first | exact (Kd.C_below e9.out HB.out) | (with_reducible refine Kd.C_alloc ?_ _) | (with_reducible refine Kd.C_drewN ?_ _) | (with_reducible refine Kd.C_drew ?_)))
       (case e6 => exact f4.out)
       rintro e w169 ⟨g3, rfl, d8, hb⟩
       refine ⟨_, rfl, ?_⟩
       have a9 := Aside0.mk (Kd.R_elder' (by (with_reducible repeat (first | apply Kd.R_alloc | apply Kd.R_drewN | apply Kd.R_drew)); exact d0.out) (Kd.R_base d8) hb)
       have b0 := Aside0.mk (Kd.R_lower (Kd.R_new' d8 (Kd.R_lt (by (with_reducible repeat (first | apply Kd.R_alloc | apply Kd.R_drewN | apply Kd.R_drew)); exact d0.out))) (below_size (by repeat (first | (with_reducible first | exact HB.out | apply below_alloc | apply pw_below_drewN | apply below_drew1 | refine below_set ?_ a7.out) | exact HB.out))))
       have b4 := Aside0.mk (blk_below (g := a6) (o := .cells #[.int .i64 a0_0, .slice A0_1 l0_1.length c0_1, .slice A0_2 l0_2.length c0_2] 25 (0, 0)) (by (with_reducible repeat (first | refine blk_drewN ?_ _ | refine blk_drew ?_ | refine blk_alloc ?_ _)); exact a3.out) hb)
       have b7 := Aside0.mk (below_step (by repeat (first | (with_reducible first | exact HB.out | apply below_alloc | apply pw_below_drewN | apply below_drew1 | refine below_set ?_ a7.out) | exact HB.out)) hb)
       clear d0
       clear a3
       clear HB
       have d0 := a9
       have d9 := b0
       have a3 := b4
       have HB := b7
       clear a9 b0 b4 b7
       (try clear hb)
       (try clear hb2)
       (try clear hk)
       (try clear hi)
       (try clear d8)
       refine hK.out _ _ ⟨(blk_cell a3.out 0).trans rfl, (blk_cell a3.out 1).trans rfl, (blk_cell a3.out 2).trans rfl⟩ (fun hHeld => ?_)
       clear hK K
       refine norm_ (a' := ?_) ?_ ?_
       rotate_left
       ·show Act.put _ (some 26) _ = _
        simp only [Act.put, List.setIfInBounds_toArray, List.set_cons_zero, List.set_cons_succ, i64_w, i32_w]
        rfl
       refine one_ (i := 10) (N := some 29) #[true, true, true, true, true, true, true, true, true, true, true, false, false, false] rfl rfl (one_of HT_.out (by kernel_rfl)) (by decide) (fun K hK => ?_)
       refine goes_ Try.func30 (by kernel_rfl) rfl #[.agg #[.int .i64 a0_0, .slice A0_1 l0_1.length c0_1, .slice A0_2 l0_2.length c0_2], .int .i64 a1] (by rfl) rfl rfl (by (try simp only [List.map_toArray, List.map_cons, List.map_nil]); first | done | rfl | (simp only [List.length_drop, List.length_take]; rfl)) ?_
       with_reducible refine (Pxg.calls a0_0 _ _ l0_1 _ _ l0_2 a1 b5 _ ?e3 ?e4 ?e7 ?e6 A8.out).mono ?_
       (case e3 => repeat (first | exact (Kd.C_below f5.out HB.out) | (with_reducible refine Kd.C_alloc ?_ _) | (with_reducible refine Kd.C_drewN ?_ _) | (with_reducible refine Kd.C_drew ?_)))
       (case e4 => exact f3.out)
       (case e7 => repeat (first | exact (Kd.C_below e9.out HB.out) | (with_reducible refine Kd.C_alloc ?_ _) | (with_reducible refine Kd.C_drewN ?_ _) | (with_reducible refine Kd.C_drew ?_)))
       (case e6 => exact f4.out)
       rintro e w170 ⟨h3, rfl, d8, hb⟩
       refine ⟨_, rfl, ?_⟩
       have a9 := Aside0.mk (Kd.R_below (by (with_reducible repeat (first | apply Kd.R_alloc | apply Kd.R_drewN | apply Kd.R_drew)); exact d0.out) hb)
       have b0 := Aside0.mk (Kd.R_below (by (with_reducible repeat (first | apply Kd.R_alloc | apply Kd.R_drewN | apply Kd.R_drew)); exact d9.out) hb)
       have b4 := Aside0.mk (Kd.R_lower d8 (below_size (by repeat (first | (with_reducible first | exact HB.out | apply below_alloc | apply pw_below_drewN | apply below_drew1 | refine below_set ?_ a7.out) | exact HB.out))))
       have b7 := Aside0.mk (blk_below (g := a6) (o := .cells #[.int .i64 a0_0, .slice A0_1 l0_1.length c0_1, .slice A0_2 l0_2.length c0_2] 25 (0, 0)) (by (with_reducible repeat (first | refine blk_drewN ?_ _ | refine blk_drew ?_ | refine blk_alloc ?_ _)); exact a3.out) hb)
       have c4 := Aside0.mk (below_step (by repeat (first | (with_reducible first | exact HB.out | apply below_alloc | apply pw_below_drewN | apply below_drew1 | refine below_set ?_ a7.out) | exact HB.out)) hb)
       clear d0
       clear d9
       clear a3
       clear HB
       have d0 := a9
       have d9 := b0
       have e0 := b4
       have a3 := b7
       have HB := c4
       clear a9 b0 b4 b7 c4
       (try clear hb)
       (try clear hb2)
       (try clear hk)
       (try clear hi)
       (try clear d8)
       refine hK.out _ _ ⟨(blk_cell a3.out 0).trans rfl, (blk_cell a3.out 1).trans rfl, (blk_cell a3.out 2).trans rfl⟩ (fun hHeld => ?_)
       clear hK K
       refine norm_ (a' := ?_) ?_ ?_
       rotate_left
       ·show Act.put _ (some 29) _ = _
        simp only [Act.put, List.setIfInBounds_toArray, List.set_cons_zero, List.set_cons_succ, i64_w, i32_w]
        rfl
       refine pure_ (i := 11) (N := some 7) (v := ?_) (a' := ?_) #[true, true, true, true, true, true, true, true, true, true, true, true, false, false] rfl rfl (any_of HT_.out (by kernel_rfl)) (fun _ _ _ h => h) (Or.inl ⟨by rfl, ?_⟩) ?_ ?_
       rotate_left
       ·intro w'
        go_simp
        with_reducible rfl
       rotate_left
       ·simp only [Act.put, List.setIfInBounds_toArray, List.set_cons_zero, List.set_cons_succ, i64_w, i32_w]
        rfl
       refine pure_ (i := 12) (N := some 8) (v := ?_) (a' := ?_) #[true, true, true, true, true, true, true, true, true, true, true, true, true, false] rfl rfl (any_of HT_.out (by kernel_rfl)) (fun _ _ _ h => h) (Or.inl ⟨by rfl, ?_⟩) ?_ ?_
       rotate_left
       ·intro w'
        go_simp
        with_reducible rfl
       rotate_left
       ·simp only [Act.put, List.setIfInBounds_toArray, List.set_cons_zero, List.set_cons_succ, i64_w, i32_w]
        rfl
       refine pure_ (i := 13) (N := some 9) (v := ?_) (a' := ?_) #[true, true, true, true, true, true, true, true, true, true, true, true, true, true] rfl rfl (any_of HT_.out (by kernel_rfl)) (fun _ _ _ h => h) (Or.inl ⟨by rfl, ?_⟩) ?_ ?_
       rotate_left
       ·intro w'
        go_simp
        with_reducible rfl
       rotate_left
       ·simp only [Act.put, List.setIfInBounds_toArray, List.set_cons_zero, List.set_cons_succ, i64_w, i32_w]
        rfl
       refine done_ (done_of HT_.out (by kernel_rfl)) ?_
       have z1 : w170.cell? ⟨a6, 0, none⟩ = some (.int .i64 a0_0) := (blk_cell a3.out 0).trans rfl
       have z3 : w170.cell? ⟨a6, 1, none⟩ = some (.slice A0_1 l0_1.length c0_1) := (blk_cell a3.out 1).trans rfl
       have A0 : w170.cell? ⟨a6, 2, none⟩ = some (.slice A0_2 l0_2.length c0_2) := (blk_cell a3.out 2).trans rfl
       have y1 := blk_frozen a3.out 0
       have z8 := blk_frozen a3.out 1
       have z2 := blk_frozen a3.out 2
       try go_wp2_with (first | ((with_reducible refine gate_callee (f := 15) rfl ?_); refine goesL_ (some 31) rfl rfl Try.func15 (by kernel_rfl) rfl #[.agg #[.int .i64 a0_0, .slice A0_1 l0_1.length c0_1, .slice A0_2 l0_2.length c0_2]] rfl (by (try simp only [List.map_toArray, List.map_cons, List.map_nil]); first | done | rfl | (simp only [List.length_drop, List.length_take]; rfl)) ?_; (with_reducible refine (Pr26d.calls a0_0 _ _ l0_1 _ _ l0_2 false _ ?e3 ?e4 ?e7 ?e6 A9.out).mono ?_); (case e3 => repeat (first | exact (Kd.C_below f5.out HB.out) | (with_reducible refine Kd.C_alloc ?_ _) | (with_reducible refine Kd.C_drewN ?_ _) | (with_reducible refine Kd.C_drew ?_))); (case e4 => exact f3.out); (case e7 => repeat (first | exact (Kd.C_below e9.out HB.out) | (with_reducible refine Kd.C_alloc ?_ _) | (with_reducible refine Kd.C_drewN ?_ _) | (with_reducible refine Kd.C_drew ?_))); (case e6 => exact f4.out); rintro e w172 ⟨rfl, hb⟩; refine ⟨_, rfl, ?_⟩; have a9 := Aside0.mk (Kd.R_below (by (with_reducible repeat (first | apply Kd.R_alloc | apply Kd.R_drewN | apply Kd.R_drew)); exact d0.out) hb); have b0 := Aside0.mk (Kd.R_below (by (with_reducible repeat (first | apply Kd.R_alloc | apply Kd.R_drewN | apply Kd.R_drew)); exact d9.out) hb); have b4 := Aside0.mk (Kd.R_below (by (with_reducible repeat (first | apply Kd.R_alloc | apply Kd.R_drewN | apply Kd.R_drew)); exact e0.out) hb); have b7 := Aside0.mk (blk_below (g := a6) (o := .cells #[.int .i64 a0_0, .slice A0_1 l0_1.length c0_1, .slice A0_2 l0_2.length c0_2] 25 (0, 0)) (by (with_reducible repeat (first | refine blk_drewN ?_ _ | refine blk_drew ?_ | refine blk_alloc ?_ _)); exact a3.out) hb); have c4 := Aside0.mk (below_step (by repeat (first | (with_reducible first | exact HB.out | apply below_alloc | apply pw_below_drewN | apply below_drew1 | refine below_set ?_ a7.out) | exact HB.out)) hb); clear d0; clear d9; clear e0; clear a3; clear HB; have d0 := a9; have d9 := b0; have e0 := b4; have a3 := b7; have HB := c4; clear a9 b0 b4 b7 c4; (try clear hb); (try clear hb2); (try clear hk); (try clear hi); obtain ⟨Q9, N8, u3⟩ := Kd.R_slice d0.out; subst u3; obtain ⟨R6, Q3, u6⟩ := Kd.R_slice d9.out; subst u6; obtain ⟨P3, P8, u1⟩ := Kd.R_slice e0.out; subst u1; have w6 : w172.cell? ⟨a6, 0, none⟩ = some (.int .i64 a0_0) := (blk_cell a3.out 0).trans rfl; have x4 : w172.cell? ⟨a6, 1, none⟩ = some (.slice A0_1 l0_1.length c0_1) := (blk_cell a3.out 1).trans rfl; have z9 : w172.cell? ⟨a6, 2, none⟩ = some (.slice A0_2 l0_2.length c0_2) := (blk_cell a3.out 2).trans rfl; have y3 := blk_frozen a3.out 0; have z6 := blk_frozen a3.out 1; have w2 := blk_frozen a3.out 2) | (go_at_call 31; (with_reducible refine (Pxb.calls k a0_0 _ _ l0_1 _ _ l0_2 false _ ?e3 ?e4 ?e7 ?e6 w9.out).mono ?_); (case e3 => repeat (first | exact (Kd.C_below f5.out HB.out) | (with_reducible refine Kd.C_alloc ?_ _) | (with_reducible refine Kd.C_drewN ?_ _) | (with_reducible refine Kd.C_drew ?_))); (case e4 => exact f3.out); (case e7 => repeat (first | exact (Kd.C_below e9.out HB.out) | (with_reducible refine Kd.C_alloc ?_ _) | (with_reducible refine Kd.C_drewN ?_ _) | (with_reducible refine Kd.C_drew ?_))); (case e6 => exact f4.out); rintro e w177 ⟨rfl, hb⟩; have a9 := Aside0.mk (Kd.R_below (by (with_reducible repeat (first | apply Kd.R_alloc | apply Kd.R_drewN | apply Kd.R_drew)); exact d0.out) hb); have b0 := Aside0.mk (Kd.R_below (by (with_reducible repeat (first | apply Kd.R_alloc | apply Kd.R_drewN | apply Kd.R_drew)); exact d9.out) hb); have b4 := Aside0.mk (Kd.R_below (by (with_reducible repeat (first | apply Kd.R_alloc | apply Kd.R_drewN | apply Kd.R_drew)); exact e0.out) hb); have b7 := Aside0.mk (blk_below (g := a6) (o := .cells #[.int .i64 a0_0, .slice A0_1 l0_1.length c0_1, .slice A0_2 l0_2.length c0_2] 25 (0, 0)) (by (with_reducible repeat (first | refine blk_drewN ?_ _ | refine blk_drew ?_ | refine blk_alloc ?_ _)); exact a3.out) hb); have c4 := Aside0.mk (below_step (by repeat (first | (with_reducible first | exact HB.out | apply below_alloc | apply pw_below_drewN | apply below_drew1 | refine below_set ?_ a7.out) | exact HB.out)) hb); clear d0; clear d9; clear e0; clear a3; clear HB; have d0 := a9; have d9 := b0; have e0 := b4; have a3 := b7; have HB := c4; clear a9 b0 b4 b7 c4; (try clear hb); (try clear hb2); (try clear hk); (try clear hi)) | (go_at_call 24; (with_reducible refine (Pl26b.calls k  f6 _ y9.out hr_).mono ?_); rintro e w178 ⟨rfl, hb⟩; have a9 := Aside0.mk (Kd.R_below (by (with_reducible repeat (first | apply Kd.R_alloc | apply Kd.R_drewN | apply Kd.R_drew)); exact d0.out) hb); have b0 := Aside0.mk (Kd.R_below (by (with_reducible repeat (first | apply Kd.R_alloc | apply Kd.R_drewN | apply Kd.R_drew)); exact d9.out) hb); have b4 := Aside0.mk (Kd.R_below (by (with_reducible repeat (first | apply Kd.R_alloc | apply Kd.R_drewN | apply Kd.R_drew)); exact e0.out) hb); have b7 := Aside0.mk (blk_below (g := a6) (o := .cells #[.int .i64 a0_0, .slice A0_1 l0_1.length c0_1, .slice A0_2 l0_2.length c0_2] 25 (0, 0)) (by (with_reducible repeat (first | refine blk_drewN ?_ _ | refine blk_drew ?_ | refine blk_alloc ?_ _)); exact a3.out) hb); have c4 := Aside0.mk (below_step (by repeat (first | (with_reducible first | exact HB.out | apply below_alloc | apply pw_below_drewN | apply below_drew1 | refine below_set ?_ a7.out) | exact HB.out)) hb); clear d0; clear d9; clear e0; clear a3; clear HB; have d0 := a9; have d9 := b0; have e0 := b4; have a3 := b7; have HB := c4; clear a9 b0 b4 b7 c4; (try clear hb); (try clear hb2); (try clear hk); (try clear hi)))
       go_ret
       exact ⟨by first | rfl | (simp [errW_none, errW_some] <;> rfl) | (simp [*, errW_none, errW_some] <;> rfl), by repeat (first | (with_reducible first | exact HB.out | apply below_alloc | apply pw_below_drewN | apply below_drew1 | refine below_set ?_ a7.out) | exact HB.out)⟩
     ·rw [if_neg h6] at H
      have c146b0 : ((b5.length : Int) == 0) = false := beq_eq_false_iff_ne.mpr h6
      have c146b1 : ((b5.length : Int) != 0) = true := bne_iff_ne.mpr h6
      have c146b2 : ¬ (b5 = []) := fun h_ => h6 (by rw [h_]; rfl)
      obtain rfl := Option.some.inj H
      exact absurd hr_.out (by decide)
    ·rw [if_neg h7] at H
     have c145b0 : ((b8.length : Int) == 0) = false := beq_eq_false_iff_ne.mpr h7
     have c145b1 : ((b8.length : Int) != 0) = true := bne_iff_ne.mpr h7
     have c145b2 : ¬ (b8 = []) := fun h_ => h7 (by rw [h_]; rfl)
     obtain rfl := Option.some.inj H
     exact absurd hr_.out (by decide)
   ·rw [if_neg h9] at H
    have c144b0 : ((b9.length : Int) == 0) = false := beq_eq_false_iff_ne.mpr h9
    have c144b1 : ((b9.length : Int) != 0) = true := bne_iff_ne.mpr h9
    have c144b2 : ¬ (b9 = []) := fun h_ => h9 (by rw [h_]; rfl)
    obtain rfl := Option.some.inj H
    exact absurd hr_.out (by decide)
 ·replace c5 := Bool.eq_false_iff.mpr c5
  subst c5
  have H1 : ((Pl26b.f k).bind fun i0 => (some i0)) = some r := by rw [if_neg (show ¬ (false = true) by decide)] at H; exact H
  clear H
  have H := H1
  clear H1
  replace H := Option.bind_eq_some_iff.mp H
  obtain ⟨i0, o5, H⟩ := H
  replace H : (some i0) = some r := H
  have x3 := Aside0.mk o5
  clear o5
  obtain rfl := Option.some.inj H
  go_enter Try.func7, Try.ntmps7
  go_wp2_with (first | ((with_reducible refine gate_dst (N := 3) rfl ?_); (try (refine gate_guard (by rfl) ?_; dsimp only)); refine box_event ?hg (N := 3) ?hd (cs := #[.int .i64 a0_0, .slice A0_1 l0_1.length c0_1, .slice A0_2 l0_2.length c0_2]) (t := 25) ?hr ?_; (case hd => rfl); (case hg => rfl); (case hr => first | (go_simp; done) | (go_simp; rfl)); intro a6 hg w213 hbox hb; have a9 := Aside0.mk (below_step (by repeat (first | (with_reducible first | exact HB.out | apply below_alloc | apply pw_below_drewN | apply below_drew1) | exact HB.out)) hb); have b0 := Aside0.mk (hbox); have b4 := Aside0.mk ((by rw [hg]; exact (below_size (by repeat (first | (with_reducible first | exact HB.out | apply below_alloc | apply pw_below_drewN | apply below_drew1) | exact HB.out))) : w.heap.size ≤ a6)); have b7 := Aside0.mk ((by rw [hg]; exact (below_size (by repeat (first | (with_reducible first | exact HB.out | apply below_alloc | apply pw_below_drewN | apply below_drew1) | exact HB.out))) : w.heap.size ≤ a6)); clear HB; have HB := a9; have a3 := b0; have n9 := b4; have a7 := b7; clear a9 b0 b4 b7; clear hb hbox hg; have B2 : w213.cell? ⟨a6, 0, none⟩ = some (.int .i64 a0_0) := (blk_cell a3.out 0).trans rfl; have A5 : w213.cell? ⟨a6, 1, none⟩ = some (.slice A0_1 l0_1.length c0_1) := (blk_cell a3.out 1).trans rfl; have z5 : w213.cell? ⟨a6, 2, none⟩ = some (.slice A0_2 l0_2.length c0_2) := (blk_cell a3.out 2).trans rfl; have A1 := blk_frozen a3.out 0; have w1 := blk_frozen a3.out 1; have y0 := blk_frozen a3.out 2) | ((with_reducible refine gate_callee (f := 23) rfl ?_); refine goesL_ (some 16) rfl rfl Try.func23 (by kernel_rfl) rfl #[.agg #[.int .i64 a0_0, .slice A0_1 l0_1.length c0_1, .slice A0_2 l0_2.length c0_2]] rfl (by (try simp only [List.map_toArray, List.map_cons, List.map_nil]); first | done | rfl | (simp only [List.length_drop, List.length_take]; rfl)) ?_; (with_reducible refine (Pr26a.calls k a0_0 _ _ l0_1 _ _ l0_2 false _ ?e3 ?e4 ?e7 ?e6 A4.out).mono ?_); (case e3 => repeat (first | exact (Kd.C_below f5.out HB.out) | (with_reducible refine Kd.C_alloc ?_ _) | (with_reducible refine Kd.C_drewN ?_ _) | (with_reducible refine Kd.C_drew ?_))); (case e4 => exact f3.out); (case e7 => repeat (first | exact (Kd.C_below e9.out HB.out) | (with_reducible refine Kd.C_alloc ?_ _) | (with_reducible refine Kd.C_drewN ?_ _) | (with_reducible refine Kd.C_drew ?_))); (case e6 => exact f4.out); rintro e w215 ⟨rfl, hb⟩; refine ⟨_, rfl, ?_⟩; have a9 := Aside0.mk (blk_below (g := a6) (o := .cells #[.int .i64 a0_0, .slice A0_1 l0_1.length c0_1, .slice A0_2 l0_2.length c0_2] 25 (0, 0)) (by (with_reducible repeat (first | refine blk_drewN ?_ _ | refine blk_drew ?_ | refine blk_alloc ?_ _)); exact a3.out) hb); have b0 := Aside0.mk (below_step (by repeat (first | (with_reducible first | exact HB.out | apply below_alloc | apply pw_below_drewN | apply below_drew1 | refine below_set ?_ a7.out) | exact HB.out)) hb); clear a3; clear HB; have a3 := a9; have HB := b0; clear a9 b0; (try clear hb); (try clear hb2); (try clear hk); (try clear hi)) | ((with_reducible refine gate_callee (f := 24) rfl ?_); refine goesL_ (some 18) rfl rfl Try.func24 (by kernel_rfl) rfl #[] rfl (by (try simp only [List.map_toArray, List.map_cons, List.map_nil]); first | done | rfl | (simp only [List.length_drop, List.length_take]; rfl)) ?_; (with_reducible refine (Pl26b.calls k  i0 _ x3.out hr_).mono ?_); rintro e w216 ⟨rfl, hb⟩; refine ⟨_, rfl, ?_⟩; have a9 := Aside0.mk (blk_below (g := a6) (o := .cells #[.int .i64 a0_0, .slice A0_1 l0_1.length c0_1, .slice A0_2 l0_2.length c0_2] 25 (0, 0)) (by (with_reducible repeat (first | refine blk_drewN ?_ _ | refine blk_drew ?_ | refine blk_alloc ?_ _)); exact a3.out) hb); have b0 := Aside0.mk (below_step (by repeat (first | (with_reducible first | exact HB.out | apply below_alloc | apply pw_below_drewN | apply below_drew1 | refine below_set ?_ a7.out) | exact HB.out)) hb); clear a3; clear HB; have a3 := a9; have HB := b0; clear a9 b0; (try clear hb); (try clear hb2); (try clear hk); (try clear hi)))
  go_ret
  exact ⟨by first | rfl | (simp [errW_none, errW_some] <;> rfl) | (simp [*, errW_none, errW_some] <;> rfl), by repeat (first | (with_reducible first | exact HB.out | apply below_alloc | apply pw_below_drewN | apply below_drew1 | refine below_set ?_ a7.out) | exact HB.out)⟩
end Go.Proofs.Ythaaockbapbooaa.Pr
set_option linter.unusedVariables false
set_option linter.unusedSimpArgs false
namespace Go.Proofs.Ythaaockbapbooaa.H
open Go.RowKit Go.Proofs.Ythaaockbapbooaa.Pr Go.Proofs.YthaaockbapbooaaW.PrintWords Go.Proofs.Ythaaockbapbooaa.Sem
theorem Ev.pos {α : Type} {c : Prop} [Decidable c] {a b : Nat → Option α} {r : α} (h : c) (e : Ev a r) : Ev (fun k => if c then a k else b k) r := by
 simp only [if_pos h]
 exact e
theorem Ev.neg {α : Type} {c : Prop} [Decidable c] {a b : Nat → Option α} {r : α} (h : ¬ c) (e : Ev b r) : Ev (fun k => if c then a k else b k) r := by
 simp only [if_neg h]
 exact e
theorem Ev.bindS {α β : Type} {g : Option α} {f : Nat → α → Option β} {a : α} {r : β} (h : g = some a) (k : Ev (fun n => f n a) r) : Ev (fun n => g.bind (f n)) r := by
 subst h
 simpa using k
theorem Ev.last {α : Type} {g : Nat → Option α} {r : α} (h : Ev g r) : Ev (fun n => (g n).bind fun t => some t) r := by
 obtain ⟨K, h⟩ := h
 exact ⟨K, fun k hk => by simp [h k hk]⟩
theorem w1n {k : Nat} (h1 : (k : Int) < 4611686018427387904) : wrap64 ((k : Int) + 1) = ((k + 1 : Nat) : Int) := by unfold wrap64; omega
theorem rd51 (es : List Ed) (i : Nat) : rd_T51 es (i : Int) = es.getD i z51 := rfl
end Go.Proofs.Ythaaockbapbooaa.H
set_option linter.unusedVariables false
set_option linter.unusedSimpArgs false
namespace Go.Proofs.Ythaaockbapbooaa.H
open Go.RowKit Go.Proofs.Ythaaockbapbooaa.Pr Go.Proofs.YthaaockbapbooaaW.PrintWords Go.Proofs.Ythaaockbapbooaa.Sem
def SmallL (n : Int) (ls : List ByteArray) (es : List Ed) : Prop := (n ≤ 60 ∨ 2048 < n) ∧ es.length ≤ 200 ∧ ls.length < 70
theorem light26_end (n : Int) (ls : List ByteArray) (es : List Ed) (i : Int) : ∃ b, Ev (fun k => Pr26a.j1 k i false n ls es) b ∧ (b = true → SmallL n ls es) := by
 by_cases h1 : (ls.length : Int) < 70
 ·by_cases h2 : (es.length : Int) ≤ 200
  ·by_cases h3 : n ≤ 60
   ·exact ⟨true, Ev.step (fun k => Pr26a.j1.eq_2 ..) (Ev.neg (by simp) (Ev.pos h1 (Ev.pos h2 (Ev.pos h3 (Ev.now _))))), fun _ => ⟨.inl h3, by omega, by omega⟩⟩
   ·exact ⟨decide (n > 2048), Ev.step (fun k => Pr26a.j1.eq_2 ..) (Ev.neg (by simp) (Ev.pos h1 (Ev.pos h2 (Ev.neg h3 (Ev.now _))))), fun h => ⟨.inr (of_decide_eq_true h), by omega, by omega⟩⟩
  ·exact ⟨false, Ev.step (fun k => Pr26a.j1.eq_2 ..) (Ev.neg (by simp) (Ev.pos h1 (Ev.neg h2 (Ev.now _)))), fun h => by cases h⟩
 ·exact ⟨false, Ev.step (fun k => Pr26a.j1.eq_2 ..) (Ev.neg (by simp) (Ev.neg h1 (Ev.now _))), fun h => by cases h⟩
theorem light26_ev (n : Int) (ls : List ByteArray) (es : List Ed) : ∀ d i : Nat, i + d = 70 → ∃ b, Ev (fun k => Pr26a.l0 k (i : Int) n ls es) b ∧ (b = true → SmallL n ls es)
 | 0, i, h => by
  obtain ⟨b, e, hb⟩ := light26_end n ls es (i : Int)
  refine ⟨b, Ev.step (fun k => Pr26a.l0.eq_2 ..) ?_, hb⟩
  rw [decide_eq_false (show ¬ (i : Int) < 70 by omega)]
  simp only [ite_self]
  exact e
 | d + 1, i, h => by
  by_cases hl : (i : Int) < (ls.length : Int)
  ·by_cases hs : ((rdOf ByteArray.empty ls (i : Int)).size : Int) > 300
   ·refine ⟨false, Ev.step (fun k => Pr26a.l0.eq_2 ..) (Ev.pos hl ?_), fun h => by cases h⟩
    rw [decide_eq_true (show (i : Int) < 70 by omega)]
    exact Ev.step (fun k => Pr26a.j1.eq_2 ..) (Ev.pos rfl (Ev.pos (by omega) (Ev.pos hl (Ev.pos hs (Ev.now _)))))
   ·obtain ⟨b, e, hb⟩ := light26_ev n ls es d (i + 1) (by omega)
    refine ⟨b, Ev.step (fun k => Pr26a.l0.eq_2 ..) (Ev.pos hl ?_), hb⟩
    rw [decide_eq_true (show (i : Int) < 70 by omega)]
    refine Ev.step (fun k => Pr26a.j1.eq_2 ..) (Ev.pos rfl (Ev.pos (by omega) (Ev.pos hl (Ev.neg hs ?_))))
    rw [w1n (by omega)]
    exact e
  ·obtain ⟨b, e, hb⟩ := light26_end n ls es (i : Int)
   exact ⟨b, Ev.step (fun k => Pr26a.l0.eq_2 ..) (Ev.neg hl e), hb⟩
theorem light_ev (n : Int) (ls : List ByteArray) (es : List Ed) : ∃ b, Ev (fun k => Pr26a.f k n ls es) b ∧ (b = true → SmallL n ls es) := light26_ev n ls es 70 0 rfl
theorem awake26 : Ev (fun k => Pl26b.f k) true := Ev.of Pl26b.mono (k := 20) (by kernel_rfl)
end Go.Proofs.Ythaaockbapbooaa.H
