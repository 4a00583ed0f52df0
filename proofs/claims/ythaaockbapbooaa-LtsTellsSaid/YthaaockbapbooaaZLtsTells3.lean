/-
  Parts of the proof of LtsTells (joined by wip/tools/bundle.py), part 3: plain words and walks of the functions that the law reaches.
-/
import Derived.Test.YthaaockbapbooaaZLtsTells2
namespace Go.Proofs.Ythaaockbapbooaa.Pr
open Go.RowKit Go.Proofs.YthaaockbapbooaaW.PrintWords Go.Proofs.YthaaockbapbooaaW.PrintLast Go.Proofs.YthaaockbapbooaaW.PrintMore
attribute [local go_sem] max2_int min2_int max_two min_two max_three min_three max_four min_four
set_option linter.unusedVariables false
set_option linter.unusedSimpArgs false
attribute [local go_sem high] eqA51
def Pl26b.f (k : Nat)  : Option (Bool) := (Pxd.f 3 (([(⟨#[97]⟩ : ByteArray)] : List ByteArray)) (([(⟨1, 0, 1⟩ : S51), (⟨0, 0, 1⟩ : S51), (⟨0, 0, 1⟩ : S51)] : List (S51)))).bind fun bt140 => (if bt140.2.2.2 = 0 then (if (bt140.2.2.1.length : Int) = 2 then (if 0 < (bt140.2.2.1.length : Int) then (if (((rd_T51 bt140.2.2.1 0).f0) == 0 && (((rd_T51 bt140.2.2.1 0).f1) == 0 && (((rd_T51 bt140.2.2.1 0).f2) == 1))) = true then ((Pxa.f bt140.1 bt140.2.1 bt140.2.2.1 0).bind fun t150 => ((Pr01b.f k t150 (([0, 1] : List Int))).bind fun t156 => (if t156 = true then ((Pxf.f k bt140.1 bt140.2.1 bt140.2.2.1 1 0).bind fun t157 => ((Pr01b.f k t157 (([0, 1] : List Int))).bind fun t163 => (if t163 = true then ((Pxe.f k bt140.1 bt140.2.1 bt140.2.2.1 0 0).bind fun t164 => ((Pr01b.f k t164 (([1] : List Int))).bind fun t170 => (if t170 = true then ((Pxb.f k bt140.1 bt140.2.1 bt140.2.2.1).bind fun t171 => (if t171 = true then ((Pxg.f bt140.1 bt140.2.1 bt140.2.2.1 1).bind fun t172 => (if (t172.length : Int) = 1 then ((Pxc.f 0 ([] : List ByteArray) ([] : List (S51))).bind fun t175 => (some (t175 == 1))) else (some false))) else (some false))) else (some false)))) else (some false)))) else (some false)))) else (some false)) else (none)) else (some false)) else (some false))
theorem Pl26b.mono : ∀ k, LeO (Pl26b.f k ) (Pl26b.f (k + 1) ) := by
 intro  k
 unfold Pl26b.f
 repeat' first
   | (with_reducible exact Pxf.mono _ _ _ _ _ _)
   | (with_reducible exact Pxb.mono _ _ _ _)
   | (with_reducible exact Pxe.mono _ _ _ _ _ _)
   | (with_reducible exact Pr01b.mono _ _ _)
   | (with_reducible exact LeO.refl _)
   | (with_reducible exact LeO.none _)
   | (with_reducible refine LeO.ite ?_ ?_)
   | (with_reducible refine LeO.bind ?_ (fun _ => ?_))
   | exact Pxf.mono _ _ _ _ _ _
   | exact Pxb.mono _ _ _ _
   | exact Pxe.mono _ _ _ _ _ _
   | exact Pr01b.mono _ _ _
   | exact LeO.none _
   | refine LeO.ite ?_ ?_
   | refine LeO.bind ?_ (fun _ => ?_)
set_option maxHeartbeats 8000000 in
set_option maxRecDepth 100000 in
theorem Pl26b.calls (k : Nat)  (r : Bool) (w : World) (h : Pl26b.f k  = some r) (hr_ : Aside0 (r = true)) :
  Calls Try.prog 24 #[] w fun e w' => e = .returned (.bool r) ∧ Below w.heap.size w w' := by
 have s4 := Try.underlying51
 have q7 := Try.underlying25
 have HB := Aside0.mk (Below.refl w.heap.size w)
 have H : ((Pxd.f 3 (([(⟨#[97]⟩ : ByteArray)] : List ByteArray)) (([(⟨1, 0, 1⟩ : S51), (⟨0, 0, 1⟩ : S51), (⟨0, 0, 1⟩ : S51)] : List (S51)))).bind fun a2 => (if a2.2.2.2 = 0 then (if (a2.2.2.1.length : Int) = 2 then (if 0 < (a2.2.2.1.length : Int) then (if (((rd_T51 a2.2.2.1 0).f0) == 0 && (((rd_T51 a2.2.2.1 0).f1) == 0 && (((rd_T51 a2.2.2.1 0).f2) == 1))) = true then ((Pxa.f a2.1 a2.2.1 a2.2.2.1 0).bind fun g1 => ((Pr01b.f k g1 (([0, 1] : List Int))).bind fun f9 => (if f9 = true then ((Pxf.f k a2.1 a2.2.1 a2.2.2.1 1 0).bind fun e3 => ((Pr01b.f k e3 (([0, 1] : List Int))).bind fun d8 => (if d8 = true then ((Pxe.f k a2.1 a2.2.1 a2.2.2.1 0 0).bind fun d0 => ((Pr01b.f k d0 (([1] : List Int))).bind fun b7 => (if b7 = true then ((Pxb.f k a2.1 a2.2.1 a2.2.2.1).bind fun b4 => (if b4 = true then ((Pxg.f a2.1 a2.2.1 a2.2.2.1 1).bind fun b0 => (if (b0.length : Int) = 1 then ((Pxc.f 0 ([] : List ByteArray) ([] : List (S51))).bind fun b2 => (some (b2 == 1))) else (some false))) else (some false))) else (some false)))) else (some false)))) else (some false)))) else (some false)) else (none)) else (some false)) else (some false))) = some r := h
 clear h
 obtain ⟨h5, h1⟩ : ∃ y_ : List ByteArray, y_ = (([(⟨#[97]⟩ : ByteArray)] : List ByteArray)) := ⟨_, rfl⟩
 replace H : ((Pxd.f 3 h5 (([(⟨1, 0, 1⟩ : S51), (⟨0, 0, 1⟩ : S51), (⟨0, 0, 1⟩ : S51)] : List (S51)))).bind fun a2 => (if a2.2.2.2 = 0 then (if (a2.2.2.1.length : Int) = 2 then (if 0 < (a2.2.2.1.length : Int) then (if (((rd_T51 a2.2.2.1 0).f0) == 0 && (((rd_T51 a2.2.2.1 0).f1) == 0 && (((rd_T51 a2.2.2.1 0).f2) == 1))) = true then ((Pxa.f a2.1 a2.2.1 a2.2.2.1 0).bind fun g1 => ((Pr01b.f k g1 (([0, 1] : List Int))).bind fun f9 => (if f9 = true then ((Pxf.f k a2.1 a2.2.1 a2.2.2.1 1 0).bind fun e3 => ((Pr01b.f k e3 (([0, 1] : List Int))).bind fun d8 => (if d8 = true then ((Pxe.f k a2.1 a2.2.1 a2.2.2.1 0 0).bind fun d0 => ((Pr01b.f k d0 (([1] : List Int))).bind fun b7 => (if b7 = true then ((Pxb.f k a2.1 a2.2.1 a2.2.2.1).bind fun b4 => (if b4 = true then ((Pxg.f a2.1 a2.2.1 a2.2.2.1 1).bind fun b0 => (if (b0.length : Int) = 1 then ((Pxc.f 0 ([] : List ByteArray) ([] : List (S51))).bind fun b2 => (some (b2 == 1))) else (some false))) else (some false))) else (some false)))) else (some false)))) else (some false)))) else (some false)) else (none)) else (some false)) else (some false))) = some r := by first | (rw [h1]; with_reducible exact H) | (have f7 := (Option.bind_some _ _).symm.trans H; rw [h1]; with_reducible exact f7) | (have f7 := (Option.bind_some _ _).symm.trans H; with_reducible exact f7) | with_reducible exact H | (rw [h1]; exact H) | exact H
 have i5 := Aside0.mk h1
 clear h1
 obtain ⟨h7, g9⟩ : ∃ y_ : List (S51), y_ = (([(⟨1, 0, 1⟩ : S51), (⟨0, 0, 1⟩ : S51), (⟨0, 0, 1⟩ : S51)] : List (S51))) := ⟨_, rfl⟩
 replace H : ((Pxd.f 3 h5 h7).bind fun a2 => (if a2.2.2.2 = 0 then (if (a2.2.2.1.length : Int) = 2 then (if 0 < (a2.2.2.1.length : Int) then (if (((rd_T51 a2.2.2.1 0).f0) == 0 && (((rd_T51 a2.2.2.1 0).f1) == 0 && (((rd_T51 a2.2.2.1 0).f2) == 1))) = true then ((Pxa.f a2.1 a2.2.1 a2.2.2.1 0).bind fun g1 => ((Pr01b.f k g1 (([0, 1] : List Int))).bind fun f9 => (if f9 = true then ((Pxf.f k a2.1 a2.2.1 a2.2.2.1 1 0).bind fun e3 => ((Pr01b.f k e3 (([0, 1] : List Int))).bind fun d8 => (if d8 = true then ((Pxe.f k a2.1 a2.2.1 a2.2.2.1 0 0).bind fun d0 => ((Pr01b.f k d0 (([1] : List Int))).bind fun b7 => (if b7 = true then ((Pxb.f k a2.1 a2.2.1 a2.2.2.1).bind fun b4 => (if b4 = true then ((Pxg.f a2.1 a2.2.1 a2.2.2.1 1).bind fun b0 => (if (b0.length : Int) = 1 then ((Pxc.f 0 ([] : List ByteArray) ([] : List (S51))).bind fun b2 => (some (b2 == 1))) else (some false))) else (some false))) else (some false)))) else (some false)))) else (some false)))) else (some false)) else (none)) else (some false)) else (some false))) = some r := by first | (rw [g9]; with_reducible exact H) | (have f7 := (Option.bind_some _ _).symm.trans H; rw [g9]; with_reducible exact f7) | (have f7 := (Option.bind_some _ _).symm.trans H; with_reducible exact f7) | with_reducible exact H | (rw [g9]; exact H) | exact H
 have i1 := Aside0.mk g9
 clear g9
 replace H := Option.bind_eq_some_iff.mp H
 obtain ⟨⟨a3, a4, a0, g7⟩, i6, H⟩ := H
 replace H : (if g7 = 0 then (if (a0.length : Int) = 2 then (if 0 < (a0.length : Int) then (if (((rd_T51 a0 0).f0) == 0 && (((rd_T51 a0 0).f1) == 0 && (((rd_T51 a0 0).f2) == 1))) = true then ((Pxa.f a3 a4 a0 0).bind fun g1 => ((Pr01b.f k g1 (([0, 1] : List Int))).bind fun f9 => (if f9 = true then ((Pxf.f k a3 a4 a0 1 0).bind fun e3 => ((Pr01b.f k e3 (([0, 1] : List Int))).bind fun d8 => (if d8 = true then ((Pxe.f k a3 a4 a0 0 0).bind fun d0 => ((Pr01b.f k d0 (([1] : List Int))).bind fun b7 => (if b7 = true then ((Pxb.f k a3 a4 a0).bind fun b4 => (if b4 = true then ((Pxg.f a3 a4 a0 1).bind fun b0 => (if (b0.length : Int) = 1 then ((Pxc.f 0 ([] : List ByteArray) ([] : List (S51))).bind fun b2 => (some (b2 == 1))) else (some false))) else (some false))) else (some false)))) else (some false)))) else (some false)))) else (some false)) else (none)) else (some false)) else (some false)) = some r := H
 have A1 := Aside0.mk i6
 clear i6
 by_cases c2 : g7 = 0
 ·rw [if_pos c2] at H
  have c2b0 : (g7 == 0) = true := beq_iff_eq.mpr c2
  have c2b1 : (g7 != 0) = false := bne_eq_false_iff_eq.mpr c2
  clear c2
  by_cases c3 : (a0.length : Int) = 2
  ·rw [if_pos c3] at H
   have c3b0 : ((a0.length : Int) == 2) = true := beq_iff_eq.mpr c3
   have c3b1 : ((a0.length : Int) != 2) = false := bne_eq_false_iff_eq.mpr c3
   clear c3
   by_cases c4 : 0 < (a0.length : Int)
   ·rw [if_pos c4] at H
    have c4b0 : decide (0 < (a0.length : Int)) = true := decide_eq_true c4
    have c4b1 : decide (0 < a0.length) = true := decide_eq_true (by omega)
    clear c4
    by_cases c5 : (((rd_T51 a0 0).f0) == 0 && (((rd_T51 a0 0).f1) == 0 && (((rd_T51 a0 0).f2) == 1))) = true
    ·rw [if_pos c5] at H
     have c5b0 : (((rd_T51 a0 0).f0) == 0 && (((rd_T51 a0 0).f1) == 0 && (((rd_T51 a0 0).f2) == 1))) = true := c5
     (try (have c5b1 : decide (((rd_T51 a0 0).f0) = 0 && (((rd_T51 a0 0).f1) == 0 && (((rd_T51 a0 0).f2) == 1))) = true := by simpa using c5))
     (try (have c5b2 : (((rd_T51 a0 0).f0) == 0 && (((rd_T51 a0 0).f1) == 0 && (((rd_T51 a0 0).f2) == 1))) = true := by simpa using c5))
     clear c5
     replace H := Option.bind_eq_some_iff.mp H
     obtain ⟨g1, k6, H⟩ := H
     replace H : ((Pr01b.f k g1 (([0, 1] : List Int))).bind fun f9 => (if f9 = true then ((Pxf.f k a3 a4 a0 1 0).bind fun e3 => ((Pr01b.f k e3 (([0, 1] : List Int))).bind fun d8 => (if d8 = true then ((Pxe.f k a3 a4 a0 0 0).bind fun d0 => ((Pr01b.f k d0 (([1] : List Int))).bind fun b7 => (if b7 = true then ((Pxb.f k a3 a4 a0).bind fun b4 => (if b4 = true then ((Pxg.f a3 a4 a0 1).bind fun b0 => (if (b0.length : Int) = 1 then ((Pxc.f 0 ([] : List ByteArray) ([] : List (S51))).bind fun b2 => (some (b2 == 1))) else (some false))) else (some false))) else (some false)))) else (some false)))) else (some false))) = some r := H
     have A6 := Aside0.mk k6
     clear k6
     obtain ⟨k4, g8⟩ : ∃ y_ : List Int, y_ = (([0, 1] : List Int)) := ⟨_, rfl⟩
     replace H : ((Pr01b.f k g1 k4).bind fun f9 => (if f9 = true then ((Pxf.f k a3 a4 a0 1 0).bind fun e3 => ((Pr01b.f k e3 (([0, 1] : List Int))).bind fun d8 => (if d8 = true then ((Pxe.f k a3 a4 a0 0 0).bind fun d0 => ((Pr01b.f k d0 (([1] : List Int))).bind fun b7 => (if b7 = true then ((Pxb.f k a3 a4 a0).bind fun b4 => (if b4 = true then ((Pxg.f a3 a4 a0 1).bind fun b0 => (if (b0.length : Int) = 1 then ((Pxc.f 0 ([] : List ByteArray) ([] : List (S51))).bind fun b2 => (some (b2 == 1))) else (some false))) else (some false))) else (some false)))) else (some false)))) else (some false))) = some r := by first | (rw [g8]; with_reducible exact H) | (have f7 := (Option.bind_some _ _).symm.trans H; rw [g8]; with_reducible exact f7) | (have f7 := (Option.bind_some _ _).symm.trans H; with_reducible exact f7) | with_reducible exact H | (rw [g8]; exact H) | exact H
     have i2 := Aside0.mk g8
     clear g8
     replace H := Option.bind_eq_some_iff.mp H
     obtain ⟨f9, k5, H⟩ := H
     replace H : (if f9 = true then ((Pxf.f k a3 a4 a0 1 0).bind fun e3 => ((Pr01b.f k e3 (([0, 1] : List Int))).bind fun d8 => (if d8 = true then ((Pxe.f k a3 a4 a0 0 0).bind fun d0 => ((Pr01b.f k d0 (([1] : List Int))).bind fun b7 => (if b7 = true then ((Pxb.f k a3 a4 a0).bind fun b4 => (if b4 = true then ((Pxg.f a3 a4 a0 1).bind fun b0 => (if (b0.length : Int) = 1 then ((Pxc.f 0 ([] : List ByteArray) ([] : List (S51))).bind fun b2 => (some (b2 == 1))) else (some false))) else (some false))) else (some false)))) else (some false)))) else (some false)) = some r := H
     have A7 := Aside0.mk k5
     clear k5
     by_cases c8 : f9 = true
     ·subst c8
      have H1 : ((Pxf.f k a3 a4 a0 1 0).bind fun e3 => ((Pr01b.f k e3 (([0, 1] : List Int))).bind fun d8 => (if d8 = true then ((Pxe.f k a3 a4 a0 0 0).bind fun d0 => ((Pr01b.f k d0 (([1] : List Int))).bind fun b7 => (if b7 = true then ((Pxb.f k a3 a4 a0).bind fun b4 => (if b4 = true then ((Pxg.f a3 a4 a0 1).bind fun b0 => (if (b0.length : Int) = 1 then ((Pxc.f 0 ([] : List ByteArray) ([] : List (S51))).bind fun b2 => (some (b2 == 1))) else (some false))) else (some false))) else (some false)))) else (some false)))) = some r := by rw [if_pos rfl] at H; exact H
      clear H
      have H := H1
      clear H1
      replace H := Option.bind_eq_some_iff.mp H
      obtain ⟨e3, k7, H⟩ := H
      replace H : ((Pr01b.f k e3 (([0, 1] : List Int))).bind fun d8 => (if d8 = true then ((Pxe.f k a3 a4 a0 0 0).bind fun d0 => ((Pr01b.f k d0 (([1] : List Int))).bind fun b7 => (if b7 = true then ((Pxb.f k a3 a4 a0).bind fun b4 => (if b4 = true then ((Pxg.f a3 a4 a0 1).bind fun b0 => (if (b0.length : Int) = 1 then ((Pxc.f 0 ([] : List ByteArray) ([] : List (S51))).bind fun b2 => (some (b2 == 1))) else (some false))) else (some false))) else (some false)))) else (some false))) = some r := H
      have A9 := Aside0.mk k7
      clear k7
      obtain ⟨i9, h2⟩ : ∃ y_ : List Int, y_ = (([0, 1] : List Int)) := ⟨_, rfl⟩
      replace H : ((Pr01b.f k e3 i9).bind fun d8 => (if d8 = true then ((Pxe.f k a3 a4 a0 0 0).bind fun d0 => ((Pr01b.f k d0 (([1] : List Int))).bind fun b7 => (if b7 = true then ((Pxb.f k a3 a4 a0).bind fun b4 => (if b4 = true then ((Pxg.f a3 a4 a0 1).bind fun b0 => (if (b0.length : Int) = 1 then ((Pxc.f 0 ([] : List ByteArray) ([] : List (S51))).bind fun b2 => (some (b2 == 1))) else (some false))) else (some false))) else (some false)))) else (some false))) = some r := by first | (rw [h2]; with_reducible exact H) | (have f7 := (Option.bind_some _ _).symm.trans H; rw [h2]; with_reducible exact f7) | (have f7 := (Option.bind_some _ _).symm.trans H; with_reducible exact f7) | with_reducible exact H | (rw [h2]; exact H) | exact H
      have i0 := Aside0.mk h2
      clear h2
      replace H := Option.bind_eq_some_iff.mp H
      obtain ⟨d8, j9, H⟩ := H
      replace H : (if d8 = true then ((Pxe.f k a3 a4 a0 0 0).bind fun d0 => ((Pr01b.f k d0 (([1] : List Int))).bind fun b7 => (if b7 = true then ((Pxb.f k a3 a4 a0).bind fun b4 => (if b4 = true then ((Pxg.f a3 a4 a0 1).bind fun b0 => (if (b0.length : Int) = 1 then ((Pxc.f 0 ([] : List ByteArray) ([] : List (S51))).bind fun b2 => (some (b2 == 1))) else (some false))) else (some false))) else (some false)))) else (some false)) = some r := H
      have i6 := Aside0.mk j9
      clear j9
      by_cases i3 : d8 = true
      ·subst i3
       have H1 : ((Pxe.f k a3 a4 a0 0 0).bind fun d0 => ((Pr01b.f k d0 (([1] : List Int))).bind fun b7 => (if b7 = true then ((Pxb.f k a3 a4 a0).bind fun b4 => (if b4 = true then ((Pxg.f a3 a4 a0 1).bind fun b0 => (if (b0.length : Int) = 1 then ((Pxc.f 0 ([] : List ByteArray) ([] : List (S51))).bind fun b2 => (some (b2 == 1))) else (some false))) else (some false))) else (some false)))) = some r := by rw [if_pos rfl] at H; exact H
       clear H
       have H := H1
       clear H1
       replace H := Option.bind_eq_some_iff.mp H
       obtain ⟨d0, j8, H⟩ := H
       replace H : ((Pr01b.f k d0 (([1] : List Int))).bind fun b7 => (if b7 = true then ((Pxb.f k a3 a4 a0).bind fun b4 => (if b4 = true then ((Pxg.f a3 a4 a0 1).bind fun b0 => (if (b0.length : Int) = 1 then ((Pxc.f 0 ([] : List ByteArray) ([] : List (S51))).bind fun b2 => (some (b2 == 1))) else (some false))) else (some false))) else (some false))) = some r := H
       have p7 := Aside0.mk j8
       clear j8
       obtain ⟨j4, h0⟩ : ∃ y_ : List Int, y_ = (([1] : List Int)) := ⟨_, rfl⟩
       replace H : ((Pr01b.f k d0 j4).bind fun b7 => (if b7 = true then ((Pxb.f k a3 a4 a0).bind fun b4 => (if b4 = true then ((Pxg.f a3 a4 a0 1).bind fun b0 => (if (b0.length : Int) = 1 then ((Pxc.f 0 ([] : List ByteArray) ([] : List (S51))).bind fun b2 => (some (b2 == 1))) else (some false))) else (some false))) else (some false))) = some r := by first | (rw [h0]; with_reducible exact H) | (have f7 := (Option.bind_some _ _).symm.trans H; rw [h0]; with_reducible exact f7) | (have f7 := (Option.bind_some _ _).symm.trans H; with_reducible exact f7) | with_reducible exact H | (rw [h0]; exact H) | exact H
       have i4 := Aside0.mk h0
       clear h0
       replace H := Option.bind_eq_some_iff.mp H
       obtain ⟨b7, j6, H⟩ := H
       replace H : (if b7 = true then ((Pxb.f k a3 a4 a0).bind fun b4 => (if b4 = true then ((Pxg.f a3 a4 a0 1).bind fun b0 => (if (b0.length : Int) = 1 then ((Pxc.f 0 ([] : List ByteArray) ([] : List (S51))).bind fun b2 => (some (b2 == 1))) else (some false))) else (some false))) else (some false)) = some r := H
       have p3 := Aside0.mk j6
       clear j6
       by_cases i7 : b7 = true
       ·subst i7
        have H1 : ((Pxb.f k a3 a4 a0).bind fun b4 => (if b4 = true then ((Pxg.f a3 a4 a0 1).bind fun b0 => (if (b0.length : Int) = 1 then ((Pxc.f 0 ([] : List ByteArray) ([] : List (S51))).bind fun b2 => (some (b2 == 1))) else (some false))) else (some false))) = some r := by rw [if_pos rfl] at H; exact H
        clear H
        have H := H1
        clear H1
        replace H := Option.bind_eq_some_iff.mp H
        obtain ⟨b4, j7, H⟩ := H
        replace H : (if b4 = true then ((Pxg.f a3 a4 a0 1).bind fun b0 => (if (b0.length : Int) = 1 then ((Pxc.f 0 ([] : List ByteArray) ([] : List (S51))).bind fun b2 => (some (b2 == 1))) else (some false))) else (some false)) = some r := H
        have p4 := Aside0.mk j7
        clear j7
        by_cases i8 : b4 = true
        ·subst i8
         have H1 : ((Pxg.f a3 a4 a0 1).bind fun b0 => (if (b0.length : Int) = 1 then ((Pxc.f 0 ([] : List ByteArray) ([] : List (S51))).bind fun b2 => (some (b2 == 1))) else (some false))) = some r := by rw [if_pos rfl] at H; exact H
         clear H
         have H := H1
         clear H1
         replace H := Option.bind_eq_some_iff.mp H
         obtain ⟨b0, j2, H⟩ := H
         replace H : (if (b0.length : Int) = 1 then ((Pxc.f 0 ([] : List ByteArray) ([] : List (S51))).bind fun b2 => (some (b2 == 1))) else (some false)) = some r := H
         have p6 := Aside0.mk j2
         clear j2
         by_cases h4 : (b0.length : Int) = 1
         ·rw [if_pos h4] at H
          have c18b0 : ((b0.length : Int) == 1) = true := beq_iff_eq.mpr h4
          have c18b1 : ((b0.length : Int) != 1) = false := bne_eq_false_iff_eq.mpr h4
          clear h4
          replace H := Option.bind_eq_some_iff.mp H
          obtain ⟨b2, k3, H⟩ := H
          replace H : (some (b2 == 1)) = some r := H
          have p5 := Aside0.mk k3
          clear k3
          obtain rfl := Option.some.inj H
          go_enter Try.func24, Try.ntmps24
          go_wp2_with (first | ((with_reducible refine gate_dst (N := 4) rfl ?_); (try (refine gate_guard (by rfl) ?_; dsimp only)); refine Kd.R_lit Kd.string _ 9 ?hg (N := 4) ?hd (xs := ([(⟨#[97]⟩ : ByteArray)] : List ByteArray)) (inner := [.string (⟨#[97]⟩ : ByteArray)]) (ok := fun _ => True) (okp := fun _ => True) ?hr ?hp (fun _ hk => hk) trivial (Below.refl _ _) (Nat.le_refl _) (by simp) ?_; (case hd => rfl); (case hg => rfl); (case hr => first | (go_simp; done) | (go_simp; rfl)); (case hp => exact (Reps.one (show Kd.M Kd.string _ _ _ (⟨#[97]⟩ : ByteArray) [.string (⟨#[97]⟩ : ByteArray)] from rfl) (Reps.none _ _))); intro q8 w20 ho21 hb hg_ hnew_; clear hg_ hnew_; (first | rw [← i5.out] at ho21 | (simp only [Int.reduceToNat] at ho21; rw [← i5.out] at ho21)); have b8 := Aside0.mk (Kd.R_lower ho21 (below_size (by repeat (first | (with_reducible first | exact HB.out | apply below_alloc | apply pw_below_drewN | apply below_drew1) | exact HB.out)))); have b9 := Aside0.mk (below_step (by repeat (first | (with_reducible first | exact HB.out | apply below_alloc | apply pw_below_drewN | apply below_drew1) | exact HB.out)) hb); clear HB; have a8 := b8; have HB := b9; clear b8 b9; clear hb ho21) | ((with_reducible refine gate_dst (N := 8) rfl ?_); (try (refine gate_guard (by rfl) ?_; dsimp only)); refine Kd.R_lit k51 _ 51 ?hg (N := 8) ?hd (xs := ([(⟨1, 0, 1⟩ : S51), (⟨0, 0, 1⟩ : S51), (⟨0, 0, 1⟩ : S51)] : List (S51))) (inner := [.int .i64 1, .int .i64 0, .int .i64 1, .int .i64 0, .int .i64 0, .int .i64 1, .int .i64 0, .int .i64 0, .int .i64 1]) (ok := fun _ => True) (okp := fun _ => True) ?hr ?hp (fun _ hk => hk) trivial (Below.refl _ _) (Nat.le_refl _) (by simp) ?_; (case hd => rfl); (case hg => rfl); (case hr => first | (go_simp; done) | (go_simp; rfl)); (case hp => exact (Reps.c3 (show Kd.M k51 _ _ _ (⟨1, 0, 1⟩ : S51) [.int .i64 1, .int .i64 0, .int .i64 1] from (k51_mkM _ _ _ (⟨1, 0, 1⟩ : S51) )) (Reps.c3 (show Kd.M k51 _ _ _ (⟨0, 0, 1⟩ : S51) [.int .i64 0, .int .i64 0, .int .i64 1] from (k51_mkM _ _ _ (⟨0, 0, 1⟩ : S51) )) (Reps.c3 (show Kd.M k51 _ _ _ (⟨0, 0, 1⟩ : S51) [.int .i64 0, .int .i64 0, .int .i64 1] from (k51_mkM _ _ _ (⟨0, 0, 1⟩ : S51) )) (Reps.none _ _))))); intro r1 w22 ho23 hb hg_ hnew_; clear hg_ hnew_; (first | rw [← i1.out] at ho23 | (simp only [Int.reduceToNat] at ho23; rw [← i1.out] at ho23)); have b8 := Aside0.mk (Kd.R_below (by (with_reducible repeat (first | apply Kd.R_alloc | apply Kd.R_drewN | apply Kd.R_drew)); exact a8.out) hb); have b9 := Aside0.mk (Kd.R_lower ho23 (below_size (by repeat (first | (with_reducible first | exact HB.out | apply below_alloc | apply pw_below_drewN | apply below_drew1) | exact HB.out)))); have d1 := Aside0.mk (below_step (by repeat (first | (with_reducible first | exact HB.out | apply below_alloc | apply pw_below_drewN | apply below_drew1) | exact HB.out)) hb); clear a8; clear HB; have a8 := b8; have a9 := b9; have HB := d1; clear b8 b9 d1; clear hb ho23; obtain ⟨k0, j3, l6⟩ := Kd.R_slice a9.out; subst l6; obtain ⟨k1, j5, l3⟩ := Kd.R_slice a8.out; subst l3) | ((with_reducible refine gate_callee (f := 25) rfl ?_); refine goesL_ (some 10) rfl rfl Try.func25 (by kernel_rfl) rfl #[.agg #[.int .i64 3, .slice k1 h5.length j5, .slice k0 h7.length j3]] rfl (by (try simp only [List.map_toArray, List.map_cons, List.map_nil]); first | done | rfl | (simp only [List.length_drop, List.length_take]; rfl)) ?_; (with_reducible refine (Pxd.calls 3 _ _ h5 _ _ h7 a3 a4 a0 g7 _ ?g3 ?g5 ?g4 ?g2 A1.out).mono ?_); (case g3 => repeat (first | exact (Kd.R_reads' a8.out).2.2 | (with_reducible refine Kd.C_alloc ?_ _) | (with_reducible refine Kd.C_drewN ?_ _) | (with_reducible refine Kd.C_drew ?_))); (case g5 => exact (Kd.R_reads' a8.out).2.1); (case g4 => repeat (first | exact (Kd.R_reads' a9.out).2.2 | (with_reducible refine Kd.C_alloc ?_ _) | (with_reducible refine Kd.C_drewN ?_ _) | (with_reducible refine Kd.C_drew ?_))); (case g2 => exact (Kd.R_reads' a9.out).2.1); rintro e w26 ⟨r5, r9, rfl, e8, k2, hb⟩; refine ⟨_, rfl, ?_⟩; have b8 := Aside0.mk (Kd.R_elder' (by (with_reducible repeat (first | apply Kd.R_alloc | apply Kd.R_drewN | apply Kd.R_drew)); exact a8.out) (Kd.R_base e8) hb); have b9 := Aside0.mk (Kd.R_elder' (by (with_reducible repeat (first | apply Kd.R_alloc | apply Kd.R_drewN | apply Kd.R_drew)); exact a9.out) (Kd.R_base k2) hb); have d1 := Aside0.mk (Kd.R_lower (Kd.R_new' e8 (Kd.R_lt (by (with_reducible repeat (first | apply Kd.R_alloc | apply Kd.R_drewN | apply Kd.R_drew)); exact a8.out))) (below_size (by repeat (first | (with_reducible first | exact HB.out | apply below_alloc | apply pw_below_drewN | apply below_drew1) | exact HB.out)))); have d4 := Aside0.mk (Kd.R_lower (Kd.R_new' k2 (Kd.R_lt (by (with_reducible repeat (first | apply Kd.R_alloc | apply Kd.R_drewN | apply Kd.R_drew)); exact a9.out))) (below_size (by repeat (first | (with_reducible first | exact HB.out | apply below_alloc | apply pw_below_drewN | apply below_drew1) | exact HB.out)))); have d5 := Aside0.mk (below_step (by repeat (first | (with_reducible first | exact HB.out | apply below_alloc | apply pw_below_drewN | apply below_drew1) | exact HB.out)) hb); clear a8; clear a9; clear HB; have a8 := b8; have a9 := b9; have a7 := d1; have a6 := d4; have HB := d5; clear b8 b9 d1 d4 d5; (try clear hb); (try clear hb2); (try clear hk); (try clear hi); (try clear e8); (try clear k2)) | ((with_reducible refine gate_dst (N := 1) rfl ?_); (try (refine gate_guard (by rfl) ?_; dsimp only)); refine box_event ?hg (N := 1) ?hd (cs := #[.int .i64 0, .slice none 0 0, .slice none 0 0]) (t := 25) ?hr ?_; (case hd => rfl); (case hg => rfl); (case hr => first | (go_simp; done) | (go_simp; rfl)); intro a5 hg w27 hbox hb; have b8 := Aside0.mk (Kd.R_below (by (with_reducible repeat (first | apply Kd.R_alloc | apply Kd.R_drewN | apply Kd.R_drew)); exact a8.out) hb); have b9 := Aside0.mk (Kd.R_below (by (with_reducible repeat (first | apply Kd.R_alloc | apply Kd.R_drewN | apply Kd.R_drew)); exact a9.out) hb); have d1 := Aside0.mk (Kd.R_below (by (with_reducible repeat (first | apply Kd.R_alloc | apply Kd.R_drewN | apply Kd.R_drew)); exact a7.out) hb); have d4 := Aside0.mk (Kd.R_below (by (with_reducible repeat (first | apply Kd.R_alloc | apply Kd.R_drewN | apply Kd.R_drew)); exact a6.out) hb); have d5 := Aside0.mk (below_step (by repeat (first | (with_reducible first | exact HB.out | apply below_alloc | apply pw_below_drewN | apply below_drew1) | exact HB.out)) hb); have e0 := Aside0.mk (hbox); have e1 := Aside0.mk ((by rw [hg]; exact (below_size (by repeat (first | (with_reducible first | exact HB.out | apply below_alloc | apply pw_below_drewN | apply below_drew1) | exact HB.out))) : w.heap.size ≤ a5)); have e4 := Aside0.mk ((by rw [hg]; exact (below_size (by repeat (first | (with_reducible first | exact HB.out | apply below_alloc | apply pw_below_drewN | apply below_drew1) | exact HB.out))) : w.heap.size ≤ a5)); clear a8; clear a9; clear a7; clear a6; clear HB; have a8 := b8; have a9 := b9; have a7 := d1; have a6 := d4; have HB := d5; have a1 := e0; have p8 := e1; have d9 := e4; clear b8 b9 d1 d4 d5 e0 e1 e4; clear hb hbox hg; have n3 : w27.cell? ⟨a5, 0, none⟩ = some (.int .i64 0) := (blk_cell a1.out 0).trans rfl; have o8 : w27.cell? ⟨a5, 1, none⟩ = some (.slice none 0 0) := (blk_cell a1.out 1).trans rfl; have o4 : w27.cell? ⟨a5, 2, none⟩ = some (.slice none 0 0) := (blk_cell a1.out 2).trans rfl; have o1 := blk_frozen a1.out 0; have n9 := blk_frozen a1.out 1; have o7 := blk_frozen a1.out 2; obtain ⟨d7, d3, m2⟩ := Kd.R_slice a7.out; subst m2; obtain ⟨q2, d6, l4⟩ := Kd.R_slice a6.out; subst l4; have h9 : 0 ≤ (0 : Int) := (by omega); have h8 : 0 < (a0.length : Int) := of_decide_eq_true (by first | (with_reducible assumption) | assumption); obtain ⟨b5, m0, f3, f4, e9⟩ := at_T51 (Kd.R_reads' a6.out).2.2 0 h9 h8; cases m0; have p9 : (0 < a0.length) = True := eq_true (by omega); (try rw [show ((0 : Int)).toNat = 0 from rfl] at f3); (try rw [show 0 * 3 = 0 from rfl] at f3); (try rw [Addr.add_zero'] at f3); (try rw [show ((0 : Int)).toNat = 0 from rfl] at f4); (try rw [show 0 * 3 = 0 from rfl] at f4); (try rw [Addr.add_zero'] at f4); (try rw [show ((0 : Int)).toNat = 0 from rfl] at e9); (try rw [show 0 * 3 = 0 from rfl] at e9); (try rw [Addr.add_zero'] at e9); have e5 : b5.block ≠ a5 := Kd.own_blk (Kd.R_ne a6.out a1.out (by decide)); have e6 : b5.block ≠ a5 := Kd.own_blk (Kd.R_ne a6.out a1.out (by decide)); have e7 : b5.block ≠ a5 := Kd.own_blk (Kd.R_ne a6.out a1.out (by decide)); replace f3 := (cell_far (p := ⟨a5, 0, none⟩) (by first | (rw [add_block]; exact e5) | (show (Addr.add _ _).block ≠ _; rw [add_block]; exact e5) | exact e5) (.int .i64 a3)).trans f3; replace f4 := (cell_far (p := ⟨a5, 0, none⟩) (by first | (rw [add_block]; exact e5) | (show (Addr.add _ _).block ≠ _; rw [add_block]; exact e5) | exact e5) (.int .i64 a3)).trans f4; replace e9 := (cell_far (p := ⟨a5, 0, none⟩) (by first | (rw [add_block]; exact e5) | (show (Addr.add _ _).block ≠ _; rw [add_block]; exact e5) | exact e5) (.int .i64 a3)).trans e9; replace f3 := (cell_far (p := ⟨a5, 1, none⟩) (by first | (rw [add_block]; exact e6) | (show (Addr.add _ _).block ≠ _; rw [add_block]; exact e6) | exact e6) (.slice d7 a4.length d3)).trans f3; replace f4 := (cell_far (p := ⟨a5, 1, none⟩) (by first | (rw [add_block]; exact e6) | (show (Addr.add _ _).block ≠ _; rw [add_block]; exact e6) | exact e6) (.slice d7 a4.length d3)).trans f4; replace e9 := (cell_far (p := ⟨a5, 1, none⟩) (by first | (rw [add_block]; exact e6) | (show (Addr.add _ _).block ≠ _; rw [add_block]; exact e6) | exact e6) (.slice d7 a4.length d3)).trans e9; replace f3 := (cell_far (p := ⟨a5, 2, none⟩) (by first | (rw [add_block]; exact e7) | (show (Addr.add _ _).block ≠ _; rw [add_block]; exact e7) | exact e7) (.slice (some b5) a0.length d6)).trans f3; replace f4 := (cell_far (p := ⟨a5, 2, none⟩) (by first | (rw [add_block]; exact e7) | (show (Addr.add _ _).block ≠ _; rw [add_block]; exact e7) | exact e7) (.slice (some b5) a0.length d6)).trans f4; replace e9 := (cell_far (p := ⟨a5, 2, none⟩) (by first | (rw [add_block]; exact e7) | (show (Addr.add _ _).block ≠ _; rw [add_block]; exact e7) | exact e7) (.slice (some b5) a0.length d6)).trans e9; clear e5; clear e6; clear e7; replace h9 := eq_true h9; replace h8 := eq_true h8) | (go_at_call 34; (with_reducible refine (Pxa.calls a3 _ _ a4 _ _ a0 0 g1 _ ?g3 ?g5 ?g4 ?g2 A6.out).mono ?_); (case g3 => refine (Kd.R_reads' (e := 9) (base := w.heap.size) (ok := fun k_ => (True ∧ some k_ ≠ (.slice k1 h5.length j5 : Value).ownBlock)) (n := a4.length) (c := d3) ?_).2.2; exact (by (with_reducible repeat (first | apply Kd.R_alloc | apply Kd.R_drewN | apply Kd.R_drew)); exact (Kd.R_mono (Kd.R_far (p := ⟨a5, 2, none⟩) (Kd.R_far (p := ⟨a5, 1, none⟩) (Kd.R_far (p := ⟨a5, 0, none⟩) (Kd.R_types a7.out a1.out (by decide)) (fun _ hk => hk.2) (.int .i64 a3)) (fun _ hk => hk.2) (.slice d7 a4.length d3)) (fun _ hk => hk.2) (.slice (some b5) a0.length d6)) (fun _ h_ => h_.1)))); (case g5 => exact (Kd.R_reads' a7.out).2.1); (case g4 => refine (Kd.R_reads' (e := 51) (base := w.heap.size) (ok := fun k_ => (True ∧ some k_ ≠ (.slice k0 h7.length j3 : Value).ownBlock)) (n := a0.length) (c := d6) ?_).2.2; exact (by (with_reducible repeat (first | apply Kd.R_alloc | apply Kd.R_drewN | apply Kd.R_drew)); exact (Kd.R_mono (Kd.R_far (p := ⟨a5, 2, none⟩) (Kd.R_far (p := ⟨a5, 1, none⟩) (Kd.R_far (p := ⟨a5, 0, none⟩) (Kd.R_types a6.out a1.out (by decide)) (fun _ hk => hk.2) (.int .i64 a3)) (fun _ hk => hk.2) (.slice d7 a4.length d3)) (fun _ hk => hk.2) (.slice (some b5) a0.length d6)) (fun _ h_ => h_.1)))); (case g2 => exact (Kd.R_reads' a6.out).2.1); rintro e w31 ⟨s5, rfl, e8, hb⟩; have b8 := Aside0.mk (Kd.R_below (by (with_reducible repeat (first | apply Kd.R_alloc | apply Kd.R_drewN | apply Kd.R_drew)); exact (Kd.R_mono (Kd.R_far (p := ⟨a5, 2, none⟩) (Kd.R_far (p := ⟨a5, 1, none⟩) (Kd.R_far (p := ⟨a5, 0, none⟩) (Kd.R_types a8.out a1.out (by decide)) (fun _ hk => hk.2) (.int .i64 a3)) (fun _ hk => hk.2) (.slice d7 a4.length d3)) (fun _ hk => hk.2) (.slice (some b5) a0.length d6)) (fun _ h_ => h_.1))) hb); have b9 := Aside0.mk (Kd.R_below (by (with_reducible repeat (first | apply Kd.R_alloc | apply Kd.R_drewN | apply Kd.R_drew)); exact (Kd.R_mono (Kd.R_far (p := ⟨a5, 2, none⟩) (Kd.R_far (p := ⟨a5, 1, none⟩) (Kd.R_far (p := ⟨a5, 0, none⟩) (Kd.R_types a9.out a1.out (by decide)) (fun _ hk => hk.2) (.int .i64 a3)) (fun _ hk => hk.2) (.slice d7 a4.length d3)) (fun _ hk => hk.2) (.slice (some b5) a0.length d6)) (fun _ h_ => h_.1))) hb); have d1 := Aside0.mk (Kd.R_below (by (with_reducible repeat (first | apply Kd.R_alloc | apply Kd.R_drewN | apply Kd.R_drew)); exact (Kd.R_mono (Kd.R_far (p := ⟨a5, 2, none⟩) (Kd.R_far (p := ⟨a5, 1, none⟩) (Kd.R_far (p := ⟨a5, 0, none⟩) (Kd.R_types a7.out a1.out (by decide)) (fun _ hk => hk.2) (.int .i64 a3)) (fun _ hk => hk.2) (.slice d7 a4.length d3)) (fun _ hk => hk.2) (.slice (some b5) a0.length d6)) (fun _ h_ => h_.1))) hb); have d4 := Aside0.mk (Kd.R_below (by (with_reducible repeat (first | apply Kd.R_alloc | apply Kd.R_drewN | apply Kd.R_drew)); exact (Kd.R_mono (Kd.R_far (p := ⟨a5, 2, none⟩) (Kd.R_far (p := ⟨a5, 1, none⟩) (Kd.R_far (p := ⟨a5, 0, none⟩) (Kd.R_types a6.out a1.out (by decide)) (fun _ hk => hk.2) (.int .i64 a3)) (fun _ hk => hk.2) (.slice d7 a4.length d3)) (fun _ hk => hk.2) (.slice (some b5) a0.length d6)) (fun _ h_ => h_.1))) hb); have d5 := Aside0.mk (Kd.R_lower e8 (below_size (by repeat (first | (with_reducible first | exact HB.out | apply below_alloc | apply pw_below_drewN | apply below_drew1 | refine below_set ?_ d9.out) | exact HB.out)))); have e0 := Aside0.mk (blk_below (g := a5) (o := .cells #[.int .i64 a3, .slice d7 a4.length d3, .slice (some b5) a0.length d6] 25 (0, 0)) (by (with_reducible repeat (first | refine blk_drewN ?_ _ | refine blk_drew ?_ | refine blk_alloc ?_ _)); refine blk_put (cs := #[.int .i64 a3, .slice d7 a4.length d3, .slice none 0 0]) ?_ 2 _ rfl; (with_reducible repeat (first | refine blk_drewN ?_ _ | refine blk_drew ?_ | refine blk_alloc ?_ _)); refine blk_put (cs := #[.int .i64 a3, .slice none 0 0, .slice none 0 0]) ?_ 1 _ rfl; (with_reducible repeat (first | refine blk_drewN ?_ _ | refine blk_drew ?_ | refine blk_alloc ?_ _)); refine blk_put (cs := #[.int .i64 0, .slice none 0 0, .slice none 0 0]) ?_ 0 _ rfl; (with_reducible repeat (first | refine blk_drewN ?_ _ | refine blk_drew ?_ | refine blk_alloc ?_ _)); exact a1.out) hb); have e1 := Aside0.mk (below_step (by repeat (first | (with_reducible first | exact HB.out | apply below_alloc | apply pw_below_drewN | apply below_drew1 | refine below_set ?_ d9.out) | exact HB.out)) hb); clear a8; clear a9; clear a7; clear a6; clear a1; clear HB; have a8 := b8; have a9 := b9; have a7 := d1; have a6 := d4; have b1 := d5; have a1 := e0; have HB := e1; clear b8 b9 d1 d4 d5 e0 e1; (try clear hb); (try clear hb2); (try clear hk); (try clear hi); (try clear e8)) | ((with_reducible refine gate_dst (N := 32) rfl ?_); (try (refine gate_guard (by rfl) ?_; dsimp only)); refine Kd.R_lit (Kd.int .i64) _ 3 ?hg (N := 32) ?hd (xs := ([0, 1] : List Int)) (inner := [.int .i64 0, .int .i64 1]) (ok := fun _ => True) (okp := fun _ => True) ?hr ?hp (fun _ hk => hk) trivial (Below.refl _ _) (Nat.le_refl _) (by simp) ?_; (case hd => rfl); (case hg => rfl); (case hr => first | (go_simp; done) | (go_simp; rfl)); (case hp => exact (Reps.one (show Kd.M (Kd.int .i64) _ _ _ 0 [.int .i64 0] from rfl) (Reps.one (show Kd.M (Kd.int .i64) _ _ _ 1 [.int .i64 1] from rfl) (Reps.none _ _)))); intro s7 w32 ho33 hb hg_ hnew_; clear hg_ hnew_; (first | rw [← i2.out] at ho33 | (simp only [Int.reduceToNat] at ho33; rw [← i2.out] at ho33)); have b8 := Aside0.mk (Kd.R_below (by (with_reducible repeat (first | apply Kd.R_alloc | apply Kd.R_drewN | apply Kd.R_drew)); exact a8.out) hb); have b9 := Aside0.mk (Kd.R_below (by (with_reducible repeat (first | apply Kd.R_alloc | apply Kd.R_drewN | apply Kd.R_drew)); exact a9.out) hb); have d1 := Aside0.mk (Kd.R_below (by (with_reducible repeat (first | apply Kd.R_alloc | apply Kd.R_drewN | apply Kd.R_drew)); exact a7.out) hb); have d4 := Aside0.mk (Kd.R_below (by (with_reducible repeat (first | apply Kd.R_alloc | apply Kd.R_drewN | apply Kd.R_drew)); exact a6.out) hb); have d5 := Aside0.mk (Kd.R_elder' (by (with_reducible repeat (first | apply Kd.R_alloc | apply Kd.R_drewN | apply Kd.R_drew)); exact b1.out) (Kd.R_base ho33) hb); have e0 := Aside0.mk (Kd.R_lower (Kd.R_new' ho33 (Kd.R_lt (by (with_reducible repeat (first | apply Kd.R_alloc | apply Kd.R_drewN | apply Kd.R_drew)); exact b1.out))) (below_size (by repeat (first | (with_reducible first | exact HB.out | apply below_alloc | apply pw_below_drewN | apply below_drew1 | refine below_set ?_ d9.out) | exact HB.out)))); have e1 := Aside0.mk (blk_below (g := a5) (o := .cells #[.int .i64 a3, .slice d7 a4.length d3, .slice (some b5) a0.length d6] 25 (0, 0)) (by (with_reducible repeat (first | refine blk_drewN ?_ _ | refine blk_drew ?_ | refine blk_alloc ?_ _)); exact a1.out) hb); have e4 := Aside0.mk (below_step (by repeat (first | (with_reducible first | exact HB.out | apply below_alloc | apply pw_below_drewN | apply below_drew1 | refine below_set ?_ d9.out) | exact HB.out)) hb); clear a8; clear a9; clear a7; clear a6; clear b1; clear a1; clear HB; have a8 := b8; have a9 := b9; have a7 := d1; have a6 := d4; have b1 := d5; have b3 := e0; have a1 := e1; have HB := e4; clear b8 b9 d1 d4 d5 e0 e1 e4; clear hb ho33; obtain ⟨r4, r6, l7⟩ := Kd.R_slice b1.out; subst l7; obtain ⟨q0, s6, l9⟩ := Kd.R_slice b3.out; subst l9) | (go_at_call 33; (with_reducible refine (Pr01b.calls k _ _ g1 _ _ k4 true _ ?g3 ?g5 ?g4 ?g2 A7.out).mono ?_); (case g3 => repeat (first | exact (Kd.R_reads' b1.out).2.2 | (with_reducible refine Kd.C_alloc ?_ _) | (with_reducible refine Kd.C_drewN ?_ _) | (with_reducible refine Kd.C_drew ?_))); (case g5 => exact (Kd.R_reads' b1.out).2.1); (case g4 => repeat (first | exact (Kd.R_reads' b3.out).2.2 | (with_reducible refine Kd.C_alloc ?_ _) | (with_reducible refine Kd.C_drewN ?_ _) | (with_reducible refine Kd.C_drew ?_))); (case g2 => exact (Kd.R_reads' b3.out).2.1); rintro e w' ⟨rfl, ⟨nd, rfl⟩⟩; have p2 : w32.cell? ⟨a5, 0, none⟩ = some (.int .i64 a3) := (blk_cell a1.out 0).trans rfl; have m7 : w32.cell? ⟨a5, 1, none⟩ = some (.slice d7 a4.length d3) := (blk_cell a1.out 1).trans rfl; have m4 : w32.cell? ⟨a5, 2, none⟩ = some (.slice (some b5) a0.length d6) := (blk_cell a1.out 2).trans rfl; have p0 := blk_frozen a1.out 0; have m9 := blk_frozen a1.out 1; have n1 := blk_frozen a1.out 2) | (go_at_call 29; (with_reducible refine (Pxf.calls k a3 _ _ a4 _ _ a0 1 0 e3 _ ?g3 ?g5 ?g4 ?g2 A9.out).mono ?_); (case g3 => repeat (first | exact (Kd.R_reads' a7.out).2.2 | (with_reducible refine Kd.C_alloc ?_ _) | (with_reducible refine Kd.C_drewN ?_ _) | (with_reducible refine Kd.C_drew ?_))); (case g5 => exact (Kd.R_reads' a7.out).2.1); (case g4 => repeat (first | exact (Kd.R_reads' a6.out).2.2 | (with_reducible refine Kd.C_alloc ?_ _) | (with_reducible refine Kd.C_drewN ?_ _) | (with_reducible refine Kd.C_drew ?_))); (case g2 => exact (Kd.R_reads' a6.out).2.1); rintro e w37 ⟨s2, rfl, e8, hb⟩; have b8 := Aside0.mk (Kd.R_below (by (with_reducible repeat (first | apply Kd.R_alloc | apply Kd.R_drewN | apply Kd.R_drew)); exact a8.out) hb); have b9 := Aside0.mk (Kd.R_below (by (with_reducible repeat (first | apply Kd.R_alloc | apply Kd.R_drewN | apply Kd.R_drew)); exact a9.out) hb); have d1 := Aside0.mk (Kd.R_below (by (with_reducible repeat (first | apply Kd.R_alloc | apply Kd.R_drewN | apply Kd.R_drew)); exact a7.out) hb); have d4 := Aside0.mk (Kd.R_below (by (with_reducible repeat (first | apply Kd.R_alloc | apply Kd.R_drewN | apply Kd.R_drew)); exact a6.out) hb); have d5 := Aside0.mk (Kd.R_elder' (by (with_reducible repeat (first | apply Kd.R_alloc | apply Kd.R_drewN | apply Kd.R_drew)); exact b1.out) (Kd.R_base e8) hb); have e0 := Aside0.mk (Kd.R_elder' (by (with_reducible repeat (first | apply Kd.R_alloc | apply Kd.R_drewN | apply Kd.R_drew)); exact b3.out) (Kd.R_base e8) hb); have e1 := Aside0.mk (Kd.R_lower (Kd.R_new' (Kd.R_new' e8 (Kd.R_lt (by (with_reducible repeat (first | apply Kd.R_alloc | apply Kd.R_drewN | apply Kd.R_drew)); exact b1.out))) (Kd.R_lt (by (with_reducible repeat (first | apply Kd.R_alloc | apply Kd.R_drewN | apply Kd.R_drew)); exact b3.out))) (below_size (by repeat (first | (with_reducible first | exact HB.out | apply below_alloc | apply pw_below_drewN | apply below_drew1 | refine below_set ?_ d9.out) | exact HB.out)))); have e4 := Aside0.mk (blk_below (g := a5) (o := .cells #[.int .i64 a3, .slice d7 a4.length d3, .slice (some b5) a0.length d6] 25 (0, 0)) (by (with_reducible repeat (first | refine blk_drewN ?_ _ | refine blk_drew ?_ | refine blk_alloc ?_ _)); exact a1.out) hb); have f6 := Aside0.mk (below_step (by repeat (first | (with_reducible first | exact HB.out | apply below_alloc | apply pw_below_drewN | apply below_drew1 | refine below_set ?_ d9.out) | exact HB.out)) hb); clear a8; clear a9; clear a7; clear a6; clear b1; clear b3; clear a1; clear HB; have a8 := b8; have a9 := b9; have a7 := d1; have a6 := d4; have b1 := d5; have b3 := e0; have b6 := e1; have a1 := e4; have HB := f6; clear b8 b9 d1 d4 d5 e0 e1 e4 f6; (try clear hb); (try clear hb2); (try clear hk); (try clear hi); (try clear e8)) | ((with_reducible refine gate_dst (N := 38) rfl ?_); (try (refine gate_guard (by rfl) ?_; dsimp only)); refine Kd.R_lit (Kd.int .i64) _ 3 ?hg (N := 38) ?hd (xs := ([0, 1] : List Int)) (inner := [.int .i64 0, .int .i64 1]) (ok := fun _ => True) (okp := fun _ => True) ?hr ?hp (fun _ hk => hk) trivial (Below.refl _ _) (Nat.le_refl _) (by simp) ?_; (case hd => rfl); (case hg => rfl); (case hr => first | (go_simp; done) | (go_simp; rfl)); (case hp => exact (Reps.one (show Kd.M (Kd.int .i64) _ _ _ 0 [.int .i64 0] from rfl) (Reps.one (show Kd.M (Kd.int .i64) _ _ _ 1 [.int .i64 1] from rfl) (Reps.none _ _)))); intro r7 w38 ho39 hb hg_ hnew_; clear hg_ hnew_; (first | rw [← i0.out] at ho39 | (simp only [Int.reduceToNat] at ho39; rw [← i0.out] at ho39)); have b8 := Aside0.mk (Kd.R_below (by (with_reducible repeat (first | apply Kd.R_alloc | apply Kd.R_drewN | apply Kd.R_drew)); exact a8.out) hb); have b9 := Aside0.mk (Kd.R_below (by (with_reducible repeat (first | apply Kd.R_alloc | apply Kd.R_drewN | apply Kd.R_drew)); exact a9.out) hb); have d1 := Aside0.mk (Kd.R_below (by (with_reducible repeat (first | apply Kd.R_alloc | apply Kd.R_drewN | apply Kd.R_drew)); exact a7.out) hb); have d4 := Aside0.mk (Kd.R_below (by (with_reducible repeat (first | apply Kd.R_alloc | apply Kd.R_drewN | apply Kd.R_drew)); exact a6.out) hb); have d5 := Aside0.mk (Kd.R_elder' (by (with_reducible repeat (first | apply Kd.R_alloc | apply Kd.R_drewN | apply Kd.R_drew)); exact b1.out) (Kd.R_base ho39) hb); have e0 := Aside0.mk (Kd.R_elder' (by (with_reducible repeat (first | apply Kd.R_alloc | apply Kd.R_drewN | apply Kd.R_drew)); exact b3.out) (Kd.R_base ho39) hb); have e1 := Aside0.mk (Kd.R_elder' (by (with_reducible repeat (first | apply Kd.R_alloc | apply Kd.R_drewN | apply Kd.R_drew)); exact b6.out) (Kd.R_base ho39) hb); have e4 := Aside0.mk (Kd.R_lower (Kd.R_new' (Kd.R_new' (Kd.R_new' ho39 (Kd.R_lt (by (with_reducible repeat (first | apply Kd.R_alloc | apply Kd.R_drewN | apply Kd.R_drew)); exact b1.out))) (Kd.R_lt (by (with_reducible repeat (first | apply Kd.R_alloc | apply Kd.R_drewN | apply Kd.R_drew)); exact b3.out))) (Kd.R_lt (by (with_reducible repeat (first | apply Kd.R_alloc | apply Kd.R_drewN | apply Kd.R_drew)); exact b6.out))) (below_size (by repeat (first | (with_reducible first | exact HB.out | apply below_alloc | apply pw_below_drewN | apply below_drew1 | refine below_set ?_ d9.out) | exact HB.out)))); have f6 := Aside0.mk (blk_below (g := a5) (o := .cells #[.int .i64 a3, .slice d7 a4.length d3, .slice (some b5) a0.length d6] 25 (0, 0)) (by (with_reducible repeat (first | refine blk_drewN ?_ _ | refine blk_drew ?_ | refine blk_alloc ?_ _)); exact a1.out) hb); have g0 := Aside0.mk (below_step (by repeat (first | (with_reducible first | exact HB.out | apply below_alloc | apply pw_below_drewN | apply below_drew1 | refine below_set ?_ d9.out) | exact HB.out)) hb); clear a8; clear a9; clear a7; clear a6; clear b1; clear b3; clear b6; clear a1; clear HB; have a8 := b8; have a9 := b9; have a7 := d1; have a6 := d4; have b1 := d5; have b3 := e0; have b6 := e1; have d2 := e4; have a1 := f6; have HB := g0; clear b8 b9 d1 d4 d5 e0 e1 e4 f6 g0; clear hb ho39; obtain ⟨q5, q3, l5⟩ := Kd.R_slice b6.out; subst l5; obtain ⟨r0, s1, m1⟩ := Kd.R_slice d2.out; subst m1) | (go_at_call 33; (with_reducible refine (Pr01b.calls k _ _ e3 _ _ i9 true _ ?g3 ?g5 ?g4 ?g2 i6.out).mono ?_); (case g3 => repeat (first | exact (Kd.R_reads' b6.out).2.2 | (with_reducible refine Kd.C_alloc ?_ _) | (with_reducible refine Kd.C_drewN ?_ _) | (with_reducible refine Kd.C_drew ?_))); (case g5 => exact (Kd.R_reads' b6.out).2.1); (case g4 => repeat (first | exact (Kd.R_reads' d2.out).2.2 | (with_reducible refine Kd.C_alloc ?_ _) | (with_reducible refine Kd.C_drewN ?_ _) | (with_reducible refine Kd.C_drew ?_))); (case g2 => exact (Kd.R_reads' d2.out).2.1); rintro e w' ⟨rfl, ⟨nd, rfl⟩⟩; have n5 : w38.cell? ⟨a5, 0, none⟩ = some (.int .i64 a3) := (blk_cell a1.out 0).trans rfl; have m6 : w38.cell? ⟨a5, 1, none⟩ = some (.slice d7 a4.length d3) := (blk_cell a1.out 1).trans rfl; have m3 : w38.cell? ⟨a5, 2, none⟩ = some (.slice (some b5) a0.length d6) := (blk_cell a1.out 2).trans rfl; have o6 := blk_frozen a1.out 0; have n8 := blk_frozen a1.out 1; have p1 := blk_frozen a1.out 2) | (go_at_call 28; (with_reducible refine (Pxe.calls k a3 _ _ a4 _ _ a0 0 0 d0 _ ?g3 ?g5 ?g4 ?g2 p7.out).mono ?_); (case g3 => repeat (first | exact (Kd.R_reads' a7.out).2.2 | (with_reducible refine Kd.C_alloc ?_ _) | (with_reducible refine Kd.C_drewN ?_ _) | (with_reducible refine Kd.C_drew ?_))); (case g5 => exact (Kd.R_reads' a7.out).2.1); (case g4 => repeat (first | exact (Kd.R_reads' a6.out).2.2 | (with_reducible refine Kd.C_alloc ?_ _) | (with_reducible refine Kd.C_drewN ?_ _) | (with_reducible refine Kd.C_drew ?_))); (case g2 => exact (Kd.R_reads' a6.out).2.1); rintro e w43 ⟨s3, rfl, e8, hb⟩; have b8 := Aside0.mk (Kd.R_below (by (with_reducible repeat (first | apply Kd.R_alloc | apply Kd.R_drewN | apply Kd.R_drew)); exact a8.out) hb); have b9 := Aside0.mk (Kd.R_below (by (with_reducible repeat (first | apply Kd.R_alloc | apply Kd.R_drewN | apply Kd.R_drew)); exact a9.out) hb); have d1 := Aside0.mk (Kd.R_below (by (with_reducible repeat (first | apply Kd.R_alloc | apply Kd.R_drewN | apply Kd.R_drew)); exact a7.out) hb); have d4 := Aside0.mk (Kd.R_below (by (with_reducible repeat (first | apply Kd.R_alloc | apply Kd.R_drewN | apply Kd.R_drew)); exact a6.out) hb); have d5 := Aside0.mk (Kd.R_elder' (by (with_reducible repeat (first | apply Kd.R_alloc | apply Kd.R_drewN | apply Kd.R_drew)); exact b1.out) (Kd.R_base e8) hb); have e0 := Aside0.mk (Kd.R_elder' (by (with_reducible repeat (first | apply Kd.R_alloc | apply Kd.R_drewN | apply Kd.R_drew)); exact b3.out) (Kd.R_base e8) hb); have e1 := Aside0.mk (Kd.R_elder' (by (with_reducible repeat (first | apply Kd.R_alloc | apply Kd.R_drewN | apply Kd.R_drew)); exact b6.out) (Kd.R_base e8) hb); have e4 := Aside0.mk (Kd.R_elder' (by (with_reducible repeat (first | apply Kd.R_alloc | apply Kd.R_drewN | apply Kd.R_drew)); exact d2.out) (Kd.R_base e8) hb); have f6 := Aside0.mk (Kd.R_lower (Kd.R_new' (Kd.R_new' (Kd.R_new' (Kd.R_new' e8 (Kd.R_lt (by (with_reducible repeat (first | apply Kd.R_alloc | apply Kd.R_drewN | apply Kd.R_drew)); exact b1.out))) (Kd.R_lt (by (with_reducible repeat (first | apply Kd.R_alloc | apply Kd.R_drewN | apply Kd.R_drew)); exact b3.out))) (Kd.R_lt (by (with_reducible repeat (first | apply Kd.R_alloc | apply Kd.R_drewN | apply Kd.R_drew)); exact b6.out))) (Kd.R_lt (by (with_reducible repeat (first | apply Kd.R_alloc | apply Kd.R_drewN | apply Kd.R_drew)); exact d2.out))) (below_size (by repeat (first | (with_reducible first | exact HB.out | apply below_alloc | apply pw_below_drewN | apply below_drew1 | refine below_set ?_ d9.out) | exact HB.out)))); have g0 := Aside0.mk (blk_below (g := a5) (o := .cells #[.int .i64 a3, .slice d7 a4.length d3, .slice (some b5) a0.length d6] 25 (0, 0)) (by (with_reducible repeat (first | refine blk_drewN ?_ _ | refine blk_drew ?_ | refine blk_alloc ?_ _)); exact a1.out) hb); have f8 := Aside0.mk (below_step (by repeat (first | (with_reducible first | exact HB.out | apply below_alloc | apply pw_below_drewN | apply below_drew1 | refine below_set ?_ d9.out) | exact HB.out)) hb); clear a8; clear a9; clear a7; clear a6; clear b1; clear b3; clear b6; clear d2; clear a1; clear HB; have a8 := b8; have a9 := b9; have a7 := d1; have a6 := d4; have b1 := d5; have b3 := e0; have b6 := e1; have d2 := e4; have e2 := f6; have a1 := g0; have HB := f8; clear b8 b9 d1 d4 d5 e0 e1 e4 f6 g0 f8; (try clear hb); (try clear hb2); (try clear hk); (try clear hi); (try clear e8)) | ((with_reducible refine gate_dst (N := 44) rfl ?_); (try (refine gate_guard (by rfl) ?_; dsimp only)); refine Kd.R_lit (Kd.int .i64) _ 3 ?hg (N := 44) ?hd (xs := ([1] : List Int)) (inner := [.int .i64 1]) (ok := fun _ => True) (okp := fun _ => True) ?hr ?hp (fun _ hk => hk) trivial (Below.refl _ _) (Nat.le_refl _) (by simp) ?_; (case hd => rfl); (case hg => rfl); (case hr => first | (go_simp; done) | (go_simp; rfl)); (case hp => exact (Reps.one (show Kd.M (Kd.int .i64) _ _ _ 1 [.int .i64 1] from rfl) (Reps.none _ _))); intro s0 w44 ho45 hb hg_ hnew_; clear hg_ hnew_; (first | rw [← i4.out] at ho45 | (simp only [Int.reduceToNat] at ho45; rw [← i4.out] at ho45)); have b8 := Aside0.mk (Kd.R_below (by (with_reducible repeat (first | apply Kd.R_alloc | apply Kd.R_drewN | apply Kd.R_drew)); exact a8.out) hb); have b9 := Aside0.mk (Kd.R_below (by (with_reducible repeat (first | apply Kd.R_alloc | apply Kd.R_drewN | apply Kd.R_drew)); exact a9.out) hb); have d1 := Aside0.mk (Kd.R_below (by (with_reducible repeat (first | apply Kd.R_alloc | apply Kd.R_drewN | apply Kd.R_drew)); exact a7.out) hb); have d4 := Aside0.mk (Kd.R_below (by (with_reducible repeat (first | apply Kd.R_alloc | apply Kd.R_drewN | apply Kd.R_drew)); exact a6.out) hb); have d5 := Aside0.mk (Kd.R_elder' (by (with_reducible repeat (first | apply Kd.R_alloc | apply Kd.R_drewN | apply Kd.R_drew)); exact b1.out) (Kd.R_base ho45) hb); have e0 := Aside0.mk (Kd.R_elder' (by (with_reducible repeat (first | apply Kd.R_alloc | apply Kd.R_drewN | apply Kd.R_drew)); exact b3.out) (Kd.R_base ho45) hb); have e1 := Aside0.mk (Kd.R_elder' (by (with_reducible repeat (first | apply Kd.R_alloc | apply Kd.R_drewN | apply Kd.R_drew)); exact b6.out) (Kd.R_base ho45) hb); have e4 := Aside0.mk (Kd.R_elder' (by (with_reducible repeat (first | apply Kd.R_alloc | apply Kd.R_drewN | apply Kd.R_drew)); exact d2.out) (Kd.R_base ho45) hb); have f6 := Aside0.mk (Kd.R_elder' (by (with_reducible repeat (first | apply Kd.R_alloc | apply Kd.R_drewN | apply Kd.R_drew)); exact e2.out) (Kd.R_base ho45) hb); have g0 := Aside0.mk (Kd.R_lower (Kd.R_new' (Kd.R_new' (Kd.R_new' (Kd.R_new' (Kd.R_new' ho45 (Kd.R_lt (by (with_reducible repeat (first | apply Kd.R_alloc | apply Kd.R_drewN | apply Kd.R_drew)); exact b1.out))) (Kd.R_lt (by (with_reducible repeat (first | apply Kd.R_alloc | apply Kd.R_drewN | apply Kd.R_drew)); exact b3.out))) (Kd.R_lt (by (with_reducible repeat (first | apply Kd.R_alloc | apply Kd.R_drewN | apply Kd.R_drew)); exact b6.out))) (Kd.R_lt (by (with_reducible repeat (first | apply Kd.R_alloc | apply Kd.R_drewN | apply Kd.R_drew)); exact d2.out))) (Kd.R_lt (by (with_reducible repeat (first | apply Kd.R_alloc | apply Kd.R_drewN | apply Kd.R_drew)); exact e2.out))) (below_size (by repeat (first | (with_reducible first | exact HB.out | apply below_alloc | apply pw_below_drewN | apply below_drew1 | refine below_set ?_ d9.out) | exact HB.out)))); have f8 := Aside0.mk (blk_below (g := a5) (o := .cells #[.int .i64 a3, .slice d7 a4.length d3, .slice (some b5) a0.length d6] 25 (0, 0)) (by (with_reducible repeat (first | refine blk_drewN ?_ _ | refine blk_drew ?_ | refine blk_alloc ?_ _)); exact a1.out) hb); have g6 := Aside0.mk (below_step (by repeat (first | (with_reducible first | exact HB.out | apply below_alloc | apply pw_below_drewN | apply below_drew1 | refine below_set ?_ d9.out) | exact HB.out)) hb); clear a8; clear a9; clear a7; clear a6; clear b1; clear b3; clear b6; clear d2; clear e2; clear a1; clear HB; have a8 := b8; have a9 := b9; have a7 := d1; have a6 := d4; have b1 := d5; have b3 := e0; have b6 := e1; have d2 := e4; have e2 := f6; have f5 := g0; have a1 := f8; have HB := g6; clear b8 b9 d1 d4 d5 e0 e1 e4 f6 g0 f8 g6; clear hb ho45; obtain ⟨q4, r3, l8⟩ := Kd.R_slice e2.out; subst l8; obtain ⟨q9, r2, k8⟩ := Kd.R_slice f5.out; subst k8) | (go_at_call 33; (with_reducible refine (Pr01b.calls k _ _ d0 _ _ j4 true _ ?g3 ?g5 ?g4 ?g2 p3.out).mono ?_); (case g3 => repeat (first | exact (Kd.R_reads' e2.out).2.2 | (with_reducible refine Kd.C_alloc ?_ _) | (with_reducible refine Kd.C_drewN ?_ _) | (with_reducible refine Kd.C_drew ?_))); (case g5 => exact (Kd.R_reads' e2.out).2.1); (case g4 => repeat (first | exact (Kd.R_reads' f5.out).2.2 | (with_reducible refine Kd.C_alloc ?_ _) | (with_reducible refine Kd.C_drewN ?_ _) | (with_reducible refine Kd.C_drew ?_))); (case g2 => exact (Kd.R_reads' f5.out).2.1); rintro e w' ⟨rfl, ⟨nd, rfl⟩⟩; have m8 : w44.cell? ⟨a5, 0, none⟩ = some (.int .i64 a3) := (blk_cell a1.out 0).trans rfl; have n7 : w44.cell? ⟨a5, 1, none⟩ = some (.slice d7 a4.length d3) := (blk_cell a1.out 1).trans rfl; have o5 : w44.cell? ⟨a5, 2, none⟩ = some (.slice (some b5) a0.length d6) := (blk_cell a1.out 2).trans rfl; have n2 := blk_frozen a1.out 0; have n6 := blk_frozen a1.out 1; have m5 := blk_frozen a1.out 2) | (go_at_call 31; (with_reducible refine (Pxb.calls k a3 _ _ a4 _ _ a0 true _ ?g3 ?g5 ?g4 ?g2 p4.out).mono ?_); (case g3 => repeat (first | exact (Kd.R_reads' a7.out).2.2 | (with_reducible refine Kd.C_alloc ?_ _) | (with_reducible refine Kd.C_drewN ?_ _) | (with_reducible refine Kd.C_drew ?_))); (case g5 => exact (Kd.R_reads' a7.out).2.1); (case g4 => repeat (first | exact (Kd.R_reads' a6.out).2.2 | (with_reducible refine Kd.C_alloc ?_ _) | (with_reducible refine Kd.C_drewN ?_ _) | (with_reducible refine Kd.C_drew ?_))); (case g2 => exact (Kd.R_reads' a6.out).2.1); rintro e w49 ⟨rfl, hb⟩; have b8 := Aside0.mk (Kd.R_below (by (with_reducible repeat (first | apply Kd.R_alloc | apply Kd.R_drewN | apply Kd.R_drew)); exact a8.out) hb); have b9 := Aside0.mk (Kd.R_below (by (with_reducible repeat (first | apply Kd.R_alloc | apply Kd.R_drewN | apply Kd.R_drew)); exact a9.out) hb); have d1 := Aside0.mk (Kd.R_below (by (with_reducible repeat (first | apply Kd.R_alloc | apply Kd.R_drewN | apply Kd.R_drew)); exact a7.out) hb); have d4 := Aside0.mk (Kd.R_below (by (with_reducible repeat (first | apply Kd.R_alloc | apply Kd.R_drewN | apply Kd.R_drew)); exact a6.out) hb); have d5 := Aside0.mk (Kd.R_below (by (with_reducible repeat (first | apply Kd.R_alloc | apply Kd.R_drewN | apply Kd.R_drew)); exact b1.out) hb); have e0 := Aside0.mk (Kd.R_below (by (with_reducible repeat (first | apply Kd.R_alloc | apply Kd.R_drewN | apply Kd.R_drew)); exact b3.out) hb); have e1 := Aside0.mk (Kd.R_below (by (with_reducible repeat (first | apply Kd.R_alloc | apply Kd.R_drewN | apply Kd.R_drew)); exact b6.out) hb); have e4 := Aside0.mk (Kd.R_below (by (with_reducible repeat (first | apply Kd.R_alloc | apply Kd.R_drewN | apply Kd.R_drew)); exact d2.out) hb); have f6 := Aside0.mk (Kd.R_below (by (with_reducible repeat (first | apply Kd.R_alloc | apply Kd.R_drewN | apply Kd.R_drew)); exact e2.out) hb); have g0 := Aside0.mk (Kd.R_below (by (with_reducible repeat (first | apply Kd.R_alloc | apply Kd.R_drewN | apply Kd.R_drew)); exact f5.out) hb); have f8 := Aside0.mk (blk_below (g := a5) (o := .cells #[.int .i64 a3, .slice d7 a4.length d3, .slice (some b5) a0.length d6] 25 (0, 0)) (by (with_reducible repeat (first | refine blk_drewN ?_ _ | refine blk_drew ?_ | refine blk_alloc ?_ _)); exact a1.out) hb); have g6 := Aside0.mk (below_step (by repeat (first | (with_reducible first | exact HB.out | apply below_alloc | apply pw_below_drewN | apply below_drew1 | refine below_set ?_ d9.out) | exact HB.out)) hb); clear a8; clear a9; clear a7; clear a6; clear b1; clear b3; clear b6; clear d2; clear e2; clear f5; clear a1; clear HB; have a8 := b8; have a9 := b9; have a7 := d1; have a6 := d4; have b1 := d5; have b3 := e0; have b6 := e1; have d2 := e4; have e2 := f6; have f5 := g0; have a1 := f8; have HB := g6; clear b8 b9 d1 d4 d5 e0 e1 e4 f6 g0 f8 g6; (try clear hb); (try clear hb2); (try clear hk); (try clear hi); have n4 : w49.cell? ⟨a5, 0, none⟩ = some (.int .i64 a3) := (blk_cell a1.out 0).trans rfl; have n0 : w49.cell? ⟨a5, 1, none⟩ = some (.slice d7 a4.length d3) := (blk_cell a1.out 1).trans rfl; have o9 : w49.cell? ⟨a5, 2, none⟩ = some (.slice (some b5) a0.length d6) := (blk_cell a1.out 2).trans rfl; have o3 := blk_frozen a1.out 0; have o0 := blk_frozen a1.out 1; have o2 := blk_frozen a1.out 2) | (go_at_call 30; (with_reducible refine (Pxg.calls a3 _ _ a4 _ _ a0 1 b0 _ ?g3 ?g5 ?g4 ?g2 p6.out).mono ?_); (case g3 => repeat (first | exact (Kd.R_reads' a7.out).2.2 | (with_reducible refine Kd.C_alloc ?_ _) | (with_reducible refine Kd.C_drewN ?_ _) | (with_reducible refine Kd.C_drew ?_))); (case g5 => exact (Kd.R_reads' a7.out).2.1); (case g4 => repeat (first | exact (Kd.R_reads' a6.out).2.2 | (with_reducible refine Kd.C_alloc ?_ _) | (with_reducible refine Kd.C_drewN ?_ _) | (with_reducible refine Kd.C_drew ?_))); (case g2 => exact (Kd.R_reads' a6.out).2.1); rintro e w51 ⟨q6, rfl, e8, hb⟩; have b8 := Aside0.mk (Kd.R_below (by (with_reducible repeat (first | apply Kd.R_alloc | apply Kd.R_drewN | apply Kd.R_drew)); exact a8.out) hb); have b9 := Aside0.mk (Kd.R_elder' (by (with_reducible repeat (first | apply Kd.R_alloc | apply Kd.R_drewN | apply Kd.R_drew)); exact a9.out) (Kd.R_base e8) hb); have d1 := Aside0.mk (Kd.R_below (by (with_reducible repeat (first | apply Kd.R_alloc | apply Kd.R_drewN | apply Kd.R_drew)); exact a7.out) hb); have d4 := Aside0.mk (Kd.R_elder' (by (with_reducible repeat (first | apply Kd.R_alloc | apply Kd.R_drewN | apply Kd.R_drew)); exact a6.out) (Kd.R_base e8) hb); have d5 := Aside0.mk (Kd.R_below (by (with_reducible repeat (first | apply Kd.R_alloc | apply Kd.R_drewN | apply Kd.R_drew)); exact b1.out) hb); have e0 := Aside0.mk (Kd.R_below (by (with_reducible repeat (first | apply Kd.R_alloc | apply Kd.R_drewN | apply Kd.R_drew)); exact b3.out) hb); have e1 := Aside0.mk (Kd.R_below (by (with_reducible repeat (first | apply Kd.R_alloc | apply Kd.R_drewN | apply Kd.R_drew)); exact b6.out) hb); have e4 := Aside0.mk (Kd.R_below (by (with_reducible repeat (first | apply Kd.R_alloc | apply Kd.R_drewN | apply Kd.R_drew)); exact d2.out) hb); have f6 := Aside0.mk (Kd.R_below (by (with_reducible repeat (first | apply Kd.R_alloc | apply Kd.R_drewN | apply Kd.R_drew)); exact e2.out) hb); have g0 := Aside0.mk (Kd.R_below (by (with_reducible repeat (first | apply Kd.R_alloc | apply Kd.R_drewN | apply Kd.R_drew)); exact f5.out) hb); have f8 := Aside0.mk (Kd.R_lower (Kd.R_new' (Kd.R_new' e8 (Kd.R_lt (by (with_reducible repeat (first | apply Kd.R_alloc | apply Kd.R_drewN | apply Kd.R_drew)); exact a9.out))) (Kd.R_lt (by (with_reducible repeat (first | apply Kd.R_alloc | apply Kd.R_drewN | apply Kd.R_drew)); exact a6.out))) (below_size (by repeat (first | (with_reducible first | exact HB.out | apply below_alloc | apply pw_below_drewN | apply below_drew1 | refine below_set ?_ d9.out) | exact HB.out)))); have g6 := Aside0.mk (blk_below (g := a5) (o := .cells #[.int .i64 a3, .slice d7 a4.length d3, .slice (some b5) a0.length d6] 25 (0, 0)) (by (with_reducible repeat (first | refine blk_drewN ?_ _ | refine blk_drew ?_ | refine blk_alloc ?_ _)); exact a1.out) hb); have h6 := Aside0.mk (below_step (by repeat (first | (with_reducible first | exact HB.out | apply below_alloc | apply pw_below_drewN | apply below_drew1 | refine below_set ?_ d9.out) | exact HB.out)) hb); clear a8; clear a9; clear a7; clear a6; clear b1; clear b3; clear b6; clear d2; clear e2; clear f5; clear a1; clear HB; have a8 := b8; have a9 := b9; have a7 := d1; have a6 := d4; have b1 := d5; have b3 := e0; have b6 := e1; have d2 := e4; have e2 := f6; have f5 := g0; have h3 := f8; have a1 := g6; have HB := h6; clear b8 b9 d1 d4 d5 e0 e1 e4 f6 g0 f8 g6 h6; (try clear hb); (try clear hb2); (try clear hk); (try clear hi); (try clear e8); obtain ⟨q1, r8, k9⟩ := Kd.R_slice h3.out; subst k9) | (go_at_call 27; (refine (Pxc.calls 0 _ _ ([] : List ByteArray) _ _ ([] : List (S51)) b2 _ ?g3 ?g5 ?g4 ?g2 p5.out).mono ?_); (case g3 => exact Kd.C_nil _ _); (case g5 => exact Nat.le_refl _); (case g4 => exact Kd.C_nil _ _); (case g2 => exact Nat.le_refl _); rintro e w53 ⟨rfl, hb⟩; have b8 := Aside0.mk (Kd.R_below (by (with_reducible repeat (first | apply Kd.R_alloc | apply Kd.R_drewN | apply Kd.R_drew)); exact a8.out) hb); have b9 := Aside0.mk (Kd.R_below (by (with_reducible repeat (first | apply Kd.R_alloc | apply Kd.R_drewN | apply Kd.R_drew)); exact a9.out) hb); have d1 := Aside0.mk (Kd.R_below (by (with_reducible repeat (first | apply Kd.R_alloc | apply Kd.R_drewN | apply Kd.R_drew)); exact a7.out) hb); have d4 := Aside0.mk (Kd.R_below (by (with_reducible repeat (first | apply Kd.R_alloc | apply Kd.R_drewN | apply Kd.R_drew)); exact a6.out) hb); have d5 := Aside0.mk (Kd.R_below (by (with_reducible repeat (first | apply Kd.R_alloc | apply Kd.R_drewN | apply Kd.R_drew)); exact b1.out) hb); have e0 := Aside0.mk (Kd.R_below (by (with_reducible repeat (first | apply Kd.R_alloc | apply Kd.R_drewN | apply Kd.R_drew)); exact b3.out) hb); have e1 := Aside0.mk (Kd.R_below (by (with_reducible repeat (first | apply Kd.R_alloc | apply Kd.R_drewN | apply Kd.R_drew)); exact b6.out) hb); have e4 := Aside0.mk (Kd.R_below (by (with_reducible repeat (first | apply Kd.R_alloc | apply Kd.R_drewN | apply Kd.R_drew)); exact d2.out) hb); have f6 := Aside0.mk (Kd.R_below (by (with_reducible repeat (first | apply Kd.R_alloc | apply Kd.R_drewN | apply Kd.R_drew)); exact e2.out) hb); have g0 := Aside0.mk (Kd.R_below (by (with_reducible repeat (first | apply Kd.R_alloc | apply Kd.R_drewN | apply Kd.R_drew)); exact f5.out) hb); have f8 := Aside0.mk (Kd.R_below (by (with_reducible repeat (first | apply Kd.R_alloc | apply Kd.R_drewN | apply Kd.R_drew)); exact h3.out) hb); have g6 := Aside0.mk (blk_below (g := a5) (o := .cells #[.int .i64 a3, .slice d7 a4.length d3, .slice (some b5) a0.length d6] 25 (0, 0)) (by (with_reducible repeat (first | refine blk_drewN ?_ _ | refine blk_drew ?_ | refine blk_alloc ?_ _)); exact a1.out) hb); have h6 := Aside0.mk (below_step (by repeat (first | (with_reducible first | exact HB.out | apply below_alloc | apply pw_below_drewN | apply below_drew1 | refine below_set ?_ d9.out) | exact HB.out)) hb); clear a8; clear a9; clear a7; clear a6; clear b1; clear b3; clear b6; clear d2; clear e2; clear f5; clear h3; clear a1; clear HB; have a8 := b8; have a9 := b9; have a7 := d1; have a6 := d4; have b1 := d5; have b3 := e0; have b6 := e1; have d2 := e4; have e2 := f6; have f5 := g0; have h3 := f8; have a1 := g6; have HB := h6; clear b8 b9 d1 d4 d5 e0 e1 e4 f6 g0 f8 g6 h6; (try clear hb); (try clear hb2); (try clear hk); (try clear hi)))
          go_ret
          exact ⟨by first | rfl | (simp [errW_none, errW_some] <;> rfl) | (simp [*, errW_none, errW_some] <;> rfl), by repeat (first | (with_reducible first | exact HB.out | apply below_alloc | apply pw_below_drewN | apply below_drew1 | refine below_set ?_ d9.out) | exact HB.out)⟩
         ·rw [if_neg h4] at H
          have c18b0 : ((b0.length : Int) == 1) = false := beq_eq_false_iff_ne.mpr h4
          have c18b1 : ((b0.length : Int) != 1) = true := bne_iff_ne.mpr h4
          obtain rfl := Option.some.inj H
          exact absurd hr_.out (by decide)
        ·replace i8 := Bool.eq_false_iff.mpr i8
         subst i8
         have H1 : (some false) = some r := by rw [if_neg (show ¬ (false = true) by decide)] at H; exact H
         clear H
         have H := H1
         clear H1
         obtain rfl := Option.some.inj H
         exact absurd hr_.out (by decide)
       ·replace i7 := Bool.eq_false_iff.mpr i7
        subst i7
        have H1 : (some false) = some r := by rw [if_neg (show ¬ (false = true) by decide)] at H; exact H
        clear H
        have H := H1
        clear H1
        obtain rfl := Option.some.inj H
        exact absurd hr_.out (by decide)
      ·replace i3 := Bool.eq_false_iff.mpr i3
       subst i3
       have H1 : (some false) = some r := by rw [if_neg (show ¬ (false = true) by decide)] at H; exact H
       clear H
       have H := H1
       clear H1
       obtain rfl := Option.some.inj H
       exact absurd hr_.out (by decide)
     ·replace c8 := Bool.eq_false_iff.mpr c8
      subst c8
      have H1 : (some false) = some r := by rw [if_neg (show ¬ (false = true) by decide)] at H; exact H
      clear H
      have H := H1
      clear H1
      obtain rfl := Option.some.inj H
      exact absurd hr_.out (by decide)
    ·rw [if_neg c5] at H
     have c5b0 : (((rd_T51 a0 0).f0) == 0 && (((rd_T51 a0 0).f1) == 0 && (((rd_T51 a0 0).f2) == 1))) = false := by simpa using c5
     (try (have c5b1 : decide (((rd_T51 a0 0).f0) = 0 && (((rd_T51 a0 0).f1) == 0 && (((rd_T51 a0 0).f2) == 1))) = false := by simpa using c5))
     (try (have c5b2 : (((rd_T51 a0 0).f0) == 0 && (((rd_T51 a0 0).f1) == 0 && (((rd_T51 a0 0).f2) == 1))) = false := by simpa using c5))
     (try (have c5b3 : ¬ (((rd_T51 a0 0).f0) = 0 && (((rd_T51 a0 0).f1) == 0 && (((rd_T51 a0 0).f2) == 1))) := by simpa using c5))
     clear c5
     obtain rfl := Option.some.inj H
     exact absurd hr_.out (by decide)
   ·rw [if_neg c4] at H
    exact absurd H (by simp)
  ·rw [if_neg c3] at H
   have c3b0 : ((a0.length : Int) == 2) = false := beq_eq_false_iff_ne.mpr c3
   have c3b1 : ((a0.length : Int) != 2) = true := bne_iff_ne.mpr c3
   obtain rfl := Option.some.inj H
   exact absurd hr_.out (by decide)
 ·rw [if_neg c2] at H
  have c2b0 : (g7 == 0) = false := beq_eq_false_iff_ne.mpr c2
  have c2b1 : (g7 != 0) = true := bne_iff_ne.mpr c2
  obtain rfl := Option.some.inj H
  exact absurd hr_.out (by decide)
end Go.Proofs.Ythaaockbapbooaa.Pr
namespace Go.Proofs.Ythaaockbapbooaa.Pr
open Go.RowKit Go.Proofs.YthaaockbapbooaaW.PrintWords Go.Proofs.YthaaockbapbooaaW.PrintLast Go.Proofs.YthaaockbapbooaaW.PrintMore
attribute [local go_sem] max2_int min2_int max_two min_two max_three min_three max_four min_four
set_option linter.unusedVariables false
set_option linter.unusedSimpArgs false
def Pr26c.l0 : Nat → Int → Int → List Int → Int → Int → List ByteArray → List (S51) → Option (List Int)
 | 0, _, _, _, _, _, _, _ => none
 | k + 1, x1, x2, x7, x8, x177000, x177001, x177002 => if x8 < (x177002.length : Int) then (if 0 ≤ x8 then (if ((rd_T51 x177002 x8).f0) = x1 then (if ((rd_T51 x177002 x8).f1) = x2 then (if x7.length < 17592186044416 then (Pr26c.l0 k x1 x2 (x7 ++ [(rd_T51 x177002 x8).f2]) (wrap64 (x8 + 1)) x177000 x177001 x177002) else (none)) else (Pr26c.l0 k x1 x2 x7 (wrap64 (x8 + 1)) x177000 x177001 x177002)) else (Pr26c.l0 k x1 x2 x7 (wrap64 (x8 + 1)) x177000 x177001 x177002)) else (none)) else (some x7)
def Pr26c.f (k : Nat) (a0_0 : Int) (l0_1 : List ByteArray) (l0_2 : List (S51)) (a1 : Int) (a2 : Int) : Option (List Int) := Pr26c.l0 k a1 a2 (([] : List Int)) 0 a0_0 l0_1 l0_2
theorem Pr26c.mono_l : ∀ k, (∀ y0 y1 y2 y3 y4 y5 y6, LeO (Pr26c.l0 k y0 y1 y2 y3 y4 y5 y6) (Pr26c.l0 (k + 1) y0 y1 y2 y3 y4 y5 y6))
 | 0 => fun _ _ _ _ _ _ _ r h => by simp [Pr26c.l0] at h
 | k + 1 => by
  have ih0 := Pr26c.mono_l k
  ·intro y0 y1 y2 y3 y4 y5 y6
   unfold Pr26c.l0
   repeat' first
   | (with_reducible exact ih0 _ _ _ _ _ _ _)
   | (with_reducible exact LeO.refl _)
   | (with_reducible exact LeO.none _)
   | (with_reducible refine LeO.ite ?_ ?_)
   | (with_reducible refine LeO.bind ?_ (fun _ => ?_))
   | exact ih0 _ _ _ _ _ _ _
   | exact LeO.none _
   | refine LeO.ite ?_ ?_
   | refine LeO.bind ?_ (fun _ => ?_)
theorem Pr26c.mono : ∀ a0 a1 a2 a3 a4 k, LeO (Pr26c.f k a0 a1 a2 a3 a4) (Pr26c.f (k + 1) a0 a1 a2 a3 a4) := by
 intro a0 a1 a2 a3 a4 k
 have ih0 := Pr26c.mono_l k
 unfold Pr26c.f
 repeat' first
   | (with_reducible exact ih0 _ _ _ _ _ _ _)
   | (with_reducible exact LeO.refl _)
   | (with_reducible exact LeO.none _)
   | (with_reducible refine LeO.ite ?_ ?_)
   | (with_reducible refine LeO.bind ?_ (fun _ => ?_))
   | exact ih0 _ _ _ _ _ _ _
   | exact LeO.none _
   | refine LeO.ite ?_ ?_
   | refine LeO.bind ?_ (fun _ => ?_)
set_option maxHeartbeats 8000000 in
set_option maxRecDepth 100000 in
theorem Pr26c.calls (k : Nat) (a0_0 : Int) (A0_1 : Option Addr) (c0_1 : Nat) (l0_1 : List ByteArray) (A0_2 : Option Addr) (c0_2 : Nat) (l0_2 : List (S51)) (a1 : Int) (a2 : Int) (r : List Int) (w : World) (hr0_1 : Kd.C Kd.string w A0_1 l0_1.length l0_1) (hc0_1 : l0_1.length ≤ c0_1) (hr0_2 : Kd.C k51 w A0_2 l0_2.length l0_2) (hc0_2 : l0_2.length ≤ c0_2) (h : Pr26c.f k a0_0 l0_1 l0_2 a1 a2 = some r) :
  Calls Try.prog 32 #[.agg #[.int .i64 a0_0, .slice A0_1 l0_1.length c0_1, .slice A0_2 l0_2.length c0_2], .int .i64 a1, .int .i64 a2] w fun e w' => ∃ v0_ : Value, e = .returned (v0_) ∧ Kd.R (Kd.int .i64) 3 w' w.heap.size (fun _ => True) v0_ r ∧ Below w.heap.size w w' := by
 have j2 := Try.underlying25
 have i6 := Aside0.mk hr0_1
 have i4 := Aside0.mk hc0_1
 clear hr0_1 hc0_1
 have b6 := Aside0.mk hr0_2
 have i7 := Aside0.mk hc0_2
 clear hr0_2 hc0_2
 have HB := Aside0.mk (Below.refl w.heap.size w)
 have H : (Pr26c.l0 k a1 a2 (([] : List Int)) 0 a0_0 l0_1 l0_2) = some r := h
 clear h
 obtain ⟨e8, d0⟩ : ∃ y_ : List Int, y_ = (([] : List Int)) := ⟨_, rfl⟩
 replace H : (Pr26c.l0 k a1 a2 e8 0 a0_0 l0_1 l0_2) = some r := by first | (rw [d0]; with_reducible exact H) | (have e0 := (Option.bind_some _ _).symm.trans H; rw [d0]; with_reducible exact e0) | (have e0 := (Option.bind_some _ _).symm.trans H; with_reducible exact e0) | with_reducible exact H | (rw [d0]; exact H) | exact H
 have e7 := Aside0.mk d0
 clear d0
 have H' := Aside0.mk H
 clear H
 go_enter Try.func32, Try.ntmps32
 go_wp2_with (first | ((with_reducible refine gate_dst (N := 3) rfl ?_); refine box_event ?hg (N := 3) ?hd (cs := #[.int .i64 a0_0, .slice A0_1 l0_1.length c0_1, .slice A0_2 l0_2.length c0_2]) (t := 25) ?hr ?_; (case hd => rfl); (case hg => rfl); (case hr => first | (go_simp; done) | (go_simp; rfl)); intro a4 hg w4 hbox hb; have d7 := Aside0.mk (below_step (by repeat (first | (with_reducible first | exact HB.out | apply below_alloc | apply pw_below_drewN | apply below_drew1) | exact HB.out)) hb); have d5 := Aside0.mk (hbox); have d6 := Aside0.mk ((by rw [hg]; exact (below_size (by repeat (first | (with_reducible first | exact HB.out | apply below_alloc | apply pw_below_drewN | apply below_drew1) | exact HB.out))) : w.heap.size ≤ a4)); have f8 := Aside0.mk ((by rw [hg]; exact (below_size (by repeat (first | (with_reducible first | exact HB.out | apply below_alloc | apply pw_below_drewN | apply below_drew1) | exact HB.out))) : w.heap.size ≤ a4)); clear HB; have HB := d7; have a0 := d5; have i5 := d6; have b1 := f8; clear d7 d5 d6 f8; clear hb hbox hg) | ((with_reducible refine gate_dst (N := 9) rfl ?_); refine Kd.R_lit (Kd.int .i64) _ 3 ?hg (N := 9) ?hd (xs := ([] : List Int)) (inner := []) (ok := fun _ => True) (okp := fun _ => True) ?hr ?hp (fun _ hk => hk) trivial (Below.refl _ _) (Nat.le_refl _) (by simp) ?_; (case hd => rfl); (case hg => rfl); (case hr => first | (go_simp; done) | (go_simp; rfl)); (case hp => exact (Reps.none _ _)); intro i8 w5 ho6 hb hg_ hnew_; clear hg_ hnew_; (first | rw [← e7.out] at ho6 | (simp only [Int.reduceToNat] at ho6; rw [← e7.out] at ho6)); have d7 := Aside0.mk (Kd.R_lower ho6 (below_size (by repeat (first | (with_reducible first | exact HB.out | apply below_alloc | apply pw_below_drewN | apply below_drew1 | refine below_set ?_ b1.out) | exact HB.out)))); have d5 := Aside0.mk (blk_below (g := a4) (o := .cells #[.int .i64 a0_0, .slice A0_1 l0_1.length c0_1, .slice A0_2 l0_2.length c0_2] 25 (0, 0)) (by (with_reducible repeat (first | refine blk_drewN ?_ _ | refine blk_drew ?_ | refine blk_alloc ?_ _)); exact a0.out) hb); have d6 := Aside0.mk (below_step (by repeat (first | (with_reducible first | exact HB.out | apply below_alloc | apply pw_below_drewN | apply below_drew1 | refine below_set ?_ b1.out) | exact HB.out)) hb); clear a0; clear HB; have f4 := d7; have a0 := d5; have HB := d6; clear d7 d5 d6; clear hb ho6))
 go_loopg [7, 8] k (fun kq v7 v8 w' => ∃ (b4 : List Int) (a3 : Int), v8 = .int .i64 a3 ∧ Aside0 (Pr26c.l0 kq a1 a2 b4 a3 a0_0 l0_1 l0_2 = some r) ∧ Aside0 (kq ≤ k) ∧ Aside0 (Kd.R (Kd.int .i64) 3 w' w.heap.size (fun _ => True) v7 b4) ∧ Aside0 (w'.heap[a4]? = some (.cells #[.int .i64 a0_0, (.slice A0_1 l0_1.length c0_1), (.slice A0_2 l0_2.length c0_2)] 25 (0, 0))) ∧ Aside0 (Below w.heap.size w w'))
 case atStart => exact ⟨(e8), (0), (by first | rfl | (simp; done) | (simp [*]; done)), H', ⟨Nat.le_refl _⟩, ⟨by (with_reducible repeat (first | apply Kd.R_alloc | apply Kd.R_drewN | apply Kd.R_drew)); exact f4.out⟩, ⟨by (with_reducible repeat (first | refine blk_drewN ?_ _ | refine blk_drew ?_ | refine blk_alloc ?_ _)); exact a0.out⟩, ⟨by repeat (first | (with_reducible first | exact HB.out | apply below_alloc | apply pw_below_drewN | apply below_drew1 | refine below_set ?_ b1.out) | exact HB.out)⟩⟩
 case round =>
  clear H'
  try clear p2
  try clear c3
  obtain ⟨b4, a3, rfl, HA, e1, d1, a0, HB⟩ := hrel
  cases gk with
  | zero => exact absurd HA.out (by simp [Pr26c.l0])
  | succ k1 =>
   have H := HA.out
   clear HA
   simp only [Pr26c.l0] at H
   by_cases c7 : a3 < (l0_2.length : Int)
   ·rw [if_pos c7] at H
    have c7b0 : decide (a3 < (l0_2.length : Int)) = true := decide_eq_true c7
    clear c7
    by_cases c8 : 0 ≤ a3
    ·rw [if_pos c8] at H
     have c8b0 : decide (0 ≤ a3) = true := decide_eq_true c8
     clear c8
     by_cases c9 : ((rd_T51 l0_2 a3).f0) = a1
     ·rw [if_pos c9] at H
      have c9b0 : (((rd_T51 l0_2 a3).f0) == a1) = true := beq_iff_eq.mpr c9
      have c9b1 : (((rd_T51 l0_2 a3).f0) != a1) = false := bne_eq_false_iff_eq.mpr c9
      clear c9
      by_cases c10 : ((rd_T51 l0_2 a3).f1) = a2
      ·rw [if_pos c10] at H
       have c10b0 : (((rd_T51 l0_2 a3).f1) == a2) = true := beq_iff_eq.mpr c10
       have c10b1 : (((rd_T51 l0_2 a3).f1) != a2) = false := bne_eq_false_iff_eq.mpr c10
       clear c10
       by_cases e6 : b4.length < 17592186044416
       ·rw [if_pos e6] at H
        have f7 := Aside0.mk e6
        clear e6
        obtain ⟨e9, b9⟩ : ∃ y_ : List Int, y_ = (b4 ++ [(rd_T51 l0_2 a3).f2]) := ⟨_, rfl⟩
        replace H : (Pr26c.l0 k1 a1 a2 e9 (d9 (a3 + 1)) a0_0 l0_1 l0_2) = some r := by first | (rw [b9]; with_reducible exact H) | (have e0 := (Option.bind_some _ _).symm.trans H; rw [b9]; with_reducible exact e0) | (have e0 := (Option.bind_some _ _).symm.trans H; with_reducible exact e0) | with_reducible exact H | (rw [b9]; exact H) | exact H
        have f5 := Aside0.mk b9
        clear b9
        have H' := Aside0.mk H
        clear H
        have i1 : wr.cell? ⟨a4, 0, none⟩ = some (.int .i64 a0_0) := (blk_cell a0.out 0).trans rfl
        have i2 : wr.cell? ⟨a4, 1, none⟩ = some (.slice A0_1 l0_1.length c0_1) := (blk_cell a0.out 1).trans rfl
        have h4 : wr.cell? ⟨a4, 2, none⟩ = some (.slice A0_2 l0_2.length c0_2) := (blk_cell a0.out 2).trans rfl
        have g1 := blk_frozen a0.out 0
        have h9 := blk_frozen a0.out 1
        have h7 := blk_frozen a0.out 2
        have b2 : 0 ≤ (a3 : Int) := of_decide_eq_true (by first | (with_reducible assumption) | assumption)
        have b3 : a3 < (l0_2.length : Int) := of_decide_eq_true (by first | (with_reducible assumption) | assumption)
        obtain ⟨b5, d8, a5, a6, a7⟩ := at_T51 b6.out a3 b2 b3
        cases d8
        replace a5 := (HB.out.cell (World.block_lt_of_cell? w _ a5)).trans a5
        replace a6 := (HB.out.cell (World.block_lt_of_cell? w _ a6)).trans a6
        replace a7 := (HB.out.cell (World.block_lt_of_cell? w _ a7)).trans a7
        replace b2 := eq_true b2
        replace b3 := eq_true b3
        have b7 : 0 ≤ (a3 : Int) := of_decide_eq_true (by first | (with_reducible assumption) | assumption)
        have b8 : a3 < (l0_2.length : Int) := of_decide_eq_true (by first | (with_reducible assumption) | assumption)
        obtain ⟨e2, e5, a9, b0, a8⟩ := at_T51 b6.out a3 b7 b8
        obtain rfl : b5 = e2 := (by injection e5)
        replace a9 := (HB.out.cell (World.block_lt_of_cell? w _ a9)).trans a9
        replace b0 := (HB.out.cell (World.block_lt_of_cell? w _ b0)).trans b0
        replace a8 := (HB.out.cell (World.block_lt_of_cell? w _ a8)).trans a8
        replace b7 := eq_true b7
        replace b8 := eq_true b8
        have e3 : 0 ≤ (a3 : Int) := of_decide_eq_true (by first | (with_reducible assumption) | assumption)
        have e4 : a3 < (l0_2.length : Int) := of_decide_eq_true (by first | (with_reducible assumption) | assumption)
        obtain ⟨f3, f9, d3, d4, d2⟩ := at_T51 b6.out a3 e3 e4
        obtain rfl : b5 = f3 := (by injection f9)
        replace d3 := (HB.out.cell (World.block_lt_of_cell? w _ d3)).trans d3
        replace d4 := (HB.out.cell (World.block_lt_of_cell? w _ d4)).trans d4
        replace d2 := (HB.out.cell (World.block_lt_of_cell? w _ d2)).trans d2
        replace e3 := eq_true e3
        replace e4 := eq_true e4
        go_wp2_with (first | ((with_reducible refine gate_builtin (b := .append) (xs := #[.tmp 35, .tmp 42]) rfl ?_); at_builtin; refine Kd.R_append (Kd.int .i64) (w0 := w) w.heap.size rfl (.tmp 35) (.tmp 42) 47 3 (.int .i64 0) 8 rfl Try.underlying47 info3 rfl (by decide) (by omega) u7 b4 ((rd_T51 l0_2 a3).f2) [.int .i64 ((rd_T51 l0_2 a3).f2)] (fun _ => True) (fun _ => False) rfl rfl ?aP (fun _ hk => hk.elim) ?aF ?aO ?aB ?aS ?aL ?_; (case aP => exact rfl); (case aB => exact (by repeat (first | (with_reducible first | exact HB.out | apply below_alloc | apply pw_below_drewN | apply below_drew1 | refine below_set ?_ b1.out) | exact HB.out))); (case aF => exact (fun _ _ => trivial)); (case aO => exact (by (with_reducible repeat (first | apply Kd.R_alloc | apply Kd.R_drewN | apply Kd.R_drew)); exact d1.out)); (case aS => exact (below_size (by repeat (first | (with_reducible first | exact HB.out | apply below_alloc | apply pw_below_drewN | apply below_drew1 | refine below_set ?_ b1.out) | exact HB.out)))); (case aL => have := f7.out; omega); intro i9 w13 ho hb hg hat; rw [← f5.out] at ho; have d7 := Aside0.mk (blk_grown (g := a4) (o := .cells #[.int .i64 a0_0, .slice A0_1 l0_1.length c0_1, .slice (some b5) l0_2.length c0_2] 25 (0, 0)) (by (with_reducible repeat (first | refine blk_drewN ?_ _ | refine blk_drew ?_ | refine blk_alloc ?_ _)); exact a0.out) hg (Kd.R_ne d1.out a0.out (by decide))); have d5 := Aside0.mk (hb); have d6 := Aside0.mk (ho); clear a0; clear HB; clear d1; have a0 := d7; have HB := d5; have f6 := d6; clear d7 d5 d6; clear ho hb hg hat))
        go_roundg k1
        case measure => have := e1.out; omega
        case rel => exact ⟨(e9), (d9 (a3 + 1)), (by first | rfl | (simp; done) | (simp [*]; done)), H', ⟨by have := e1.out; omega⟩, ⟨by (with_reducible repeat (first | apply Kd.R_alloc | apply Kd.R_drewN | apply Kd.R_drew)); exact f6.out⟩, ⟨by (with_reducible repeat (first | refine blk_drewN ?_ _ | refine blk_drew ?_ | refine blk_alloc ?_ _)); exact a0.out⟩, ⟨by repeat (first | (with_reducible first | exact HB.out | apply below_alloc | apply pw_below_drewN | apply below_drew1 | refine below_set ?_ b1.out) | exact HB.out)⟩⟩
       ·rw [if_neg e6] at H
        exact absurd H (by simp)
      ·rw [if_neg c10] at H
       have c10b0 : (((rd_T51 l0_2 a3).f1) == a2) = false := beq_eq_false_iff_ne.mpr c10
       have c10b1 : (((rd_T51 l0_2 a3).f1) != a2) = true := bne_iff_ne.mpr c10
       have H' := Aside0.mk H
       clear H
       have g8 : wr.cell? ⟨a4, 0, none⟩ = some (.int .i64 a0_0) := (blk_cell a0.out 0).trans rfl
       have i3 : wr.cell? ⟨a4, 1, none⟩ = some (.slice A0_1 l0_1.length c0_1) := (blk_cell a0.out 1).trans rfl
       have h0 : wr.cell? ⟨a4, 2, none⟩ = some (.slice A0_2 l0_2.length c0_2) := (blk_cell a0.out 2).trans rfl
       have h3 := blk_frozen a0.out 0
       have h5 := blk_frozen a0.out 1
       have g5 := blk_frozen a0.out 2
       have b2 : 0 ≤ (a3 : Int) := of_decide_eq_true (by first | (with_reducible assumption) | assumption)
       have b3 : a3 < (l0_2.length : Int) := of_decide_eq_true (by first | (with_reducible assumption) | assumption)
       obtain ⟨b5, d8, a5, a6, a7⟩ := at_T51 b6.out a3 b2 b3
       cases d8
       replace a5 := (HB.out.cell (World.block_lt_of_cell? w _ a5)).trans a5
       replace a6 := (HB.out.cell (World.block_lt_of_cell? w _ a6)).trans a6
       replace a7 := (HB.out.cell (World.block_lt_of_cell? w _ a7)).trans a7
       replace b2 := eq_true b2
       replace b3 := eq_true b3
       have b7 : 0 ≤ (a3 : Int) := of_decide_eq_true (by first | (with_reducible assumption) | assumption)
       have b8 : a3 < (l0_2.length : Int) := of_decide_eq_true (by first | (with_reducible assumption) | assumption)
       obtain ⟨e2, e5, a9, b0, a8⟩ := at_T51 b6.out a3 b7 b8
       obtain rfl : b5 = e2 := (by injection e5)
       replace a9 := (HB.out.cell (World.block_lt_of_cell? w _ a9)).trans a9
       replace b0 := (HB.out.cell (World.block_lt_of_cell? w _ b0)).trans b0
       replace a8 := (HB.out.cell (World.block_lt_of_cell? w _ a8)).trans a8
       replace b7 := eq_true b7
       replace b8 := eq_true b8
       go_wp2
       go_roundg k1
       case measure => have := e1.out; omega
       case rel => exact ⟨(b4), (d9 (a3 + 1)), (by first | rfl | (simp; done) | (simp [*]; done)), H', ⟨by have := e1.out; omega⟩, ⟨by (with_reducible repeat (first | apply Kd.R_alloc | apply Kd.R_drewN | apply Kd.R_drew)); exact d1.out⟩, ⟨by (with_reducible repeat (first | refine blk_drewN ?_ _ | refine blk_drew ?_ | refine blk_alloc ?_ _)); exact a0.out⟩, ⟨by repeat (first | (with_reducible first | exact HB.out | apply below_alloc | apply pw_below_drewN | apply below_drew1 | refine below_set ?_ b1.out) | exact HB.out)⟩⟩
     ·rw [if_neg c9] at H
      have c9b0 : (((rd_T51 l0_2 a3).f0) == a1) = false := beq_eq_false_iff_ne.mpr c9
      have c9b1 : (((rd_T51 l0_2 a3).f0) != a1) = true := bne_iff_ne.mpr c9
      have H' := Aside0.mk H
      clear H
      have g3 : wr.cell? ⟨a4, 0, none⟩ = some (.int .i64 a0_0) := (blk_cell a0.out 0).trans rfl
      have g6 : wr.cell? ⟨a4, 1, none⟩ = some (.slice A0_1 l0_1.length c0_1) := (blk_cell a0.out 1).trans rfl
      have h8 : wr.cell? ⟨a4, 2, none⟩ = some (.slice A0_2 l0_2.length c0_2) := (blk_cell a0.out 2).trans rfl
      have i0 := blk_frozen a0.out 0
      have h2 := blk_frozen a0.out 1
      have g9 := blk_frozen a0.out 2
      have b2 : 0 ≤ (a3 : Int) := of_decide_eq_true (by first | (with_reducible assumption) | assumption)
      have b3 : a3 < (l0_2.length : Int) := of_decide_eq_true (by first | (with_reducible assumption) | assumption)
      obtain ⟨b5, d8, a5, a6, a7⟩ := at_T51 b6.out a3 b2 b3
      cases d8
      replace a5 := (HB.out.cell (World.block_lt_of_cell? w _ a5)).trans a5
      replace a6 := (HB.out.cell (World.block_lt_of_cell? w _ a6)).trans a6
      replace a7 := (HB.out.cell (World.block_lt_of_cell? w _ a7)).trans a7
      replace b2 := eq_true b2
      replace b3 := eq_true b3
      go_wp2
      go_roundg k1
      case measure => have := e1.out; omega
      case rel => exact ⟨(b4), (d9 (a3 + 1)), (by first | rfl | (simp; done) | (simp [*]; done)), H', ⟨by have := e1.out; omega⟩, ⟨by (with_reducible repeat (first | apply Kd.R_alloc | apply Kd.R_drewN | apply Kd.R_drew)); exact d1.out⟩, ⟨by (with_reducible repeat (first | refine blk_drewN ?_ _ | refine blk_drew ?_ | refine blk_alloc ?_ _)); exact a0.out⟩, ⟨by repeat (first | (with_reducible first | exact HB.out | apply below_alloc | apply pw_below_drewN | apply below_drew1 | refine below_set ?_ b1.out) | exact HB.out)⟩⟩
    ·rw [if_neg c8] at H
     exact absurd H (by simp)
   ·rw [if_neg c7] at H
    have c7b0 : decide (a3 < (l0_2.length : Int)) = false := decide_eq_false c7
    clear c7
    obtain rfl := Option.some.inj H
    have g0 : wr.cell? ⟨a4, 0, none⟩ = some (.int .i64 a0_0) := (blk_cell a0.out 0).trans rfl
    have h1 : wr.cell? ⟨a4, 1, none⟩ = some (.slice A0_1 l0_1.length c0_1) := (blk_cell a0.out 1).trans rfl
    have g2 : wr.cell? ⟨a4, 2, none⟩ = some (.slice A0_2 l0_2.length c0_2) := (blk_cell a0.out 2).trans rfl
    have g7 := blk_frozen a0.out 0
    have h6 := blk_frozen a0.out 1
    have g4 := blk_frozen a0.out 2
    go_wp2
    go_ret
    exact ⟨_, by first | rfl | (simp [errW_none, errW_some] <;> rfl) | (simp [*, errW_none, errW_some] <;> rfl), by (with_reducible repeat (first | apply Kd.R_alloc | apply Kd.R_drewN | apply Kd.R_drew)); exact d1.out, by repeat (first | (with_reducible first | exact HB.out | apply below_alloc | apply pw_below_drewN | apply below_drew1 | refine below_set ?_ b1.out) | exact HB.out)⟩
end Go.Proofs.Ythaaockbapbooaa.Pr
namespace Go.Proofs.Ythaaockbapbooaa.Pr
open Go.RowKit Go.Proofs.YthaaockbapbooaaW.PrintWords Go.Proofs.YthaaockbapbooaaW.PrintLast Go.Proofs.YthaaockbapbooaaW.PrintMore
attribute [local go_sem] max2_int min2_int max_two min_two max_three min_three max_four min_four
set_option linter.unusedVariables false
set_option linter.unusedSimpArgs false
mutual
def Pl26a.l0 : Nat → Int → Int → List Int → List Int → List (S51) → List Int → List (S51) → Bool → Int → Int → List ByteArray → List (S51) → Option (Bool)
 | 0, _, _, _, _, _, _, _, _, _, _, _, _ => none
 | k + 1, x1, x2, x7, x8, x9, x10, x11, x12, x13, x187000, x187001, x187002 => if x13 < (x187002.length : Int) then (if 0 ≤ x13 then (if ((rd_T51 x187002 x13).f2) = x1 then (Pl26a.j1 k x1 x2 x7 x8 x9 x10 x11 x12 x13 (((rd_T51 x187002 x13).f1) == x2) x187000 x187001 x187002 ((rd_T51 x187002 x13).f0) ((rd_T51 x187002 x13).f1) ((rd_T51 x187002 x13).f2)) else (Pl26a.j1 k x1 x2 x7 x8 x9 x10 x11 x12 x13 false x187000 x187001 x187002 ((rd_T51 x187002 x13).f0) ((rd_T51 x187002 x13).f1) ((rd_T51 x187002 x13).f2))) else (none)) else ((Pr26c.f k x187000 x187001 x187002 x1 x2).bind fun t230 => ((Pr01b.f k x7 t230).bind fun t233 => (if t233 = true then ((Pr01b.f k x8 x10).bind fun t234 => (if t234 = true then ((Pr26b.f k 0 ([] : List ByteArray) x9 0 ([] : List ByteArray) x11).bind fun t235 => (if t235 = true then ((Pxb.f k x187000 x187001 x187002).bind fun t236 => (if (t236 == x12) = true then ((Pl26b.f k).bind fun t237 => (some t237)) else (some false))) else (some false))) else (some false))) else (some false))))
def Pl26a.j1 : Nat → Int → Int → List Int → List Int → List (S51) → List Int → List (S51) → Bool → Int → Bool → Int → List ByteArray → List (S51) → Int → Int → Int → Option (Bool)
 | 0, _, _, _, _, _, _, _, _, _, _, _, _, _, _, _, _ => none
 | k + 1, x1, x2, x7, x8, x9, x10, x11, x12, x13, x77, x187000, x187001, x187002, x209000, x209001, x209002 => if x77 = true then (if x10.length < 17592186044416 then ((some (x10 ++ [x209000] : List Int)).bind fun y209 => (if x209000 = x1 then (if x11.length < 5864062014805 then ((some (x11 ++ [(⟨x209000, x209001, x209002⟩ : S51)] : List (S51))).bind fun y212 => (if x12 = true then ((Pr26c.f k x187000 x187001 x187002 x209000 x209001).bind fun t215 => (Pl26a.l0 k x1 x2 x7 x8 x9 y209 y212 ((t215.length : Int) == 1) (wrap64 (x13 + 1)) x187000 x187001 x187002)) else (Pl26a.l0 k x1 x2 x7 x8 x9 y209 y212 false (wrap64 (x13 + 1)) x187000 x187001 x187002))) else (none)) else (if x12 = true then ((Pr26c.f k x187000 x187001 x187002 x209000 x209001).bind fun t218 => (Pl26a.l0 k x1 x2 x7 x8 x9 y209 x11 ((t218.length : Int) == 1) (wrap64 (x13 + 1)) x187000 x187001 x187002)) else (Pl26a.l0 k x1 x2 x7 x8 x9 y209 x11 false (wrap64 (x13 + 1)) x187000 x187001 x187002)))) else (none)) else (if x209000 = x1 then (if x11.length < 5864062014805 then ((some (x11 ++ [(⟨x209000, x209001, x209002⟩ : S51)] : List (S51))).bind fun y221 => (if x12 = true then ((Pr26c.f k x187000 x187001 x187002 x209000 x209001).bind fun t224 => (Pl26a.l0 k x1 x2 x7 x8 x9 x10 y221 ((t224.length : Int) == 1) (wrap64 (x13 + 1)) x187000 x187001 x187002)) else (Pl26a.l0 k x1 x2 x7 x8 x9 x10 y221 false (wrap64 (x13 + 1)) x187000 x187001 x187002))) else (none)) else (if x12 = true then ((Pr26c.f k x187000 x187001 x187002 x209000 x209001).bind fun t227 => (Pl26a.l0 k x1 x2 x7 x8 x9 x10 x11 ((t227.length : Int) == 1) (wrap64 (x13 + 1)) x187000 x187001 x187002)) else (Pl26a.l0 k x1 x2 x7 x8 x9 x10 x11 false (wrap64 (x13 + 1)) x187000 x187001 x187002)))
end
def Pl26a.f (k : Nat) (a0_0 : Int) (l0_1 : List ByteArray) (l0_2 : List (S51)) (a1 : Int) (a2 : Int) : Option (Bool) := (Pr26a.f k a0_0 l0_1 l0_2).bind fun t187 => (if t187 = true then ((Pxe.f k a0_0 l0_1 l0_2 a1 a2).bind fun t189 => ((Pxf.f k a0_0 l0_1 l0_2 a1 a2).bind fun t192 => ((Pxg.f a0_0 l0_1 l0_2 a1).bind fun t195 => ((Pr26d.f a0_0 l0_1 l0_2).bind fun t198 => (if t198 = true then (Pl26a.l0 k a1 a2 t189 t192 t195 (([] : List Int)) (([] : List (S51))) true 0 a0_0 l0_1 l0_2) else (if (t189.length : Int) = 0 then (if (t192.length : Int) = 0 then (if (t195.length : Int) = 0 then ((Pxb.f k a0_0 l0_1 l0_2).bind fun t199 => (if t199 = true then (some false) else ((Pl26b.f k).bind fun t200 => (some t200)))) else (some false)) else (some false)) else (some false))))))) else ((Pl26b.f k).bind fun t188 => (some t188)))
theorem Pl26a.mono_l : ∀ k, (∀ y0 y1 y2 y3 y4 y5 y6 y7 y8 y9 y10 y11, LeO (Pl26a.l0 k y0 y1 y2 y3 y4 y5 y6 y7 y8 y9 y10 y11) (Pl26a.l0 (k + 1) y0 y1 y2 y3 y4 y5 y6 y7 y8 y9 y10 y11)) ∧ (∀ y0 y1 y2 y3 y4 y5 y6 y7 y8 y9 y10 y11 y12 y13 y14 y15, LeO (Pl26a.j1 k y0 y1 y2 y3 y4 y5 y6 y7 y8 y9 y10 y11 y12 y13 y14 y15) (Pl26a.j1 (k + 1) y0 y1 y2 y3 y4 y5 y6 y7 y8 y9 y10 y11 y12 y13 y14 y15))
 | 0 => ⟨fun _ _ _ _ _ _ _ _ _ _ _ _ r h => by simp [Pl26a.l0] at h, fun _ _ _ _ _ _ _ _ _ _ _ _ _ _ _ _ r h => by simp [Pl26a.j1] at h⟩
 | k + 1 => by
  obtain ⟨ih0, ih1⟩ := Pl26a.mono_l k
  refine ⟨?_, ?_⟩
  ·intro y0 y1 y2 y3 y4 y5 y6 y7 y8 y9 y10 y11
   unfold Pl26a.l0
   repeat' first
   | (with_reducible exact ih0 _ _ _ _ _ _ _ _ _ _ _ _)
   | (with_reducible exact ih1 _ _ _ _ _ _ _ _ _ _ _ _ _ _ _ _)
   | (with_reducible exact Pxf.mono _ _ _ _ _ _)
   | (with_reducible exact Pxb.mono _ _ _ _)
   | (with_reducible exact Pxe.mono _ _ _ _ _ _)
   | (with_reducible exact Pl26b.mono _)
   | (with_reducible exact Pr01b.mono _ _ _)
   | (with_reducible exact Pr26a.mono _ _ _ _)
   | (with_reducible exact Pr26b.mono _ _ _ _ _ _ _)
   | (with_reducible exact Pr26c.mono _ _ _ _ _ _)
   | (with_reducible exact LeO.refl _)
   | (with_reducible exact LeO.none _)
   | (with_reducible refine LeO.ite ?_ ?_)
   | (with_reducible refine LeO.bind ?_ (fun _ => ?_))
   | exact ih0 _ _ _ _ _ _ _ _ _ _ _ _
   | exact ih1 _ _ _ _ _ _ _ _ _ _ _ _ _ _ _ _
   | exact Pxf.mono _ _ _ _ _ _
   | exact Pxb.mono _ _ _ _
   | exact Pxe.mono _ _ _ _ _ _
   | exact Pl26b.mono _
   | exact Pr01b.mono _ _ _
   | exact Pr26a.mono _ _ _ _
   | exact Pr26b.mono _ _ _ _ _ _ _
   | exact Pr26c.mono _ _ _ _ _ _
   | exact LeO.none _
   | refine LeO.ite ?_ ?_
   | refine LeO.bind ?_ (fun _ => ?_)
  ·intro y0 y1 y2 y3 y4 y5 y6 y7 y8 y9 y10 y11 y12 y13 y14 y15
   unfold Pl26a.j1
   repeat' first
   | (with_reducible exact ih0 _ _ _ _ _ _ _ _ _ _ _ _)
   | (with_reducible exact ih1 _ _ _ _ _ _ _ _ _ _ _ _ _ _ _ _)
   | (with_reducible exact Pxf.mono _ _ _ _ _ _)
   | (with_reducible exact Pxb.mono _ _ _ _)
   | (with_reducible exact Pxe.mono _ _ _ _ _ _)
   | (with_reducible exact Pl26b.mono _)
   | (with_reducible exact Pr01b.mono _ _ _)
   | (with_reducible exact Pr26a.mono _ _ _ _)
   | (with_reducible exact Pr26b.mono _ _ _ _ _ _ _)
   | (with_reducible exact Pr26c.mono _ _ _ _ _ _)
   | (with_reducible exact LeO.refl _)
   | (with_reducible exact LeO.none _)
   | (with_reducible refine LeO.ite ?_ ?_)
   | (with_reducible refine LeO.bind ?_ (fun _ => ?_))
   | exact ih0 _ _ _ _ _ _ _ _ _ _ _ _
   | exact ih1 _ _ _ _ _ _ _ _ _ _ _ _ _ _ _ _
   | exact Pxf.mono _ _ _ _ _ _
   | exact Pxb.mono _ _ _ _
   | exact Pxe.mono _ _ _ _ _ _
   | exact Pl26b.mono _
   | exact Pr01b.mono _ _ _
   | exact Pr26a.mono _ _ _ _
   | exact Pr26b.mono _ _ _ _ _ _ _
   | exact Pr26c.mono _ _ _ _ _ _
   | exact LeO.none _
   | refine LeO.ite ?_ ?_
   | refine LeO.bind ?_ (fun _ => ?_)
theorem Pl26a.mono : ∀ a0 a1 a2 a3 a4 k, LeO (Pl26a.f k a0 a1 a2 a3 a4) (Pl26a.f (k + 1) a0 a1 a2 a3 a4) := by
 intro a0 a1 a2 a3 a4 k
 obtain ⟨ih0, ih1⟩ := Pl26a.mono_l k
 unfold Pl26a.f
 repeat' first
   | (with_reducible exact ih0 _ _ _ _ _ _ _ _ _ _ _ _)
   | (with_reducible exact ih1 _ _ _ _ _ _ _ _ _ _ _ _ _ _ _ _)
   | (with_reducible exact Pxf.mono _ _ _ _ _ _)
   | (with_reducible exact Pxb.mono _ _ _ _)
   | (with_reducible exact Pxe.mono _ _ _ _ _ _)
   | (with_reducible exact Pl26b.mono _)
   | (with_reducible exact Pr01b.mono _ _ _)
   | (with_reducible exact Pr26a.mono _ _ _ _)
   | (with_reducible exact Pr26b.mono _ _ _ _ _ _ _)
   | (with_reducible exact Pr26c.mono _ _ _ _ _ _)
   | (with_reducible exact LeO.refl _)
   | (with_reducible exact LeO.none _)
   | (with_reducible refine LeO.ite ?_ ?_)
   | (with_reducible refine LeO.bind ?_ (fun _ => ?_))
   | exact ih0 _ _ _ _ _ _ _ _ _ _ _ _
   | exact ih1 _ _ _ _ _ _ _ _ _ _ _ _ _ _ _ _
   | exact Pxf.mono _ _ _ _ _ _
   | exact Pxb.mono _ _ _ _
   | exact Pxe.mono _ _ _ _ _ _
   | exact Pl26b.mono _
   | exact Pr01b.mono _ _ _
   | exact Pr26a.mono _ _ _ _
   | exact Pr26b.mono _ _ _ _ _ _ _
   | exact Pr26c.mono _ _ _ _ _ _
   | exact LeO.none _
   | refine LeO.ite ?_ ?_
   | refine LeO.bind ?_ (fun _ => ?_)
def Pl26a.T3 : Bool × List (List Nat × List Nat) := (true, [([], []), ([], []), ([], []), ([0, 1, 2], [0, 1, 2]), ([], []), ([], []), ([], []), ([4, 5, 6, 3], [4, 5, 6]), ([], []), ([], []), ([8, 9, 7], [8, 9]), ([3, 10, 0, 1, 2, 3], [3]), ([7, 11, 0, 1, 2, 3, 4, 5, 6, 7, 11], [7]), ([10, 12, 0, 1, 2, 3, 4, 5, 6, 7, 8, 9, 10, 11, 12], [10])])
def Pl26a.B3 : List Nat := [0, 0, 0, 7, 0, 0, 0, 127, 0, 0, 1023, 2047, 4095, 8191]
theorem Pl26a.tab3 : rtab .any (opsOf Try.f7 3) = Pl26a.T3 := by kernel_rfl
theorem Pl26a.bits3 : waitsOk Pl26a.T3.2 Pl26a.B3 = true := by kernel_rfl
set_option maxHeartbeats 8000000 in
set_option maxRecDepth 100000 in
theorem Pl26a.calls (k : Nat) (a0_0 : Int) (A0_1 : Option Addr) (c0_1 : Nat) (l0_1 : List ByteArray) (A0_2 : Option Addr) (c0_2 : Nat) (l0_2 : List (S51)) (a1 : Int) (a2 : Int) (r : Bool) (w : World) (hr0_1 : Kd.C Kd.string w A0_1 l0_1.length l0_1) (hc0_1 : l0_1.length ≤ c0_1) (hr0_2 : Kd.C k51 w A0_2 l0_2.length l0_2) (hc0_2 : l0_2.length ≤ c0_2) (h : Pl26a.f k a0_0 l0_1 l0_2 a1 a2 = some r) (hr_ : Aside0 (r = true)) :
  Calls Try.prog 7 #[.agg #[.int .i64 a0_0, .slice A0_1 l0_1.length c0_1, .slice A0_2 l0_2.length c0_2], .int .i64 a1, .int .i64 a2] w fun e w' => e = .returned (.bool r) ∧ Below w.heap.size w w' := by
 have S1 := Try.underlying25
 have T7 := Try.underlying51
 have f7 := Aside0.mk hr0_1
 have f9 := Aside0.mk hc0_1
 clear hr0_1 hc0_1
 have f5 := Aside0.mk hr0_2
 have f8 := Aside0.mk hc0_2
 clear hr0_2 hc0_2
 have HB := Aside0.mk (Below.refl w.heap.size w)
 have H : ((Pr26a.f k a0_0 l0_1 l0_2).bind fun m3 => (if m3 = true then ((Pxe.f k a0_0 l0_1 l0_2 a1 a2).bind fun b9 => ((Pxf.f k a0_0 l0_1 l0_2 a1 a2).bind fun b8 => ((Pxg.f a0_0 l0_1 l0_2 a1).bind fun b5 => ((Pr26d.f a0_0 l0_1 l0_2).bind fun g8 => (if g8 = true then (Pl26a.l0 k a1 a2 b9 b8 b5 (([] : List Int)) (([] : List (S51))) true 0 a0_0 l0_1 l0_2) else (if (b9.length : Int) = 0 then (if (b8.length : Int) = 0 then (if (b5.length : Int) = 0 then ((Pxb.f k a0_0 l0_1 l0_2).bind fun g3 => (if g3 = true then (some false) else ((Pl26b.f k).bind fun g0 => (some g0)))) else (some false)) else (some false)) else (some false))))))) else ((Pl26b.f k).bind fun i0 => (some i0)))) = some r := h
 clear h
 replace H := Option.bind_eq_some_iff.mp H
 obtain ⟨m3, v9, H⟩ := H
 replace H : (if m3 = true then ((Pxe.f k a0_0 l0_1 l0_2 a1 a2).bind fun b9 => ((Pxf.f k a0_0 l0_1 l0_2 a1 a2).bind fun b8 => ((Pxg.f a0_0 l0_1 l0_2 a1).bind fun b5 => ((Pr26d.f a0_0 l0_1 l0_2).bind fun g8 => (if g8 = true then (Pl26a.l0 k a1 a2 b9 b8 b5 (([] : List Int)) (([] : List (S51))) true 0 a0_0 l0_1 l0_2) else (if (b9.length : Int) = 0 then (if (b8.length : Int) = 0 then (if (b5.length : Int) = 0 then ((Pxb.f k a0_0 l0_1 l0_2).bind fun g3 => (if g3 = true then (some false) else ((Pl26b.f k).bind fun g0 => (some g0)))) else (some false)) else (some false)) else (some false))))))) else ((Pl26b.f k).bind fun i0 => (some i0))) = some r := H
 have A4 := Aside0.mk v9
 clear v9
 by_cases c5 : m3 = true
 ·subst c5
  have H1 : ((Pxe.f k a0_0 l0_1 l0_2 a1 a2).bind fun b9 => ((Pxf.f k a0_0 l0_1 l0_2 a1 a2).bind fun b8 => ((Pxg.f a0_0 l0_1 l0_2 a1).bind fun b5 => ((Pr26d.f a0_0 l0_1 l0_2).bind fun g8 => (if g8 = true then (Pl26a.l0 k a1 a2 b9 b8 b5 (([] : List Int)) (([] : List (S51))) true 0 a0_0 l0_1 l0_2) else (if (b9.length : Int) = 0 then (if (b8.length : Int) = 0 then (if (b5.length : Int) = 0 then ((Pxb.f k a0_0 l0_1 l0_2).bind fun g3 => (if g3 = true then (some false) else ((Pl26b.f k).bind fun g0 => (some g0)))) else (some false)) else (some false)) else (some false))))))) = some r := by rw [if_pos rfl] at H; exact H
  clear H
  have H := H1
  clear H1
  replace H := Option.bind_eq_some_iff.mp H
  obtain ⟨b9, w1, H⟩ := H
  replace H : ((Pxf.f k a0_0 l0_1 l0_2 a1 a2).bind fun b8 => ((Pxg.f a0_0 l0_1 l0_2 a1).bind fun b5 => ((Pr26d.f a0_0 l0_1 l0_2).bind fun g8 => (if g8 = true then (Pl26a.l0 k a1 a2 b9 b8 b5 (([] : List Int)) (([] : List (S51))) true 0 a0_0 l0_1 l0_2) else (if (b9.length : Int) = 0 then (if (b8.length : Int) = 0 then (if (b5.length : Int) = 0 then ((Pxb.f k a0_0 l0_1 l0_2).bind fun g3 => (if g3 = true then (some false) else ((Pl26b.f k).bind fun g0 => (some g0)))) else (some false)) else (some false)) else (some false)))))) = some r := H
  have A6 := Aside0.mk w1
  clear w1
  replace H := Option.bind_eq_some_iff.mp H
  obtain ⟨b8, v6, H⟩ := H
  replace H : ((Pxg.f a0_0 l0_1 l0_2 a1).bind fun b5 => ((Pr26d.f a0_0 l0_1 l0_2).bind fun g8 => (if g8 = true then (Pl26a.l0 k a1 a2 b9 b8 b5 (([] : List Int)) (([] : List (S51))) true 0 a0_0 l0_1 l0_2) else (if (b9.length : Int) = 0 then (if (b8.length : Int) = 0 then (if (b5.length : Int) = 0 then ((Pxb.f k a0_0 l0_1 l0_2).bind fun g3 => (if g3 = true then (some false) else ((Pl26b.f k).bind fun g0 => (some g0)))) else (some false)) else (some false)) else (some false))))) = some r := H
  have A7 := Aside0.mk v6
  clear v6
  replace H := Option.bind_eq_some_iff.mp H
  obtain ⟨b5, v7, H⟩ := H
  replace H : ((Pr26d.f a0_0 l0_1 l0_2).bind fun g8 => (if g8 = true then (Pl26a.l0 k a1 a2 b9 b8 b5 (([] : List Int)) (([] : List (S51))) true 0 a0_0 l0_1 l0_2) else (if (b9.length : Int) = 0 then (if (b8.length : Int) = 0 then (if (b5.length : Int) = 0 then ((Pxb.f k a0_0 l0_1 l0_2).bind fun g3 => (if g3 = true then (some false) else ((Pl26b.f k).bind fun g0 => (some g0)))) else (some false)) else (some false)) else (some false)))) = some r := H
  have A8 := Aside0.mk v7
  clear v7
  replace H := Option.bind_eq_some_iff.mp H
  obtain ⟨g8, w2, H⟩ := H
  replace H : (if g8 = true then (Pl26a.l0 k a1 a2 b9 b8 b5 (([] : List Int)) (([] : List (S51))) true 0 a0_0 l0_1 l0_2) else (if (b9.length : Int) = 0 then (if (b8.length : Int) = 0 then (if (b5.length : Int) = 0 then ((Pxb.f k a0_0 l0_1 l0_2).bind fun g3 => (if g3 = true then (some false) else ((Pl26b.f k).bind fun g0 => (some g0)))) else (some false)) else (some false)) else (some false))) = some r := H
  have A9 := Aside0.mk w2
  clear w2
  by_cases c10 : g8 = true
  ·subst c10
   have H1 : (Pl26a.l0 k a1 a2 b9 b8 b5 (([] : List Int)) (([] : List (S51))) true 0 a0_0 l0_1 l0_2) = some r := by rw [if_pos rfl] at H; exact H
   clear H
   have H := H1
   clear H1
   obtain ⟨n2, j4⟩ : ∃ y_ : List Int, y_ = (([] : List Int)) := ⟨_, rfl⟩
   replace H : (Pl26a.l0 k a1 a2 b9 b8 b5 n2 (([] : List (S51))) true 0 a0_0 l0_1 l0_2) = some r := by first | (rw [j4]; with_reducible exact H) | (have g9 := (Option.bind_some _ _).symm.trans H; rw [j4]; with_reducible exact g9) | (have g9 := (Option.bind_some _ _).symm.trans H; with_reducible exact g9) | with_reducible exact H | (rw [j4]; exact H) | exact H
   have p6 := Aside0.mk j4
   clear j4
   obtain ⟨s7, j8⟩ : ∃ y_ : List (S51), y_ = (([] : List (S51))) := ⟨_, rfl⟩
   replace H : (Pl26a.l0 k a1 a2 b9 b8 b5 n2 s7 true 0 a0_0 l0_1 l0_2) = some r := by first | (rw [j8]; with_reducible exact H) | (have g9 := (Option.bind_some _ _).symm.trans H; rw [j8]; with_reducible exact g9) | (have g9 := (Option.bind_some _ _).symm.trans H; with_reducible exact g9) | with_reducible exact H | (rw [j8]; exact H) | exact H
   have p5 := Aside0.mk j8
   clear j8
   have H' := Aside0.mk H
   clear H
   go_enter Try.func7, Try.ntmps7
   try go_wp2_with (first | ((with_reducible refine gate_dst (N := 3) rfl ?_); (try (refine gate_guard (by rfl) ?_; dsimp only)); refine box_event ?hg (N := 3) ?hd (cs := #[.int .i64 a0_0, .slice A0_1 l0_1.length c0_1, .slice A0_2 l0_2.length c0_2]) (t := 25) ?hr ?_; (case hd => rfl); (case hg => rfl); (case hr => first | (go_simp; done) | (go_simp; rfl)); intro a6 hg w11 hbox hb; have a9 := Aside0.mk (below_step (by repeat (first | (with_reducible first | exact HB.out | apply below_alloc | apply pw_below_drewN | apply below_drew1) | exact HB.out)) hb); have b0 := Aside0.mk (hbox); have b4 := Aside0.mk ((by rw [hg]; exact (below_size (by repeat (first | (with_reducible first | exact HB.out | apply below_alloc | apply pw_below_drewN | apply below_drew1) | exact HB.out))) : w.heap.size ≤ a6)); have b7 := Aside0.mk ((by rw [hg]; exact (below_size (by repeat (first | (with_reducible first | exact HB.out | apply below_alloc | apply pw_below_drewN | apply below_drew1) | exact HB.out))) : w.heap.size ≤ a6)); clear HB; have HB := a9; have a3 := b0; have o2 := b4; have a7 := b7; clear a9 b0 b4 b7; clear hb hbox hg; have l9 : w11.cell? ⟨a6, 0, none⟩ = some (.int .i64 a0_0) := (blk_cell a3.out 0).trans rfl; have k9 : w11.cell? ⟨a6, 1, none⟩ = some (.slice A0_1 l0_1.length c0_1) := (blk_cell a3.out 1).trans rfl; have l6 : w11.cell? ⟨a6, 2, none⟩ = some (.slice A0_2 l0_2.length c0_2) := (blk_cell a3.out 2).trans rfl; have l5 := blk_frozen a3.out 0; have k8 := blk_frozen a3.out 1; have m1 := blk_frozen a3.out 2) | ((with_reducible refine gate_callee (f := 23) rfl ?_); refine goesL_ (some 16) rfl rfl Try.func23 (by kernel_rfl) rfl #[.agg #[.int .i64 a0_0, .slice A0_1 l0_1.length c0_1, .slice A0_2 l0_2.length c0_2]] rfl (by (try simp only [List.map_toArray, List.map_cons, List.map_nil]); first | done | rfl | (simp only [List.length_drop, List.length_take]; rfl)) ?_; (with_reducible refine (Pr26a.calls k a0_0 _ _ l0_1 _ _ l0_2 true _ ?f3 ?e9 ?f4 ?e7 A4.out).mono ?_); (case f3 => repeat (first | exact (Kd.C_below f7.out HB.out) | (with_reducible refine Kd.C_alloc ?_ _) | (with_reducible refine Kd.C_drewN ?_ _) | (with_reducible refine Kd.C_drew ?_))); (case e9 => exact f9.out); (case f4 => repeat (first | exact (Kd.C_below f5.out HB.out) | (with_reducible refine Kd.C_alloc ?_ _) | (with_reducible refine Kd.C_drewN ?_ _) | (with_reducible refine Kd.C_drew ?_))); (case e7 => exact f8.out); rintro e w13 ⟨rfl, hb⟩; refine ⟨_, rfl, ?_⟩; have a9 := Aside0.mk (blk_below (g := a6) (o := .cells #[.int .i64 a0_0, .slice A0_1 l0_1.length c0_1, .slice A0_2 l0_2.length c0_2] 25 (0, 0)) (by (with_reducible repeat (first | refine blk_drewN ?_ _ | refine blk_drew ?_ | refine blk_alloc ?_ _)); exact a3.out) hb); have b0 := Aside0.mk (below_step (by repeat (first | (with_reducible first | exact HB.out | apply below_alloc | apply pw_below_drewN | apply below_drew1 | refine below_set ?_ a7.out) | exact HB.out)) hb); clear a3; clear HB; have a3 := a9; have HB := b0; clear a9 b0; (try clear hb); (try clear hb2); (try clear hk); (try clear hi)))
   have a9 := Aside0.mk (blk_drew a3.out)
   have b0 := Aside0.mk (below_drew1 HB.out)
   clear a3
   clear HB
   have a3 := a9
   have HB := b0
   clear a9 b0
   refine start_ (n := 14) (S := fun w' => w'.cell? ⟨a6, 0, none⟩ = some (.int .i64 a0_0) ∧ w'.cell? ⟨a6, 1, none⟩ = some (.slice A0_1 l0_1.length c0_1) ∧ w'.cell? ⟨a6, 2, none⟩ = some (.slice A0_2 l0_2.length c0_2)) (ds := []) #[false, false, false, false, false, false, false, false, false, false, false, false, false, false] (by kernel_rfl) rfl rfl ⟨(blk_cell a3.out 0).trans rfl, (blk_cell a3.out 1).trans rfl, (blk_cell a3.out 2).trans rfl⟩ (fun hHeld => ?_); refine with_tabW Pl26a.tab3 Pl26a.bits3 (fun HT_ HW_ => ?_)
   generalize w13.drew = w14 at a3 HB hHeld ⊢
   refine pure_ (i := 1) (N := some 20) (v := ?_) (a' := ?_) #[false, true, false, false, false, false, false, false, false, false, false, false, false, false] rfl rfl (any_of HT_.out (by kernel_rfl)) (fun _ _ _ h => h) (Or.inl ⟨by rfl, ?_⟩) ?_ ?_
   rotate_left
   ·intro w'
    go_simp
    with_reducible rfl
   rotate_left
   ·simp only [Act.put, List.setIfInBounds_toArray, List.set_cons_zero, List.set_cons_succ, i64_w, i32_w]
    rfl
   refine pure_ (i := 2) (N := some 21) (v := ?_) (a' := ?_) #[false, true, true, false, false, false, false, false, false, false, false, false, false, false] rfl rfl (any_of HT_.out (by kernel_rfl)) (fun _ _ _ h => h) (Or.inl ⟨by rfl, ?_⟩) ?_ ?_
   rotate_left
   ·intro w'
    go_simp
    with_reducible rfl
   rotate_left
   ·simp only [Act.put, List.setIfInBounds_toArray, List.set_cons_zero, List.set_cons_succ, i64_w, i32_w]
    rfl
   refine pure_ (i := 5) (N := some 24) (v := ?_) (a' := ?_) #[false, true, true, false, false, true, false, false, false, false, false, false, false, false] rfl rfl (any_of HT_.out (by kernel_rfl)) (fun _ _ _ h => h) (Or.inl ⟨by rfl, ?_⟩) ?_ ?_
   rotate_left
   ·intro w'
    go_simp
    with_reducible rfl
   rotate_left
   ·simp only [Act.put, List.setIfInBounds_toArray, List.set_cons_zero, List.set_cons_succ, i64_w, i32_w]
    rfl
   refine pure_ (i := 6) (N := some 25) (v := ?_) (a' := ?_) #[false, true, true, false, false, true, true, false, false, false, false, false, false, false] rfl rfl (any_of HT_.out (by kernel_rfl)) (fun _ _ _ h => h) (Or.inl ⟨by rfl, ?_⟩) ?_ ?_
   rotate_left
   ·intro w'
    go_simp
    with_reducible rfl
   rotate_left
   ·simp only [Act.put, List.setIfInBounds_toArray, List.set_cons_zero, List.set_cons_succ, i64_w, i32_w]
    rfl
   refine pure_ (i := 9) (N := some 28) (v := ?_) (a' := ?_) #[false, true, true, false, false, true, true, false, false, true, false, false, false, false] rfl rfl (any_of HT_.out (by kernel_rfl)) (fun _ _ _ h => h) (Or.inl ⟨by rfl, ?_⟩) ?_ ?_
   rotate_left
   ·intro w'
    go_simp
    with_reducible rfl
   rotate_left
   ·simp only [Act.put, List.setIfInBounds_toArray, List.set_cons_zero, List.set_cons_succ, i64_w, i32_w]
    rfl
   refine take_ (i := 0) (N := some 19) (v := ?_) (a' := ?_) #[true, true, true, false, false, true, true, false, false, true, false, false, false, false] rfl rfl (take_ofW HT_.out HW_.out (by kernel_rfl)) (fun _ _ _ h => h) (Or.inl ⟨by rfl, ?_⟩) hHeld ?_ ?_
   rotate_left
   ·rintro w' ⟨s0, s1, s2⟩
    go_simp
    with_reducible rfl
   rotate_left
   ·simp only [Act.put, List.setIfInBounds_toArray, List.set_cons_zero, List.set_cons_succ, i64_w, i32_w]
    rfl
   refine take_ (i := 4) (N := some 23) (v := ?_) (a' := ?_) #[true, true, true, false, true, true, true, false, false, true, false, false, false, false] rfl rfl (take_ofW HT_.out HW_.out (by kernel_rfl)) (fun _ _ _ h => h) (Or.inl ⟨by rfl, ?_⟩) hHeld ?_ ?_
   rotate_left
   ·rintro w' ⟨s0, s1, s2⟩
    go_simp
    with_reducible rfl
   rotate_left
   ·simp only [Act.put, List.setIfInBounds_toArray, List.set_cons_zero, List.set_cons_succ, i64_w, i32_w]
    rfl
   refine take_ (i := 8) (N := some 27) (v := ?_) (a' := ?_) #[true, true, true, false, true, true, true, false, true, true, false, false, false, false] rfl rfl (take_ofW HT_.out HW_.out (by kernel_rfl)) (fun _ _ _ h => h) (Or.inl ⟨by rfl, ?_⟩) hHeld ?_ ?_
   rotate_left
   ·rintro w' ⟨s0, s1, s2⟩
    go_simp
    with_reducible rfl
   rotate_left
   ·simp only [Act.put, List.setIfInBounds_toArray, List.set_cons_zero, List.set_cons_succ, i64_w, i32_w]
    rfl
   refine one_ (i := 3) (N := some 22) #[true, true, true, true, true, true, true, false, true, true, false, false, false, false] rfl rfl (one_of HT_.out (by kernel_rfl)) (by decide) (fun K hK => ?_)
   refine goes_ Try.func28 (by kernel_rfl) rfl #[.agg #[.int .i64 a0_0, .slice A0_1 l0_1.length c0_1, .slice A0_2 l0_2.length c0_2], .int .i64 a1, .int .i64 a2] (by rfl) rfl rfl (by (try simp only [List.map_toArray, List.map_cons, List.map_nil]); first | done | rfl | (simp only [List.length_drop, List.length_take]; rfl)) ?_
   with_reducible refine (Pxe.calls k a0_0 _ _ l0_1 _ _ l0_2 a1 a2 b9 _ ?f3 ?e9 ?f4 ?e7 A6.out).mono ?_
   (case f3 => repeat (first | exact (Kd.C_below f7.out HB.out) | (with_reducible refine Kd.C_alloc ?_ _) | (with_reducible refine Kd.C_drewN ?_ _) | (with_reducible refine Kd.C_drew ?_)))
   (case e9 => exact f9.out)
   (case f4 => repeat (first | exact (Kd.C_below f5.out HB.out) | (with_reducible refine Kd.C_alloc ?_ _) | (with_reducible refine Kd.C_drewN ?_ _) | (with_reducible refine Kd.C_drew ?_)))
   (case e7 => exact f8.out)
   rintro e w15 ⟨g7, rfl, e2, hb⟩
   refine ⟨_, rfl, ?_⟩
   have a9 := Aside0.mk (Kd.R_lower e2 (below_size (by repeat (first | (with_reducible first | exact HB.out | apply below_alloc | apply pw_below_drewN | apply below_drew1 | refine below_set ?_ a7.out) | exact HB.out))))
   have b0 := Aside0.mk (blk_below (g := a6) (o := .cells #[.int .i64 a0_0, .slice A0_1 l0_1.length c0_1, .slice A0_2 l0_2.length c0_2] 25 (0, 0)) (by (with_reducible repeat (first | refine blk_drewN ?_ _ | refine blk_drew ?_ | refine blk_alloc ?_ _)); exact a3.out) hb)
   have b4 := Aside0.mk (below_step (by repeat (first | (with_reducible first | exact HB.out | apply below_alloc | apply pw_below_drewN | apply below_drew1 | refine below_set ?_ a7.out) | exact HB.out)) hb)
   clear a3
   clear HB
   have d4 := a9
   have a3 := b0
   have HB := b4
   clear a9 b0 b4
   (try clear hb)
   (try clear hb2)
   (try clear hk)
   (try clear hi)
   (try clear e2)
   refine hK.out _ _ ⟨(blk_cell a3.out 0).trans rfl, (blk_cell a3.out 1).trans rfl, (blk_cell a3.out 2).trans rfl⟩ (fun hHeld => ?_)
   clear hK K
   refine norm_ (a' := ?_) ?_ ?_
   rotate_left
   ·show Act.put _ (some 22) _ = _
    simp only [Act.put, List.setIfInBounds_toArray, List.set_cons_zero, List.set_cons_succ, i64_w, i32_w]
    rfl
   refine one_ (i := 7) (N := some 26) #[true, true, true, true, true, true, true, true, true, true, false, false, false, false] rfl rfl (one_of HT_.out (by kernel_rfl)) (by decide) (fun K hK => ?_)
   refine goes_ Try.func29 (by kernel_rfl) rfl #[.agg #[.int .i64 a0_0, .slice A0_1 l0_1.length c0_1, .slice A0_2 l0_2.length c0_2], .int .i64 a1, .int .i64 a2] (by rfl) rfl rfl (by (try simp only [List.map_toArray, List.map_cons, List.map_nil]); first | done | rfl | (simp only [List.length_drop, List.length_take]; rfl)) ?_
   with_reducible refine (Pxf.calls k a0_0 _ _ l0_1 _ _ l0_2 a1 a2 b8 _ ?f3 ?e9 ?f4 ?e7 A7.out).mono ?_
   (case f3 => repeat (first | exact (Kd.C_below f7.out HB.out) | (with_reducible refine Kd.C_alloc ?_ _) | (with_reducible refine Kd.C_drewN ?_ _) | (with_reducible refine Kd.C_drew ?_)))
   (case e9 => exact f9.out)
   (case f4 => repeat (first | exact (Kd.C_below f5.out HB.out) | (with_reducible refine Kd.C_alloc ?_ _) | (with_reducible refine Kd.C_drewN ?_ _) | (with_reducible refine Kd.C_drew ?_)))
   (case e7 => exact f8.out)
   rintro e w16 ⟨g6, rfl, e2, hb⟩
   refine ⟨_, rfl, ?_⟩
   have a9 := Aside0.mk (Kd.R_elder' (by (with_reducible repeat (first | apply Kd.R_alloc | apply Kd.R_drewN | apply Kd.R_drew)); exact d4.out) (Kd.R_base e2) hb)
   have b0 := Aside0.mk (Kd.R_lower (Kd.R_new' e2 (Kd.R_lt (by (with_reducible repeat (first | apply Kd.R_alloc | apply Kd.R_drewN | apply Kd.R_drew)); exact d4.out))) (below_size (by repeat (first | (with_reducible first | exact HB.out | apply below_alloc | apply pw_below_drewN | apply below_drew1 | refine below_set ?_ a7.out) | exact HB.out))))
   have b4 := Aside0.mk (blk_below (g := a6) (o := .cells #[.int .i64 a0_0, .slice A0_1 l0_1.length c0_1, .slice A0_2 l0_2.length c0_2] 25 (0, 0)) (by (with_reducible repeat (first | refine blk_drewN ?_ _ | refine blk_drew ?_ | refine blk_alloc ?_ _)); exact a3.out) hb)
   have b7 := Aside0.mk (below_step (by repeat (first | (with_reducible first | exact HB.out | apply below_alloc | apply pw_below_drewN | apply below_drew1 | refine below_set ?_ a7.out) | exact HB.out)) hb)
   clear d4
   clear a3
   clear HB
   have d4 := a9
   have e3 := b0
   have a3 := b4
   have HB := b7
   clear a9 b0 b4 b7
   (try clear hb)
   (try clear hb2)
   (try clear hk)
   (try clear hi)
   (try clear e2)
   refine hK.out _ _ ⟨(blk_cell a3.out 0).trans rfl, (blk_cell a3.out 1).trans rfl, (blk_cell a3.out 2).trans rfl⟩ (fun hHeld => ?_)
   clear hK K
   refine norm_ (a' := ?_) ?_ ?_
   rotate_left
   ·show Act.put _ (some 26) _ = _
    simp only [Act.put, List.setIfInBounds_toArray, List.set_cons_zero, List.set_cons_succ, i64_w, i32_w]
    rfl
   refine one_ (i := 10) (N := some 29) #[true, true, true, true, true, true, true, true, true, true, true, false, false, false] rfl rfl (one_of HT_.out (by kernel_rfl)) (by decide) (fun K hK => ?_)
   refine goes_ Try.func30 (by kernel_rfl) rfl #[.agg #[.int .i64 a0_0, .slice A0_1 l0_1.length c0_1, .slice A0_2 l0_2.length c0_2], .int .i64 a1] (by rfl) rfl rfl (by (try simp only [List.map_toArray, List.map_cons, List.map_nil]); first | done | rfl | (simp only [List.length_drop, List.length_take]; rfl)) ?_
   with_reducible refine (Pxg.calls a0_0 _ _ l0_1 _ _ l0_2 a1 b5 _ ?f3 ?e9 ?f4 ?e7 A8.out).mono ?_
   (case f3 => repeat (first | exact (Kd.C_below f7.out HB.out) | (with_reducible refine Kd.C_alloc ?_ _) | (with_reducible refine Kd.C_drewN ?_ _) | (with_reducible refine Kd.C_drew ?_)))
   (case e9 => exact f9.out)
   (case f4 => repeat (first | exact (Kd.C_below f5.out HB.out) | (with_reducible refine Kd.C_alloc ?_ _) | (with_reducible refine Kd.C_drewN ?_ _) | (with_reducible refine Kd.C_drew ?_)))
   (case e7 => exact f8.out)
   rintro e w17 ⟨h7, rfl, e2, hb⟩
   refine ⟨_, rfl, ?_⟩
   have a9 := Aside0.mk (Kd.R_below (by (with_reducible repeat (first | apply Kd.R_alloc | apply Kd.R_drewN | apply Kd.R_drew)); exact d4.out) hb)
   have b0 := Aside0.mk (Kd.R_below (by (with_reducible repeat (first | apply Kd.R_alloc | apply Kd.R_drewN | apply Kd.R_drew)); exact e3.out) hb)
   have b4 := Aside0.mk (Kd.R_lower e2 (below_size (by repeat (first | (with_reducible first | exact HB.out | apply below_alloc | apply pw_below_drewN | apply below_drew1 | refine below_set ?_ a7.out) | exact HB.out))))
   have b7 := Aside0.mk (blk_below (g := a6) (o := .cells #[.int .i64 a0_0, .slice A0_1 l0_1.length c0_1, .slice A0_2 l0_2.length c0_2] 25 (0, 0)) (by (with_reducible repeat (first | refine blk_drewN ?_ _ | refine blk_drew ?_ | refine blk_alloc ?_ _)); exact a3.out) hb)
   have d0 := Aside0.mk (below_step (by repeat (first | (with_reducible first | exact HB.out | apply below_alloc | apply pw_below_drewN | apply below_drew1 | refine below_set ?_ a7.out) | exact HB.out)) hb)
   clear d4
   clear e3
   clear a3
   clear HB
   have d4 := a9
   have e3 := b0
   have e4 := b4
   have a3 := b7
   have HB := d0
   clear a9 b0 b4 b7 d0
   (try clear hb)
   (try clear hb2)
   (try clear hk)
   (try clear hi)
   (try clear e2)
   refine hK.out _ _ ⟨(blk_cell a3.out 0).trans rfl, (blk_cell a3.out 1).trans rfl, (blk_cell a3.out 2).trans rfl⟩ (fun hHeld => ?_)
   clear hK K
   refine norm_ (a' := ?_) ?_ ?_
   rotate_left
   ·show Act.put _ (some 29) _ = _
    simp only [Act.put, List.setIfInBounds_toArray, List.set_cons_zero, List.set_cons_succ, i64_w, i32_w]
    rfl
   refine pure_ (i := 11) (N := some 7) (v := ?_) (a' := ?_) #[true, true, true, true, true, true, true, true, true, true, true, true, false, false] rfl rfl (any_of HT_.out (by kernel_rfl)) (fun _ _ _ h => h) (Or.inl ⟨by rfl, ?_⟩) ?_ ?_
   rotate_left
   ·intro w'
    go_simp
    with_reducible rfl
   rotate_left
   ·simp only [Act.put, List.setIfInBounds_toArray, List.set_cons_zero, List.set_cons_succ, i64_w, i32_w]
    rfl
   refine pure_ (i := 12) (N := some 8) (v := ?_) (a' := ?_) #[true, true, true, true, true, true, true, true, true, true, true, true, true, false] rfl rfl (any_of HT_.out (by kernel_rfl)) (fun _ _ _ h => h) (Or.inl ⟨by rfl, ?_⟩) ?_ ?_
   rotate_left
   ·intro w'
    go_simp
    with_reducible rfl
   rotate_left
   ·simp only [Act.put, List.setIfInBounds_toArray, List.set_cons_zero, List.set_cons_succ, i64_w, i32_w]
    rfl
   refine pure_ (i := 13) (N := some 9) (v := ?_) (a' := ?_) #[true, true, true, true, true, true, true, true, true, true, true, true, true, true] rfl rfl (any_of HT_.out (by kernel_rfl)) (fun _ _ _ h => h) (Or.inl ⟨by rfl, ?_⟩) ?_ ?_
   rotate_left
   ·intro w'
    go_simp
    with_reducible rfl
   rotate_left
   ·simp only [Act.put, List.setIfInBounds_toArray, List.set_cons_zero, List.set_cons_succ, i64_w, i32_w]
    rfl
   refine done_ (done_of HT_.out (by kernel_rfl)) ?_
   have m0 : w17.cell? ⟨a6, 0, none⟩ = some (.int .i64 a0_0) := (blk_cell a3.out 0).trans rfl
   have k7 : w17.cell? ⟨a6, 1, none⟩ = some (.slice A0_1 l0_1.length c0_1) := (blk_cell a3.out 1).trans rfl
   have l7 : w17.cell? ⟨a6, 2, none⟩ = some (.slice A0_2 l0_2.length c0_2) := (blk_cell a3.out 2).trans rfl
   have l4 := blk_frozen a3.out 0
   have l8 := blk_frozen a3.out 1
   have m2 := blk_frozen a3.out 2
   try go_wp2_with (first | ((with_reducible refine gate_callee (f := 15) rfl ?_); refine goesL_ (some 31) rfl rfl Try.func15 (by kernel_rfl) rfl #[.agg #[.int .i64 a0_0, .slice A0_1 l0_1.length c0_1, .slice A0_2 l0_2.length c0_2]] rfl (by (try simp only [List.map_toArray, List.map_cons, List.map_nil]); first | done | rfl | (simp only [List.length_drop, List.length_take]; rfl)) ?_; (with_reducible refine (Pr26d.calls a0_0 _ _ l0_1 _ _ l0_2 true _ ?f3 ?e9 ?f4 ?e7 A9.out).mono ?_); (case f3 => repeat (first | exact (Kd.C_below f7.out HB.out) | (with_reducible refine Kd.C_alloc ?_ _) | (with_reducible refine Kd.C_drewN ?_ _) | (with_reducible refine Kd.C_drew ?_))); (case e9 => exact f9.out); (case f4 => repeat (first | exact (Kd.C_below f5.out HB.out) | (with_reducible refine Kd.C_alloc ?_ _) | (with_reducible refine Kd.C_drewN ?_ _) | (with_reducible refine Kd.C_drew ?_))); (case e7 => exact f8.out); rintro e w19 ⟨rfl, hb⟩; refine ⟨_, rfl, ?_⟩; have a9 := Aside0.mk (Kd.R_below (by (with_reducible repeat (first | apply Kd.R_alloc | apply Kd.R_drewN | apply Kd.R_drew)); exact d4.out) hb); have b0 := Aside0.mk (Kd.R_below (by (with_reducible repeat (first | apply Kd.R_alloc | apply Kd.R_drewN | apply Kd.R_drew)); exact e3.out) hb); have b4 := Aside0.mk (Kd.R_below (by (with_reducible repeat (first | apply Kd.R_alloc | apply Kd.R_drewN | apply Kd.R_drew)); exact e4.out) hb); have b7 := Aside0.mk (blk_below (g := a6) (o := .cells #[.int .i64 a0_0, .slice A0_1 l0_1.length c0_1, .slice A0_2 l0_2.length c0_2] 25 (0, 0)) (by (with_reducible repeat (first | refine blk_drewN ?_ _ | refine blk_drew ?_ | refine blk_alloc ?_ _)); exact a3.out) hb); have d0 := Aside0.mk (below_step (by repeat (first | (with_reducible first | exact HB.out | apply below_alloc | apply pw_below_drewN | apply below_drew1 | refine below_set ?_ a7.out) | exact HB.out)) hb); clear d4; clear e3; clear e4; clear a3; clear HB; have d4 := a9; have e3 := b0; have e4 := b4; have a3 := b7; have HB := d0; clear a9 b0 b4 b7 d0; (try clear hb); (try clear hb2); (try clear hk); (try clear hi)) | ((with_reducible refine gate_dst (N := 54) rfl ?_); (try (refine gate_guard (by rfl) ?_; dsimp only)); refine Kd.R_lit (Kd.int .i64) _ 3 ?hg (N := 54) ?hd (xs := ([] : List Int)) (inner := []) (ok := fun _ => True) (okp := fun _ => True) ?hr ?hp (fun _ hk => hk) trivial (Below.refl _ _) (Nat.le_refl _) (by simp) ?_; (case hd => rfl); (case hg => rfl); (case hr => first | (go_simp; done) | (go_simp; rfl)); (case hp => exact (Reps.none _ _)); intro T0 w20 ho21 hb hg_ hnew_; clear hg_ hnew_; (first | rw [← p6.out] at ho21 | (simp only [Int.reduceToNat] at ho21; rw [← p6.out] at ho21)); have a9 := Aside0.mk (Kd.R_elder' (by (with_reducible repeat (first | apply Kd.R_alloc | apply Kd.R_drewN | apply Kd.R_drew)); exact d4.out) (Kd.R_base ho21) hb); have b0 := Aside0.mk (Kd.R_elder' (by (with_reducible repeat (first | apply Kd.R_alloc | apply Kd.R_drewN | apply Kd.R_drew)); exact e3.out) (Kd.R_base ho21) hb); have b4 := Aside0.mk (Kd.R_below (by (with_reducible repeat (first | apply Kd.R_alloc | apply Kd.R_drewN | apply Kd.R_drew)); exact e4.out) hb); have b7 := Aside0.mk (Kd.R_lower (Kd.R_new' (Kd.R_new' ho21 (Kd.R_lt (by (with_reducible repeat (first | apply Kd.R_alloc | apply Kd.R_drewN | apply Kd.R_drew)); exact d4.out))) (Kd.R_lt (by (with_reducible repeat (first | apply Kd.R_alloc | apply Kd.R_drewN | apply Kd.R_drew)); exact e3.out))) (below_size (by repeat (first | (with_reducible first | exact HB.out | apply below_alloc | apply pw_below_drewN | apply below_drew1 | refine below_set ?_ a7.out) | exact HB.out)))); have d0 := Aside0.mk (blk_below (g := a6) (o := .cells #[.int .i64 a0_0, .slice A0_1 l0_1.length c0_1, .slice A0_2 l0_2.length c0_2] 25 (0, 0)) (by (with_reducible repeat (first | refine blk_drewN ?_ _ | refine blk_drew ?_ | refine blk_alloc ?_ _)); exact a3.out) hb); have d6 := Aside0.mk (below_step (by repeat (first | (with_reducible first | exact HB.out | apply below_alloc | apply pw_below_drewN | apply below_drew1 | refine below_set ?_ a7.out) | exact HB.out)) hb); clear d4; clear e3; clear e4; clear a3; clear HB; have d4 := a9; have e3 := b0; have e4 := b4; have k3 := b7; have a3 := d0; have HB := d6; clear a9 b0 b4 b7 d0 d6; clear hb ho21) | ((with_reducible refine gate_dst (N := 55) rfl ?_); (try (refine gate_guard (by rfl) ?_; dsimp only)); refine Kd.R_lit k51 _ 51 ?hg (N := 55) ?hd (xs := ([] : List (S51))) (inner := []) (ok := fun _ => True) (okp := fun _ => True) ?hr ?hp (fun _ hk => hk) trivial (Below.refl _ _) (Nat.le_refl _) (by simp) ?_; (case hd => rfl); (case hg => rfl); (case hr => first | (go_simp; done) | (go_simp; rfl)); (case hp => exact (Reps.none _ _)); intro S3 w22 ho23 hb hg_ hnew_; clear hg_ hnew_; (first | rw [← p5.out] at ho23 | (simp only [Int.reduceToNat] at ho23; rw [← p5.out] at ho23)); have a9 := Aside0.mk (Kd.R_below (by (with_reducible repeat (first | apply Kd.R_alloc | apply Kd.R_drewN | apply Kd.R_drew)); exact d4.out) hb); have b0 := Aside0.mk (Kd.R_below (by (with_reducible repeat (first | apply Kd.R_alloc | apply Kd.R_drewN | apply Kd.R_drew)); exact e3.out) hb); have b4 := Aside0.mk (Kd.R_elder' (by (with_reducible repeat (first | apply Kd.R_alloc | apply Kd.R_drewN | apply Kd.R_drew)); exact e4.out) (Kd.R_base ho23) hb); have b7 := Aside0.mk (Kd.R_below (by (with_reducible repeat (first | apply Kd.R_alloc | apply Kd.R_drewN | apply Kd.R_drew)); exact k3.out) hb); have d0 := Aside0.mk (Kd.R_lower (Kd.R_new' ho23 (Kd.R_lt (by (with_reducible repeat (first | apply Kd.R_alloc | apply Kd.R_drewN | apply Kd.R_drew)); exact e4.out))) (below_size (by repeat (first | (with_reducible first | exact HB.out | apply below_alloc | apply pw_below_drewN | apply below_drew1 | refine below_set ?_ a7.out) | exact HB.out)))); have d6 := Aside0.mk (blk_below (g := a6) (o := .cells #[.int .i64 a0_0, .slice A0_1 l0_1.length c0_1, .slice A0_2 l0_2.length c0_2] 25 (0, 0)) (by (with_reducible repeat (first | refine blk_drewN ?_ _ | refine blk_drew ?_ | refine blk_alloc ?_ _)); exact a3.out) hb); have d9 := Aside0.mk (below_step (by repeat (first | (with_reducible first | exact HB.out | apply below_alloc | apply pw_below_drewN | apply below_drew1 | refine below_set ?_ a7.out) | exact HB.out)) hb); clear d4; clear e3; clear e4; clear k3; clear a3; clear HB; have d4 := a9; have e3 := b0; have e4 := b4; have k3 := b7; have v5 := d0; have a3 := d6; have HB := d9; clear a9 b0 b4 b7 d0 d6 d9; clear hb ho23))
   go_loopg [10, 11, 12, 13] k (fun kq t2 v8 N0 v13 w' => ∃ (d7 : List Int) (d3 : List (S51)) (d8 : Bool) (a0 : Int), N0 = .bool d8 ∧ v13 = .int .i64 a0 ∧ Aside0 (Pl26a.l0 kq a1 a2 b9 b8 b5 d7 d3 d8 a0 a0_0 l0_1 l0_2 = some r) ∧ Aside0 (kq ≤ k) ∧ Aside0 (Kd.R (Kd.int .i64) 3 w' w.heap.size (fun k_ => some k_ ≠ (g6 : Value).ownBlock ∧ some k_ ≠ (t2 : Value).ownBlock) g7 b9) ∧ Aside0 (Kd.R (Kd.int .i64) 3 w' w.heap.size (fun k_ => some k_ ≠ (g7 : Value).ownBlock ∧ some k_ ≠ (t2 : Value).ownBlock) g6 b8) ∧ Aside0 (Kd.R k51 51 w' w.heap.size (fun k_ => some k_ ≠ (v8 : Value).ownBlock) h7 b5) ∧ Aside0 (Kd.R (Kd.int .i64) 3 w' w.heap.size (fun k_ => some k_ ≠ (g7 : Value).ownBlock ∧ some k_ ≠ (g6 : Value).ownBlock) t2 d7) ∧ Aside0 (Kd.R k51 51 w' w.heap.size (fun k_ => some k_ ≠ (h7 : Value).ownBlock) v8 d3) ∧ Aside0 (w'.heap[a6]? = some (.cells #[.int .i64 a0_0, (.slice A0_1 l0_1.length c0_1), (.slice A0_2 l0_2.length c0_2)] 25 (0, 0))) ∧ Aside0 (Below w.heap.size w w'))
   case atStart => exact ⟨(n2), (s7), (true), (0), (by first | rfl | (simp; done) | (simp [*]; done)), (by first | rfl | (simp; done) | (simp [*]; done)), H', ⟨Nat.le_refl _⟩, ⟨by (with_reducible repeat (first | apply Kd.R_alloc | apply Kd.R_drewN | apply Kd.R_drew)); exact Kd.R_mono d4.out (fun _ hk => ⟨hk.1.2, hk.2⟩)⟩, ⟨by (with_reducible repeat (first | apply Kd.R_alloc | apply Kd.R_drewN | apply Kd.R_drew)); exact Kd.R_mono e3.out (fun _ hk => ⟨hk.1.2, hk.2⟩)⟩, ⟨by (with_reducible repeat (first | apply Kd.R_alloc | apply Kd.R_drewN | apply Kd.R_drew)); exact Kd.R_mono e4.out (fun _ hk => hk.2)⟩, ⟨by (with_reducible repeat (first | apply Kd.R_alloc | apply Kd.R_drewN | apply Kd.R_drew)); exact Kd.R_mono k3.out (fun _ hk => ⟨hk.1.2, hk.2⟩)⟩, ⟨by (with_reducible repeat (first | apply Kd.R_alloc | apply Kd.R_drewN | apply Kd.R_drew)); exact Kd.R_mono v5.out (fun _ hk => hk.2)⟩, ⟨by (with_reducible repeat (first | refine blk_drewN ?_ _ | refine blk_drew ?_ | refine blk_alloc ?_ _)); exact a3.out⟩, ⟨by repeat (first | (with_reducible first | exact HB.out | apply below_alloc | apply pw_below_drewN | apply below_drew1 | refine below_set ?_ a7.out) | exact HB.out)⟩⟩
   case round =>
    clear H'
    try clear c1
    try clear c2
    try clear p2
    try clear c3
    try clear c5
    try clear c7
    try clear c10
    try clear N3
    try clear N4
    try clear l9
    try clear k9
    try clear l6
    try clear m0
    try clear k7
    try clear l7
    try clear l5
    try clear k8
    try clear m1
    try clear l4
    try clear l8
    try clear m2
    obtain ⟨d7, d3, d8, a0, rfl, rfl, HA, h0, b2, b3, b6, b1, a8, a3, HB⟩ := hrel
    cases gk with
    | zero => exact absurd HA.out (by simp [Pl26a.l0])
    | succ k1 =>
     have H := HA.out
     clear HA
     simp only [Pl26a.l0] at H
     by_cases k5 : a0 < (l0_2.length : Int)
     ·rw [if_pos k5] at H
      have c24b0 : decide (a0 < (l0_2.length : Int)) = true := decide_eq_true k5
      clear k5
      by_cases n0 : 0 ≤ a0
      ·rw [if_pos n0] at H
       have c25b0 : decide (0 ≤ a0) = true := decide_eq_true n0
       clear n0
       have n1 := Aside0.mk H
       clear H
       have r9 : wr.cell? ⟨a6, 0, none⟩ = some (.int .i64 a0_0) := (blk_cell a3.out 0).trans rfl
       have q0 : wr.cell? ⟨a6, 1, none⟩ = some (.slice A0_1 l0_1.length c0_1) := (blk_cell a3.out 1).trans rfl
       have r6 : wr.cell? ⟨a6, 2, none⟩ = some (.slice A0_2 l0_2.length c0_2) := (blk_cell a3.out 2).trans rfl
       have r1 := blk_frozen a3.out 0
       have r3 := blk_frozen a3.out 1
       have r0 := blk_frozen a3.out 2
       have m7 : 0 ≤ (a0 : Int) := of_decide_eq_true (by first | (with_reducible assumption) | assumption)
       have m4 : a0 < (l0_2.length : Int) := of_decide_eq_true (by first | (with_reducible assumption) | assumption)
       obtain ⟨e8, B4, i9, i6, i5⟩ := at_T51 f5.out a0 m7 m4
       cases B4
       replace i9 := (HB.out.cell (World.block_lt_of_cell? w _ i9)).trans i9
       replace i6 := (HB.out.cell (World.block_lt_of_cell? w _ i6)).trans i6
       replace i5 := (HB.out.cell (World.block_lt_of_cell? w _ i5)).trans i5
       replace m7 := eq_true m7
       replace m4 := eq_true m4
       go_upto_region 11 with (first | ((with_reducible refine gate_dst (N := 14) rfl ?_); (try (refine gate_guard (by rfl) ?_; dsimp only)); refine box_event ?hg (N := 14) ?hd (cs := #[.int .i64 0, .int .i64 0, .int .i64 0]) (t := 51) ?hr ?_; (case hd => rfl); (case hg => rfl); (case hr => first | (go_simp; done) | (go_simp; rfl)); intro a5 hg w28 hbox hb; have a9 := Aside0.mk (Kd.R_below (by (with_reducible repeat (first | apply Kd.R_alloc | apply Kd.R_drewN | apply Kd.R_drew)); exact b2.out) hb); have b0 := Aside0.mk (Kd.R_below (by (with_reducible repeat (first | apply Kd.R_alloc | apply Kd.R_drewN | apply Kd.R_drew)); exact b3.out) hb); have b4 := Aside0.mk (Kd.R_below (Kd.R_elderB (by (with_reducible repeat (first | apply Kd.R_alloc | apply Kd.R_drewN | apply Kd.R_drew)); exact b6.out) a5 (Nat.le_of_eq hg.symm)) hb); have b7 := Aside0.mk (Kd.R_below (by (with_reducible repeat (first | apply Kd.R_alloc | apply Kd.R_drewN | apply Kd.R_drew)); exact b1.out) hb); have d0 := Aside0.mk (Kd.R_below (Kd.R_elderB (by (with_reducible repeat (first | apply Kd.R_alloc | apply Kd.R_drewN | apply Kd.R_drew)); exact a8.out) a5 (Nat.le_of_eq hg.symm)) hb); have d6 := Aside0.mk (blk_below (g := a6) (o := .cells #[.int .i64 a0_0, .slice A0_1 l0_1.length c0_1, .slice (some e8) l0_2.length c0_2] 25 (0, 0)) (by (with_reducible repeat (first | refine blk_drewN ?_ _ | refine blk_drew ?_ | refine blk_alloc ?_ _)); exact a3.out) hb); have d9 := Aside0.mk (below_step (by repeat (first | (with_reducible first | exact HB.out | apply below_alloc | apply pw_below_drewN | apply below_drew1 | refine below_set ?_ a7.out) | exact HB.out)) hb); have e1 := Aside0.mk (hbox); have h5 := Aside0.mk ((by rw [hg]; exact (below_size (by repeat (first | (with_reducible first | exact HB.out | apply below_alloc | apply pw_below_drewN | apply below_drew1 | refine below_set ?_ a7.out) | exact HB.out))) : w.heap.size ≤ a5)); have w3 := Aside0.mk ((by rw [hg]; exact (below_size (by repeat (first | (with_reducible first | exact HB.out | apply below_alloc | apply pw_below_drewN | apply below_drew1 | refine below_set ?_ a7.out) | exact HB.out))) : w.heap.size ≤ a5)); have s6 := Aside0.mk ((by rw [hg]; exact Nat.ne_of_lt (blk_lt (g := a6) (o := .cells #[.int .i64 a0_0, .slice A0_1 l0_1.length c0_1, .slice (some e8) l0_2.length c0_2] 25 (0, 0)) (by (with_reducible repeat (first | refine blk_drewN ?_ _ | refine blk_drew ?_ | refine blk_alloc ?_ _)); exact a3.out)) : a6 ≠ a5)); have s8 := Aside0.mk ((by rw [hg]; exact Nat.ne_of_gt (blk_lt (g := a6) (o := .cells #[.int .i64 a0_0, .slice A0_1 l0_1.length c0_1, .slice (some e8) l0_2.length c0_2] 25 (0, 0)) (by (with_reducible repeat (first | refine blk_drewN ?_ _ | refine blk_drew ?_ | refine blk_alloc ?_ _)); exact a3.out)) : a5 ≠ a6)); clear b2; clear b3; clear b6; clear b1; clear a8; clear a3; clear HB; have b2 := a9; have b3 := b0; have b6 := b4; have b1 := b7; have a8 := d0; have a3 := d6; have HB := d9; have a4 := e1; have O3 := h5; have d5 := w3; have e0 := s6; have e6 := s8; clear a9 b0 b4 b7 d0 d6 d9 e1 h5 w3 s6 s8; clear hb hbox hg; have Q6 := e6.out; have P0 := e0.out; have q3 : w28.cell? ⟨a5, 0, none⟩ = some (.int .i64 0) := (blk_cell a4.out 0).trans rfl; have q8 : w28.cell? ⟨a5, 1, none⟩ = some (.int .i64 0) := (blk_cell a4.out 1).trans rfl; have r5 : w28.cell? ⟨a5, 2, none⟩ = some (.int .i64 0) := (blk_cell a4.out 2).trans rfl; have p7 := blk_frozen a4.out 0; have p9 := blk_frozen a4.out 1; have s3 := blk_frozen a4.out 2))
       (try simp only [Act.put, List.setIfInBounds_toArray, List.set_cons_zero, List.set_cons_succ])
       go_cut [77] (fun N8 wc => ∃ (kq : Nat) (j5 : Bool), N8 = .bool j5 ∧ Aside0 (Pl26a.j1 kq a1 a2 b9 b8 b5 d7 d3 d8 a0 j5 a0_0 l0_1 l0_2 ((rd_T51 l0_2 a0).f0) ((rd_T51 l0_2 a0).f1) ((rd_T51 l0_2 a0).f2) = some r) ∧ Aside0 (kq ≤ k1) ∧ Aside0 (Kd.R (Kd.int .i64) 3 wc w.heap.size (fun k_ => some k_ ≠ (g6 : Value).ownBlock ∧ some k_ ≠ (l3 : Value).ownBlock) g7 b9) ∧ Aside0 (Kd.R (Kd.int .i64) 3 wc w.heap.size (fun k_ => some k_ ≠ (g7 : Value).ownBlock ∧ some k_ ≠ (l3 : Value).ownBlock) g6 b8) ∧ Aside0 (Kd.R k51 51 wc w.heap.size (fun k_ => some k_ ≠ (m9 : Value).ownBlock ∧ k_ ≠ a5) h7 b5) ∧ Aside0 (Kd.R (Kd.int .i64) 3 wc w.heap.size (fun k_ => some k_ ≠ (g7 : Value).ownBlock ∧ some k_ ≠ (g6 : Value).ownBlock) l3 d7) ∧ Aside0 (Kd.R k51 51 wc w.heap.size (fun k_ => some k_ ≠ (h7 : Value).ownBlock ∧ k_ ≠ a5) m9 d3) ∧ Aside0 (wc.heap[a6]? = some (.cells #[.int .i64 a0_0, (.slice A0_1 l0_1.length c0_1), (.slice (some e8) l0_2.length c0_2)] 25 (0, 0))) ∧ Aside0 (wc.heap[a5]? = some (.cells #[.int .i64 ((rd_T51 l0_2 a0).f0), .int .i64 ((rd_T51 l0_2 a0).f1), .int .i64 ((rd_T51 l0_2 a0).f2)] 51 (0, 0))) ∧ Aside0 (Below w.heap.size w wc))
       case first =>
        have H := n1.out
        clear n1
        by_cases j9 : ((rd_T51 l0_2 a0).f2) = a1
        ·rw [if_pos j9] at H
         have c31b0 : (((rd_T51 l0_2 a0).f2) == a1) = true := beq_iff_eq.mpr j9
         have c31b1 : (((rd_T51 l0_2 a0).f2) != a1) = false := bne_eq_false_iff_eq.mpr j9
         clear j9
         (first | rw [c31b0] | (simp only [i64_w, i32_w]; rw [c31b0]) | skip)
         have H' := Aside0.mk H
         clear H
         have R9 := e6.out
         have Q0 := e0.out
         have q7 : w28.cell? ⟨a5, 0, none⟩ = some (.int .i64 0) := (blk_cell a4.out 0).trans rfl
         have q6 : w28.cell? ⟨a5, 1, none⟩ = some (.int .i64 0) := (blk_cell a4.out 1).trans rfl
         have q5 : w28.cell? ⟨a5, 2, none⟩ = some (.int .i64 0) := (blk_cell a4.out 2).trans rfl
         have s4 := blk_frozen a4.out 0
         have r8 := blk_frozen a4.out 1
         have r7 := blk_frozen a4.out 2
         go_wp2
         go_meet
         case rel => exact ⟨_, ((((rd_T51 l0_2 a0).f1) == a2)), (by first | rfl | (simp; done) | (simp [*]; done)), H', ⟨by have := h0.out; first | omega | exact Nat.le_refl _⟩, ⟨by (with_reducible repeat (first | apply Kd.R_alloc | apply Kd.R_drewN | apply Kd.R_drew)); exact Kd.R_mono (Kd.R_far (p := ⟨a5, 2, none⟩) (Kd.R_far (p := ⟨a5, 1, none⟩) (Kd.R_far (p := ⟨a5, 0, none⟩) (Kd.R_types b2.out a4.out (by decide)) (fun _ hk => hk.2) (.int .i64 ((rd_T51 l0_2 a0).f0))) (fun _ hk => hk.2) (.int .i64 ((rd_T51 l0_2 a0).f1))) (fun _ hk => hk.2) (.int .i64 ((rd_T51 l0_2 a0).f2))) (fun _ hk => ⟨hk.1.1, hk.1.2⟩)⟩, ⟨by (with_reducible repeat (first | apply Kd.R_alloc | apply Kd.R_drewN | apply Kd.R_drew)); exact Kd.R_mono (Kd.R_far (p := ⟨a5, 2, none⟩) (Kd.R_far (p := ⟨a5, 1, none⟩) (Kd.R_far (p := ⟨a5, 0, none⟩) (Kd.R_types b3.out a4.out (by decide)) (fun _ hk => hk.2) (.int .i64 ((rd_T51 l0_2 a0).f0))) (fun _ hk => hk.2) (.int .i64 ((rd_T51 l0_2 a0).f1))) (fun _ hk => hk.2) (.int .i64 ((rd_T51 l0_2 a0).f2))) (fun _ hk => ⟨hk.1.1, hk.1.2⟩)⟩, ⟨by (with_reducible repeat (first | apply Kd.R_alloc | apply Kd.R_drewN | apply Kd.R_drew)); exact Kd.R_mono (Kd.R_far (p := ⟨a5, 2, none⟩) (Kd.R_far (p := ⟨a5, 1, none⟩) (Kd.R_far (p := ⟨a5, 0, none⟩) (Kd.R_mono b6.out (fun k_ hk => (⟨hk, hk.2⟩ : _ ∧ k_ ≠ a5))) (fun _ hk => hk.2) (.int .i64 ((rd_T51 l0_2 a0).f0))) (fun _ hk => hk.2) (.int .i64 ((rd_T51 l0_2 a0).f1))) (fun _ hk => hk.2) (.int .i64 ((rd_T51 l0_2 a0).f2))) (fun _ hk => ⟨hk.1.1, hk.1.2⟩)⟩, ⟨by (with_reducible repeat (first | apply Kd.R_alloc | apply Kd.R_drewN | apply Kd.R_drew)); exact Kd.R_mono (Kd.R_far (p := ⟨a5, 2, none⟩) (Kd.R_far (p := ⟨a5, 1, none⟩) (Kd.R_far (p := ⟨a5, 0, none⟩) (Kd.R_types b1.out a4.out (by decide)) (fun _ hk => hk.2) (.int .i64 ((rd_T51 l0_2 a0).f0))) (fun _ hk => hk.2) (.int .i64 ((rd_T51 l0_2 a0).f1))) (fun _ hk => hk.2) (.int .i64 ((rd_T51 l0_2 a0).f2))) (fun _ hk => ⟨hk.1.1, hk.1.2⟩)⟩, ⟨by (with_reducible repeat (first | apply Kd.R_alloc | apply Kd.R_drewN | apply Kd.R_drew)); exact Kd.R_mono (Kd.R_far (p := ⟨a5, 2, none⟩) (Kd.R_far (p := ⟨a5, 1, none⟩) (Kd.R_far (p := ⟨a5, 0, none⟩) (Kd.R_mono a8.out (fun k_ hk => (⟨hk, hk.2⟩ : _ ∧ k_ ≠ a5))) (fun _ hk => hk.2) (.int .i64 ((rd_T51 l0_2 a0).f0))) (fun _ hk => hk.2) (.int .i64 ((rd_T51 l0_2 a0).f1))) (fun _ hk => hk.2) (.int .i64 ((rd_T51 l0_2 a0).f2))) (fun _ hk => ⟨hk.1.1, hk.1.2⟩)⟩, ⟨by (with_reducible repeat (first | refine blk_drewN ?_ _ | refine blk_drew ?_ | refine blk_alloc ?_ _)); refine blk_far ?_ e0.out _; (with_reducible repeat (first | refine blk_drewN ?_ _ | refine blk_drew ?_ | refine blk_alloc ?_ _)); refine blk_far ?_ e0.out _; (with_reducible repeat (first | refine blk_drewN ?_ _ | refine blk_drew ?_ | refine blk_alloc ?_ _)); refine blk_far ?_ e0.out _; (with_reducible repeat (first | refine blk_drewN ?_ _ | refine blk_drew ?_ | refine blk_alloc ?_ _)); exact a3.out⟩, ⟨by (with_reducible repeat (first | refine blk_drewN ?_ _ | refine blk_drew ?_ | refine blk_alloc ?_ _)); refine blk_put (cs := #[.int .i64 ((rd_T51 l0_2 a0).f0), .int .i64 ((rd_T51 l0_2 a0).f1), .int .i64 0]) ?_ 2 _ rfl; (with_reducible repeat (first | refine blk_drewN ?_ _ | refine blk_drew ?_ | refine blk_alloc ?_ _)); refine blk_put (cs := #[.int .i64 ((rd_T51 l0_2 a0).f0), .int .i64 0, .int .i64 0]) ?_ 1 _ rfl; (with_reducible repeat (first | refine blk_drewN ?_ _ | refine blk_drew ?_ | refine blk_alloc ?_ _)); refine blk_put (cs := #[.int .i64 0, .int .i64 0, .int .i64 0]) ?_ 0 _ rfl; (with_reducible repeat (first | refine blk_drewN ?_ _ | refine blk_drew ?_ | refine blk_alloc ?_ _)); exact a4.out⟩, ⟨by repeat (first | (with_reducible first | exact HB.out | apply below_alloc | apply pw_below_drewN | apply below_drew1 | refine below_set ?_ a7.out | refine below_set ?_ d5.out) | exact HB.out)⟩⟩
        ·rw [if_neg j9] at H
         have c31b0 : (((rd_T51 l0_2 a0).f2) == a1) = false := beq_eq_false_iff_ne.mpr j9
         have c31b1 : (((rd_T51 l0_2 a0).f2) != a1) = true := bne_iff_ne.mpr j9
         (first | rw [c31b0] | (simp only [i64_w, i32_w]; rw [c31b0]) | skip)
         have H' := Aside0.mk H
         clear H
         have Q9 := e6.out
         have O8 := e0.out
         have r2 : w28.cell? ⟨a5, 0, none⟩ = some (.int .i64 0) := (blk_cell a4.out 0).trans rfl
         have q4 : w28.cell? ⟨a5, 1, none⟩ = some (.int .i64 0) := (blk_cell a4.out 1).trans rfl
         have p8 : w28.cell? ⟨a5, 2, none⟩ = some (.int .i64 0) := (blk_cell a4.out 2).trans rfl
         have q1 := blk_frozen a4.out 0
         have q9 := blk_frozen a4.out 1
         have r4 := blk_frozen a4.out 2
         go_wp2
         go_meet
         case rel => exact ⟨_, (false), (by first | rfl | (simp; done) | (simp [*]; done)), H', ⟨by have := h0.out; first | omega | exact Nat.le_refl _⟩, ⟨by (with_reducible repeat (first | apply Kd.R_alloc | apply Kd.R_drewN | apply Kd.R_drew)); exact Kd.R_mono (Kd.R_far (p := ⟨a5, 2, none⟩) (Kd.R_far (p := ⟨a5, 1, none⟩) (Kd.R_far (p := ⟨a5, 0, none⟩) (Kd.R_types b2.out a4.out (by decide)) (fun _ hk => hk.2) (.int .i64 ((rd_T51 l0_2 a0).f0))) (fun _ hk => hk.2) (.int .i64 ((rd_T51 l0_2 a0).f1))) (fun _ hk => hk.2) (.int .i64 ((rd_T51 l0_2 a0).f2))) (fun _ hk => ⟨hk.1.1, hk.1.2⟩)⟩, ⟨by (with_reducible repeat (first | apply Kd.R_alloc | apply Kd.R_drewN | apply Kd.R_drew)); exact Kd.R_mono (Kd.R_far (p := ⟨a5, 2, none⟩) (Kd.R_far (p := ⟨a5, 1, none⟩) (Kd.R_far (p := ⟨a5, 0, none⟩) (Kd.R_types b3.out a4.out (by decide)) (fun _ hk => hk.2) (.int .i64 ((rd_T51 l0_2 a0).f0))) (fun _ hk => hk.2) (.int .i64 ((rd_T51 l0_2 a0).f1))) (fun _ hk => hk.2) (.int .i64 ((rd_T51 l0_2 a0).f2))) (fun _ hk => ⟨hk.1.1, hk.1.2⟩)⟩, ⟨by (with_reducible repeat (first | apply Kd.R_alloc | apply Kd.R_drewN | apply Kd.R_drew)); exact Kd.R_mono (Kd.R_far (p := ⟨a5, 2, none⟩) (Kd.R_far (p := ⟨a5, 1, none⟩) (Kd.R_far (p := ⟨a5, 0, none⟩) (Kd.R_mono b6.out (fun k_ hk => (⟨hk, hk.2⟩ : _ ∧ k_ ≠ a5))) (fun _ hk => hk.2) (.int .i64 ((rd_T51 l0_2 a0).f0))) (fun _ hk => hk.2) (.int .i64 ((rd_T51 l0_2 a0).f1))) (fun _ hk => hk.2) (.int .i64 ((rd_T51 l0_2 a0).f2))) (fun _ hk => ⟨hk.1.1, hk.1.2⟩)⟩, ⟨by (with_reducible repeat (first | apply Kd.R_alloc | apply Kd.R_drewN | apply Kd.R_drew)); exact Kd.R_mono (Kd.R_far (p := ⟨a5, 2, none⟩) (Kd.R_far (p := ⟨a5, 1, none⟩) (Kd.R_far (p := ⟨a5, 0, none⟩) (Kd.R_types b1.out a4.out (by decide)) (fun _ hk => hk.2) (.int .i64 ((rd_T51 l0_2 a0).f0))) (fun _ hk => hk.2) (.int .i64 ((rd_T51 l0_2 a0).f1))) (fun _ hk => hk.2) (.int .i64 ((rd_T51 l0_2 a0).f2))) (fun _ hk => ⟨hk.1.1, hk.1.2⟩)⟩, ⟨by (with_reducible repeat (first | apply Kd.R_alloc | apply Kd.R_drewN | apply Kd.R_drew)); exact Kd.R_mono (Kd.R_far (p := ⟨a5, 2, none⟩) (Kd.R_far (p := ⟨a5, 1, none⟩) (Kd.R_far (p := ⟨a5, 0, none⟩) (Kd.R_mono a8.out (fun k_ hk => (⟨hk, hk.2⟩ : _ ∧ k_ ≠ a5))) (fun _ hk => hk.2) (.int .i64 ((rd_T51 l0_2 a0).f0))) (fun _ hk => hk.2) (.int .i64 ((rd_T51 l0_2 a0).f1))) (fun _ hk => hk.2) (.int .i64 ((rd_T51 l0_2 a0).f2))) (fun _ hk => ⟨hk.1.1, hk.1.2⟩)⟩, ⟨by (with_reducible repeat (first | refine blk_drewN ?_ _ | refine blk_drew ?_ | refine blk_alloc ?_ _)); refine blk_far ?_ e0.out _; (with_reducible repeat (first | refine blk_drewN ?_ _ | refine blk_drew ?_ | refine blk_alloc ?_ _)); refine blk_far ?_ e0.out _; (with_reducible repeat (first | refine blk_drewN ?_ _ | refine blk_drew ?_ | refine blk_alloc ?_ _)); refine blk_far ?_ e0.out _; (with_reducible repeat (first | refine blk_drewN ?_ _ | refine blk_drew ?_ | refine blk_alloc ?_ _)); exact a3.out⟩, ⟨by (with_reducible repeat (first | refine blk_drewN ?_ _ | refine blk_drew ?_ | refine blk_alloc ?_ _)); refine blk_put (cs := #[.int .i64 ((rd_T51 l0_2 a0).f0), .int .i64 ((rd_T51 l0_2 a0).f1), .int .i64 0]) ?_ 2 _ rfl; (with_reducible repeat (first | refine blk_drewN ?_ _ | refine blk_drew ?_ | refine blk_alloc ?_ _)); refine blk_put (cs := #[.int .i64 ((rd_T51 l0_2 a0).f0), .int .i64 0, .int .i64 0]) ?_ 1 _ rfl; (with_reducible repeat (first | refine blk_drewN ?_ _ | refine blk_drew ?_ | refine blk_alloc ?_ _)); refine blk_put (cs := #[.int .i64 0, .int .i64 0, .int .i64 0]) ?_ 0 _ rfl; (with_reducible repeat (first | refine blk_drewN ?_ _ | refine blk_drew ?_ | refine blk_alloc ?_ _)); exact a4.out⟩, ⟨by repeat (first | (with_reducible first | exact HB.out | apply below_alloc | apply pw_below_drewN | apply below_drew1 | refine below_set ?_ a7.out | refine below_set ?_ d5.out) | exact HB.out)⟩⟩
       case rest =>
        clear n1
        try clear c1
        try clear c2
        try clear p2
        try clear q2
        try clear hx2
        try clear c3
        try clear c5
        try clear c7
        try clear c10
        try clear N3
        try clear p20
        try clear q20
        try clear hx20
        try clear N4
        try clear k5
        try clear c24b0
        try clear n0
        try clear c25b0
        try clear U1
        try clear T8
        try clear T9
        try clear j9
        try clear c31b0
        try clear c31b1
        try clear U0
        try clear c34
        try clear l9
        try clear k9
        try clear l6
        try clear m0
        try clear k7
        try clear l7
        try clear r9
        try clear q0
        try clear r6
        try clear q3
        try clear q8
        try clear r5
        try clear q7
        try clear q6
        try clear q5
        try clear r2
        try clear q4
        try clear p8
        try clear l5
        try clear k8
        try clear m1
        try clear l4
        try clear l8
        try clear m2
        try clear r1
        try clear r3
        try clear r0
        try clear p7
        try clear p9
        try clear s3
        try clear s4
        try clear r8
        try clear r7
        try clear q1
        try clear q9
        try clear r4
        try clear i9
        try clear i6
        try clear i5
        try clear p2
        try clear m7
        try clear m4
        obtain ⟨kq, j5, rfl, HA, g4, b2, b3, b6, b1, a8, a3, a4, HB⟩ := hcut
        cases kq with
        | zero => exact absurd HA.out (by simp [Pl26a.j1])
        | succ d2 =>
         have H := HA.out
         clear HA
         simp only [Pl26a.j1] at H
         by_cases o1 : j5 = true
         ·subst o1
          have H1 : (if d7.length < 17592186044416 then ((some (d7 ++ [((rd_T51 l0_2 a0).f0)] : List Int)).bind fun g1 => (if ((rd_T51 l0_2 a0).f0) = a1 then (if d3.length < 5864062014805 then ((some (d3 ++ [(⟨((rd_T51 l0_2 a0).f0), ((rd_T51 l0_2 a0).f1), ((rd_T51 l0_2 a0).f2)⟩ : S51)] : List (S51))).bind fun h1 => (if d8 = true then ((Pr26c.f d2 a0_0 l0_1 l0_2 ((rd_T51 l0_2 a0).f0) ((rd_T51 l0_2 a0).f1)).bind fun h3 => (Pl26a.l0 d2 a1 a2 b9 b8 b5 g1 h1 ((h3.length : Int) == 1) (d1 (a0 + 1)) a0_0 l0_1 l0_2)) else (Pl26a.l0 d2 a1 a2 b9 b8 b5 g1 h1 false (d1 (a0 + 1)) a0_0 l0_1 l0_2))) else (none)) else (if d8 = true then ((Pr26c.f d2 a0_0 l0_1 l0_2 ((rd_T51 l0_2 a0).f0) ((rd_T51 l0_2 a0).f1)).bind fun h8 => (Pl26a.l0 d2 a1 a2 b9 b8 b5 g1 d3 ((h8.length : Int) == 1) (d1 (a0 + 1)) a0_0 l0_1 l0_2)) else (Pl26a.l0 d2 a1 a2 b9 b8 b5 g1 d3 false (d1 (a0 + 1)) a0_0 l0_1 l0_2)))) else (none)) = some r := by rw [if_pos rfl] at H; exact H
          clear H
          have H := H1
          clear H1
          by_cases o3 : d7.length < 17592186044416
          ·rw [if_pos o3] at H
           have k2 := Aside0.mk o3
           clear o3
           obtain ⟨g1, j7⟩ : ∃ y_ : List Int, y_ = (d7 ++ [((rd_T51 l0_2 a0).f0)]) := ⟨_, rfl⟩
           replace H : (if ((rd_T51 l0_2 a0).f0) = a1 then (if d3.length < 5864062014805 then ((some (d3 ++ [(⟨((rd_T51 l0_2 a0).f0), ((rd_T51 l0_2 a0).f1), ((rd_T51 l0_2 a0).f2)⟩ : S51)] : List (S51))).bind fun h1 => (if d8 = true then ((Pr26c.f d2 a0_0 l0_1 l0_2 ((rd_T51 l0_2 a0).f0) ((rd_T51 l0_2 a0).f1)).bind fun h3 => (Pl26a.l0 d2 a1 a2 b9 b8 b5 g1 h1 ((h3.length : Int) == 1) (d1 (a0 + 1)) a0_0 l0_1 l0_2)) else (Pl26a.l0 d2 a1 a2 b9 b8 b5 g1 h1 false (d1 (a0 + 1)) a0_0 l0_1 l0_2))) else (none)) else (if d8 = true then ((Pr26c.f d2 a0_0 l0_1 l0_2 ((rd_T51 l0_2 a0).f0) ((rd_T51 l0_2 a0).f1)).bind fun h8 => (Pl26a.l0 d2 a1 a2 b9 b8 b5 g1 d3 ((h8.length : Int) == 1) (d1 (a0 + 1)) a0_0 l0_1 l0_2)) else (Pl26a.l0 d2 a1 a2 b9 b8 b5 g1 d3 false (d1 (a0 + 1)) a0_0 l0_1 l0_2))) = some r := by first | (rw [j7]; with_reducible exact H) | (have g9 := (Option.bind_some _ _).symm.trans H; rw [j7]; with_reducible exact g9) | (have g9 := (Option.bind_some _ _).symm.trans H; with_reducible exact g9) | with_reducible exact H | (rw [j7]; exact H) | exact H
           have k0 := Aside0.mk j7
           clear j7
           by_cases k4 : ((rd_T51 l0_2 a0).f0) = a1
           ·rw [if_pos k4] at H
            have c38b0 : (((rd_T51 l0_2 a0).f0) == a1) = true := beq_iff_eq.mpr k4
            have c38b1 : (((rd_T51 l0_2 a0).f0) != a1) = false := bne_eq_false_iff_eq.mpr k4
            clear k4
            by_cases n7 : d3.length < 5864062014805
            ·rw [if_pos n7] at H
             have o9 := Aside0.mk n7
             clear n7
             obtain ⟨h1, j3⟩ : ∃ y_ : List (S51), y_ = (d3 ++ [(⟨((rd_T51 l0_2 a0).f0), ((rd_T51 l0_2 a0).f1), ((rd_T51 l0_2 a0).f2)⟩ : S51)]) := ⟨_, rfl⟩
             replace H : (if d8 = true then ((Pr26c.f d2 a0_0 l0_1 l0_2 ((rd_T51 l0_2 a0).f0) ((rd_T51 l0_2 a0).f1)).bind fun h3 => (Pl26a.l0 d2 a1 a2 b9 b8 b5 g1 h1 ((h3.length : Int) == 1) (d1 (a0 + 1)) a0_0 l0_1 l0_2)) else (Pl26a.l0 d2 a1 a2 b9 b8 b5 g1 h1 false (d1 (a0 + 1)) a0_0 l0_1 l0_2)) = some r := by first | (rw [j3]; with_reducible exact H) | (have g9 := (Option.bind_some _ _).symm.trans H; rw [j3]; with_reducible exact g9) | (have g9 := (Option.bind_some _ _).symm.trans H; with_reducible exact g9) | with_reducible exact H | (rw [j3]; exact H) | exact H
             have n6 := Aside0.mk j3
             clear j3
             by_cases n9 : d8 = true
             ·subst n9
              have H1 : ((Pr26c.f d2 a0_0 l0_1 l0_2 ((rd_T51 l0_2 a0).f0) ((rd_T51 l0_2 a0).f1)).bind fun h3 => (Pl26a.l0 d2 a1 a2 b9 b8 b5 g1 h1 ((h3.length : Int) == 1) (d1 (a0 + 1)) a0_0 l0_1 l0_2)) = some r := by rw [if_pos rfl] at H; exact H
              clear H
              have H := H1
              clear H1
              replace H := Option.bind_eq_some_iff.mp H
              obtain ⟨h3, s5, H⟩ := H
              replace H : (Pl26a.l0 d2 a1 a2 b9 b8 b5 g1 h1 ((h3.length : Int) == 1) (d1 (a0 + 1)) a0_0 l0_1 l0_2) = some r := H
              have N7 := Aside0.mk s5
              clear s5
              have H' := Aside0.mk H
              clear H
              have Q8 := e6.out
              have R4 := e0.out
              have L6 : wc.cell? ⟨a5, 0, none⟩ = some (.int .i64 ((rd_T51 l0_2 a0).f0)) := (blk_cell a4.out 0).trans rfl
              have I8 : wc.cell? ⟨a5, 1, none⟩ = some (.int .i64 ((rd_T51 l0_2 a0).f1)) := (blk_cell a4.out 1).trans rfl
              have K5 : wc.cell? ⟨a5, 2, none⟩ = some (.int .i64 ((rd_T51 l0_2 a0).f2)) := (blk_cell a4.out 2).trans rfl
              have M1 := blk_frozen a4.out 0
              have E2 := blk_frozen a4.out 1
              have L2 := blk_frozen a4.out 2
              go_wp2_with (first | ((with_reducible refine gate_builtin (b := .append) (xs := #[.tmp 78, .tmp 81]) rfl ?_); (try (refine gate_guard (by rfl) ?_; dsimp only)); at_builtin; refine Kd.R_append (Kd.int .i64) (w0 := w) w.heap.size rfl (.tmp 78) (.tmp 81) 47 3 (.int .i64 0) 8 rfl Try.underlying47 info3 rfl (by decide) (by omega) l3 d7 ((rd_T51 l0_2 a0).f0) [.int .i64 ((rd_T51 l0_2 a0).f0)] (fun k_ => some k_ ≠ (g7 : Value).ownBlock ∧ some k_ ≠ (g6 : Value).ownBlock) (fun _ => False) rfl rfl ?aP (fun _ hk => hk.elim) ?aF ?aO ?aB ?aS ?aL ?_; (case aP => exact rfl); (case aB => exact (by repeat (first | (with_reducible first | exact HB.out | apply below_alloc | apply pw_below_drewN | apply below_drew1 | refine below_set ?_ a7.out | refine below_set ?_ d5.out) | exact HB.out))); (case aF => exact (fun k_ hk => ⟨Kd.fresh' (Kd.R_lt (by (with_reducible repeat (first | apply Kd.R_alloc | apply Kd.R_drewN | apply Kd.R_drew)); exact b2.out)) k_ hk, Kd.fresh' (Kd.R_lt (by (with_reducible repeat (first | apply Kd.R_alloc | apply Kd.R_drewN | apply Kd.R_drew)); exact b3.out)) k_ hk⟩)); (case aO => exact (by (with_reducible repeat (first | apply Kd.R_alloc | apply Kd.R_drewN | apply Kd.R_drew)); exact b1.out)); (case aS => exact (below_size (by repeat (first | (with_reducible first | exact HB.out | apply below_alloc | apply pw_below_drewN | apply below_drew1 | refine below_set ?_ a7.out | refine below_set ?_ d5.out) | exact HB.out)))); (case aL => have := k2.out; omega); intro n3 w44 ho hb hg hat; rw [← k0.out] at ho; have a9 := Aside0.mk (Kd.R_after (ok := (fun k_ => some k_ ≠ (g6 : Value).ownBlock)) (by (with_reducible repeat (first | apply Kd.R_alloc | apply Kd.R_drewN | apply Kd.R_drew)); exact b2.out) hg hat); have b0 := Aside0.mk (Kd.R_after (ok := (fun k_ => some k_ ≠ (g7 : Value).ownBlock)) (by (with_reducible repeat (first | apply Kd.R_alloc | apply Kd.R_drewN | apply Kd.R_drew)); exact b3.out) hg hat); have b4 := Aside0.mk (Kd.R_over' (by (with_reducible repeat (first | apply Kd.R_alloc | apply Kd.R_drewN | apply Kd.R_drew)); exact b6.out) (Kd.R_typed (by (with_reducible repeat (first | apply Kd.R_alloc | apply Kd.R_drewN | apply Kd.R_drew)); exact b1.out)) (by decide) hg); have b7 := Aside0.mk (Kd.R_over' (by (with_reducible repeat (first | apply Kd.R_alloc | apply Kd.R_drewN | apply Kd.R_drew)); exact a8.out) (Kd.R_typed (by (with_reducible repeat (first | apply Kd.R_alloc | apply Kd.R_drewN | apply Kd.R_drew)); exact b1.out)) (by decide) hg); have d0 := Aside0.mk (blk_grown (g := a6) (o := .cells #[.int .i64 a0_0, .slice A0_1 l0_1.length c0_1, .slice (some e8) l0_2.length c0_2] 25 (0, 0)) (by (with_reducible repeat (first | refine blk_drewN ?_ _ | refine blk_drew ?_ | refine blk_alloc ?_ _)); exact a3.out) hg (Kd.R_ne b1.out a3.out (by decide))); have d6 := Aside0.mk (blk_grown (g := a5) (o := .cells #[.int .i64 ((rd_T51 l0_2 a0).f0), .int .i64 ((rd_T51 l0_2 a0).f1), .int .i64 ((rd_T51 l0_2 a0).f2)] 51 (0, 0)) (by (with_reducible repeat (first | refine blk_drewN ?_ _ | refine blk_drew ?_ | refine blk_alloc ?_ _)); exact a4.out) hg (Kd.R_ne b1.out a4.out (by decide))); have d9 := Aside0.mk (hb); have e1 := Aside0.mk (ho); clear b2; clear b3; clear b6; clear a8; clear a3; clear a4; clear HB; clear b1; have b2 := a9; have b3 := b0; have b6 := b4; have a8 := b7; have a3 := d0; have a4 := d6; have HB := d9; have e5 := e1; clear a9 b0 b4 b7 d0 d6 d9 e1; clear ho hb hg hat; have L3 : w44.cell? ⟨a5, 0, none⟩ = some (.int .i64 ((rd_T51 l0_2 a0).f0)) := (blk_cell a4.out 0).trans rfl; have H6 : w44.cell? ⟨a5, 1, none⟩ = some (.int .i64 ((rd_T51 l0_2 a0).f1)) := (blk_cell a4.out 1).trans rfl; have F6 : w44.cell? ⟨a5, 2, none⟩ = some (.int .i64 ((rd_T51 l0_2 a0).f2)) := (blk_cell a4.out 2).trans rfl; have L7 := blk_frozen a4.out 0; have H9 := blk_frozen a4.out 1; have L8 := blk_frozen a4.out 2) | ((with_reducible refine gate_builtin (b := .append) (xs := #[.tmp 87, .tmp 89]) rfl ?_); (try (refine gate_guard (by rfl) ?_; dsimp only)); at_builtin; refine Kd.R_append k51 (w0 := w) w.heap.size rfl (.tmp 87) (.tmp 89) 23 51 (.agg #[(.int .i64 0), (.int .i64 0), (.int .i64 0)]) 24 rfl Try.underlying23 info51 rfl (by decide) (by omega) m9 d3 (⟨((rd_T51 l0_2 a0).f0), ((rd_T51 l0_2 a0).f1), ((rd_T51 l0_2 a0).f2)⟩ : S51) [.int .i64 ((rd_T51 l0_2 a0).f0), .int .i64 ((rd_T51 l0_2 a0).f1), .int .i64 ((rd_T51 l0_2 a0).f2)] (fun k_ => some k_ ≠ (h7 : Value).ownBlock ∧ k_ ≠ a5) (fun _ => False) rfl rfl ?aP (fun _ hk => hk.elim) ?aF ?aO ?aB ?aS ?aL ?_; (case aP => exact k51_mkM _ _ _ (⟨((rd_T51 l0_2 a0).f0), ((rd_T51 l0_2 a0).f1), ((rd_T51 l0_2 a0).f2)⟩ : S51)); (case aB => exact (by repeat (first | (with_reducible first | exact HB.out | apply below_alloc | apply pw_below_drewN | apply below_drew1 | refine below_set ?_ a7.out | refine below_set ?_ d5.out) | exact HB.out))); (case aF => exact (fun k_ hk => ⟨Kd.fresh' (Kd.R_lt (by (with_reducible repeat (first | apply Kd.R_alloc | apply Kd.R_drewN | apply Kd.R_drew)); exact b6.out)) k_ hk, Kd.freshB (g := a5) (o := .cells #[.int .i64 ((rd_T51 l0_2 a0).f0), .int .i64 ((rd_T51 l0_2 a0).f1), .int .i64 ((rd_T51 l0_2 a0).f2)] 51 (0, 0)) (by (with_reducible repeat (first | refine blk_drewN ?_ _ | refine blk_drew ?_ | refine blk_alloc ?_ _)); exact a4.out) k_ hk⟩)); (case aO => exact (by (with_reducible repeat (first | apply Kd.R_alloc | apply Kd.R_drewN | apply Kd.R_drew)); exact a8.out)); (case aS => exact (below_size (by repeat (first | (with_reducible first | exact HB.out | apply below_alloc | apply pw_below_drewN | apply below_drew1 | refine below_set ?_ a7.out | refine below_set ?_ d5.out) | exact HB.out)))); (case aL => have := o9.out; omega); intro x3 w46 ho hb hg hat; rw [← n6.out] at ho; have a9 := Aside0.mk (Kd.R_over' (by (with_reducible repeat (first | apply Kd.R_alloc | apply Kd.R_drewN | apply Kd.R_drew)); exact b2.out) (Kd.R_typed (by (with_reducible repeat (first | apply Kd.R_alloc | apply Kd.R_drewN | apply Kd.R_drew)); exact a8.out)) (by decide) hg); have b0 := Aside0.mk (Kd.R_over' (by (with_reducible repeat (first | apply Kd.R_alloc | apply Kd.R_drewN | apply Kd.R_drew)); exact b3.out) (Kd.R_typed (by (with_reducible repeat (first | apply Kd.R_alloc | apply Kd.R_drewN | apply Kd.R_drew)); exact a8.out)) (by decide) hg); have b4 := Aside0.mk (Kd.R_after (ok := (fun k_ => k_ ≠ a5)) (by (with_reducible repeat (first | apply Kd.R_alloc | apply Kd.R_drewN | apply Kd.R_drew)); exact Kd.R_mono b6.out (fun _ hk => ⟨hk.2, hk.1⟩)) hg hat); have b7 := Aside0.mk (blk_grown (g := a6) (o := .cells #[.int .i64 a0_0, .slice A0_1 l0_1.length c0_1, .slice (some e8) l0_2.length c0_2] 25 (0, 0)) (by (with_reducible repeat (first | refine blk_drewN ?_ _ | refine blk_drew ?_ | refine blk_alloc ?_ _)); exact a3.out) hg (Kd.R_ne a8.out a3.out (by decide))); have d0 := Aside0.mk (blk_grown (g := a5) (o := .cells #[.int .i64 ((rd_T51 l0_2 a0).f0), .int .i64 ((rd_T51 l0_2 a0).f1), .int .i64 ((rd_T51 l0_2 a0).f2)] 51 (0, 0)) (by (with_reducible repeat (first | refine blk_drewN ?_ _ | refine blk_drew ?_ | refine blk_alloc ?_ _)); exact a4.out) hg (Kd.R_away a8.out (fun _ hk => hk.2))); have d6 := Aside0.mk (Kd.R_over' (by (with_reducible repeat (first | apply Kd.R_alloc | apply Kd.R_drewN | apply Kd.R_drew)); exact e5.out) (Kd.R_typed (by (with_reducible repeat (first | apply Kd.R_alloc | apply Kd.R_drewN | apply Kd.R_drew)); exact a8.out)) (by decide) hg); have d9 := Aside0.mk (hb); have e1 := Aside0.mk (ho); clear b2; clear b3; clear b6; clear a3; clear a4; clear e5; clear HB; clear a8; have b2 := a9; have b3 := b0; have b6 := b4; have a3 := b7; have a4 := d0; have e5 := d6; have HB := d9; have i8 := e1; clear a9 b0 b4 b7 d0 d6 d9 e1; clear ho hb hg hat; have J0 : w46.cell? ⟨a6, 0, none⟩ = some (.int .i64 a0_0) := (blk_cell a3.out 0).trans rfl; have F2 : w46.cell? ⟨a6, 1, none⟩ = some (.slice A0_1 l0_1.length c0_1) := (blk_cell a3.out 1).trans rfl; have M0 : w46.cell? ⟨a6, 2, none⟩ = some (.slice (some e8) l0_2.length c0_2) := (blk_cell a3.out 2).trans rfl; have D4 := blk_frozen a3.out 0; have E6 := blk_frozen a3.out 1; have D6 := blk_frozen a3.out 2; have C0 : w46.cell? ⟨a5, 0, none⟩ = some (.int .i64 ((rd_T51 l0_2 a0).f0)) := (blk_cell a4.out 0).trans rfl; have D0 : w46.cell? ⟨a5, 1, none⟩ = some (.int .i64 ((rd_T51 l0_2 a0).f1)) := (blk_cell a4.out 1).trans rfl; have D5 : w46.cell? ⟨a5, 2, none⟩ = some (.int .i64 ((rd_T51 l0_2 a0).f2)) := (blk_cell a4.out 2).trans rfl; have C4 := blk_frozen a4.out 0; have C9 := blk_frozen a4.out 1; have B8 := blk_frozen a4.out 2) | (go_at_call 32; (with_reducible refine (Pr26c.calls d2 a0_0 _ _ l0_1 _ _ l0_2 ((rd_T51 l0_2 a0).f0) ((rd_T51 l0_2 a0).f1) h3 _ ?f3 ?e9 ?f4 ?e7 N7.out).mono ?_); (case f3 => repeat (first | exact (Kd.C_below f7.out HB.out) | (with_reducible refine Kd.C_alloc ?_ _) | (with_reducible refine Kd.C_drewN ?_ _) | (with_reducible refine Kd.C_drew ?_))); (case e9 => exact f9.out); (case f4 => repeat (first | exact (Kd.C_below f5.out HB.out) | (with_reducible refine Kd.C_alloc ?_ _) | (with_reducible refine Kd.C_drewN ?_ _) | (with_reducible refine Kd.C_drew ?_))); (case e7 => exact f8.out); rintro e w49 ⟨T2, rfl, e2, hb⟩; have a9 := Aside0.mk (Kd.R_elder' (by (with_reducible repeat (first | apply Kd.R_alloc | apply Kd.R_drewN | apply Kd.R_drew)); exact b2.out) (Kd.R_base e2) hb); have b0 := Aside0.mk (Kd.R_elder' (by (with_reducible repeat (first | apply Kd.R_alloc | apply Kd.R_drewN | apply Kd.R_drew)); exact b3.out) (Kd.R_base e2) hb); have b4 := Aside0.mk (Kd.R_below (by (with_reducible repeat (first | apply Kd.R_alloc | apply Kd.R_drewN | apply Kd.R_drew)); exact b6.out) hb); have b7 := Aside0.mk (Kd.R_elder' (by (with_reducible repeat (first | apply Kd.R_alloc | apply Kd.R_drewN | apply Kd.R_drew)); exact e5.out) (Kd.R_base e2) hb); have d0 := Aside0.mk (Kd.R_below (by (with_reducible repeat (first | apply Kd.R_alloc | apply Kd.R_drewN | apply Kd.R_drew)); exact i8.out) hb); have d6 := Aside0.mk (Kd.R_lower (Kd.R_new' (Kd.R_new' (Kd.R_new' e2 (Kd.R_lt (by (with_reducible repeat (first | apply Kd.R_alloc | apply Kd.R_drewN | apply Kd.R_drew)); exact b2.out))) (Kd.R_lt (by (with_reducible repeat (first | apply Kd.R_alloc | apply Kd.R_drewN | apply Kd.R_drew)); exact b3.out))) (Kd.R_lt (by (with_reducible repeat (first | apply Kd.R_alloc | apply Kd.R_drewN | apply Kd.R_drew)); exact e5.out))) (below_size (by repeat (first | (with_reducible first | exact HB.out | apply below_alloc | apply pw_below_drewN | apply below_drew1 | refine below_set ?_ a7.out | refine below_set ?_ d5.out) | exact HB.out)))); have d9 := Aside0.mk (blk_below (g := a6) (o := .cells #[.int .i64 a0_0, .slice A0_1 l0_1.length c0_1, .slice (some e8) l0_2.length c0_2] 25 (0, 0)) (by (with_reducible repeat (first | refine blk_drewN ?_ _ | refine blk_drew ?_ | refine blk_alloc ?_ _)); exact a3.out) hb); have e1 := Aside0.mk (blk_below (g := a5) (o := .cells #[.int .i64 ((rd_T51 l0_2 a0).f0), .int .i64 ((rd_T51 l0_2 a0).f1), .int .i64 ((rd_T51 l0_2 a0).f2)] 51 (0, 0)) (by (with_reducible repeat (first | refine blk_drewN ?_ _ | refine blk_drew ?_ | refine blk_alloc ?_ _)); exact a4.out) hb); have h5 := Aside0.mk (below_step (by repeat (first | (with_reducible first | exact HB.out | apply below_alloc | apply pw_below_drewN | apply below_drew1 | refine below_set ?_ a7.out | refine below_set ?_ d5.out) | exact HB.out)) hb); clear b2; clear b3; clear b6; clear e5; clear i8; clear a3; clear a4; clear HB; have b2 := a9; have b3 := b0; have b6 := b4; have e5 := b7; have i8 := d0; have u4 := d6; have a3 := d9; have a4 := e1; have HB := h5; clear a9 b0 b4 b7 d0 d6 d9 e1 h5; (try clear hb); (try clear hb2); (try clear hk); (try clear hi); (try clear e2); obtain ⟨S8, S0, x8⟩ := Kd.R_slice u4.out; subst x8))
              go_roundg d2
              case measure => have := h0.out; have := g4.out; omega
              case rel => exact ⟨(g1), (h1), (((h3.length : Int) == 1)), (d1 (a0 + 1)), (by first | rfl | (simp; done) | (simp [*]; done)), (by first | rfl | (simp; done) | (simp [*]; done)), H', ⟨by have := h0.out; have := g4.out; omega⟩, ⟨by (with_reducible repeat (first | apply Kd.R_alloc | apply Kd.R_drewN | apply Kd.R_drew)); exact Kd.R_mono b2.out (fun _ hk => ⟨hk.1.1, hk.1.2⟩)⟩, ⟨by (with_reducible repeat (first | apply Kd.R_alloc | apply Kd.R_drewN | apply Kd.R_drew)); exact Kd.R_mono b3.out (fun _ hk => ⟨hk.1.1, hk.1.2⟩)⟩, ⟨by (with_reducible repeat (first | apply Kd.R_alloc | apply Kd.R_drewN | apply Kd.R_drew)); exact Kd.R_mono b6.out (fun _ hk => hk.2)⟩, ⟨by (with_reducible repeat (first | apply Kd.R_alloc | apply Kd.R_drewN | apply Kd.R_drew)); exact Kd.R_mono e5.out (fun _ hk => ⟨hk.1.1, hk.1.2⟩)⟩, ⟨by (with_reducible repeat (first | apply Kd.R_alloc | apply Kd.R_drewN | apply Kd.R_drew)); exact Kd.R_mono i8.out (fun _ hk => hk.1)⟩, ⟨by (with_reducible repeat (first | refine blk_drewN ?_ _ | refine blk_drew ?_ | refine blk_alloc ?_ _)); exact a3.out⟩, ⟨by repeat (first | (with_reducible first | exact HB.out | apply below_alloc | apply pw_below_drewN | apply below_drew1 | refine below_set ?_ a7.out | refine below_set ?_ d5.out) | exact HB.out)⟩⟩
             ·replace n9 := Bool.eq_false_iff.mpr n9
              subst n9
              have H1 : (Pl26a.l0 d2 a1 a2 b9 b8 b5 g1 h1 false (d1 (a0 + 1)) a0_0 l0_1 l0_2) = some r := by rw [if_neg (show ¬ (false = true) by decide)] at H; exact H
              clear H
              have H := H1
              clear H1
              have H' := Aside0.mk H
              clear H
              have O2 := e6.out
              have O7 := e0.out
              have G2 : wc.cell? ⟨a5, 0, none⟩ = some (.int .i64 ((rd_T51 l0_2 a0).f0)) := (blk_cell a4.out 0).trans rfl
              have G1 : wc.cell? ⟨a5, 1, none⟩ = some (.int .i64 ((rd_T51 l0_2 a0).f1)) := (blk_cell a4.out 1).trans rfl
              have I4 : wc.cell? ⟨a5, 2, none⟩ = some (.int .i64 ((rd_T51 l0_2 a0).f2)) := (blk_cell a4.out 2).trans rfl
              have F4 := blk_frozen a4.out 0
              have I5 := blk_frozen a4.out 1
              have C1 := blk_frozen a4.out 2
              go_wp2_with (first | ((with_reducible refine gate_builtin (b := .append) (xs := #[.tmp 78, .tmp 81]) rfl ?_); (try (refine gate_guard (by rfl) ?_; dsimp only)); at_builtin; refine Kd.R_append (Kd.int .i64) (w0 := w) w.heap.size rfl (.tmp 78) (.tmp 81) 47 3 (.int .i64 0) 8 rfl Try.underlying47 info3 rfl (by decide) (by omega) l3 d7 ((rd_T51 l0_2 a0).f0) [.int .i64 ((rd_T51 l0_2 a0).f0)] (fun k_ => some k_ ≠ (g7 : Value).ownBlock ∧ some k_ ≠ (g6 : Value).ownBlock) (fun _ => False) rfl rfl ?aP (fun _ hk => hk.elim) ?aF ?aO ?aB ?aS ?aL ?_; (case aP => exact rfl); (case aB => exact (by repeat (first | (with_reducible first | exact HB.out | apply below_alloc | apply pw_below_drewN | apply below_drew1 | refine below_set ?_ a7.out | refine below_set ?_ d5.out) | exact HB.out))); (case aF => exact (fun k_ hk => ⟨Kd.fresh' (Kd.R_lt (by (with_reducible repeat (first | apply Kd.R_alloc | apply Kd.R_drewN | apply Kd.R_drew)); exact b2.out)) k_ hk, Kd.fresh' (Kd.R_lt (by (with_reducible repeat (first | apply Kd.R_alloc | apply Kd.R_drewN | apply Kd.R_drew)); exact b3.out)) k_ hk⟩)); (case aO => exact (by (with_reducible repeat (first | apply Kd.R_alloc | apply Kd.R_drewN | apply Kd.R_drew)); exact b1.out)); (case aS => exact (below_size (by repeat (first | (with_reducible first | exact HB.out | apply below_alloc | apply pw_below_drewN | apply below_drew1 | refine below_set ?_ a7.out | refine below_set ?_ d5.out) | exact HB.out)))); (case aL => have := k2.out; omega); intro n3 w53 ho hb hg hat; rw [← k0.out] at ho; have a9 := Aside0.mk (Kd.R_after (ok := (fun k_ => some k_ ≠ (g6 : Value).ownBlock)) (by (with_reducible repeat (first | apply Kd.R_alloc | apply Kd.R_drewN | apply Kd.R_drew)); exact b2.out) hg hat); have b0 := Aside0.mk (Kd.R_after (ok := (fun k_ => some k_ ≠ (g7 : Value).ownBlock)) (by (with_reducible repeat (first | apply Kd.R_alloc | apply Kd.R_drewN | apply Kd.R_drew)); exact b3.out) hg hat); have b4 := Aside0.mk (Kd.R_over' (by (with_reducible repeat (first | apply Kd.R_alloc | apply Kd.R_drewN | apply Kd.R_drew)); exact b6.out) (Kd.R_typed (by (with_reducible repeat (first | apply Kd.R_alloc | apply Kd.R_drewN | apply Kd.R_drew)); exact b1.out)) (by decide) hg); have b7 := Aside0.mk (Kd.R_over' (by (with_reducible repeat (first | apply Kd.R_alloc | apply Kd.R_drewN | apply Kd.R_drew)); exact a8.out) (Kd.R_typed (by (with_reducible repeat (first | apply Kd.R_alloc | apply Kd.R_drewN | apply Kd.R_drew)); exact b1.out)) (by decide) hg); have d0 := Aside0.mk (blk_grown (g := a6) (o := .cells #[.int .i64 a0_0, .slice A0_1 l0_1.length c0_1, .slice (some e8) l0_2.length c0_2] 25 (0, 0)) (by (with_reducible repeat (first | refine blk_drewN ?_ _ | refine blk_drew ?_ | refine blk_alloc ?_ _)); exact a3.out) hg (Kd.R_ne b1.out a3.out (by decide))); have d6 := Aside0.mk (blk_grown (g := a5) (o := .cells #[.int .i64 ((rd_T51 l0_2 a0).f0), .int .i64 ((rd_T51 l0_2 a0).f1), .int .i64 ((rd_T51 l0_2 a0).f2)] 51 (0, 0)) (by (with_reducible repeat (first | refine blk_drewN ?_ _ | refine blk_drew ?_ | refine blk_alloc ?_ _)); exact a4.out) hg (Kd.R_ne b1.out a4.out (by decide))); have d9 := Aside0.mk (hb); have e1 := Aside0.mk (ho); clear b2; clear b3; clear b6; clear a8; clear a3; clear a4; clear HB; clear b1; have b2 := a9; have b3 := b0; have b6 := b4; have a8 := b7; have a3 := d0; have a4 := d6; have HB := d9; have e5 := e1; clear a9 b0 b4 b7 d0 d6 d9 e1; clear ho hb hg hat; have K8 : w53.cell? ⟨a5, 0, none⟩ = some (.int .i64 ((rd_T51 l0_2 a0).f0)) := (blk_cell a4.out 0).trans rfl; have F7 : w53.cell? ⟨a5, 1, none⟩ = some (.int .i64 ((rd_T51 l0_2 a0).f1)) := (blk_cell a4.out 1).trans rfl; have G6 : w53.cell? ⟨a5, 2, none⟩ = some (.int .i64 ((rd_T51 l0_2 a0).f2)) := (blk_cell a4.out 2).trans rfl; have C6 := blk_frozen a4.out 0; have I7 := blk_frozen a4.out 1; have F5 := blk_frozen a4.out 2) | ((with_reducible refine gate_builtin (b := .append) (xs := #[.tmp 87, .tmp 89]) rfl ?_); (try (refine gate_guard (by rfl) ?_; dsimp only)); at_builtin; refine Kd.R_append k51 (w0 := w) w.heap.size rfl (.tmp 87) (.tmp 89) 23 51 (.agg #[(.int .i64 0), (.int .i64 0), (.int .i64 0)]) 24 rfl Try.underlying23 info51 rfl (by decide) (by omega) m9 d3 (⟨((rd_T51 l0_2 a0).f0), ((rd_T51 l0_2 a0).f1), ((rd_T51 l0_2 a0).f2)⟩ : S51) [.int .i64 ((rd_T51 l0_2 a0).f0), .int .i64 ((rd_T51 l0_2 a0).f1), .int .i64 ((rd_T51 l0_2 a0).f2)] (fun k_ => some k_ ≠ (h7 : Value).ownBlock ∧ k_ ≠ a5) (fun _ => False) rfl rfl ?aP (fun _ hk => hk.elim) ?aF ?aO ?aB ?aS ?aL ?_; (case aP => exact k51_mkM _ _ _ (⟨((rd_T51 l0_2 a0).f0), ((rd_T51 l0_2 a0).f1), ((rd_T51 l0_2 a0).f2)⟩ : S51)); (case aB => exact (by repeat (first | (with_reducible first | exact HB.out | apply below_alloc | apply pw_below_drewN | apply below_drew1 | refine below_set ?_ a7.out | refine below_set ?_ d5.out) | exact HB.out))); (case aF => exact (fun k_ hk => ⟨Kd.fresh' (Kd.R_lt (by (with_reducible repeat (first | apply Kd.R_alloc | apply Kd.R_drewN | apply Kd.R_drew)); exact b6.out)) k_ hk, Kd.freshB (g := a5) (o := .cells #[.int .i64 ((rd_T51 l0_2 a0).f0), .int .i64 ((rd_T51 l0_2 a0).f1), .int .i64 ((rd_T51 l0_2 a0).f2)] 51 (0, 0)) (by (with_reducible repeat (first | refine blk_drewN ?_ _ | refine blk_drew ?_ | refine blk_alloc ?_ _)); exact a4.out) k_ hk⟩)); (case aO => exact (by (with_reducible repeat (first | apply Kd.R_alloc | apply Kd.R_drewN | apply Kd.R_drew)); exact a8.out)); (case aS => exact (below_size (by repeat (first | (with_reducible first | exact HB.out | apply below_alloc | apply pw_below_drewN | apply below_drew1 | refine below_set ?_ a7.out | refine below_set ?_ d5.out) | exact HB.out)))); (case aL => have := o9.out; omega); intro x3 w55 ho hb hg hat; rw [← n6.out] at ho; have a9 := Aside0.mk (Kd.R_over' (by (with_reducible repeat (first | apply Kd.R_alloc | apply Kd.R_drewN | apply Kd.R_drew)); exact b2.out) (Kd.R_typed (by (with_reducible repeat (first | apply Kd.R_alloc | apply Kd.R_drewN | apply Kd.R_drew)); exact a8.out)) (by decide) hg); have b0 := Aside0.mk (Kd.R_over' (by (with_reducible repeat (first | apply Kd.R_alloc | apply Kd.R_drewN | apply Kd.R_drew)); exact b3.out) (Kd.R_typed (by (with_reducible repeat (first | apply Kd.R_alloc | apply Kd.R_drewN | apply Kd.R_drew)); exact a8.out)) (by decide) hg); have b4 := Aside0.mk (Kd.R_after (ok := (fun k_ => k_ ≠ a5)) (by (with_reducible repeat (first | apply Kd.R_alloc | apply Kd.R_drewN | apply Kd.R_drew)); exact Kd.R_mono b6.out (fun _ hk => ⟨hk.2, hk.1⟩)) hg hat); have b7 := Aside0.mk (blk_grown (g := a6) (o := .cells #[.int .i64 a0_0, .slice A0_1 l0_1.length c0_1, .slice (some e8) l0_2.length c0_2] 25 (0, 0)) (by (with_reducible repeat (first | refine blk_drewN ?_ _ | refine blk_drew ?_ | refine blk_alloc ?_ _)); exact a3.out) hg (Kd.R_ne a8.out a3.out (by decide))); have d0 := Aside0.mk (blk_grown (g := a5) (o := .cells #[.int .i64 ((rd_T51 l0_2 a0).f0), .int .i64 ((rd_T51 l0_2 a0).f1), .int .i64 ((rd_T51 l0_2 a0).f2)] 51 (0, 0)) (by (with_reducible repeat (first | refine blk_drewN ?_ _ | refine blk_drew ?_ | refine blk_alloc ?_ _)); exact a4.out) hg (Kd.R_away a8.out (fun _ hk => hk.2))); have d6 := Aside0.mk (Kd.R_over' (by (with_reducible repeat (first | apply Kd.R_alloc | apply Kd.R_drewN | apply Kd.R_drew)); exact e5.out) (Kd.R_typed (by (with_reducible repeat (first | apply Kd.R_alloc | apply Kd.R_drewN | apply Kd.R_drew)); exact a8.out)) (by decide) hg); have d9 := Aside0.mk (hb); have e1 := Aside0.mk (ho); clear b2; clear b3; clear b6; clear a3; clear a4; clear e5; clear HB; clear a8; have b2 := a9; have b3 := b0; have b6 := b4; have a3 := b7; have a4 := d0; have e5 := d6; have HB := d9; have i8 := e1; clear a9 b0 b4 b7 d0 d6 d9 e1; clear ho hb hg hat))
              go_roundg d2
              case measure => have := h0.out; have := g4.out; omega
              case rel => exact ⟨(g1), (h1), (false), (d1 (a0 + 1)), (by first | rfl | (simp; done) | (simp [*]; done)), (by first | rfl | (simp; done) | (simp [*]; done)), H', ⟨by have := h0.out; have := g4.out; omega⟩, ⟨by (with_reducible repeat (first | apply Kd.R_alloc | apply Kd.R_drewN | apply Kd.R_drew)); exact b2.out⟩, ⟨by (with_reducible repeat (first | apply Kd.R_alloc | apply Kd.R_drewN | apply Kd.R_drew)); exact b3.out⟩, ⟨by (with_reducible repeat (first | apply Kd.R_alloc | apply Kd.R_drewN | apply Kd.R_drew)); exact Kd.R_mono b6.out (fun _ hk => hk.2)⟩, ⟨by (with_reducible repeat (first | apply Kd.R_alloc | apply Kd.R_drewN | apply Kd.R_drew)); exact e5.out⟩, ⟨by (with_reducible repeat (first | apply Kd.R_alloc | apply Kd.R_drewN | apply Kd.R_drew)); exact Kd.R_mono i8.out (fun _ hk => hk.1)⟩, ⟨by (with_reducible repeat (first | refine blk_drewN ?_ _ | refine blk_drew ?_ | refine blk_alloc ?_ _)); exact a3.out⟩, ⟨by repeat (first | (with_reducible first | exact HB.out | apply below_alloc | apply pw_below_drewN | apply below_drew1 | refine below_set ?_ a7.out | refine below_set ?_ d5.out) | exact HB.out)⟩⟩
            ·rw [if_neg n7] at H
             exact absurd H (by simp)
           ·rw [if_neg k4] at H
            have c38b0 : (((rd_T51 l0_2 a0).f0) == a1) = false := beq_eq_false_iff_ne.mpr k4
            have c38b1 : (((rd_T51 l0_2 a0).f0) != a1) = true := bne_iff_ne.mpr k4
            by_cases p3 : d8 = true
            ·subst p3
             have H1 : ((Pr26c.f d2 a0_0 l0_1 l0_2 ((rd_T51 l0_2 a0).f0) ((rd_T51 l0_2 a0).f1)).bind fun h8 => (Pl26a.l0 d2 a1 a2 b9 b8 b5 g1 d3 ((h8.length : Int) == 1) (d1 (a0 + 1)) a0_0 l0_1 l0_2)) = some r := by rw [if_pos rfl] at H; exact H
             clear H
             have H := H1
             clear H1
             replace H := Option.bind_eq_some_iff.mp H
             obtain ⟨h8, t7, H⟩ := H
             replace H : (Pl26a.l0 d2 a1 a2 b9 b8 b5 g1 d3 ((h8.length : Int) == 1) (d1 (a0 + 1)) a0_0 l0_1 l0_2) = some r := H
             have M6 := Aside0.mk t7
             clear t7
             have H' := Aside0.mk H
             clear H
             have P2 := e6.out
             have P8 := e0.out
             have K1 : wc.cell? ⟨a5, 0, none⟩ = some (.int .i64 ((rd_T51 l0_2 a0).f0)) := (blk_cell a4.out 0).trans rfl
             have J3 : wc.cell? ⟨a5, 1, none⟩ = some (.int .i64 ((rd_T51 l0_2 a0).f1)) := (blk_cell a4.out 1).trans rfl
             have D8 : wc.cell? ⟨a5, 2, none⟩ = some (.int .i64 ((rd_T51 l0_2 a0).f2)) := (blk_cell a4.out 2).trans rfl
             have D9 := blk_frozen a4.out 0
             have I0 := blk_frozen a4.out 1
             have H7 := blk_frozen a4.out 2
             go_wp2_with (first | ((with_reducible refine gate_builtin (b := .append) (xs := #[.tmp 78, .tmp 81]) rfl ?_); (try (refine gate_guard (by rfl) ?_; dsimp only)); at_builtin; refine Kd.R_append (Kd.int .i64) (w0 := w) w.heap.size rfl (.tmp 78) (.tmp 81) 47 3 (.int .i64 0) 8 rfl Try.underlying47 info3 rfl (by decide) (by omega) l3 d7 ((rd_T51 l0_2 a0).f0) [.int .i64 ((rd_T51 l0_2 a0).f0)] (fun k_ => some k_ ≠ (g7 : Value).ownBlock ∧ some k_ ≠ (g6 : Value).ownBlock) (fun _ => False) rfl rfl ?aP (fun _ hk => hk.elim) ?aF ?aO ?aB ?aS ?aL ?_; (case aP => exact rfl); (case aB => exact (by repeat (first | (with_reducible first | exact HB.out | apply below_alloc | apply pw_below_drewN | apply below_drew1 | refine below_set ?_ a7.out | refine below_set ?_ d5.out) | exact HB.out))); (case aF => exact (fun k_ hk => ⟨Kd.fresh' (Kd.R_lt (by (with_reducible repeat (first | apply Kd.R_alloc | apply Kd.R_drewN | apply Kd.R_drew)); exact b2.out)) k_ hk, Kd.fresh' (Kd.R_lt (by (with_reducible repeat (first | apply Kd.R_alloc | apply Kd.R_drewN | apply Kd.R_drew)); exact b3.out)) k_ hk⟩)); (case aO => exact (by (with_reducible repeat (first | apply Kd.R_alloc | apply Kd.R_drewN | apply Kd.R_drew)); exact b1.out)); (case aS => exact (below_size (by repeat (first | (with_reducible first | exact HB.out | apply below_alloc | apply pw_below_drewN | apply below_drew1 | refine below_set ?_ a7.out | refine below_set ?_ d5.out) | exact HB.out)))); (case aL => have := k2.out; omega); intro n3 w60 ho hb hg hat; rw [← k0.out] at ho; have a9 := Aside0.mk (Kd.R_after (ok := (fun k_ => some k_ ≠ (g6 : Value).ownBlock)) (by (with_reducible repeat (first | apply Kd.R_alloc | apply Kd.R_drewN | apply Kd.R_drew)); exact b2.out) hg hat); have b0 := Aside0.mk (Kd.R_after (ok := (fun k_ => some k_ ≠ (g7 : Value).ownBlock)) (by (with_reducible repeat (first | apply Kd.R_alloc | apply Kd.R_drewN | apply Kd.R_drew)); exact b3.out) hg hat); have b4 := Aside0.mk (Kd.R_over' (by (with_reducible repeat (first | apply Kd.R_alloc | apply Kd.R_drewN | apply Kd.R_drew)); exact b6.out) (Kd.R_typed (by (with_reducible repeat (first | apply Kd.R_alloc | apply Kd.R_drewN | apply Kd.R_drew)); exact b1.out)) (by decide) hg); have b7 := Aside0.mk (Kd.R_over' (by (with_reducible repeat (first | apply Kd.R_alloc | apply Kd.R_drewN | apply Kd.R_drew)); exact a8.out) (Kd.R_typed (by (with_reducible repeat (first | apply Kd.R_alloc | apply Kd.R_drewN | apply Kd.R_drew)); exact b1.out)) (by decide) hg); have d0 := Aside0.mk (blk_grown (g := a6) (o := .cells #[.int .i64 a0_0, .slice A0_1 l0_1.length c0_1, .slice (some e8) l0_2.length c0_2] 25 (0, 0)) (by (with_reducible repeat (first | refine blk_drewN ?_ _ | refine blk_drew ?_ | refine blk_alloc ?_ _)); exact a3.out) hg (Kd.R_ne b1.out a3.out (by decide))); have d6 := Aside0.mk (blk_grown (g := a5) (o := .cells #[.int .i64 ((rd_T51 l0_2 a0).f0), .int .i64 ((rd_T51 l0_2 a0).f1), .int .i64 ((rd_T51 l0_2 a0).f2)] 51 (0, 0)) (by (with_reducible repeat (first | refine blk_drewN ?_ _ | refine blk_drew ?_ | refine blk_alloc ?_ _)); exact a4.out) hg (Kd.R_ne b1.out a4.out (by decide))); have d9 := Aside0.mk (hb); have e1 := Aside0.mk (ho); clear b2; clear b3; clear b6; clear a8; clear a3; clear a4; clear HB; clear b1; have b2 := a9; have b3 := b0; have b6 := b4; have a8 := b7; have a3 := d0; have a4 := d6; have HB := d9; have e5 := e1; clear a9 b0 b4 b7 d0 d6 d9 e1; clear ho hb hg hat; have K3 : w60.cell? ⟨a5, 0, none⟩ = some (.int .i64 ((rd_T51 l0_2 a0).f0)) := (blk_cell a4.out 0).trans rfl; have K9 : w60.cell? ⟨a5, 1, none⟩ = some (.int .i64 ((rd_T51 l0_2 a0).f1)) := (blk_cell a4.out 1).trans rfl; have G8 : w60.cell? ⟨a5, 2, none⟩ = some (.int .i64 ((rd_T51 l0_2 a0).f2)) := (blk_cell a4.out 2).trans rfl; have G9 := blk_frozen a4.out 0; have K7 := blk_frozen a4.out 1; have L5 := blk_frozen a4.out 2; have F0 : w60.cell? ⟨a6, 0, none⟩ = some (.int .i64 a0_0) := (blk_cell a3.out 0).trans rfl; have E7 : w60.cell? ⟨a6, 1, none⟩ = some (.slice A0_1 l0_1.length c0_1) := (blk_cell a3.out 1).trans rfl; have E4 : w60.cell? ⟨a6, 2, none⟩ = some (.slice (some e8) l0_2.length c0_2) := (blk_cell a3.out 2).trans rfl; have F9 := blk_frozen a3.out 0; have M5 := blk_frozen a3.out 1; have I2 := blk_frozen a3.out 2) | (go_at_call 32; (with_reducible refine (Pr26c.calls d2 a0_0 _ _ l0_1 _ _ l0_2 ((rd_T51 l0_2 a0).f0) ((rd_T51 l0_2 a0).f1) h8 _ ?f3 ?e9 ?f4 ?e7 M6.out).mono ?_); (case f3 => repeat (first | exact (Kd.C_below f7.out HB.out) | (with_reducible refine Kd.C_alloc ?_ _) | (with_reducible refine Kd.C_drewN ?_ _) | (with_reducible refine Kd.C_drew ?_))); (case e9 => exact f9.out); (case f4 => repeat (first | exact (Kd.C_below f5.out HB.out) | (with_reducible refine Kd.C_alloc ?_ _) | (with_reducible refine Kd.C_drewN ?_ _) | (with_reducible refine Kd.C_drew ?_))); (case e7 => exact f8.out); rintro e w63 ⟨S9, rfl, e2, hb⟩; have a9 := Aside0.mk (Kd.R_elder' (by (with_reducible repeat (first | apply Kd.R_alloc | apply Kd.R_drewN | apply Kd.R_drew)); exact b2.out) (Kd.R_base e2) hb); have b0 := Aside0.mk (Kd.R_elder' (by (with_reducible repeat (first | apply Kd.R_alloc | apply Kd.R_drewN | apply Kd.R_drew)); exact b3.out) (Kd.R_base e2) hb); have b4 := Aside0.mk (Kd.R_below (by (with_reducible repeat (first | apply Kd.R_alloc | apply Kd.R_drewN | apply Kd.R_drew)); exact b6.out) hb); have b7 := Aside0.mk (Kd.R_below (by (with_reducible repeat (first | apply Kd.R_alloc | apply Kd.R_drewN | apply Kd.R_drew)); exact a8.out) hb); have d0 := Aside0.mk (Kd.R_elder' (by (with_reducible repeat (first | apply Kd.R_alloc | apply Kd.R_drewN | apply Kd.R_drew)); exact e5.out) (Kd.R_base e2) hb); have d6 := Aside0.mk (Kd.R_lower (Kd.R_new' (Kd.R_new' (Kd.R_new' e2 (Kd.R_lt (by (with_reducible repeat (first | apply Kd.R_alloc | apply Kd.R_drewN | apply Kd.R_drew)); exact b2.out))) (Kd.R_lt (by (with_reducible repeat (first | apply Kd.R_alloc | apply Kd.R_drewN | apply Kd.R_drew)); exact b3.out))) (Kd.R_lt (by (with_reducible repeat (first | apply Kd.R_alloc | apply Kd.R_drewN | apply Kd.R_drew)); exact e5.out))) (below_size (by repeat (first | (with_reducible first | exact HB.out | apply below_alloc | apply pw_below_drewN | apply below_drew1 | refine below_set ?_ a7.out | refine below_set ?_ d5.out) | exact HB.out)))); have d9 := Aside0.mk (blk_below (g := a6) (o := .cells #[.int .i64 a0_0, .slice A0_1 l0_1.length c0_1, .slice (some e8) l0_2.length c0_2] 25 (0, 0)) (by (with_reducible repeat (first | refine blk_drewN ?_ _ | refine blk_drew ?_ | refine blk_alloc ?_ _)); exact a3.out) hb); have e1 := Aside0.mk (blk_below (g := a5) (o := .cells #[.int .i64 ((rd_T51 l0_2 a0).f0), .int .i64 ((rd_T51 l0_2 a0).f1), .int .i64 ((rd_T51 l0_2 a0).f2)] 51 (0, 0)) (by (with_reducible repeat (first | refine blk_drewN ?_ _ | refine blk_drew ?_ | refine blk_alloc ?_ _)); exact a4.out) hb); have h5 := Aside0.mk (below_step (by repeat (first | (with_reducible first | exact HB.out | apply below_alloc | apply pw_below_drewN | apply below_drew1 | refine below_set ?_ a7.out | refine below_set ?_ d5.out) | exact HB.out)) hb); clear b2; clear b3; clear b6; clear a8; clear e5; clear a3; clear a4; clear HB; have b2 := a9; have b3 := b0; have b6 := b4; have a8 := b7; have e5 := d0; have u7 := d6; have a3 := d9; have a4 := e1; have HB := h5; clear a9 b0 b4 b7 d0 d6 d9 e1 h5; (try clear hb); (try clear hb2); (try clear hk); (try clear hi); (try clear e2); obtain ⟨T6, S2, B5⟩ := Kd.R_slice u7.out; subst B5))
             go_roundg d2
             case measure => have := h0.out; have := g4.out; omega
             case rel => exact ⟨(g1), (d3), (((h8.length : Int) == 1)), (d1 (a0 + 1)), (by first | rfl | (simp; done) | (simp [*]; done)), (by first | rfl | (simp; done) | (simp [*]; done)), H', ⟨by have := h0.out; have := g4.out; omega⟩, ⟨by (with_reducible repeat (first | apply Kd.R_alloc | apply Kd.R_drewN | apply Kd.R_drew)); exact Kd.R_mono b2.out (fun _ hk => ⟨hk.1.1, hk.1.2⟩)⟩, ⟨by (with_reducible repeat (first | apply Kd.R_alloc | apply Kd.R_drewN | apply Kd.R_drew)); exact Kd.R_mono b3.out (fun _ hk => ⟨hk.1.1, hk.1.2⟩)⟩, ⟨by (with_reducible repeat (first | apply Kd.R_alloc | apply Kd.R_drewN | apply Kd.R_drew)); exact Kd.R_mono b6.out (fun _ hk => hk.1)⟩, ⟨by (with_reducible repeat (first | apply Kd.R_alloc | apply Kd.R_drewN | apply Kd.R_drew)); exact Kd.R_mono e5.out (fun _ hk => ⟨hk.1.1, hk.1.2⟩)⟩, ⟨by (with_reducible repeat (first | apply Kd.R_alloc | apply Kd.R_drewN | apply Kd.R_drew)); exact Kd.R_mono a8.out (fun _ hk => hk.1)⟩, ⟨by (with_reducible repeat (first | refine blk_drewN ?_ _ | refine blk_drew ?_ | refine blk_alloc ?_ _)); exact a3.out⟩, ⟨by repeat (first | (with_reducible first | exact HB.out | apply below_alloc | apply pw_below_drewN | apply below_drew1 | refine below_set ?_ a7.out | refine below_set ?_ d5.out) | exact HB.out)⟩⟩
            ·replace p3 := Bool.eq_false_iff.mpr p3
             subst p3
             have H1 : (Pl26a.l0 d2 a1 a2 b9 b8 b5 g1 d3 false (d1 (a0 + 1)) a0_0 l0_1 l0_2) = some r := by rw [if_neg (show ¬ (false = true) by decide)] at H; exact H
             clear H
             have H := H1
             clear H1
             have H' := Aside0.mk H
             clear H
             have P9 := e6.out
             have P6 := e0.out
             have D1 : wc.cell? ⟨a5, 0, none⟩ = some (.int .i64 ((rd_T51 l0_2 a0).f0)) := (blk_cell a4.out 0).trans rfl
             have H4 : wc.cell? ⟨a5, 1, none⟩ = some (.int .i64 ((rd_T51 l0_2 a0).f1)) := (blk_cell a4.out 1).trans rfl
             have B9 : wc.cell? ⟨a5, 2, none⟩ = some (.int .i64 ((rd_T51 l0_2 a0).f2)) := (blk_cell a4.out 2).trans rfl
             have E0 := blk_frozen a4.out 0
             have I9 := blk_frozen a4.out 1
             have C8 := blk_frozen a4.out 2
             go_wp2_with (first | ((with_reducible refine gate_builtin (b := .append) (xs := #[.tmp 78, .tmp 81]) rfl ?_); (try (refine gate_guard (by rfl) ?_; dsimp only)); at_builtin; refine Kd.R_append (Kd.int .i64) (w0 := w) w.heap.size rfl (.tmp 78) (.tmp 81) 47 3 (.int .i64 0) 8 rfl Try.underlying47 info3 rfl (by decide) (by omega) l3 d7 ((rd_T51 l0_2 a0).f0) [.int .i64 ((rd_T51 l0_2 a0).f0)] (fun k_ => some k_ ≠ (g7 : Value).ownBlock ∧ some k_ ≠ (g6 : Value).ownBlock) (fun _ => False) rfl rfl ?aP (fun _ hk => hk.elim) ?aF ?aO ?aB ?aS ?aL ?_; (case aP => exact rfl); (case aB => exact (by repeat (first | (with_reducible first | exact HB.out | apply below_alloc | apply pw_below_drewN | apply below_drew1 | refine below_set ?_ a7.out | refine below_set ?_ d5.out) | exact HB.out))); (case aF => exact (fun k_ hk => ⟨Kd.fresh' (Kd.R_lt (by (with_reducible repeat (first | apply Kd.R_alloc | apply Kd.R_drewN | apply Kd.R_drew)); exact b2.out)) k_ hk, Kd.fresh' (Kd.R_lt (by (with_reducible repeat (first | apply Kd.R_alloc | apply Kd.R_drewN | apply Kd.R_drew)); exact b3.out)) k_ hk⟩)); (case aO => exact (by (with_reducible repeat (first | apply Kd.R_alloc | apply Kd.R_drewN | apply Kd.R_drew)); exact b1.out)); (case aS => exact (below_size (by repeat (first | (with_reducible first | exact HB.out | apply below_alloc | apply pw_below_drewN | apply below_drew1 | refine below_set ?_ a7.out | refine below_set ?_ d5.out) | exact HB.out)))); (case aL => have := k2.out; omega); intro n3 w67 ho hb hg hat; rw [← k0.out] at ho; have a9 := Aside0.mk (Kd.R_after (ok := (fun k_ => some k_ ≠ (g6 : Value).ownBlock)) (by (with_reducible repeat (first | apply Kd.R_alloc | apply Kd.R_drewN | apply Kd.R_drew)); exact b2.out) hg hat); have b0 := Aside0.mk (Kd.R_after (ok := (fun k_ => some k_ ≠ (g7 : Value).ownBlock)) (by (with_reducible repeat (first | apply Kd.R_alloc | apply Kd.R_drewN | apply Kd.R_drew)); exact b3.out) hg hat); have b4 := Aside0.mk (Kd.R_over' (by (with_reducible repeat (first | apply Kd.R_alloc | apply Kd.R_drewN | apply Kd.R_drew)); exact b6.out) (Kd.R_typed (by (with_reducible repeat (first | apply Kd.R_alloc | apply Kd.R_drewN | apply Kd.R_drew)); exact b1.out)) (by decide) hg); have b7 := Aside0.mk (Kd.R_over' (by (with_reducible repeat (first | apply Kd.R_alloc | apply Kd.R_drewN | apply Kd.R_drew)); exact a8.out) (Kd.R_typed (by (with_reducible repeat (first | apply Kd.R_alloc | apply Kd.R_drewN | apply Kd.R_drew)); exact b1.out)) (by decide) hg); have d0 := Aside0.mk (blk_grown (g := a6) (o := .cells #[.int .i64 a0_0, .slice A0_1 l0_1.length c0_1, .slice (some e8) l0_2.length c0_2] 25 (0, 0)) (by (with_reducible repeat (first | refine blk_drewN ?_ _ | refine blk_drew ?_ | refine blk_alloc ?_ _)); exact a3.out) hg (Kd.R_ne b1.out a3.out (by decide))); have d6 := Aside0.mk (blk_grown (g := a5) (o := .cells #[.int .i64 ((rd_T51 l0_2 a0).f0), .int .i64 ((rd_T51 l0_2 a0).f1), .int .i64 ((rd_T51 l0_2 a0).f2)] 51 (0, 0)) (by (with_reducible repeat (first | refine blk_drewN ?_ _ | refine blk_drew ?_ | refine blk_alloc ?_ _)); exact a4.out) hg (Kd.R_ne b1.out a4.out (by decide))); have d9 := Aside0.mk (hb); have e1 := Aside0.mk (ho); clear b2; clear b3; clear b6; clear a8; clear a3; clear a4; clear HB; clear b1; have b2 := a9; have b3 := b0; have b6 := b4; have a8 := b7; have a3 := d0; have a4 := d6; have HB := d9; have e5 := e1; clear a9 b0 b4 b7 d0 d6 d9 e1; clear ho hb hg hat; have I6 : w67.cell? ⟨a5, 0, none⟩ = some (.int .i64 ((rd_T51 l0_2 a0).f0)) := (blk_cell a4.out 0).trans rfl; have L4 : w67.cell? ⟨a5, 1, none⟩ = some (.int .i64 ((rd_T51 l0_2 a0).f1)) := (blk_cell a4.out 1).trans rfl; have G3 : w67.cell? ⟨a5, 2, none⟩ = some (.int .i64 ((rd_T51 l0_2 a0).f2)) := (blk_cell a4.out 2).trans rfl; have H8 := blk_frozen a4.out 0; have L1 := blk_frozen a4.out 1; have L9 := blk_frozen a4.out 2))
             go_roundg d2
             case measure => have := h0.out; have := g4.out; omega
             case rel => exact ⟨(g1), (d3), (false), (d1 (a0 + 1)), (by first | rfl | (simp; done) | (simp [*]; done)), (by first | rfl | (simp; done) | (simp [*]; done)), H', ⟨by have := h0.out; have := g4.out; omega⟩, ⟨by (with_reducible repeat (first | apply Kd.R_alloc | apply Kd.R_drewN | apply Kd.R_drew)); exact b2.out⟩, ⟨by (with_reducible repeat (first | apply Kd.R_alloc | apply Kd.R_drewN | apply Kd.R_drew)); exact b3.out⟩, ⟨by (with_reducible repeat (first | apply Kd.R_alloc | apply Kd.R_drewN | apply Kd.R_drew)); exact Kd.R_mono b6.out (fun _ hk => hk.1)⟩, ⟨by (with_reducible repeat (first | apply Kd.R_alloc | apply Kd.R_drewN | apply Kd.R_drew)); exact e5.out⟩, ⟨by (with_reducible repeat (first | apply Kd.R_alloc | apply Kd.R_drewN | apply Kd.R_drew)); exact Kd.R_mono a8.out (fun _ hk => hk.1)⟩, ⟨by (with_reducible repeat (first | refine blk_drewN ?_ _ | refine blk_drew ?_ | refine blk_alloc ?_ _)); exact a3.out⟩, ⟨by repeat (first | (with_reducible first | exact HB.out | apply below_alloc | apply pw_below_drewN | apply below_drew1 | refine below_set ?_ a7.out | refine below_set ?_ d5.out) | exact HB.out)⟩⟩
          ·rw [if_neg o3] at H
           exact absurd H (by simp)
         ·replace o1 := Bool.eq_false_iff.mpr o1
          subst o1
          have H1 : (if ((rd_T51 l0_2 a0).f0) = a1 then (if d3.length < 5864062014805 then ((some (d3 ++ [(⟨((rd_T51 l0_2 a0).f0), ((rd_T51 l0_2 a0).f1), ((rd_T51 l0_2 a0).f2)⟩ : S51)] : List (S51))).bind fun h6 => (if d8 = true then ((Pr26c.f d2 a0_0 l0_1 l0_2 ((rd_T51 l0_2 a0).f0) ((rd_T51 l0_2 a0).f1)).bind fun h9 => (Pl26a.l0 d2 a1 a2 b9 b8 b5 d7 h6 ((h9.length : Int) == 1) (d1 (a0 + 1)) a0_0 l0_1 l0_2)) else (Pl26a.l0 d2 a1 a2 b9 b8 b5 d7 h6 false (d1 (a0 + 1)) a0_0 l0_1 l0_2))) else (none)) else (if d8 = true then ((Pr26c.f d2 a0_0 l0_1 l0_2 ((rd_T51 l0_2 a0).f0) ((rd_T51 l0_2 a0).f1)).bind fun j2 => (Pl26a.l0 d2 a1 a2 b9 b8 b5 d7 d3 ((j2.length : Int) == 1) (d1 (a0 + 1)) a0_0 l0_1 l0_2)) else (Pl26a.l0 d2 a1 a2 b9 b8 b5 d7 d3 false (d1 (a0 + 1)) a0_0 l0_1 l0_2))) = some r := by rw [if_neg (show ¬ (false = true) by decide)] at H; exact H
          clear H
          have H := H1
          clear H1
          by_cases k6 : ((rd_T51 l0_2 a0).f0) = a1
          ·rw [if_pos k6] at H
           have c69b0 : (((rd_T51 l0_2 a0).f0) == a1) = true := beq_iff_eq.mpr k6
           have c69b1 : (((rd_T51 l0_2 a0).f0) != a1) = false := bne_eq_false_iff_eq.mpr k6
           clear k6
           by_cases o4 : d3.length < 5864062014805
           ·rw [if_pos o4] at H
            have o7 := Aside0.mk o4
            clear o4
            obtain ⟨h6, j6⟩ : ∃ y_ : List (S51), y_ = (d3 ++ [(⟨((rd_T51 l0_2 a0).f0), ((rd_T51 l0_2 a0).f1), ((rd_T51 l0_2 a0).f2)⟩ : S51)]) := ⟨_, rfl⟩
            replace H : (if d8 = true then ((Pr26c.f d2 a0_0 l0_1 l0_2 ((rd_T51 l0_2 a0).f0) ((rd_T51 l0_2 a0).f1)).bind fun h9 => (Pl26a.l0 d2 a1 a2 b9 b8 b5 d7 h6 ((h9.length : Int) == 1) (d1 (a0 + 1)) a0_0 l0_1 l0_2)) else (Pl26a.l0 d2 a1 a2 b9 b8 b5 d7 h6 false (d1 (a0 + 1)) a0_0 l0_1 l0_2)) = some r := by first | (rw [j6]; with_reducible exact H) | (have g9 := (Option.bind_some _ _).symm.trans H; rw [j6]; with_reducible exact g9) | (have g9 := (Option.bind_some _ _).symm.trans H; with_reducible exact g9) | with_reducible exact H | (rw [j6]; exact H) | exact H
            have n8 := Aside0.mk j6
            clear j6
            by_cases o5 : d8 = true
            ·subst o5
             have H1 : ((Pr26c.f d2 a0_0 l0_1 l0_2 ((rd_T51 l0_2 a0).f0) ((rd_T51 l0_2 a0).f1)).bind fun h9 => (Pl26a.l0 d2 a1 a2 b9 b8 b5 d7 h6 ((h9.length : Int) == 1) (d1 (a0 + 1)) a0_0 l0_1 l0_2)) = some r := by rw [if_pos rfl] at H; exact H
             clear H
             have H := H1
             clear H1
             replace H := Option.bind_eq_some_iff.mp H
             obtain ⟨h9, t0, H⟩ := H
             replace H : (Pl26a.l0 d2 a1 a2 b9 b8 b5 d7 h6 ((h9.length : Int) == 1) (d1 (a0 + 1)) a0_0 l0_1 l0_2) = some r := H
             have N1 := Aside0.mk t0
             clear t0
             have H' := Aside0.mk H
             clear H
             have Q1 := e6.out
             have O0 := e0.out
             have J8 : wc.cell? ⟨a5, 0, none⟩ = some (.int .i64 ((rd_T51 l0_2 a0).f0)) := (blk_cell a4.out 0).trans rfl
             have G0 : wc.cell? ⟨a5, 1, none⟩ = some (.int .i64 ((rd_T51 l0_2 a0).f1)) := (blk_cell a4.out 1).trans rfl
             have J1 : wc.cell? ⟨a5, 2, none⟩ = some (.int .i64 ((rd_T51 l0_2 a0).f2)) := (blk_cell a4.out 2).trans rfl
             have J6 := blk_frozen a4.out 0
             have H5 := blk_frozen a4.out 1
             have D7 := blk_frozen a4.out 2
             go_wp2_with (first | ((with_reducible refine gate_builtin (b := .append) (xs := #[.tmp 87, .tmp 89]) rfl ?_); (try (refine gate_guard (by rfl) ?_; dsimp only)); at_builtin; refine Kd.R_append k51 (w0 := w) w.heap.size rfl (.tmp 87) (.tmp 89) 23 51 (.agg #[(.int .i64 0), (.int .i64 0), (.int .i64 0)]) 24 rfl Try.underlying23 info51 rfl (by decide) (by omega) m9 d3 (⟨((rd_T51 l0_2 a0).f0), ((rd_T51 l0_2 a0).f1), ((rd_T51 l0_2 a0).f2)⟩ : S51) [.int .i64 ((rd_T51 l0_2 a0).f0), .int .i64 ((rd_T51 l0_2 a0).f1), .int .i64 ((rd_T51 l0_2 a0).f2)] (fun k_ => some k_ ≠ (h7 : Value).ownBlock ∧ k_ ≠ a5) (fun _ => False) rfl rfl ?aP (fun _ hk => hk.elim) ?aF ?aO ?aB ?aS ?aL ?_; (case aP => exact k51_mkM _ _ _ (⟨((rd_T51 l0_2 a0).f0), ((rd_T51 l0_2 a0).f1), ((rd_T51 l0_2 a0).f2)⟩ : S51)); (case aB => exact (by repeat (first | (with_reducible first | exact HB.out | apply below_alloc | apply pw_below_drewN | apply below_drew1 | refine below_set ?_ a7.out | refine below_set ?_ d5.out) | exact HB.out))); (case aF => exact (fun k_ hk => ⟨Kd.fresh' (Kd.R_lt (by (with_reducible repeat (first | apply Kd.R_alloc | apply Kd.R_drewN | apply Kd.R_drew)); exact b6.out)) k_ hk, Kd.freshB (g := a5) (o := .cells #[.int .i64 ((rd_T51 l0_2 a0).f0), .int .i64 ((rd_T51 l0_2 a0).f1), .int .i64 ((rd_T51 l0_2 a0).f2)] 51 (0, 0)) (by (with_reducible repeat (first | refine blk_drewN ?_ _ | refine blk_drew ?_ | refine blk_alloc ?_ _)); exact a4.out) k_ hk⟩)); (case aO => exact (by (with_reducible repeat (first | apply Kd.R_alloc | apply Kd.R_drewN | apply Kd.R_drew)); exact a8.out)); (case aS => exact (below_size (by repeat (first | (with_reducible first | exact HB.out | apply below_alloc | apply pw_below_drewN | apply below_drew1 | refine below_set ?_ a7.out | refine below_set ?_ d5.out) | exact HB.out)))); (case aL => have := o7.out; omega); intro y8 w75 ho hb hg hat; rw [← n8.out] at ho; have a9 := Aside0.mk (Kd.R_over' (by (with_reducible repeat (first | apply Kd.R_alloc | apply Kd.R_drewN | apply Kd.R_drew)); exact b2.out) (Kd.R_typed (by (with_reducible repeat (first | apply Kd.R_alloc | apply Kd.R_drewN | apply Kd.R_drew)); exact a8.out)) (by decide) hg); have b0 := Aside0.mk (Kd.R_over' (by (with_reducible repeat (first | apply Kd.R_alloc | apply Kd.R_drewN | apply Kd.R_drew)); exact b3.out) (Kd.R_typed (by (with_reducible repeat (first | apply Kd.R_alloc | apply Kd.R_drewN | apply Kd.R_drew)); exact a8.out)) (by decide) hg); have b4 := Aside0.mk (Kd.R_after (ok := (fun k_ => k_ ≠ a5)) (by (with_reducible repeat (first | apply Kd.R_alloc | apply Kd.R_drewN | apply Kd.R_drew)); exact Kd.R_mono b6.out (fun _ hk => ⟨hk.2, hk.1⟩)) hg hat); have b7 := Aside0.mk (Kd.R_over' (by (with_reducible repeat (first | apply Kd.R_alloc | apply Kd.R_drewN | apply Kd.R_drew)); exact b1.out) (Kd.R_typed (by (with_reducible repeat (first | apply Kd.R_alloc | apply Kd.R_drewN | apply Kd.R_drew)); exact a8.out)) (by decide) hg); have d0 := Aside0.mk (blk_grown (g := a6) (o := .cells #[.int .i64 a0_0, .slice A0_1 l0_1.length c0_1, .slice (some e8) l0_2.length c0_2] 25 (0, 0)) (by (with_reducible repeat (first | refine blk_drewN ?_ _ | refine blk_drew ?_ | refine blk_alloc ?_ _)); exact a3.out) hg (Kd.R_ne a8.out a3.out (by decide))); have d6 := Aside0.mk (blk_grown (g := a5) (o := .cells #[.int .i64 ((rd_T51 l0_2 a0).f0), .int .i64 ((rd_T51 l0_2 a0).f1), .int .i64 ((rd_T51 l0_2 a0).f2)] 51 (0, 0)) (by (with_reducible repeat (first | refine blk_drewN ?_ _ | refine blk_drew ?_ | refine blk_alloc ?_ _)); exact a4.out) hg (Kd.R_away a8.out (fun _ hk => hk.2))); have d9 := Aside0.mk (hb); have e1 := Aside0.mk (ho); clear b2; clear b3; clear b6; clear b1; clear a3; clear a4; clear HB; clear a8; have b2 := a9; have b3 := b0; have b6 := b4; have b1 := b7; have a3 := d0; have a4 := d6; have HB := d9; have i7 := e1; clear a9 b0 b4 b7 d0 d6 d9 e1; clear ho hb hg hat; have J9 : w75.cell? ⟨a6, 0, none⟩ = some (.int .i64 a0_0) := (blk_cell a3.out 0).trans rfl; have M2 : w75.cell? ⟨a6, 1, none⟩ = some (.slice A0_1 l0_1.length c0_1) := (blk_cell a3.out 1).trans rfl; have K2 : w75.cell? ⟨a6, 2, none⟩ = some (.slice (some e8) l0_2.length c0_2) := (blk_cell a3.out 2).trans rfl; have J5 := blk_frozen a3.out 0; have H0 := blk_frozen a3.out 1; have E5 := blk_frozen a3.out 2; have F3 : w75.cell? ⟨a5, 0, none⟩ = some (.int .i64 ((rd_T51 l0_2 a0).f0)) := (blk_cell a4.out 0).trans rfl; have C7 : w75.cell? ⟨a5, 1, none⟩ = some (.int .i64 ((rd_T51 l0_2 a0).f1)) := (blk_cell a4.out 1).trans rfl; have D2 : w75.cell? ⟨a5, 2, none⟩ = some (.int .i64 ((rd_T51 l0_2 a0).f2)) := (blk_cell a4.out 2).trans rfl; have I1 := blk_frozen a4.out 0; have E8 := blk_frozen a4.out 1; have L0 := blk_frozen a4.out 2) | (go_at_call 32; (with_reducible refine (Pr26c.calls d2 a0_0 _ _ l0_1 _ _ l0_2 ((rd_T51 l0_2 a0).f0) ((rd_T51 l0_2 a0).f1) h9 _ ?f3 ?e9 ?f4 ?e7 N1.out).mono ?_); (case f3 => repeat (first | exact (Kd.C_below f7.out HB.out) | (with_reducible refine Kd.C_alloc ?_ _) | (with_reducible refine Kd.C_drewN ?_ _) | (with_reducible refine Kd.C_drew ?_))); (case e9 => exact f9.out); (case f4 => repeat (first | exact (Kd.C_below f5.out HB.out) | (with_reducible refine Kd.C_alloc ?_ _) | (with_reducible refine Kd.C_drewN ?_ _) | (with_reducible refine Kd.C_drew ?_))); (case e7 => exact f8.out); rintro e w78 ⟨T1, rfl, e2, hb⟩; have a9 := Aside0.mk (Kd.R_elder' (by (with_reducible repeat (first | apply Kd.R_alloc | apply Kd.R_drewN | apply Kd.R_drew)); exact b2.out) (Kd.R_base e2) hb); have b0 := Aside0.mk (Kd.R_elder' (by (with_reducible repeat (first | apply Kd.R_alloc | apply Kd.R_drewN | apply Kd.R_drew)); exact b3.out) (Kd.R_base e2) hb); have b4 := Aside0.mk (Kd.R_below (by (with_reducible repeat (first | apply Kd.R_alloc | apply Kd.R_drewN | apply Kd.R_drew)); exact b6.out) hb); have b7 := Aside0.mk (Kd.R_elder' (by (with_reducible repeat (first | apply Kd.R_alloc | apply Kd.R_drewN | apply Kd.R_drew)); exact b1.out) (Kd.R_base e2) hb); have d0 := Aside0.mk (Kd.R_below (by (with_reducible repeat (first | apply Kd.R_alloc | apply Kd.R_drewN | apply Kd.R_drew)); exact i7.out) hb); have d6 := Aside0.mk (Kd.R_lower (Kd.R_new' (Kd.R_new' (Kd.R_new' e2 (Kd.R_lt (by (with_reducible repeat (first | apply Kd.R_alloc | apply Kd.R_drewN | apply Kd.R_drew)); exact b2.out))) (Kd.R_lt (by (with_reducible repeat (first | apply Kd.R_alloc | apply Kd.R_drewN | apply Kd.R_drew)); exact b3.out))) (Kd.R_lt (by (with_reducible repeat (first | apply Kd.R_alloc | apply Kd.R_drewN | apply Kd.R_drew)); exact b1.out))) (below_size (by repeat (first | (with_reducible first | exact HB.out | apply below_alloc | apply pw_below_drewN | apply below_drew1 | refine below_set ?_ a7.out | refine below_set ?_ d5.out) | exact HB.out)))); have d9 := Aside0.mk (blk_below (g := a6) (o := .cells #[.int .i64 a0_0, .slice A0_1 l0_1.length c0_1, .slice (some e8) l0_2.length c0_2] 25 (0, 0)) (by (with_reducible repeat (first | refine blk_drewN ?_ _ | refine blk_drew ?_ | refine blk_alloc ?_ _)); exact a3.out) hb); have e1 := Aside0.mk (blk_below (g := a5) (o := .cells #[.int .i64 ((rd_T51 l0_2 a0).f0), .int .i64 ((rd_T51 l0_2 a0).f1), .int .i64 ((rd_T51 l0_2 a0).f2)] 51 (0, 0)) (by (with_reducible repeat (first | refine blk_drewN ?_ _ | refine blk_drew ?_ | refine blk_alloc ?_ _)); exact a4.out) hb); have h5 := Aside0.mk (below_step (by repeat (first | (with_reducible first | exact HB.out | apply below_alloc | apply pw_below_drewN | apply below_drew1 | refine below_set ?_ a7.out | refine below_set ?_ d5.out) | exact HB.out)) hb); clear b2; clear b3; clear b6; clear b1; clear i7; clear a3; clear a4; clear HB; have b2 := a9; have b3 := b0; have b6 := b4; have b1 := b7; have i7 := d0; have u8 := d6; have a3 := d9; have a4 := e1; have HB := h5; clear a9 b0 b4 b7 d0 d6 d9 e1 h5; (try clear hb); (try clear hb2); (try clear hk); (try clear hi); (try clear e2); obtain ⟨S4, S5, z8⟩ := Kd.R_slice u8.out; subst z8))
             go_roundg d2
             case measure => have := h0.out; have := g4.out; omega
             case rel => exact ⟨(d7), (h6), (((h9.length : Int) == 1)), (d1 (a0 + 1)), (by first | rfl | (simp; done) | (simp [*]; done)), (by first | rfl | (simp; done) | (simp [*]; done)), H', ⟨by have := h0.out; have := g4.out; omega⟩, ⟨by (with_reducible repeat (first | apply Kd.R_alloc | apply Kd.R_drewN | apply Kd.R_drew)); exact Kd.R_mono b2.out (fun _ hk => ⟨hk.1.1, hk.1.2⟩)⟩, ⟨by (with_reducible repeat (first | apply Kd.R_alloc | apply Kd.R_drewN | apply Kd.R_drew)); exact Kd.R_mono b3.out (fun _ hk => ⟨hk.1.1, hk.1.2⟩)⟩, ⟨by (with_reducible repeat (first | apply Kd.R_alloc | apply Kd.R_drewN | apply Kd.R_drew)); exact Kd.R_mono b6.out (fun _ hk => hk.2)⟩, ⟨by (with_reducible repeat (first | apply Kd.R_alloc | apply Kd.R_drewN | apply Kd.R_drew)); exact Kd.R_mono b1.out (fun _ hk => ⟨hk.1.1, hk.1.2⟩)⟩, ⟨by (with_reducible repeat (first | apply Kd.R_alloc | apply Kd.R_drewN | apply Kd.R_drew)); exact Kd.R_mono i7.out (fun _ hk => hk.1)⟩, ⟨by (with_reducible repeat (first | refine blk_drewN ?_ _ | refine blk_drew ?_ | refine blk_alloc ?_ _)); exact a3.out⟩, ⟨by repeat (first | (with_reducible first | exact HB.out | apply below_alloc | apply pw_below_drewN | apply below_drew1 | refine below_set ?_ a7.out | refine below_set ?_ d5.out) | exact HB.out)⟩⟩
            ·replace o5 := Bool.eq_false_iff.mpr o5
             subst o5
             have H1 : (Pl26a.l0 d2 a1 a2 b9 b8 b5 d7 h6 false (d1 (a0 + 1)) a0_0 l0_1 l0_2) = some r := by rw [if_neg (show ¬ (false = true) by decide)] at H; exact H
             clear H
             have H := H1
             clear H1
             have H' := Aside0.mk H
             clear H
             have R2 := e6.out
             have O4 := e0.out
             have H3 : wc.cell? ⟨a5, 0, none⟩ = some (.int .i64 ((rd_T51 l0_2 a0).f0)) := (blk_cell a4.out 0).trans rfl
             have H2 : wc.cell? ⟨a5, 1, none⟩ = some (.int .i64 ((rd_T51 l0_2 a0).f1)) := (blk_cell a4.out 1).trans rfl
             have D3 : wc.cell? ⟨a5, 2, none⟩ = some (.int .i64 ((rd_T51 l0_2 a0).f2)) := (blk_cell a4.out 2).trans rfl
             have J2 := blk_frozen a4.out 0
             have C2 := blk_frozen a4.out 1
             have M3 := blk_frozen a4.out 2
             go_wp2_with (first | ((with_reducible refine gate_builtin (b := .append) (xs := #[.tmp 87, .tmp 89]) rfl ?_); (try (refine gate_guard (by rfl) ?_; dsimp only)); at_builtin; refine Kd.R_append k51 (w0 := w) w.heap.size rfl (.tmp 87) (.tmp 89) 23 51 (.agg #[(.int .i64 0), (.int .i64 0), (.int .i64 0)]) 24 rfl Try.underlying23 info51 rfl (by decide) (by omega) m9 d3 (⟨((rd_T51 l0_2 a0).f0), ((rd_T51 l0_2 a0).f1), ((rd_T51 l0_2 a0).f2)⟩ : S51) [.int .i64 ((rd_T51 l0_2 a0).f0), .int .i64 ((rd_T51 l0_2 a0).f1), .int .i64 ((rd_T51 l0_2 a0).f2)] (fun k_ => some k_ ≠ (h7 : Value).ownBlock ∧ k_ ≠ a5) (fun _ => False) rfl rfl ?aP (fun _ hk => hk.elim) ?aF ?aO ?aB ?aS ?aL ?_; (case aP => exact k51_mkM _ _ _ (⟨((rd_T51 l0_2 a0).f0), ((rd_T51 l0_2 a0).f1), ((rd_T51 l0_2 a0).f2)⟩ : S51)); (case aB => exact (by repeat (first | (with_reducible first | exact HB.out | apply below_alloc | apply pw_below_drewN | apply below_drew1 | refine below_set ?_ a7.out | refine below_set ?_ d5.out) | exact HB.out))); (case aF => exact (fun k_ hk => ⟨Kd.fresh' (Kd.R_lt (by (with_reducible repeat (first | apply Kd.R_alloc | apply Kd.R_drewN | apply Kd.R_drew)); exact b6.out)) k_ hk, Kd.freshB (g := a5) (o := .cells #[.int .i64 ((rd_T51 l0_2 a0).f0), .int .i64 ((rd_T51 l0_2 a0).f1), .int .i64 ((rd_T51 l0_2 a0).f2)] 51 (0, 0)) (by (with_reducible repeat (first | refine blk_drewN ?_ _ | refine blk_drew ?_ | refine blk_alloc ?_ _)); exact a4.out) k_ hk⟩)); (case aO => exact (by (with_reducible repeat (first | apply Kd.R_alloc | apply Kd.R_drewN | apply Kd.R_drew)); exact a8.out)); (case aS => exact (below_size (by repeat (first | (with_reducible first | exact HB.out | apply below_alloc | apply pw_below_drewN | apply below_drew1 | refine below_set ?_ a7.out | refine below_set ?_ d5.out) | exact HB.out)))); (case aL => have := o7.out; omega); intro y8 w82 ho hb hg hat; rw [← n8.out] at ho; have a9 := Aside0.mk (Kd.R_over' (by (with_reducible repeat (first | apply Kd.R_alloc | apply Kd.R_drewN | apply Kd.R_drew)); exact b2.out) (Kd.R_typed (by (with_reducible repeat (first | apply Kd.R_alloc | apply Kd.R_drewN | apply Kd.R_drew)); exact a8.out)) (by decide) hg); have b0 := Aside0.mk (Kd.R_over' (by (with_reducible repeat (first | apply Kd.R_alloc | apply Kd.R_drewN | apply Kd.R_drew)); exact b3.out) (Kd.R_typed (by (with_reducible repeat (first | apply Kd.R_alloc | apply Kd.R_drewN | apply Kd.R_drew)); exact a8.out)) (by decide) hg); have b4 := Aside0.mk (Kd.R_after (ok := (fun k_ => k_ ≠ a5)) (by (with_reducible repeat (first | apply Kd.R_alloc | apply Kd.R_drewN | apply Kd.R_drew)); exact Kd.R_mono b6.out (fun _ hk => ⟨hk.2, hk.1⟩)) hg hat); have b7 := Aside0.mk (Kd.R_over' (by (with_reducible repeat (first | apply Kd.R_alloc | apply Kd.R_drewN | apply Kd.R_drew)); exact b1.out) (Kd.R_typed (by (with_reducible repeat (first | apply Kd.R_alloc | apply Kd.R_drewN | apply Kd.R_drew)); exact a8.out)) (by decide) hg); have d0 := Aside0.mk (blk_grown (g := a6) (o := .cells #[.int .i64 a0_0, .slice A0_1 l0_1.length c0_1, .slice (some e8) l0_2.length c0_2] 25 (0, 0)) (by (with_reducible repeat (first | refine blk_drewN ?_ _ | refine blk_drew ?_ | refine blk_alloc ?_ _)); exact a3.out) hg (Kd.R_ne a8.out a3.out (by decide))); have d6 := Aside0.mk (blk_grown (g := a5) (o := .cells #[.int .i64 ((rd_T51 l0_2 a0).f0), .int .i64 ((rd_T51 l0_2 a0).f1), .int .i64 ((rd_T51 l0_2 a0).f2)] 51 (0, 0)) (by (with_reducible repeat (first | refine blk_drewN ?_ _ | refine blk_drew ?_ | refine blk_alloc ?_ _)); exact a4.out) hg (Kd.R_away a8.out (fun _ hk => hk.2))); have d9 := Aside0.mk (hb); have e1 := Aside0.mk (ho); clear b2; clear b3; clear b6; clear b1; clear a3; clear a4; clear HB; clear a8; have b2 := a9; have b3 := b0; have b6 := b4; have b1 := b7; have a3 := d0; have a4 := d6; have HB := d9; have i7 := e1; clear a9 b0 b4 b7 d0 d6 d9 e1; clear ho hb hg hat))
             go_roundg d2
             case measure => have := h0.out; have := g4.out; omega
             case rel => exact ⟨(d7), (h6), (false), (d1 (a0 + 1)), (by first | rfl | (simp; done) | (simp [*]; done)), (by first | rfl | (simp; done) | (simp [*]; done)), H', ⟨by have := h0.out; have := g4.out; omega⟩, ⟨by (with_reducible repeat (first | apply Kd.R_alloc | apply Kd.R_drewN | apply Kd.R_drew)); exact b2.out⟩, ⟨by (with_reducible repeat (first | apply Kd.R_alloc | apply Kd.R_drewN | apply Kd.R_drew)); exact b3.out⟩, ⟨by (with_reducible repeat (first | apply Kd.R_alloc | apply Kd.R_drewN | apply Kd.R_drew)); exact Kd.R_mono b6.out (fun _ hk => hk.2)⟩, ⟨by (with_reducible repeat (first | apply Kd.R_alloc | apply Kd.R_drewN | apply Kd.R_drew)); exact b1.out⟩, ⟨by (with_reducible repeat (first | apply Kd.R_alloc | apply Kd.R_drewN | apply Kd.R_drew)); exact Kd.R_mono i7.out (fun _ hk => hk.1)⟩, ⟨by (with_reducible repeat (first | refine blk_drewN ?_ _ | refine blk_drew ?_ | refine blk_alloc ?_ _)); exact a3.out⟩, ⟨by repeat (first | (with_reducible first | exact HB.out | apply below_alloc | apply pw_below_drewN | apply below_drew1 | refine below_set ?_ a7.out | refine below_set ?_ d5.out) | exact HB.out)⟩⟩
           ·rw [if_neg o4] at H
            exact absurd H (by simp)
          ·rw [if_neg k6] at H
           have c69b0 : (((rd_T51 l0_2 a0).f0) == a1) = false := beq_eq_false_iff_ne.mpr k6
           have c69b1 : (((rd_T51 l0_2 a0).f0) != a1) = true := bne_iff_ne.mpr k6
           by_cases o8 : d8 = true
           ·subst o8
            have H1 : ((Pr26c.f d2 a0_0 l0_1 l0_2 ((rd_T51 l0_2 a0).f0) ((rd_T51 l0_2 a0).f1)).bind fun j2 => (Pl26a.l0 d2 a1 a2 b9 b8 b5 d7 d3 ((j2.length : Int) == 1) (d1 (a0 + 1)) a0_0 l0_1 l0_2)) = some r := by rw [if_pos rfl] at H; exact H
            clear H
            have H := H1
            clear H1
            replace H := Option.bind_eq_some_iff.mp H
            obtain ⟨j2, t4, H⟩ := H
            replace H : (Pl26a.l0 d2 a1 a2 b9 b8 b5 d7 d3 ((j2.length : Int) == 1) (d1 (a0 + 1)) a0_0 l0_1 l0_2) = some r := H
            have M7 := Aside0.mk t4
            clear t4
            have H' := Aside0.mk H
            clear H
            have Q2 := e6.out
            have Q5 := e0.out
            have F1 : wc.cell? ⟨a5, 0, none⟩ = some (.int .i64 ((rd_T51 l0_2 a0).f0)) := (blk_cell a4.out 0).trans rfl
            have F8 : wc.cell? ⟨a5, 1, none⟩ = some (.int .i64 ((rd_T51 l0_2 a0).f1)) := (blk_cell a4.out 1).trans rfl
            have K4 : wc.cell? ⟨a5, 2, none⟩ = some (.int .i64 ((rd_T51 l0_2 a0).f2)) := (blk_cell a4.out 2).trans rfl
            have J7 := blk_frozen a4.out 0
            have M4 := blk_frozen a4.out 1
            have E9 := blk_frozen a4.out 2
            have J4 : wc.cell? ⟨a6, 0, none⟩ = some (.int .i64 a0_0) := (blk_cell a3.out 0).trans rfl
            have G4 : wc.cell? ⟨a6, 1, none⟩ = some (.slice A0_1 l0_1.length c0_1) := (blk_cell a3.out 1).trans rfl
            have I3 : wc.cell? ⟨a6, 2, none⟩ = some (.slice (some e8) l0_2.length c0_2) := (blk_cell a3.out 2).trans rfl
            have E1 := blk_frozen a3.out 0
            have C5 := blk_frozen a3.out 1
            have B7 := blk_frozen a3.out 2
            go_wp2_with (first | (go_at_call 32; (with_reducible refine (Pr26c.calls d2 a0_0 _ _ l0_1 _ _ l0_2 ((rd_T51 l0_2 a0).f0) ((rd_T51 l0_2 a0).f1) j2 _ ?f3 ?e9 ?f4 ?e7 M7.out).mono ?_); (case f3 => repeat (first | exact (Kd.C_below f7.out HB.out) | (with_reducible refine Kd.C_alloc ?_ _) | (with_reducible refine Kd.C_drewN ?_ _) | (with_reducible refine Kd.C_drew ?_))); (case e9 => exact f9.out); (case f4 => repeat (first | exact (Kd.C_below f5.out HB.out) | (with_reducible refine Kd.C_alloc ?_ _) | (with_reducible refine Kd.C_drewN ?_ _) | (with_reducible refine Kd.C_drew ?_))); (case e7 => exact f8.out); rintro e w88 ⟨S6, rfl, e2, hb⟩; have a9 := Aside0.mk (Kd.R_elder' (by (with_reducible repeat (first | apply Kd.R_alloc | apply Kd.R_drewN | apply Kd.R_drew)); exact b2.out) (Kd.R_base e2) hb); have b0 := Aside0.mk (Kd.R_elder' (by (with_reducible repeat (first | apply Kd.R_alloc | apply Kd.R_drewN | apply Kd.R_drew)); exact b3.out) (Kd.R_base e2) hb); have b4 := Aside0.mk (Kd.R_below (by (with_reducible repeat (first | apply Kd.R_alloc | apply Kd.R_drewN | apply Kd.R_drew)); exact b6.out) hb); have b7 := Aside0.mk (Kd.R_elder' (by (with_reducible repeat (first | apply Kd.R_alloc | apply Kd.R_drewN | apply Kd.R_drew)); exact b1.out) (Kd.R_base e2) hb); have d0 := Aside0.mk (Kd.R_below (by (with_reducible repeat (first | apply Kd.R_alloc | apply Kd.R_drewN | apply Kd.R_drew)); exact a8.out) hb); have d6 := Aside0.mk (Kd.R_lower (Kd.R_new' (Kd.R_new' (Kd.R_new' e2 (Kd.R_lt (by (with_reducible repeat (first | apply Kd.R_alloc | apply Kd.R_drewN | apply Kd.R_drew)); exact b2.out))) (Kd.R_lt (by (with_reducible repeat (first | apply Kd.R_alloc | apply Kd.R_drewN | apply Kd.R_drew)); exact b3.out))) (Kd.R_lt (by (with_reducible repeat (first | apply Kd.R_alloc | apply Kd.R_drewN | apply Kd.R_drew)); exact b1.out))) (below_size (by repeat (first | (with_reducible first | exact HB.out | apply below_alloc | apply pw_below_drewN | apply below_drew1 | refine below_set ?_ a7.out | refine below_set ?_ d5.out) | exact HB.out)))); have d9 := Aside0.mk (blk_below (g := a6) (o := .cells #[.int .i64 a0_0, .slice A0_1 l0_1.length c0_1, .slice (some e8) l0_2.length c0_2] 25 (0, 0)) (by (with_reducible repeat (first | refine blk_drewN ?_ _ | refine blk_drew ?_ | refine blk_alloc ?_ _)); exact a3.out) hb); have e1 := Aside0.mk (blk_below (g := a5) (o := .cells #[.int .i64 ((rd_T51 l0_2 a0).f0), .int .i64 ((rd_T51 l0_2 a0).f1), .int .i64 ((rd_T51 l0_2 a0).f2)] 51 (0, 0)) (by (with_reducible repeat (first | refine blk_drewN ?_ _ | refine blk_drew ?_ | refine blk_alloc ?_ _)); exact a4.out) hb); have h5 := Aside0.mk (below_step (by repeat (first | (with_reducible first | exact HB.out | apply below_alloc | apply pw_below_drewN | apply below_drew1 | refine below_set ?_ a7.out | refine below_set ?_ d5.out) | exact HB.out)) hb); clear b2; clear b3; clear b6; clear b1; clear a8; clear a3; clear a4; clear HB; have b2 := a9; have b3 := b0; have b6 := b4; have b1 := b7; have a8 := d0; have t8 := d6; have a3 := d9; have a4 := e1; have HB := h5; clear a9 b0 b4 b7 d0 d6 d9 e1 h5; (try clear hb); (try clear hb2); (try clear hk); (try clear hi); (try clear e2); obtain ⟨T4, S7, z4⟩ := Kd.R_slice t8.out; subst z4))
            go_roundg d2
            case measure => have := h0.out; have := g4.out; omega
            case rel => exact ⟨(d7), (d3), (((j2.length : Int) == 1)), (d1 (a0 + 1)), (by first | rfl | (simp; done) | (simp [*]; done)), (by first | rfl | (simp; done) | (simp [*]; done)), H', ⟨by have := h0.out; have := g4.out; omega⟩, ⟨by (with_reducible repeat (first | apply Kd.R_alloc | apply Kd.R_drewN | apply Kd.R_drew)); exact Kd.R_mono b2.out (fun _ hk => ⟨hk.1.1, hk.1.2⟩)⟩, ⟨by (with_reducible repeat (first | apply Kd.R_alloc | apply Kd.R_drewN | apply Kd.R_drew)); exact Kd.R_mono b3.out (fun _ hk => ⟨hk.1.1, hk.1.2⟩)⟩, ⟨by (with_reducible repeat (first | apply Kd.R_alloc | apply Kd.R_drewN | apply Kd.R_drew)); exact Kd.R_mono b6.out (fun _ hk => hk.1)⟩, ⟨by (with_reducible repeat (first | apply Kd.R_alloc | apply Kd.R_drewN | apply Kd.R_drew)); exact Kd.R_mono b1.out (fun _ hk => ⟨hk.1.1, hk.1.2⟩)⟩, ⟨by (with_reducible repeat (first | apply Kd.R_alloc | apply Kd.R_drewN | apply Kd.R_drew)); exact Kd.R_mono a8.out (fun _ hk => hk.1)⟩, ⟨by (with_reducible repeat (first | refine blk_drewN ?_ _ | refine blk_drew ?_ | refine blk_alloc ?_ _)); exact a3.out⟩, ⟨by repeat (first | (with_reducible first | exact HB.out | apply below_alloc | apply pw_below_drewN | apply below_drew1 | refine below_set ?_ a7.out | refine below_set ?_ d5.out) | exact HB.out)⟩⟩
           ·replace o8 := Bool.eq_false_iff.mpr o8
            subst o8
            have H1 : (Pl26a.l0 d2 a1 a2 b9 b8 b5 d7 d3 false (d1 (a0 + 1)) a0_0 l0_1 l0_2) = some r := by rw [if_neg (show ¬ (false = true) by decide)] at H; exact H
            clear H
            have H := H1
            clear H1
            have H' := Aside0.mk H
            clear H
            have R0 := e6.out
            have R6 := e0.out
            have C3 : wc.cell? ⟨a5, 0, none⟩ = some (.int .i64 ((rd_T51 l0_2 a0).f0)) := (blk_cell a4.out 0).trans rfl
            have G5 : wc.cell? ⟨a5, 1, none⟩ = some (.int .i64 ((rd_T51 l0_2 a0).f1)) := (blk_cell a4.out 1).trans rfl
            have K0 : wc.cell? ⟨a5, 2, none⟩ = some (.int .i64 ((rd_T51 l0_2 a0).f2)) := (blk_cell a4.out 2).trans rfl
            have E3 := blk_frozen a4.out 0
            have G7 := blk_frozen a4.out 1
            have K6 := blk_frozen a4.out 2
            go_wp2
            go_roundg d2
            case measure => have := h0.out; have := g4.out; omega
            case rel => exact ⟨(d7), (d3), (false), (d1 (a0 + 1)), (by first | rfl | (simp; done) | (simp [*]; done)), (by first | rfl | (simp; done) | (simp [*]; done)), H', ⟨by have := h0.out; have := g4.out; omega⟩, ⟨by (with_reducible repeat (first | apply Kd.R_alloc | apply Kd.R_drewN | apply Kd.R_drew)); exact b2.out⟩, ⟨by (with_reducible repeat (first | apply Kd.R_alloc | apply Kd.R_drewN | apply Kd.R_drew)); exact b3.out⟩, ⟨by (with_reducible repeat (first | apply Kd.R_alloc | apply Kd.R_drewN | apply Kd.R_drew)); exact Kd.R_mono b6.out (fun _ hk => hk.1)⟩, ⟨by (with_reducible repeat (first | apply Kd.R_alloc | apply Kd.R_drewN | apply Kd.R_drew)); exact b1.out⟩, ⟨by (with_reducible repeat (first | apply Kd.R_alloc | apply Kd.R_drewN | apply Kd.R_drew)); exact Kd.R_mono a8.out (fun _ hk => hk.1)⟩, ⟨by (with_reducible repeat (first | refine blk_drewN ?_ _ | refine blk_drew ?_ | refine blk_alloc ?_ _)); exact a3.out⟩, ⟨by repeat (first | (with_reducible first | exact HB.out | apply below_alloc | apply pw_below_drewN | apply below_drew1 | refine below_set ?_ a7.out | refine below_set ?_ d5.out) | exact HB.out)⟩⟩
      ·rw [if_neg n0] at H
       exact absurd H (by simp)
     ·rw [if_neg k5] at H
      have c24b0 : decide (a0 < (l0_2.length : Int)) = false := decide_eq_false k5
      clear k5
      replace H := Option.bind_eq_some_iff.mp H
      obtain ⟨m5, t3, H⟩ := H
      replace H : ((Pr01b.f k1 b9 m5).bind fun m6 => (if m6 = true then ((Pr01b.f k1 b8 d7).bind fun i3 => (if i3 = true then ((Pr26b.f k1 0 ([] : List ByteArray) b5 0 ([] : List ByteArray) d3).bind fun h2 => (if h2 = true then ((Pxb.f k1 a0_0 l0_1 l0_2).bind fun f6 => (if (f6 == d8) = true then ((Pl26b.f k1).bind fun g2 => (some g2)) else (some false))) else (some false))) else (some false))) else (some false))) = some r := H
      have N6 := Aside0.mk t3
      clear t3
      replace H := Option.bind_eq_some_iff.mp H
      obtain ⟨m6, s9, H⟩ := H
      replace H : (if m6 = true then ((Pr01b.f k1 b8 d7).bind fun i3 => (if i3 = true then ((Pr26b.f k1 0 ([] : List ByteArray) b5 0 ([] : List ByteArray) d3).bind fun h2 => (if h2 = true then ((Pxb.f k1 a0_0 l0_1 l0_2).bind fun f6 => (if (f6 == d8) = true then ((Pl26b.f k1).bind fun g2 => (some g2)) else (some false))) else (some false))) else (some false))) else (some false)) = some r := H
      have N2 := Aside0.mk s9
      clear s9
      by_cases n5 : m6 = true
      ·subst n5
       have H1 : ((Pr01b.f k1 b8 d7).bind fun i3 => (if i3 = true then ((Pr26b.f k1 0 ([] : List ByteArray) b5 0 ([] : List ByteArray) d3).bind fun h2 => (if h2 = true then ((Pxb.f k1 a0_0 l0_1 l0_2).bind fun f6 => (if (f6 == d8) = true then ((Pl26b.f k1).bind fun g2 => (some g2)) else (some false))) else (some false))) else (some false))) = some r := by rw [if_pos rfl] at H; exact H
       clear H
       have H := H1
       clear H1
       replace H := Option.bind_eq_some_iff.mp H
       obtain ⟨i3, t1, H⟩ := H
       replace H : (if i3 = true then ((Pr26b.f k1 0 ([] : List ByteArray) b5 0 ([] : List ByteArray) d3).bind fun h2 => (if h2 = true then ((Pxb.f k1 a0_0 l0_1 l0_2).bind fun f6 => (if (f6 == d8) = true then ((Pl26b.f k1).bind fun g2 => (some g2)) else (some false))) else (some false))) else (some false)) = some r := H
       have N5 := Aside0.mk t1
       clear t1
       by_cases p0 : i3 = true
       ·subst p0
        have H1 : ((Pr26b.f k1 0 ([] : List ByteArray) b5 0 ([] : List ByteArray) d3).bind fun h2 => (if h2 = true then ((Pxb.f k1 a0_0 l0_1 l0_2).bind fun f6 => (if (f6 == d8) = true then ((Pl26b.f k1).bind fun g2 => (some g2)) else (some false))) else (some false))) = some r := by rw [if_pos rfl] at H; exact H
        clear H
        have H := H1
        clear H1
        replace H := Option.bind_eq_some_iff.mp H
        obtain ⟨h2, t5, H⟩ := H
        replace H : (if h2 = true then ((Pxb.f k1 a0_0 l0_1 l0_2).bind fun f6 => (if (f6 == d8) = true then ((Pl26b.f k1).bind fun g2 => (some g2)) else (some false))) else (some false)) = some r := H
        have M9 := Aside0.mk t5
        clear t5
        by_cases o6 : h2 = true
        ·subst o6
         have H1 : ((Pxb.f k1 a0_0 l0_1 l0_2).bind fun f6 => (if (f6 == d8) = true then ((Pl26b.f k1).bind fun g2 => (some g2)) else (some false))) = some r := by rw [if_pos rfl] at H; exact H
         clear H
         have H := H1
         clear H1
         replace H := Option.bind_eq_some_iff.mp H
         obtain ⟨f6, t6, H⟩ := H
         replace H : (if (f6 == d8) = true then ((Pl26b.f k1).bind fun g2 => (some g2)) else (some false)) = some r := H
         have M8 := Aside0.mk t6
         clear t6
         by_cases h4 : (f6 == d8) = true
         ·rw [if_pos h4] at H
          have c100b0 : (f6 == d8) = true := h4
          (try (have c100b1 : decide (f6 = d8) = true := by simpa using h4))
          (try (have c100b2 : (f6 == d8) = true := by simpa using h4))
          clear h4
          replace H := Option.bind_eq_some_iff.mp H
          obtain ⟨g2, p1, H⟩ := H
          replace H : (some g2) = some r := H
          have w7 := Aside0.mk p1
          clear p1
          obtain rfl := Option.some.inj H
          have y9 : wr.cell? ⟨a6, 0, none⟩ = some (.int .i64 a0_0) := (blk_cell a3.out 0).trans rfl
          have z5 : wr.cell? ⟨a6, 1, none⟩ = some (.slice A0_1 l0_1.length c0_1) := (blk_cell a3.out 1).trans rfl
          have z0 : wr.cell? ⟨a6, 2, none⟩ = some (.slice A0_2 l0_2.length c0_2) := (blk_cell a3.out 2).trans rfl
          have x7 := blk_frozen a3.out 0
          have z7 := blk_frozen a3.out 1
          have z6 := blk_frozen a3.out 2
          go_wp2_with (first | ((with_reducible refine gate_callee (f := 32) rfl ?_); refine goesL_ (some 106) rfl rfl Try.func32 (by kernel_rfl) rfl #[.agg #[.int .i64 a0_0, .slice A0_1 l0_1.length c0_1, .slice A0_2 l0_2.length c0_2], .int .i64 a1, .int .i64 a2] rfl (by (try simp only [List.map_toArray, List.map_cons, List.map_nil]); first | done | rfl | (simp only [List.length_drop, List.length_take]; rfl)) ?_; (with_reducible refine (Pr26c.calls k1 a0_0 _ _ l0_1 _ _ l0_2 a1 a2 m5 _ ?f3 ?e9 ?f4 ?e7 N6.out).mono ?_); (case f3 => repeat (first | exact (Kd.C_below f7.out HB.out) | (with_reducible refine Kd.C_alloc ?_ _) | (with_reducible refine Kd.C_drewN ?_ _) | (with_reducible refine Kd.C_drew ?_))); (case e9 => exact f9.out); (case f4 => repeat (first | exact (Kd.C_below f5.out HB.out) | (with_reducible refine Kd.C_alloc ?_ _) | (with_reducible refine Kd.C_drewN ?_ _) | (with_reducible refine Kd.C_drew ?_))); (case e7 => exact f8.out); rintro e w103 ⟨T5, rfl, e2, hb⟩; refine ⟨_, rfl, ?_⟩; have a9 := Aside0.mk (Kd.R_elder' (by (with_reducible repeat (first | apply Kd.R_alloc | apply Kd.R_drewN | apply Kd.R_drew)); exact b2.out) (Kd.R_base e2) hb); have b0 := Aside0.mk (Kd.R_elder' (by (with_reducible repeat (first | apply Kd.R_alloc | apply Kd.R_drewN | apply Kd.R_drew)); exact b3.out) (Kd.R_base e2) hb); have b4 := Aside0.mk (Kd.R_below (by (with_reducible repeat (first | apply Kd.R_alloc | apply Kd.R_drewN | apply Kd.R_drew)); exact b6.out) hb); have b7 := Aside0.mk (Kd.R_elder' (by (with_reducible repeat (first | apply Kd.R_alloc | apply Kd.R_drewN | apply Kd.R_drew)); exact b1.out) (Kd.R_base e2) hb); have d0 := Aside0.mk (Kd.R_below (by (with_reducible repeat (first | apply Kd.R_alloc | apply Kd.R_drewN | apply Kd.R_drew)); exact a8.out) hb); have d6 := Aside0.mk (Kd.R_lower (Kd.R_new' (Kd.R_new' (Kd.R_new' e2 (Kd.R_lt (by (with_reducible repeat (first | apply Kd.R_alloc | apply Kd.R_drewN | apply Kd.R_drew)); exact b2.out))) (Kd.R_lt (by (with_reducible repeat (first | apply Kd.R_alloc | apply Kd.R_drewN | apply Kd.R_drew)); exact b3.out))) (Kd.R_lt (by (with_reducible repeat (first | apply Kd.R_alloc | apply Kd.R_drewN | apply Kd.R_drew)); exact b1.out))) (below_size (by repeat (first | (with_reducible first | exact HB.out | apply below_alloc | apply pw_below_drewN | apply below_drew1 | refine below_set ?_ a7.out) | exact HB.out)))); have d9 := Aside0.mk (blk_below (g := a6) (o := .cells #[.int .i64 a0_0, .slice A0_1 l0_1.length c0_1, .slice A0_2 l0_2.length c0_2] 25 (0, 0)) (by (with_reducible repeat (first | refine blk_drewN ?_ _ | refine blk_drew ?_ | refine blk_alloc ?_ _)); exact a3.out) hb); have e1 := Aside0.mk (below_step (by repeat (first | (with_reducible first | exact HB.out | apply below_alloc | apply pw_below_drewN | apply below_drew1 | refine below_set ?_ a7.out) | exact HB.out)) hb); clear b2; clear b3; clear b6; clear b1; clear a8; clear a3; clear HB; have b2 := a9; have b3 := b0; have b6 := b4; have b1 := b7; have a8 := d0; have g5 := d6; have a3 := d9; have HB := e1; clear a9 b0 b4 b7 d0 d6 d9 e1; (try clear hb); (try clear hb2); (try clear hk); (try clear hi); (try clear e2); obtain ⟨u0, u5, v2⟩ := Kd.R_slice b2.out; subst v2; obtain ⟨v4, v3, u2⟩ := Kd.R_slice g5.out; subst u2) | ((with_reducible refine gate_callee (f := 33) rfl ?_); refine goesL_ (some 107) rfl rfl Try.func33 (by kernel_rfl) rfl #[.slice u0 b9.length u5, .slice v4 m5.length v3] rfl (by (try simp only [List.map_toArray, List.map_cons, List.map_nil]); first | done | rfl | (simp only [List.length_drop, List.length_take]; rfl)) ?_; (with_reducible refine (Pr01b.calls k1 _ _ b9 _ _ m5 true _ ?f3 ?e9 ?f4 ?e7 N2.out).mono ?_); (case f3 => repeat (first | exact (Kd.R_reads' b2.out).2.2 | (with_reducible refine Kd.C_alloc ?_ _) | (with_reducible refine Kd.C_drewN ?_ _) | (with_reducible refine Kd.C_drew ?_))); (case e9 => exact (Kd.R_reads' b2.out).2.1); (case f4 => repeat (first | exact (Kd.R_reads' g5.out).2.2 | (with_reducible refine Kd.C_alloc ?_ _) | (with_reducible refine Kd.C_drewN ?_ _) | (with_reducible refine Kd.C_drew ?_))); (case e7 => exact (Kd.R_reads' g5.out).2.1); rintro e w' ⟨rfl, ⟨nd, rfl⟩⟩; refine ⟨_, rfl, ?_⟩; obtain ⟨O1, R7, u9⟩ := Kd.R_slice b3.out; subst u9; obtain ⟨O5, N9, u3⟩ := Kd.R_slice b1.out; subst u3) | (go_at_call 33; (with_reducible refine (Pr01b.calls k1 _ _ b8 _ _ d7 true _ ?f3 ?e9 ?f4 ?e7 N5.out).mono ?_); (case f3 => repeat (first | exact (Kd.R_reads' b3.out).2.2 | (with_reducible refine Kd.C_alloc ?_ _) | (with_reducible refine Kd.C_drewN ?_ _) | (with_reducible refine Kd.C_drew ?_))); (case e9 => exact (Kd.R_reads' b3.out).2.1); (case f4 => repeat (first | exact (Kd.R_reads' b1.out).2.2 | (with_reducible refine Kd.C_alloc ?_ _) | (with_reducible refine Kd.C_drewN ?_ _) | (with_reducible refine Kd.C_drew ?_))); (case e7 => exact (Kd.R_reads' b1.out).2.1); rintro e w' ⟨rfl, ⟨nd, rfl⟩⟩; obtain ⟨O6, P5, t9⟩ := Kd.R_slice b6.out; subst t9; obtain ⟨P7, P3, v1⟩ := Kd.R_slice a8.out; subst v1) | (go_at_call 16; (refine (Pr26b.calls k1 0 _ _ ([] : List ByteArray) _ _ b5 0 _ _ ([] : List ByteArray) _ _ d3 true _ ?f3 ?e9 ?f4 ?e7 ?P4 ?Q7 ?R3 ?Q4 M9.out).mono ?_); (case f3 => exact Kd.C_nil _ _); (case e9 => exact Nat.le_refl _); (case f4 => repeat (first | exact (Kd.R_reads' b6.out).2.2 | (with_reducible refine Kd.C_alloc ?_ _) | (with_reducible refine Kd.C_drewN ?_ _) | (with_reducible refine Kd.C_drew ?_))); (case e7 => exact (Kd.R_reads' b6.out).2.1); (case P4 => exact Kd.C_nil _ _); (case Q7 => exact Nat.le_refl _); (case R3 => repeat (first | exact (Kd.R_reads' a8.out).2.2 | (with_reducible refine Kd.C_alloc ?_ _) | (with_reducible refine Kd.C_drewN ?_ _) | (with_reducible refine Kd.C_drew ?_))); (case Q4 => exact (Kd.R_reads' a8.out).2.1); rintro e w110 ⟨rfl, hb⟩; have a9 := Aside0.mk (Kd.R_below (by (with_reducible repeat (first | apply Kd.R_alloc | apply Kd.R_drewN | apply Kd.R_drew)); exact b2.out) hb); have b0 := Aside0.mk (Kd.R_below (by (with_reducible repeat (first | apply Kd.R_alloc | apply Kd.R_drewN | apply Kd.R_drew)); exact b3.out) hb); have b4 := Aside0.mk (Kd.R_below (by (with_reducible repeat (first | apply Kd.R_alloc | apply Kd.R_drewN | apply Kd.R_drew)); exact b6.out) hb); have b7 := Aside0.mk (Kd.R_below (by (with_reducible repeat (first | apply Kd.R_alloc | apply Kd.R_drewN | apply Kd.R_drew)); exact b1.out) hb); have d0 := Aside0.mk (Kd.R_below (by (with_reducible repeat (first | apply Kd.R_alloc | apply Kd.R_drewN | apply Kd.R_drew)); exact a8.out) hb); have d6 := Aside0.mk (Kd.R_below (by (with_reducible repeat (first | apply Kd.R_alloc | apply Kd.R_drewN | apply Kd.R_drew)); exact g5.out) hb); have d9 := Aside0.mk (blk_below (g := a6) (o := .cells #[.int .i64 a0_0, .slice A0_1 l0_1.length c0_1, .slice A0_2 l0_2.length c0_2] 25 (0, 0)) (by (with_reducible repeat (first | refine blk_drewN ?_ _ | refine blk_drew ?_ | refine blk_alloc ?_ _)); exact a3.out) hb); have e1 := Aside0.mk (below_step (by repeat (first | (with_reducible first | exact HB.out | apply below_alloc | apply pw_below_drewN | apply below_drew1 | refine below_set ?_ a7.out) | exact HB.out)) hb); clear b2; clear b3; clear b6; clear b1; clear a8; clear g5; clear a3; clear HB; have b2 := a9; have b3 := b0; have b6 := b4; have b1 := b7; have a8 := d0; have g5 := d6; have a3 := d9; have HB := e1; clear a9 b0 b4 b7 d0 d6 d9 e1; (try clear hb); (try clear hb2); (try clear hk); (try clear hi); have A2 : w110.cell? ⟨a6, 0, none⟩ = some (.int .i64 a0_0) := (blk_cell a3.out 0).trans rfl; have w6 : w110.cell? ⟨a6, 1, none⟩ = some (.slice A0_1 l0_1.length c0_1) := (blk_cell a3.out 1).trans rfl; have y1 : w110.cell? ⟨a6, 2, none⟩ = some (.slice A0_2 l0_2.length c0_2) := (blk_cell a3.out 2).trans rfl; have B6 := blk_frozen a3.out 0; have A5 := blk_frozen a3.out 1; have w9 := blk_frozen a3.out 2) | (go_at_call 31; (with_reducible refine (Pxb.calls k1 a0_0 _ _ l0_1 _ _ l0_2 f6 _ ?f3 ?e9 ?f4 ?e7 M8.out).mono ?_); (case f3 => repeat (first | exact (Kd.C_below f7.out HB.out) | (with_reducible refine Kd.C_alloc ?_ _) | (with_reducible refine Kd.C_drewN ?_ _) | (with_reducible refine Kd.C_drew ?_))); (case e9 => exact f9.out); (case f4 => repeat (first | exact (Kd.C_below f5.out HB.out) | (with_reducible refine Kd.C_alloc ?_ _) | (with_reducible refine Kd.C_drewN ?_ _) | (with_reducible refine Kd.C_drew ?_))); (case e7 => exact f8.out); rintro e w112 ⟨rfl, hb⟩; have a9 := Aside0.mk (Kd.R_below (by (with_reducible repeat (first | apply Kd.R_alloc | apply Kd.R_drewN | apply Kd.R_drew)); exact b2.out) hb); have b0 := Aside0.mk (Kd.R_below (by (with_reducible repeat (first | apply Kd.R_alloc | apply Kd.R_drewN | apply Kd.R_drew)); exact b3.out) hb); have b4 := Aside0.mk (Kd.R_below (by (with_reducible repeat (first | apply Kd.R_alloc | apply Kd.R_drewN | apply Kd.R_drew)); exact b6.out) hb); have b7 := Aside0.mk (Kd.R_below (by (with_reducible repeat (first | apply Kd.R_alloc | apply Kd.R_drewN | apply Kd.R_drew)); exact b1.out) hb); have d0 := Aside0.mk (Kd.R_below (by (with_reducible repeat (first | apply Kd.R_alloc | apply Kd.R_drewN | apply Kd.R_drew)); exact a8.out) hb); have d6 := Aside0.mk (Kd.R_below (by (with_reducible repeat (first | apply Kd.R_alloc | apply Kd.R_drewN | apply Kd.R_drew)); exact g5.out) hb); have d9 := Aside0.mk (blk_below (g := a6) (o := .cells #[.int .i64 a0_0, .slice A0_1 l0_1.length c0_1, .slice A0_2 l0_2.length c0_2] 25 (0, 0)) (by (with_reducible repeat (first | refine blk_drewN ?_ _ | refine blk_drew ?_ | refine blk_alloc ?_ _)); exact a3.out) hb); have e1 := Aside0.mk (below_step (by repeat (first | (with_reducible first | exact HB.out | apply below_alloc | apply pw_below_drewN | apply below_drew1 | refine below_set ?_ a7.out) | exact HB.out)) hb); clear b2; clear b3; clear b6; clear b1; clear a8; clear g5; clear a3; clear HB; have b2 := a9; have b3 := b0; have b6 := b4; have b1 := b7; have a8 := d0; have g5 := d6; have a3 := d9; have HB := e1; clear a9 b0 b4 b7 d0 d6 d9 e1; (try clear hb); (try clear hb2); (try clear hk); (try clear hi)) | (go_at_call 24; (with_reducible refine (Pl26b.calls k1  g2 _ w7.out hr_).mono ?_); rintro e w113 ⟨rfl, hb⟩; have a9 := Aside0.mk (Kd.R_below (by (with_reducible repeat (first | apply Kd.R_alloc | apply Kd.R_drewN | apply Kd.R_drew)); exact b2.out) hb); have b0 := Aside0.mk (Kd.R_below (by (with_reducible repeat (first | apply Kd.R_alloc | apply Kd.R_drewN | apply Kd.R_drew)); exact b3.out) hb); have b4 := Aside0.mk (Kd.R_below (by (with_reducible repeat (first | apply Kd.R_alloc | apply Kd.R_drewN | apply Kd.R_drew)); exact b6.out) hb); have b7 := Aside0.mk (Kd.R_below (by (with_reducible repeat (first | apply Kd.R_alloc | apply Kd.R_drewN | apply Kd.R_drew)); exact b1.out) hb); have d0 := Aside0.mk (Kd.R_below (by (with_reducible repeat (first | apply Kd.R_alloc | apply Kd.R_drewN | apply Kd.R_drew)); exact a8.out) hb); have d6 := Aside0.mk (Kd.R_below (by (with_reducible repeat (first | apply Kd.R_alloc | apply Kd.R_drewN | apply Kd.R_drew)); exact g5.out) hb); have d9 := Aside0.mk (blk_below (g := a6) (o := .cells #[.int .i64 a0_0, .slice A0_1 l0_1.length c0_1, .slice A0_2 l0_2.length c0_2] 25 (0, 0)) (by (with_reducible repeat (first | refine blk_drewN ?_ _ | refine blk_drew ?_ | refine blk_alloc ?_ _)); exact a3.out) hb); have e1 := Aside0.mk (below_step (by repeat (first | (with_reducible first | exact HB.out | apply below_alloc | apply pw_below_drewN | apply below_drew1 | refine below_set ?_ a7.out) | exact HB.out)) hb); clear b2; clear b3; clear b6; clear b1; clear a8; clear g5; clear a3; clear HB; have b2 := a9; have b3 := b0; have b6 := b4; have b1 := b7; have a8 := d0; have g5 := d6; have a3 := d9; have HB := e1; clear a9 b0 b4 b7 d0 d6 d9 e1; (try clear hb); (try clear hb2); (try clear hk); (try clear hi)))
          go_ret
          exact ⟨by first | rfl | (simp [errW_none, errW_some] <;> rfl) | (simp [*, errW_none, errW_some] <;> rfl), by repeat (first | (with_reducible first | exact HB.out | apply below_alloc | apply pw_below_drewN | apply below_drew1 | refine below_set ?_ a7.out) | exact HB.out)⟩
         ·rw [if_neg h4] at H
          have c100b0 : (f6 == d8) = false := by simpa using h4
          (try (have c100b1 : decide (f6 = d8) = false := by simpa using h4))
          (try (have c100b2 : (f6 == d8) = false := by simpa using h4))
          (try (have c100b3 : ¬ (f6 = d8) := by simpa using h4))
          clear h4
          obtain rfl := Option.some.inj H
          exact absurd hr_.out (by decide)
        ·replace o6 := Bool.eq_false_iff.mpr o6
         subst o6
         have H1 : (some false) = some r := by rw [if_neg (show ¬ (false = true) by decide)] at H; exact H
         clear H
         have H := H1
         clear H1
         obtain rfl := Option.some.inj H
         exact absurd hr_.out (by decide)
       ·replace p0 := Bool.eq_false_iff.mpr p0
        subst p0
        have H1 : (some false) = some r := by rw [if_neg (show ¬ (false = true) by decide)] at H; exact H
        clear H
        have H := H1
        clear H1
        obtain rfl := Option.some.inj H
        exact absurd hr_.out (by decide)
      ·replace n5 := Bool.eq_false_iff.mpr n5
       subst n5
       have H1 : (some false) = some r := by rw [if_neg (show ¬ (false = true) by decide)] at H; exact H
       clear H
       have H := H1
       clear H1
       obtain rfl := Option.some.inj H
       exact absurd hr_.out (by decide)
  ·replace c10 := Bool.eq_false_iff.mpr c10
   subst c10
   have H1 : (if (b9.length : Int) = 0 then (if (b8.length : Int) = 0 then (if (b5.length : Int) = 0 then ((Pxb.f k a0_0 l0_1 l0_2).bind fun g3 => (if g3 = true then (some false) else ((Pl26b.f k).bind fun g0 => (some g0)))) else (some false)) else (some false)) else (some false)) = some r := by rw [if_neg (show ¬ (false = true) by decide)] at H; exact H
   clear H
   have H := H1
   clear H1
   by_cases i1 : (b9.length : Int) = 0
   ·rw [if_pos i1] at H
    have c144b0 : ((b9.length : Int) == 0) = true := beq_iff_eq.mpr i1
    have c144b1 : ((b9.length : Int) != 0) = false := bne_eq_false_iff_eq.mpr i1
    clear i1
    by_cases i4 : (b8.length : Int) = 0
    ·rw [if_pos i4] at H
     have c145b0 : ((b8.length : Int) == 0) = true := beq_iff_eq.mpr i4
     have c145b1 : ((b8.length : Int) != 0) = false := bne_eq_false_iff_eq.mpr i4
     clear i4
     by_cases i2 : (b5.length : Int) = 0
     ·rw [if_pos i2] at H
      have c146b0 : ((b5.length : Int) == 0) = true := beq_iff_eq.mpr i2
      have c146b1 : ((b5.length : Int) != 0) = false := bne_eq_false_iff_eq.mpr i2
      clear i2
      replace H := Option.bind_eq_some_iff.mp H
      obtain ⟨g3, o0, H⟩ := H
      replace H : (if g3 = true then (some false) else ((Pl26b.f k).bind fun g0 => (some g0))) = some r := H
      have w8 := Aside0.mk o0
      clear o0
      by_cases m8 : g3 = true
      ·subst m8
       have H1 : (some false) = some r := by rw [if_pos rfl] at H; exact H
       clear H
       have H := H1
       clear H1
       obtain rfl := Option.some.inj H
       exact absurd hr_.out (by decide)
      ·replace m8 := Bool.eq_false_iff.mpr m8
       subst m8
       have H1 : ((Pl26b.f k).bind fun g0 => (some g0)) = some r := by rw [if_neg (show ¬ (false = true) by decide)] at H; exact H
       clear H
       have H := H1
       clear H1
       replace H := Option.bind_eq_some_iff.mp H
       obtain ⟨g0, p4, H⟩ := H
       replace H : (some g0) = some r := H
       have B0 := Aside0.mk p4
       clear p4
       obtain rfl := Option.some.inj H
       go_enter Try.func7, Try.ntmps7
       try go_wp2_with (first | ((with_reducible refine gate_dst (N := 3) rfl ?_); (try (refine gate_guard (by rfl) ?_; dsimp only)); refine box_event ?hg (N := 3) ?hd (cs := #[.int .i64 a0_0, .slice A0_1 l0_1.length c0_1, .slice A0_2 l0_2.length c0_2]) (t := 25) ?hr ?_; (case hd => rfl); (case hg => rfl); (case hr => first | (go_simp; done) | (go_simp; rfl)); intro a6 hg w164 hbox hb; have a9 := Aside0.mk (below_step (by repeat (first | (with_reducible first | exact HB.out | apply below_alloc | apply pw_below_drewN | apply below_drew1) | exact HB.out)) hb); have b0 := Aside0.mk (hbox); have b4 := Aside0.mk ((by rw [hg]; exact (below_size (by repeat (first | (with_reducible first | exact HB.out | apply below_alloc | apply pw_below_drewN | apply below_drew1) | exact HB.out))) : w.heap.size ≤ a6)); have b7 := Aside0.mk ((by rw [hg]; exact (below_size (by repeat (first | (with_reducible first | exact HB.out | apply below_alloc | apply pw_below_drewN | apply below_drew1) | exact HB.out))) : w.heap.size ≤ a6)); clear HB; have HB := a9; have a3 := b0; have o2 := b4; have a7 := b7; clear a9 b0 b4 b7; clear hb hbox hg; have x1 : w164.cell? ⟨a6, 0, none⟩ = some (.int .i64 a0_0) := (blk_cell a3.out 0).trans rfl; have y6 : w164.cell? ⟨a6, 1, none⟩ = some (.slice A0_1 l0_1.length c0_1) := (blk_cell a3.out 1).trans rfl; have B1 : w164.cell? ⟨a6, 2, none⟩ = some (.slice A0_2 l0_2.length c0_2) := (blk_cell a3.out 2).trans rfl; have y4 := blk_frozen a3.out 0; have z9 := blk_frozen a3.out 1; have A1 := blk_frozen a3.out 2) | ((with_reducible refine gate_callee (f := 23) rfl ?_); refine goesL_ (some 16) rfl rfl Try.func23 (by kernel_rfl) rfl #[.agg #[.int .i64 a0_0, .slice A0_1 l0_1.length c0_1, .slice A0_2 l0_2.length c0_2]] rfl (by (try simp only [List.map_toArray, List.map_cons, List.map_nil]); first | done | rfl | (simp only [List.length_drop, List.length_take]; rfl)) ?_; (with_reducible refine (Pr26a.calls k a0_0 _ _ l0_1 _ _ l0_2 true _ ?f3 ?e9 ?f4 ?e7 A4.out).mono ?_); (case f3 => repeat (first | exact (Kd.C_below f7.out HB.out) | (with_reducible refine Kd.C_alloc ?_ _) | (with_reducible refine Kd.C_drewN ?_ _) | (with_reducible refine Kd.C_drew ?_))); (case e9 => exact f9.out); (case f4 => repeat (first | exact (Kd.C_below f5.out HB.out) | (with_reducible refine Kd.C_alloc ?_ _) | (with_reducible refine Kd.C_drewN ?_ _) | (with_reducible refine Kd.C_drew ?_))); (case e7 => exact f8.out); rintro e w166 ⟨rfl, hb⟩; refine ⟨_, rfl, ?_⟩; have a9 := Aside0.mk (blk_below (g := a6) (o := .cells #[.int .i64 a0_0, .slice A0_1 l0_1.length c0_1, .slice A0_2 l0_2.length c0_2] 25 (0, 0)) (by (with_reducible repeat (first | refine blk_drewN ?_ _ | refine blk_drew ?_ | refine blk_alloc ?_ _)); exact a3.out) hb); have b0 := Aside0.mk (below_step (by repeat (first | (with_reducible first | exact HB.out | apply below_alloc | apply pw_below_drewN | apply below_drew1 | refine below_set ?_ a7.out) | exact HB.out)) hb); clear a3; clear HB; have a3 := a9; have HB := b0; clear a9 b0; (try clear hb); (try clear hb2); (try clear hk); (try clear hi)))
       have a9 := Aside0.mk (blk_drew a3.out)
       have b0 := Aside0.mk (below_drew1 HB.out)
       clear a3
       clear HB
       have a3 := a9
       have HB := b0
       clear a9 b0
       refine start_ (n := 14) (S := fun w' => w'.cell? ⟨a6, 0, none⟩ = some (.int .i64 a0_0) ∧ w'.cell? ⟨a6, 1, none⟩ = some (.slice A0_1 l0_1.length c0_1) ∧ w'.cell? ⟨a6, 2, none⟩ = some (.slice A0_2 l0_2.length c0_2)) (ds := []) #[false, false, false, false, false, false, false, false, false, false, false, false, false, false] (by kernel_rfl) rfl rfl ⟨(blk_cell a3.out 0).trans rfl, (blk_cell a3.out 1).trans rfl, (blk_cell a3.out 2).trans rfl⟩ (fun hHeld => ?_); refine with_tabW Pl26a.tab3 Pl26a.bits3 (fun HT_ HW_ => ?_)
       generalize w166.drew = w167 at a3 HB hHeld ⊢
       refine pure_ (i := 1) (N := some 20) (v := ?_) (a' := ?_) #[false, true, false, false, false, false, false, false, false, false, false, false, false, false] rfl rfl (any_of HT_.out (by kernel_rfl)) (fun _ _ _ h => h) (Or.inl ⟨by rfl, ?_⟩) ?_ ?_
       rotate_left
       ·intro w'
        go_simp
        with_reducible rfl
       rotate_left
       ·simp only [Act.put, List.setIfInBounds_toArray, List.set_cons_zero, List.set_cons_succ, i64_w, i32_w]
        rfl
       refine pure_ (i := 2) (N := some 21) (v := ?_) (a' := ?_) #[false, true, true, false, false, false, false, false, false, false, false, false, false, false] rfl rfl (any_of HT_.out (by kernel_rfl)) (fun _ _ _ h => h) (Or.inl ⟨by rfl, ?_⟩) ?_ ?_
       rotate_left
       ·intro w'
        go_simp
        with_reducible rfl
       rotate_left
       ·simp only [Act.put, List.setIfInBounds_toArray, List.set_cons_zero, List.set_cons_succ, i64_w, i32_w]
        rfl
       refine pure_ (i := 5) (N := some 24) (v := ?_) (a' := ?_) #[false, true, true, false, false, true, false, false, false, false, false, false, false, false] rfl rfl (any_of HT_.out (by kernel_rfl)) (fun _ _ _ h => h) (Or.inl ⟨by rfl, ?_⟩) ?_ ?_
       rotate_left
       ·intro w'
        go_simp
        with_reducible rfl
       rotate_left
       ·simp only [Act.put, List.setIfInBounds_toArray, List.set_cons_zero, List.set_cons_succ, i64_w, i32_w]
        rfl
       refine pure_ (i := 6) (N := some 25) (v := ?_) (a' := ?_) #[false, true, true, false, false, true, true, false, false, false, false, false, false, false] rfl rfl (any_of HT_.out (by kernel_rfl)) (fun _ _ _ h => h) (Or.inl ⟨by rfl, ?_⟩) ?_ ?_
       rotate_left
       ·intro w'
        go_simp
        with_reducible rfl
       rotate_left
       ·simp only [Act.put, List.setIfInBounds_toArray, List.set_cons_zero, List.set_cons_succ, i64_w, i32_w]
        rfl
       refine pure_ (i := 9) (N := some 28) (v := ?_) (a' := ?_) #[false, true, true, false, false, true, true, false, false, true, false, false, false, false] rfl rfl (any_of HT_.out (by kernel_rfl)) (fun _ _ _ h => h) (Or.inl ⟨by rfl, ?_⟩) ?_ ?_
       rotate_left
       ·intro w'
        go_simp
        with_reducible rfl
       rotate_left
       ·simp only [Act.put, List.setIfInBounds_toArray, List.set_cons_zero, List.set_cons_succ, i64_w, i32_w]
        rfl
       refine take_ (i := 0) (N := some 19) (v := ?_) (a' := ?_) #[true, true, true, false, false, true, true, false, false, true, false, false, false, false] rfl rfl (take_ofW HT_.out HW_.out (by kernel_rfl)) (fun _ _ _ h => h) (Or.inl ⟨by rfl, ?_⟩) hHeld ?_ ?_
       rotate_left
       ·rintro w' ⟨s0, s1, s2⟩
        go_simp
        with_reducible rfl
       rotate_left
       ·simp only [Act.put, List.setIfInBounds_toArray, List.set_cons_zero, List.set_cons_succ, i64_w, i32_w]
        rfl
       refine take_ (i := 4) (N := some 23) (v := ?_) (a' := ?_) #[true, true, true, false, true, true, true, false, false, true, false, false, false, false] rfl rfl (take_ofW HT_.out HW_.out (by kernel_rfl)) (fun _ _ _ h => h) (Or.inl ⟨by rfl, ?_⟩) hHeld ?_ ?_
       rotate_left
       ·rintro w' ⟨s0, s1, s2⟩
        go_simp
        with_reducible rfl
       rotate_left
       ·simp only [Act.put, List.setIfInBounds_toArray, List.set_cons_zero, List.set_cons_succ, i64_w, i32_w]
        rfl
       refine take_ (i := 8) (N := some 27) (v := ?_) (a' := ?_) #[true, true, true, false, true, true, true, false, true, true, false, false, false, false] rfl rfl (take_ofW HT_.out HW_.out (by kernel_rfl)) (fun _ _ _ h => h) (Or.inl ⟨by rfl, ?_⟩) hHeld ?_ ?_
       rotate_left
       ·rintro w' ⟨s0, s1, s2⟩
        go_simp
        with_reducible rfl
       rotate_left
       ·simp only [Act.put, List.setIfInBounds_toArray, List.set_cons_zero, List.set_cons_succ, i64_w, i32_w]
        rfl
       refine one_ (i := 3) (N := some 22) #[true, true, true, true, true, true, true, false, true, true, false, false, false, false] rfl rfl (one_of HT_.out (by kernel_rfl)) (by decide) (fun K hK => ?_)
       refine goes_ Try.func28 (by kernel_rfl) rfl #[.agg #[.int .i64 a0_0, .slice A0_1 l0_1.length c0_1, .slice A0_2 l0_2.length c0_2], .int .i64 a1, .int .i64 a2] (by rfl) rfl rfl (by (try simp only [List.map_toArray, List.map_cons, List.map_nil]); first | done | rfl | (simp only [List.length_drop, List.length_take]; rfl)) ?_
       with_reducible refine (Pxe.calls k a0_0 _ _ l0_1 _ _ l0_2 a1 a2 b9 _ ?f3 ?e9 ?f4 ?e7 A6.out).mono ?_
       (case f3 => repeat (first | exact (Kd.C_below f7.out HB.out) | (with_reducible refine Kd.C_alloc ?_ _) | (with_reducible refine Kd.C_drewN ?_ _) | (with_reducible refine Kd.C_drew ?_)))
       (case e9 => exact f9.out)
       (case f4 => repeat (first | exact (Kd.C_below f5.out HB.out) | (with_reducible refine Kd.C_alloc ?_ _) | (with_reducible refine Kd.C_drewN ?_ _) | (with_reducible refine Kd.C_drew ?_)))
       (case e7 => exact f8.out)
       rintro e w168 ⟨g7, rfl, e2, hb⟩
       refine ⟨_, rfl, ?_⟩
       have a9 := Aside0.mk (Kd.R_lower e2 (below_size (by repeat (first | (with_reducible first | exact HB.out | apply below_alloc | apply pw_below_drewN | apply below_drew1 | refine below_set ?_ a7.out) | exact HB.out))))
       have b0 := Aside0.mk (blk_below (g := a6) (o := .cells #[.int .i64 a0_0, .slice A0_1 l0_1.length c0_1, .slice A0_2 l0_2.length c0_2] 25 (0, 0)) (by (with_reducible repeat (first | refine blk_drewN ?_ _ | refine blk_drew ?_ | refine blk_alloc ?_ _)); exact a3.out) hb)
       have b4 := Aside0.mk (below_step (by repeat (first | (with_reducible first | exact HB.out | apply below_alloc | apply pw_below_drewN | apply below_drew1 | refine below_set ?_ a7.out) | exact HB.out)) hb)
       clear a3
       clear HB
       have d4 := a9
       have a3 := b0
       have HB := b4
       clear a9 b0 b4
       (try clear hb)
       (try clear hb2)
       (try clear hk)
       (try clear hi)
       (try clear e2)
       refine hK.out _ _ ⟨(blk_cell a3.out 0).trans rfl, (blk_cell a3.out 1).trans rfl, (blk_cell a3.out 2).trans rfl⟩ (fun hHeld => ?_)
       clear hK K
       refine norm_ (a' := ?_) ?_ ?_
       rotate_left
       ·show Act.put _ (some 22) _ = _
        simp only [Act.put, List.setIfInBounds_toArray, List.set_cons_zero, List.set_cons_succ, i64_w, i32_w]
        rfl
       refine one_ (i := 7) (N := some 26) #[true, true, true, true, true, true, true, true, true, true, false, false, false, false] rfl rfl (one_of HT_.out (by kernel_rfl)) (by decide) (fun K hK => ?_)
       refine goes_ Try.func29 (by kernel_rfl) rfl #[.agg #[.int .i64 a0_0, .slice A0_1 l0_1.length c0_1, .slice A0_2 l0_2.length c0_2], .int .i64 a1, .int .i64 a2] (by rfl) rfl rfl (by (try simp only [List.map_toArray, List.map_cons, List.map_nil]); first | done | rfl | (simp only [List.length_drop, List.length_take]; rfl)) ?_
       with_reducible refine (Pxf.calls k a0_0 _ _ l0_1 _ _ l0_2 a1 a2 b8 _ ?f3 ?e9 ?f4 ?e7 A7.out).mono ?_
       (case f3 => repeat (first | exact (Kd.C_below f7.out HB.out) | (with_reducible refine Kd.C_alloc ?_ _) | (with_reducible refine Kd.C_drewN ?_ _) | (with_reducible refine Kd.C_drew ?_)))
       (case e9 => exact f9.out)
       (case f4 => repeat (first | exact (Kd.C_below f5.out HB.out) | (with_reducible refine Kd.C_alloc ?_ _) | (with_reducible refine Kd.C_drewN ?_ _) | (with_reducible refine Kd.C_drew ?_)))
       (case e7 => exact f8.out)
       rintro e w169 ⟨g6, rfl, e2, hb⟩
       refine ⟨_, rfl, ?_⟩
       have a9 := Aside0.mk (Kd.R_elder' (by (with_reducible repeat (first | apply Kd.R_alloc | apply Kd.R_drewN | apply Kd.R_drew)); exact d4.out) (Kd.R_base e2) hb)
       have b0 := Aside0.mk (Kd.R_lower (Kd.R_new' e2 (Kd.R_lt (by (with_reducible repeat (first | apply Kd.R_alloc | apply Kd.R_drewN | apply Kd.R_drew)); exact d4.out))) (below_size (by repeat (first | (with_reducible first | exact HB.out | apply below_alloc | apply pw_below_drewN | apply below_drew1 | refine below_set ?_ a7.out) | exact HB.out))))
       have b4 := Aside0.mk (blk_below (g := a6) (o := .cells #[.int .i64 a0_0, .slice A0_1 l0_1.length c0_1, .slice A0_2 l0_2.length c0_2] 25 (0, 0)) (by (with_reducible repeat (first | refine blk_drewN ?_ _ | refine blk_drew ?_ | refine blk_alloc ?_ _)); exact a3.out) hb)
       have b7 := Aside0.mk (below_step (by repeat (first | (with_reducible first | exact HB.out | apply below_alloc | apply pw_below_drewN | apply below_drew1 | refine below_set ?_ a7.out) | exact HB.out)) hb)
       clear d4
       clear a3
       clear HB
       have d4 := a9
       have e3 := b0
       have a3 := b4
       have HB := b7
       clear a9 b0 b4 b7
       (try clear hb)
       (try clear hb2)
       (try clear hk)
       (try clear hi)
       (try clear e2)
       refine hK.out _ _ ⟨(blk_cell a3.out 0).trans rfl, (blk_cell a3.out 1).trans rfl, (blk_cell a3.out 2).trans rfl⟩ (fun hHeld => ?_)
       clear hK K
       refine norm_ (a' := ?_) ?_ ?_
       rotate_left
       ·show Act.put _ (some 26) _ = _
        simp only [Act.put, List.setIfInBounds_toArray, List.set_cons_zero, List.set_cons_succ, i64_w, i32_w]
        rfl
       refine one_ (i := 10) (N := some 29) #[true, true, true, true, true, true, true, true, true, true, true, false, false, false] rfl rfl (one_of HT_.out (by kernel_rfl)) (by decide) (fun K hK => ?_)
       refine goes_ Try.func30 (by kernel_rfl) rfl #[.agg #[.int .i64 a0_0, .slice A0_1 l0_1.length c0_1, .slice A0_2 l0_2.length c0_2], .int .i64 a1] (by rfl) rfl rfl (by (try simp only [List.map_toArray, List.map_cons, List.map_nil]); first | done | rfl | (simp only [List.length_drop, List.length_take]; rfl)) ?_
       with_reducible refine (Pxg.calls a0_0 _ _ l0_1 _ _ l0_2 a1 b5 _ ?f3 ?e9 ?f4 ?e7 A8.out).mono ?_
       (case f3 => repeat (first | exact (Kd.C_below f7.out HB.out) | (with_reducible refine Kd.C_alloc ?_ _) | (with_reducible refine Kd.C_drewN ?_ _) | (with_reducible refine Kd.C_drew ?_)))
       (case e9 => exact f9.out)
       (case f4 => repeat (first | exact (Kd.C_below f5.out HB.out) | (with_reducible refine Kd.C_alloc ?_ _) | (with_reducible refine Kd.C_drewN ?_ _) | (with_reducible refine Kd.C_drew ?_)))
       (case e7 => exact f8.out)
       rintro e w170 ⟨h7, rfl, e2, hb⟩
       refine ⟨_, rfl, ?_⟩
       have a9 := Aside0.mk (Kd.R_below (by (with_reducible repeat (first | apply Kd.R_alloc | apply Kd.R_drewN | apply Kd.R_drew)); exact d4.out) hb)
       have b0 := Aside0.mk (Kd.R_below (by (with_reducible repeat (first | apply Kd.R_alloc | apply Kd.R_drewN | apply Kd.R_drew)); exact e3.out) hb)
       have b4 := Aside0.mk (Kd.R_lower e2 (below_size (by repeat (first | (with_reducible first | exact HB.out | apply below_alloc | apply pw_below_drewN | apply below_drew1 | refine below_set ?_ a7.out) | exact HB.out))))
       have b7 := Aside0.mk (blk_below (g := a6) (o := .cells #[.int .i64 a0_0, .slice A0_1 l0_1.length c0_1, .slice A0_2 l0_2.length c0_2] 25 (0, 0)) (by (with_reducible repeat (first | refine blk_drewN ?_ _ | refine blk_drew ?_ | refine blk_alloc ?_ _)); exact a3.out) hb)
       have d0 := Aside0.mk (below_step (by repeat (first | (with_reducible first | exact HB.out | apply below_alloc | apply pw_below_drewN | apply below_drew1 | refine below_set ?_ a7.out) | exact HB.out)) hb)
       clear d4
       clear e3
       clear a3
       clear HB
       have d4 := a9
       have e3 := b0
       have e4 := b4
       have a3 := b7
       have HB := d0
       clear a9 b0 b4 b7 d0
       (try clear hb)
       (try clear hb2)
       (try clear hk)
       (try clear hi)
       (try clear e2)
       refine hK.out _ _ ⟨(blk_cell a3.out 0).trans rfl, (blk_cell a3.out 1).trans rfl, (blk_cell a3.out 2).trans rfl⟩ (fun hHeld => ?_)
       clear hK K
       refine norm_ (a' := ?_) ?_ ?_
       rotate_left
       ·show Act.put _ (some 29) _ = _
        simp only [Act.put, List.setIfInBounds_toArray, List.set_cons_zero, List.set_cons_succ, i64_w, i32_w]
        rfl
       refine pure_ (i := 11) (N := some 7) (v := ?_) (a' := ?_) #[true, true, true, true, true, true, true, true, true, true, true, true, false, false] rfl rfl (any_of HT_.out (by kernel_rfl)) (fun _ _ _ h => h) (Or.inl ⟨by rfl, ?_⟩) ?_ ?_
       rotate_left
       ·intro w'
        go_simp
        with_reducible rfl
       rotate_left
       ·simp only [Act.put, List.setIfInBounds_toArray, List.set_cons_zero, List.set_cons_succ, i64_w, i32_w]
        rfl
       refine pure_ (i := 12) (N := some 8) (v := ?_) (a' := ?_) #[true, true, true, true, true, true, true, true, true, true, true, true, true, false] rfl rfl (any_of HT_.out (by kernel_rfl)) (fun _ _ _ h => h) (Or.inl ⟨by rfl, ?_⟩) ?_ ?_
       rotate_left
       ·intro w'
        go_simp
        with_reducible rfl
       rotate_left
       ·simp only [Act.put, List.setIfInBounds_toArray, List.set_cons_zero, List.set_cons_succ, i64_w, i32_w]
        rfl
       refine pure_ (i := 13) (N := some 9) (v := ?_) (a' := ?_) #[true, true, true, true, true, true, true, true, true, true, true, true, true, true] rfl rfl (any_of HT_.out (by kernel_rfl)) (fun _ _ _ h => h) (Or.inl ⟨by rfl, ?_⟩) ?_ ?_
       rotate_left
       ·intro w'
        go_simp
        with_reducible rfl
       rotate_left
       ·simp only [Act.put, List.setIfInBounds_toArray, List.set_cons_zero, List.set_cons_succ, i64_w, i32_w]
        rfl
       refine done_ (done_of HT_.out (by kernel_rfl)) ?_
       have y0 : w170.cell? ⟨a6, 0, none⟩ = some (.int .i64 a0_0) := (blk_cell a3.out 0).trans rfl
       have y3 : w170.cell? ⟨a6, 1, none⟩ = some (.slice A0_1 l0_1.length c0_1) := (blk_cell a3.out 1).trans rfl
       have w5 : w170.cell? ⟨a6, 2, none⟩ = some (.slice A0_2 l0_2.length c0_2) := (blk_cell a3.out 2).trans rfl
       have A3 := blk_frozen a3.out 0
       have w4 := blk_frozen a3.out 1
       have y2 := blk_frozen a3.out 2
       try go_wp2_with (first | ((with_reducible refine gate_callee (f := 15) rfl ?_); refine goesL_ (some 31) rfl rfl Try.func15 (by kernel_rfl) rfl #[.agg #[.int .i64 a0_0, .slice A0_1 l0_1.length c0_1, .slice A0_2 l0_2.length c0_2]] rfl (by (try simp only [List.map_toArray, List.map_cons, List.map_nil]); first | done | rfl | (simp only [List.length_drop, List.length_take]; rfl)) ?_; (with_reducible refine (Pr26d.calls a0_0 _ _ l0_1 _ _ l0_2 false _ ?f3 ?e9 ?f4 ?e7 A9.out).mono ?_); (case f3 => repeat (first | exact (Kd.C_below f7.out HB.out) | (with_reducible refine Kd.C_alloc ?_ _) | (with_reducible refine Kd.C_drewN ?_ _) | (with_reducible refine Kd.C_drew ?_))); (case e9 => exact f9.out); (case f4 => repeat (first | exact (Kd.C_below f5.out HB.out) | (with_reducible refine Kd.C_alloc ?_ _) | (with_reducible refine Kd.C_drewN ?_ _) | (with_reducible refine Kd.C_drew ?_))); (case e7 => exact f8.out); rintro e w172 ⟨rfl, hb⟩; refine ⟨_, rfl, ?_⟩; have a9 := Aside0.mk (Kd.R_below (by (with_reducible repeat (first | apply Kd.R_alloc | apply Kd.R_drewN | apply Kd.R_drew)); exact d4.out) hb); have b0 := Aside0.mk (Kd.R_below (by (with_reducible repeat (first | apply Kd.R_alloc | apply Kd.R_drewN | apply Kd.R_drew)); exact e3.out) hb); have b4 := Aside0.mk (Kd.R_below (by (with_reducible repeat (first | apply Kd.R_alloc | apply Kd.R_drewN | apply Kd.R_drew)); exact e4.out) hb); have b7 := Aside0.mk (blk_below (g := a6) (o := .cells #[.int .i64 a0_0, .slice A0_1 l0_1.length c0_1, .slice A0_2 l0_2.length c0_2] 25 (0, 0)) (by (with_reducible repeat (first | refine blk_drewN ?_ _ | refine blk_drew ?_ | refine blk_alloc ?_ _)); exact a3.out) hb); have d0 := Aside0.mk (below_step (by repeat (first | (with_reducible first | exact HB.out | apply below_alloc | apply pw_below_drewN | apply below_drew1 | refine below_set ?_ a7.out) | exact HB.out)) hb); clear d4; clear e3; clear e4; clear a3; clear HB; have d4 := a9; have e3 := b0; have e4 := b4; have a3 := b7; have HB := d0; clear a9 b0 b4 b7 d0; (try clear hb); (try clear hb2); (try clear hk); (try clear hi); obtain ⟨P1, Q3, u1⟩ := Kd.R_slice d4.out; subst u1; obtain ⟨R1, R5, v0⟩ := Kd.R_slice e3.out; subst v0; obtain ⟨O9, R8, u6⟩ := Kd.R_slice e4.out; subst u6; have y5 : w172.cell? ⟨a6, 0, none⟩ = some (.int .i64 a0_0) := (blk_cell a3.out 0).trans rfl; have A0 : w172.cell? ⟨a6, 1, none⟩ = some (.slice A0_1 l0_1.length c0_1) := (blk_cell a3.out 1).trans rfl; have x9 : w172.cell? ⟨a6, 2, none⟩ = some (.slice A0_2 l0_2.length c0_2) := (blk_cell a3.out 2).trans rfl; have z1 := blk_frozen a3.out 0; have x0 := blk_frozen a3.out 1; have z2 := blk_frozen a3.out 2) | (go_at_call 31; (with_reducible refine (Pxb.calls k a0_0 _ _ l0_1 _ _ l0_2 false _ ?f3 ?e9 ?f4 ?e7 w8.out).mono ?_); (case f3 => repeat (first | exact (Kd.C_below f7.out HB.out) | (with_reducible refine Kd.C_alloc ?_ _) | (with_reducible refine Kd.C_drewN ?_ _) | (with_reducible refine Kd.C_drew ?_))); (case e9 => exact f9.out); (case f4 => repeat (first | exact (Kd.C_below f5.out HB.out) | (with_reducible refine Kd.C_alloc ?_ _) | (with_reducible refine Kd.C_drewN ?_ _) | (with_reducible refine Kd.C_drew ?_))); (case e7 => exact f8.out); rintro e w177 ⟨rfl, hb⟩; have a9 := Aside0.mk (Kd.R_below (by (with_reducible repeat (first | apply Kd.R_alloc | apply Kd.R_drewN | apply Kd.R_drew)); exact d4.out) hb); have b0 := Aside0.mk (Kd.R_below (by (with_reducible repeat (first | apply Kd.R_alloc | apply Kd.R_drewN | apply Kd.R_drew)); exact e3.out) hb); have b4 := Aside0.mk (Kd.R_below (by (with_reducible repeat (first | apply Kd.R_alloc | apply Kd.R_drewN | apply Kd.R_drew)); exact e4.out) hb); have b7 := Aside0.mk (blk_below (g := a6) (o := .cells #[.int .i64 a0_0, .slice A0_1 l0_1.length c0_1, .slice A0_2 l0_2.length c0_2] 25 (0, 0)) (by (with_reducible repeat (first | refine blk_drewN ?_ _ | refine blk_drew ?_ | refine blk_alloc ?_ _)); exact a3.out) hb); have d0 := Aside0.mk (below_step (by repeat (first | (with_reducible first | exact HB.out | apply below_alloc | apply pw_below_drewN | apply below_drew1 | refine below_set ?_ a7.out) | exact HB.out)) hb); clear d4; clear e3; clear e4; clear a3; clear HB; have d4 := a9; have e3 := b0; have e4 := b4; have a3 := b7; have HB := d0; clear a9 b0 b4 b7 d0; (try clear hb); (try clear hb2); (try clear hk); (try clear hi)) | (go_at_call 24; (with_reducible refine (Pl26b.calls k  g0 _ B0.out hr_).mono ?_); rintro e w178 ⟨rfl, hb⟩; have a9 := Aside0.mk (Kd.R_below (by (with_reducible repeat (first | apply Kd.R_alloc | apply Kd.R_drewN | apply Kd.R_drew)); exact d4.out) hb); have b0 := Aside0.mk (Kd.R_below (by (with_reducible repeat (first | apply Kd.R_alloc | apply Kd.R_drewN | apply Kd.R_drew)); exact e3.out) hb); have b4 := Aside0.mk (Kd.R_below (by (with_reducible repeat (first | apply Kd.R_alloc | apply Kd.R_drewN | apply Kd.R_drew)); exact e4.out) hb); have b7 := Aside0.mk (blk_below (g := a6) (o := .cells #[.int .i64 a0_0, .slice A0_1 l0_1.length c0_1, .slice A0_2 l0_2.length c0_2] 25 (0, 0)) (by (with_reducible repeat (first | refine blk_drewN ?_ _ | refine blk_drew ?_ | refine blk_alloc ?_ _)); exact a3.out) hb); have d0 := Aside0.mk (below_step (by repeat (first | (with_reducible first | exact HB.out | apply below_alloc | apply pw_below_drewN | apply below_drew1 | refine below_set ?_ a7.out) | exact HB.out)) hb); clear d4; clear e3; clear e4; clear a3; clear HB; have d4 := a9; have e3 := b0; have e4 := b4; have a3 := b7; have HB := d0; clear a9 b0 b4 b7 d0; (try clear hb); (try clear hb2); (try clear hk); (try clear hi)))
       go_ret
       exact ⟨by first | rfl | (simp [errW_none, errW_some] <;> rfl) | (simp [*, errW_none, errW_some] <;> rfl), by repeat (first | (with_reducible first | exact HB.out | apply below_alloc | apply pw_below_drewN | apply below_drew1 | refine below_set ?_ a7.out) | exact HB.out)⟩
     ·rw [if_neg i2] at H
      have c146b0 : ((b5.length : Int) == 0) = false := beq_eq_false_iff_ne.mpr i2
      have c146b1 : ((b5.length : Int) != 0) = true := bne_iff_ne.mpr i2
      have c146b2 : ¬ (b5 = []) := fun h_ => i2 (by rw [h_]; rfl)
      obtain rfl := Option.some.inj H
      exact absurd hr_.out (by decide)
    ·rw [if_neg i4] at H
     have c145b0 : ((b8.length : Int) == 0) = false := beq_eq_false_iff_ne.mpr i4
     have c145b1 : ((b8.length : Int) != 0) = true := bne_iff_ne.mpr i4
     have c145b2 : ¬ (b8 = []) := fun h_ => i4 (by rw [h_]; rfl)
     obtain rfl := Option.some.inj H
     exact absurd hr_.out (by decide)
   ·rw [if_neg i1] at H
    have c144b0 : ((b9.length : Int) == 0) = false := beq_eq_false_iff_ne.mpr i1
    have c144b1 : ((b9.length : Int) != 0) = true := bne_iff_ne.mpr i1
    have c144b2 : ¬ (b9 = []) := fun h_ => i1 (by rw [h_]; rfl)
    obtain rfl := Option.some.inj H
    exact absurd hr_.out (by decide)
 ·replace c5 := Bool.eq_false_iff.mpr c5
  subst c5
  have H1 : ((Pl26b.f k).bind fun i0 => (some i0)) = some r := by rw [if_neg (show ¬ (false = true) by decide)] at H; exact H
  clear H
  have H := H1
  clear H1
  replace H := Option.bind_eq_some_iff.mp H
  obtain ⟨i0, n4, H⟩ := H
  replace H : (some i0) = some r := H
  have x6 := Aside0.mk n4
  clear n4
  obtain rfl := Option.some.inj H
  go_enter Try.func7, Try.ntmps7
  go_wp2_with (first | ((with_reducible refine gate_dst (N := 3) rfl ?_); (try (refine gate_guard (by rfl) ?_; dsimp only)); refine box_event ?hg (N := 3) ?hd (cs := #[.int .i64 a0_0, .slice A0_1 l0_1.length c0_1, .slice A0_2 l0_2.length c0_2]) (t := 25) ?hr ?_; (case hd => rfl); (case hg => rfl); (case hr => first | (go_simp; done) | (go_simp; rfl)); intro a6 hg w213 hbox hb; have a9 := Aside0.mk (below_step (by repeat (first | (with_reducible first | exact HB.out | apply below_alloc | apply pw_below_drewN | apply below_drew1) | exact HB.out)) hb); have b0 := Aside0.mk (hbox); have b4 := Aside0.mk ((by rw [hg]; exact (below_size (by repeat (first | (with_reducible first | exact HB.out | apply below_alloc | apply pw_below_drewN | apply below_drew1) | exact HB.out))) : w.heap.size ≤ a6)); have b7 := Aside0.mk ((by rw [hg]; exact (below_size (by repeat (first | (with_reducible first | exact HB.out | apply below_alloc | apply pw_below_drewN | apply below_drew1) | exact HB.out))) : w.heap.size ≤ a6)); clear HB; have HB := a9; have a3 := b0; have o2 := b4; have a7 := b7; clear a9 b0 b4 b7; clear hb hbox hg; have z3 : w213.cell? ⟨a6, 0, none⟩ = some (.int .i64 a0_0) := (blk_cell a3.out 0).trans rfl; have x4 : w213.cell? ⟨a6, 1, none⟩ = some (.slice A0_1 l0_1.length c0_1) := (blk_cell a3.out 1).trans rfl; have x2 : w213.cell? ⟨a6, 2, none⟩ = some (.slice A0_2 l0_2.length c0_2) := (blk_cell a3.out 2).trans rfl; have x5 := blk_frozen a3.out 0; have y7 := blk_frozen a3.out 1; have B2 := blk_frozen a3.out 2) | ((with_reducible refine gate_callee (f := 23) rfl ?_); refine goesL_ (some 16) rfl rfl Try.func23 (by kernel_rfl) rfl #[.agg #[.int .i64 a0_0, .slice A0_1 l0_1.length c0_1, .slice A0_2 l0_2.length c0_2]] rfl (by (try simp only [List.map_toArray, List.map_cons, List.map_nil]); first | done | rfl | (simp only [List.length_drop, List.length_take]; rfl)) ?_; (with_reducible refine (Pr26a.calls k a0_0 _ _ l0_1 _ _ l0_2 false _ ?f3 ?e9 ?f4 ?e7 A4.out).mono ?_); (case f3 => repeat (first | exact (Kd.C_below f7.out HB.out) | (with_reducible refine Kd.C_alloc ?_ _) | (with_reducible refine Kd.C_drewN ?_ _) | (with_reducible refine Kd.C_drew ?_))); (case e9 => exact f9.out); (case f4 => repeat (first | exact (Kd.C_below f5.out HB.out) | (with_reducible refine Kd.C_alloc ?_ _) | (with_reducible refine Kd.C_drewN ?_ _) | (with_reducible refine Kd.C_drew ?_))); (case e7 => exact f8.out); rintro e w215 ⟨rfl, hb⟩; refine ⟨_, rfl, ?_⟩; have a9 := Aside0.mk (blk_below (g := a6) (o := .cells #[.int .i64 a0_0, .slice A0_1 l0_1.length c0_1, .slice A0_2 l0_2.length c0_2] 25 (0, 0)) (by (with_reducible repeat (first | refine blk_drewN ?_ _ | refine blk_drew ?_ | refine blk_alloc ?_ _)); exact a3.out) hb); have b0 := Aside0.mk (below_step (by repeat (first | (with_reducible first | exact HB.out | apply below_alloc | apply pw_below_drewN | apply below_drew1 | refine below_set ?_ a7.out) | exact HB.out)) hb); clear a3; clear HB; have a3 := a9; have HB := b0; clear a9 b0; (try clear hb); (try clear hb2); (try clear hk); (try clear hi)) | ((with_reducible refine gate_callee (f := 24) rfl ?_); refine goesL_ (some 18) rfl rfl Try.func24 (by kernel_rfl) rfl #[] rfl (by (try simp only [List.map_toArray, List.map_cons, List.map_nil]); first | done | rfl | (simp only [List.length_drop, List.length_take]; rfl)) ?_; (with_reducible refine (Pl26b.calls k  i0 _ x6.out hr_).mono ?_); rintro e w216 ⟨rfl, hb⟩; refine ⟨_, rfl, ?_⟩; have a9 := Aside0.mk (blk_below (g := a6) (o := .cells #[.int .i64 a0_0, .slice A0_1 l0_1.length c0_1, .slice A0_2 l0_2.length c0_2] 25 (0, 0)) (by (with_reducible repeat (first | refine blk_drewN ?_ _ | refine blk_drew ?_ | refine blk_alloc ?_ _)); exact a3.out) hb); have b0 := Aside0.mk (below_step (by repeat (first | (with_reducible first | exact HB.out | apply below_alloc | apply pw_below_drewN | apply below_drew1 | refine below_set ?_ a7.out) | exact HB.out)) hb); clear a3; clear HB; have a3 := a9; have HB := b0; clear a9 b0; (try clear hb); (try clear hb2); (try clear hk); (try clear hi)))
  go_ret
  exact ⟨by first | rfl | (simp [errW_none, errW_some] <;> rfl) | (simp [*, errW_none, errW_some] <;> rfl), by repeat (first | (with_reducible first | exact HB.out | apply below_alloc | apply pw_below_drewN | apply below_drew1 | refine below_set ?_ a7.out) | exact HB.out)⟩
end Go.Proofs.Ythaaockbapbooaa.Pr
set_option linter.unusedVariables false
set_option linter.unusedSimpArgs false
namespace Go.Proofs.Ythaaockbapbooaa.H
open Go.RowKit Go.Proofs.Ythaaockbapbooaa.Pr Go.Proofs.YthaaockbapbooaaW.PrintWords Go.Proofs.Ythaaockbapbooaa.Sem
theorem Ev.pos {α : Type} {c : Prop} [Decidable c] {a b : Nat → Option α} {r : α} (h : c) (e : Ev a r) : Ev (fun k => if c then a k else b k) r := by
 simp only [if_pos h]
 exact e
theorem Ev.neg {α : Type} {c : Prop} [Decidable c] {a b : Nat → Option α} {r : α} (h : ¬ c) (e : Ev b r) : Ev (fun k => if c then a k else b k) r := by
 simp only [if_neg h]
 exact e
theorem Ev.bindS {α β : Type} {g : Option α} {f : Nat → α → Option β} {a : α} {r : β} (h : g = some a) (k : Ev (fun n => f n a) r) : Ev (fun n => g.bind (f n)) r := by
 subst h
 simpa using k
theorem Ev.last {α : Type} {g : Nat → Option α} {r : α} (h : Ev g r) : Ev (fun n => (g n).bind fun t => some t) r := by
 obtain ⟨K, h⟩ := h
 exact ⟨K, fun k hk => by simp [h k hk]⟩
theorem w1n {k : Nat} (h1 : (k : Int) < 4611686018427387904) : wrap64 ((k : Int) + 1) = ((k + 1 : Nat) : Int) := by unfold wrap64; omega
theorem rd51 (es : List Ed) (i : Nat) : rd_T51 es (i : Int) = es.getD i z51 := rfl
end Go.Proofs.Ythaaockbapbooaa.H
set_option linter.unusedVariables false
set_option linter.unusedSimpArgs false
namespace Go.Proofs.Ythaaockbapbooaa.H
open Go.RowKit Go.Proofs.Ythaaockbapbooaa.Pr Go.Proofs.YthaaockbapbooaaW.PrintWords Go.Proofs.Ythaaockbapbooaa.Sem
def SmallL (n : Int) (ls : List ByteArray) (es : List Ed) : Prop := (n ≤ 60 ∨ 2048 < n) ∧ es.length ≤ 200 ∧ ls.length < 70
theorem light26_end (n : Int) (ls : List ByteArray) (es : List Ed) (i : Int) : ∃ b, Ev (fun k => Pr26a.j1 k i false n ls es) b ∧ (b = true → SmallL n ls es) := by
 by_cases h1 : (ls.length : Int) < 70
 ·by_cases h2 : (es.length : Int) ≤ 200
  ·by_cases h3 : n ≤ 60
   ·exact ⟨true, Ev.step (fun k => Pr26a.j1.eq_2 ..) (Ev.neg (by simp) (Ev.pos h1 (Ev.pos h2 (Ev.pos h3 (Ev.now _))))), fun _ => ⟨.inl h3, by omega, by omega⟩⟩
   ·exact ⟨decide (n > 2048), Ev.step (fun k => Pr26a.j1.eq_2 ..) (Ev.neg (by simp) (Ev.pos h1 (Ev.pos h2 (Ev.neg h3 (Ev.now _))))), fun h => ⟨.inr (of_decide_eq_true h), by omega, by omega⟩⟩
  ·exact ⟨false, Ev.step (fun k => Pr26a.j1.eq_2 ..) (Ev.neg (by simp) (Ev.pos h1 (Ev.neg h2 (Ev.now _)))), fun h => by cases h⟩
 ·exact ⟨false, Ev.step (fun k => Pr26a.j1.eq_2 ..) (Ev.neg (by simp) (Ev.neg h1 (Ev.now _))), fun h => by cases h⟩
theorem light26_ev (n : Int) (ls : List ByteArray) (es : List Ed) : ∀ d i : Nat, i + d = 70 → ∃ b, Ev (fun k => Pr26a.l0 k (i : Int) n ls es) b ∧ (b = true → SmallL n ls es)
 | 0, i, h => by
  obtain ⟨b, e, hb⟩ := light26_end n ls es (i : Int)
  refine ⟨b, Ev.step (fun k => Pr26a.l0.eq_2 ..) ?_, hb⟩
  rw [decide_eq_false (show ¬ (i : Int) < 70 by omega)]
  simp only [ite_self]
  exact e
 | d + 1, i, h => by
  by_cases hl : (i : Int) < (ls.length : Int)
  ·by_cases hs : ((rdOf ByteArray.empty ls (i : Int)).size : Int) > 300
   ·refine ⟨false, Ev.step (fun k => Pr26a.l0.eq_2 ..) (Ev.pos hl ?_), fun h => by cases h⟩
    rw [decide_eq_true (show (i : Int) < 70 by omega)]
    exact Ev.step (fun k => Pr26a.j1.eq_2 ..) (Ev.pos rfl (Ev.pos (by omega) (Ev.pos hl (Ev.pos hs (Ev.now _)))))
   ·obtain ⟨b, e, hb⟩ := light26_ev n ls es d (i + 1) (by omega)
    refine ⟨b, Ev.step (fun k => Pr26a.l0.eq_2 ..) (Ev.pos hl ?_), hb⟩
    rw [decide_eq_true (show (i : Int) < 70 by omega)]
    refine Ev.step (fun k => Pr26a.j1.eq_2 ..) (Ev.pos rfl (Ev.pos (by omega) (Ev.pos hl (Ev.neg hs ?_))))
    rw [w1n (by omega)]
    exact e
  ·obtain ⟨b, e, hb⟩ := light26_end n ls es (i : Int)
   exact ⟨b, Ev.step (fun k => Pr26a.l0.eq_2 ..) (Ev.neg hl e), hb⟩
theorem light_ev (n : Int) (ls : List ByteArray) (es : List Ed) : ∃ b, Ev (fun k => Pr26a.f k n ls es) b ∧ (b = true → SmallL n ls es) := light26_ev n ls es 70 0 rfl
theorem awake26 : Ev (fun k => Pl26b.f k) true := Ev.of Pl26b.mono (k := 20) (by kernel_rfl)
end Go.Proofs.Ythaaockbapbooaa.H
