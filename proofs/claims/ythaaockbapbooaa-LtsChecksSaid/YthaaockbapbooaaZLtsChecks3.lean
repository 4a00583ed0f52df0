/-
  The law LtsChecks: for every input the call returns true, and what came in reads as it read before.
  Condition: none.
-/
import Derived.Test.YthaaockbapbooaaZLtsChecks2
namespace Go.Proofs.Ythaaockbapbooaa.Pr
open Go.RowKit Go.Proofs.YthaaockbapbooaaW.PrintWords Go.Proofs.YthaaockbapbooaaW.PrintLast Go.Proofs.YthaaockbapbooaaW.PrintMore
attribute [local go_sem] max2_int min2_int max_two min_two max_three min_three max_four min_four
set_option linter.unusedVariables false
set_option linter.unusedSimpArgs false
attribute [local go_sem high] eqA51
def Pl26b.f (k : Nat)  : Option (Bool) := (Pxd.f 3 (([(⟨#[97]⟩ : ByteArray)] : List ByteArray)) (([(⟨1, 0, 1⟩ : S51), (⟨0, 0, 1⟩ : S51), (⟨0, 0, 1⟩ : S51)] : List (S51)))).bind fun bt140 => (if bt140.2.2.2 = 0 then (if (bt140.2.2.1.length : Int) = 2 then (if 0 < (bt140.2.2.1.length : Int) then (if (((rd_T51 bt140.2.2.1 0).f0) == 0 && (((rd_T51 bt140.2.2.1 0).f1) == 0 && (((rd_T51 bt140.2.2.1 0).f2) == 1))) = true then ((Pxa.f bt140.1 bt140.2.1 bt140.2.2.1 0).bind fun t150 => ((Pr01b.f k t150 (([0, 1] : List Int))).bind fun t156 => (if t156 = true then ((Pxe.f k bt140.1 bt140.2.1 bt140.2.2.1 1 0).bind fun t157 => ((Pr01b.f k t157 (([0, 1] : List Int))).bind fun t163 => (if t163 = true then ((Pxf.f k bt140.1 bt140.2.1 bt140.2.2.1 0 0).bind fun t164 => ((Pr01b.f k t164 (([1] : List Int))).bind fun t170 => (if t170 = true then ((Pxb.f k bt140.1 bt140.2.1 bt140.2.2.1).bind fun t171 => (if t171 = true then ((Pxg.f bt140.1 bt140.2.1 bt140.2.2.1 1).bind fun t172 => (if (t172.length : Int) = 1 then ((Pxc.f 0 ([] : List ByteArray) ([] : List (S51))).bind fun t175 => (some (t175 == 1))) else (some false))) else (some false))) else (some false)))) else (some false)))) else (some false)))) else (some false)) else (none)) else (some false)) else (some false))
theorem Pl26b.mono : ∀ k, LeO (Pl26b.f k ) (Pl26b.f (k + 1) ) := by
 intro  k
 unfold Pl26b.f
 repeat' first
   | (with_reducible exact Pxe.mono _ _ _ _ _ _)
   | (with_reducible exact Pxb.mono _ _ _ _)
   | (with_reducible exact Pxf.mono _ _ _ _ _ _)
   | (with_reducible exact Pr01b.mono _ _ _)
   | (with_reducible exact LeO.refl _)
   | (with_reducible exact LeO.none _)
   | (with_reducible refine LeO.ite ?_ ?_)
   | (with_reducible refine LeO.bind ?_ (fun _ => ?_))
   | exact Pxe.mono _ _ _ _ _ _
   | exact Pxb.mono _ _ _ _
   | exact Pxf.mono _ _ _ _ _ _
   | exact Pr01b.mono _ _ _
   | exact LeO.none _
   | refine LeO.ite ?_ ?_
   | refine LeO.bind ?_ (fun _ => ?_)
set_option maxHeartbeats 8000000 in
set_option maxRecDepth 100000 in
theorem Pl26b.calls (k : Nat)  (r : Bool) (w : World) (h : Pl26b.f k  = some r) (hr_ : Aside0 (r = true)) :
  Calls Try.prog 24 #[] w fun e w' => e = .returned (.bool r) ∧ Below w.heap.size w w' := by
 have s2 := Try.underlying51
 have s5 := Try.underlying25
 have HB := Aside0.mk (Below.refl w.heap.size w)
 have H : ((Pxd.f 3 (([(⟨#[97]⟩ : ByteArray)] : List ByteArray)) (([(⟨1, 0, 1⟩ : S51), (⟨0, 0, 1⟩ : S51), (⟨0, 0, 1⟩ : S51)] : List (S51)))).bind fun a2 => (if a2.2.2.2 = 0 then (if (a2.2.2.1.length : Int) = 2 then (if 0 < (a2.2.2.1.length : Int) then (if (((rd_T51 a2.2.2.1 0).f0) == 0 && (((rd_T51 a2.2.2.1 0).f1) == 0 && (((rd_T51 a2.2.2.1 0).f2) == 1))) = true then ((Pxa.f a2.1 a2.2.1 a2.2.2.1 0).bind fun g1 => ((Pr01b.f k g1 (([0, 1] : List Int))).bind fun f7 => (if f7 = true then ((Pxe.f k a2.1 a2.2.1 a2.2.2.1 1 0).bind fun e3 => ((Pr01b.f k e3 (([0, 1] : List Int))).bind fun d8 => (if d8 = true then ((Pxf.f k a2.1 a2.2.1 a2.2.2.1 0 0).bind fun d0 => ((Pr01b.f k d0 (([1] : List Int))).bind fun b7 => (if b7 = true then ((Pxb.f k a2.1 a2.2.1 a2.2.2.1).bind fun b4 => (if b4 = true then ((Pxg.f a2.1 a2.2.1 a2.2.2.1 1).bind fun b0 => (if (b0.length : Int) = 1 then ((Pxc.f 0 ([] : List ByteArray) ([] : List (S51))).bind fun b2 => (some (b2 == 1))) else (some false))) else (some false))) else (some false)))) else (some false)))) else (some false)))) else (some false)) else (none)) else (some false)) else (some false))) = some r := h
 clear h
 obtain ⟨i0, h0⟩ : ∃ y_ : List ByteArray, y_ = (([(⟨#[97]⟩ : ByteArray)] : List ByteArray)) := ⟨_, rfl⟩
 replace H : ((Pxd.f 3 i0 (([(⟨1, 0, 1⟩ : S51), (⟨0, 0, 1⟩ : S51), (⟨0, 0, 1⟩ : S51)] : List (S51)))).bind fun a2 => (if a2.2.2.2 = 0 then (if (a2.2.2.1.length : Int) = 2 then (if 0 < (a2.2.2.1.length : Int) then (if (((rd_T51 a2.2.2.1 0).f0) == 0 && (((rd_T51 a2.2.2.1 0).f1) == 0 && (((rd_T51 a2.2.2.1 0).f2) == 1))) = true then ((Pxa.f a2.1 a2.2.1 a2.2.2.1 0).bind fun g1 => ((Pr01b.f k g1 (([0, 1] : List Int))).bind fun f7 => (if f7 = true then ((Pxe.f k a2.1 a2.2.1 a2.2.2.1 1 0).bind fun e3 => ((Pr01b.f k e3 (([0, 1] : List Int))).bind fun d8 => (if d8 = true then ((Pxf.f k a2.1 a2.2.1 a2.2.2.1 0 0).bind fun d0 => ((Pr01b.f k d0 (([1] : List Int))).bind fun b7 => (if b7 = true then ((Pxb.f k a2.1 a2.2.1 a2.2.2.1).bind fun b4 => (if b4 = true then ((Pxg.f a2.1 a2.2.1 a2.2.2.1 1).bind fun b0 => (if (b0.length : Int) = 1 then ((Pxc.f 0 ([] : List ByteArray) ([] : List (S51))).bind fun b2 => (some (b2 == 1))) else (some false))) else (some false))) else (some false)))) else (some false)))) else (some false)))) else (some false)) else (none)) else (some false)) else (some false))) = some r := by first | (rw [h0]; with_reducible exact H) | (have f8 := (Option.bind_some _ _).symm.trans H; rw [h0]; with_reducible exact f8) | (have f8 := (Option.bind_some _ _).symm.trans H; with_reducible exact f8) | with_reducible exact H | (rw [h0]; exact H) | exact H
 have j6 := Aside0.mk h0
 clear h0
 obtain ⟨i3, h3⟩ : ∃ y_ : List (S51), y_ = (([(⟨1, 0, 1⟩ : S51), (⟨0, 0, 1⟩ : S51), (⟨0, 0, 1⟩ : S51)] : List (S51))) := ⟨_, rfl⟩
 replace H : ((Pxd.f 3 i0 i3).bind fun a2 => (if a2.2.2.2 = 0 then (if (a2.2.2.1.length : Int) = 2 then (if 0 < (a2.2.2.1.length : Int) then (if (((rd_T51 a2.2.2.1 0).f0) == 0 && (((rd_T51 a2.2.2.1 0).f1) == 0 && (((rd_T51 a2.2.2.1 0).f2) == 1))) = true then ((Pxa.f a2.1 a2.2.1 a2.2.2.1 0).bind fun g1 => ((Pr01b.f k g1 (([0, 1] : List Int))).bind fun f7 => (if f7 = true then ((Pxe.f k a2.1 a2.2.1 a2.2.2.1 1 0).bind fun e3 => ((Pr01b.f k e3 (([0, 1] : List Int))).bind fun d8 => (if d8 = true then ((Pxf.f k a2.1 a2.2.1 a2.2.2.1 0 0).bind fun d0 => ((Pr01b.f k d0 (([1] : List Int))).bind fun b7 => (if b7 = true then ((Pxb.f k a2.1 a2.2.1 a2.2.2.1).bind fun b4 => (if b4 = true then ((Pxg.f a2.1 a2.2.1 a2.2.2.1 1).bind fun b0 => (if (b0.length : Int) = 1 then ((Pxc.f 0 ([] : List ByteArray) ([] : List (S51))).bind fun b2 => (some (b2 == 1))) else (some false))) else (some false))) else (some false)))) else (some false)))) else (some false)))) else (some false)) else (none)) else (some false)) else (some false))) = some r := by first | (rw [h3]; with_reducible exact H) | (have f8 := (Option.bind_some _ _).symm.trans H; rw [h3]; with_reducible exact f8) | (have f8 := (Option.bind_some _ _).symm.trans H; with_reducible exact f8) | with_reducible exact H | (rw [h3]; exact H) | exact H
 have j2 := Aside0.mk h3
 clear h3
 replace H := Option.bind_eq_some_iff.mp H
 obtain ⟨⟨a4, a3, a0, g9⟩, j4, H⟩ := H
 replace H : (if g9 = 0 then (if (a0.length : Int) = 2 then (if 0 < (a0.length : Int) then (if (((rd_T51 a0 0).f0) == 0 && (((rd_T51 a0 0).f1) == 0 && (((rd_T51 a0 0).f2) == 1))) = true then ((Pxa.f a4 a3 a0 0).bind fun g1 => ((Pr01b.f k g1 (([0, 1] : List Int))).bind fun f7 => (if f7 = true then ((Pxe.f k a4 a3 a0 1 0).bind fun e3 => ((Pr01b.f k e3 (([0, 1] : List Int))).bind fun d8 => (if d8 = true then ((Pxf.f k a4 a3 a0 0 0).bind fun d0 => ((Pr01b.f k d0 (([1] : List Int))).bind fun b7 => (if b7 = true then ((Pxb.f k a4 a3 a0).bind fun b4 => (if b4 = true then ((Pxg.f a4 a3 a0 1).bind fun b0 => (if (b0.length : Int) = 1 then ((Pxc.f 0 ([] : List ByteArray) ([] : List (S51))).bind fun b2 => (some (b2 == 1))) else (some false))) else (some false))) else (some false)))) else (some false)))) else (some false)))) else (some false)) else (none)) else (some false)) else (some false)) = some r := H
 have A1 := Aside0.mk j4
 clear j4
 by_cases c2 : g9 = 0
 ·rw [if_pos c2] at H
  have c2b0 : (g9 == 0) = true := beq_iff_eq.mpr c2
  have c2b1 : (g9 != 0) = false := bne_eq_false_iff_eq.mpr c2
  clear c2
  by_cases c3 : (a0.length : Int) = 2
  ·rw [if_pos c3] at H
   have c3b0 : ((a0.length : Int) == 2) = true := beq_iff_eq.mpr c3
   have c3b1 : ((a0.length : Int) != 2) = false := bne_eq_false_iff_eq.mpr c3
   clear c3
   by_cases c4 : 0 < (a0.length : Int)
   ·rw [if_pos c4] at H
    have c4b0 : decide (0 < (a0.length : Int)) = true := decide_eq_true c4
    have c4b1 : decide (0 < a0.length) = true := decide_eq_true (by omega)
    clear c4
    by_cases c5 : (((rd_T51 a0 0).f0) == 0 && (((rd_T51 a0 0).f1) == 0 && (((rd_T51 a0 0).f2) == 1))) = true
    ·rw [if_pos c5] at H
     have c5b0 : (((rd_T51 a0 0).f0) == 0 && (((rd_T51 a0 0).f1) == 0 && (((rd_T51 a0 0).f2) == 1))) = true := c5
     (try (have c5b1 : decide (((rd_T51 a0 0).f0) = 0 && (((rd_T51 a0 0).f1) == 0 && (((rd_T51 a0 0).f2) == 1))) = true := by simpa using c5))
     (try (have c5b2 : (((rd_T51 a0 0).f0) == 0 && (((rd_T51 a0 0).f1) == 0 && (((rd_T51 a0 0).f2) == 1))) = true := by simpa using c5))
     clear c5
     replace H := Option.bind_eq_some_iff.mp H
     obtain ⟨g1, m0, H⟩ := H
     replace H : ((Pr01b.f k g1 (([0, 1] : List Int))).bind fun f7 => (if f7 = true then ((Pxe.f k a4 a3 a0 1 0).bind fun e3 => ((Pr01b.f k e3 (([0, 1] : List Int))).bind fun d8 => (if d8 = true then ((Pxf.f k a4 a3 a0 0 0).bind fun d0 => ((Pr01b.f k d0 (([1] : List Int))).bind fun b7 => (if b7 = true then ((Pxb.f k a4 a3 a0).bind fun b4 => (if b4 = true then ((Pxg.f a4 a3 a0 1).bind fun b0 => (if (b0.length : Int) = 1 then ((Pxc.f 0 ([] : List ByteArray) ([] : List (S51))).bind fun b2 => (some (b2 == 1))) else (some false))) else (some false))) else (some false)))) else (some false)))) else (some false))) = some r := H
     have A6 := Aside0.mk m0
     clear m0
     obtain ⟨l3, h1⟩ : ∃ y_ : List Int, y_ = (([0, 1] : List Int)) := ⟨_, rfl⟩
     replace H : ((Pr01b.f k g1 l3).bind fun f7 => (if f7 = true then ((Pxe.f k a4 a3 a0 1 0).bind fun e3 => ((Pr01b.f k e3 (([0, 1] : List Int))).bind fun d8 => (if d8 = true then ((Pxf.f k a4 a3 a0 0 0).bind fun d0 => ((Pr01b.f k d0 (([1] : List Int))).bind fun b7 => (if b7 = true then ((Pxb.f k a4 a3 a0).bind fun b4 => (if b4 = true then ((Pxg.f a4 a3 a0 1).bind fun b0 => (if (b0.length : Int) = 1 then ((Pxc.f 0 ([] : List ByteArray) ([] : List (S51))).bind fun b2 => (some (b2 == 1))) else (some false))) else (some false))) else (some false)))) else (some false)))) else (some false))) = some r := by first | (rw [h1]; with_reducible exact H) | (have f8 := (Option.bind_some _ _).symm.trans H; rw [h1]; with_reducible exact f8) | (have f8 := (Option.bind_some _ _).symm.trans H; with_reducible exact f8) | with_reducible exact H | (rw [h1]; exact H) | exact H
     have i7 := Aside0.mk h1
     clear h1
     replace H := Option.bind_eq_some_iff.mp H
     obtain ⟨f7, l9, H⟩ := H
     replace H : (if f7 = true then ((Pxe.f k a4 a3 a0 1 0).bind fun e3 => ((Pr01b.f k e3 (([0, 1] : List Int))).bind fun d8 => (if d8 = true then ((Pxf.f k a4 a3 a0 0 0).bind fun d0 => ((Pr01b.f k d0 (([1] : List Int))).bind fun b7 => (if b7 = true then ((Pxb.f k a4 a3 a0).bind fun b4 => (if b4 = true then ((Pxg.f a4 a3 a0 1).bind fun b0 => (if (b0.length : Int) = 1 then ((Pxc.f 0 ([] : List ByteArray) ([] : List (S51))).bind fun b2 => (some (b2 == 1))) else (some false))) else (some false))) else (some false)))) else (some false)))) else (some false)) = some r := H
     have A7 := Aside0.mk l9
     clear l9
     by_cases c8 : f7 = true
     ·subst c8
      have H1 : ((Pxe.f k a4 a3 a0 1 0).bind fun e3 => ((Pr01b.f k e3 (([0, 1] : List Int))).bind fun d8 => (if d8 = true then ((Pxf.f k a4 a3 a0 0 0).bind fun d0 => ((Pr01b.f k d0 (([1] : List Int))).bind fun b7 => (if b7 = true then ((Pxb.f k a4 a3 a0).bind fun b4 => (if b4 = true then ((Pxg.f a4 a3 a0 1).bind fun b0 => (if (b0.length : Int) = 1 then ((Pxc.f 0 ([] : List ByteArray) ([] : List (S51))).bind fun b2 => (some (b2 == 1))) else (some false))) else (some false))) else (some false)))) else (some false)))) = some r := by rw [if_pos rfl] at H; exact H
      clear H
      have H := H1
      clear H1
      replace H := Option.bind_eq_some_iff.mp H
      obtain ⟨e3, m1, H⟩ := H
      replace H : ((Pr01b.f k e3 (([0, 1] : List Int))).bind fun d8 => (if d8 = true then ((Pxf.f k a4 a3 a0 0 0).bind fun d0 => ((Pr01b.f k d0 (([1] : List Int))).bind fun b7 => (if b7 = true then ((Pxb.f k a4 a3 a0).bind fun b4 => (if b4 = true then ((Pxg.f a4 a3 a0 1).bind fun b0 => (if (b0.length : Int) = 1 then ((Pxc.f 0 ([] : List ByteArray) ([] : List (S51))).bind fun b2 => (some (b2 == 1))) else (some false))) else (some false))) else (some false)))) else (some false))) = some r := H
      have A9 := Aside0.mk m1
      clear m1
      obtain ⟨k0, h4⟩ : ∃ y_ : List Int, y_ = (([0, 1] : List Int)) := ⟨_, rfl⟩
      replace H : ((Pr01b.f k e3 k0).bind fun d8 => (if d8 = true then ((Pxf.f k a4 a3 a0 0 0).bind fun d0 => ((Pr01b.f k d0 (([1] : List Int))).bind fun b7 => (if b7 = true then ((Pxb.f k a4 a3 a0).bind fun b4 => (if b4 = true then ((Pxg.f a4 a3 a0 1).bind fun b0 => (if (b0.length : Int) = 1 then ((Pxc.f 0 ([] : List ByteArray) ([] : List (S51))).bind fun b2 => (some (b2 == 1))) else (some false))) else (some false))) else (some false)))) else (some false))) = some r := by first | (rw [h4]; with_reducible exact H) | (have f8 := (Option.bind_some _ _).symm.trans H; rw [h4]; with_reducible exact f8) | (have f8 := (Option.bind_some _ _).symm.trans H; with_reducible exact f8) | with_reducible exact H | (rw [h4]; exact H) | exact H
      have j5 := Aside0.mk h4
      clear h4
      replace H := Option.bind_eq_some_iff.mp H
      obtain ⟨d8, k7, H⟩ := H
      replace H : (if d8 = true then ((Pxf.f k a4 a3 a0 0 0).bind fun d0 => ((Pr01b.f k d0 (([1] : List Int))).bind fun b7 => (if b7 = true then ((Pxb.f k a4 a3 a0).bind fun b4 => (if b4 = true then ((Pxg.f a4 a3 a0 1).bind fun b0 => (if (b0.length : Int) = 1 then ((Pxc.f 0 ([] : List ByteArray) ([] : List (S51))).bind fun b2 => (some (b2 == 1))) else (some false))) else (some false))) else (some false)))) else (some false)) = some r := H
      have j4 := Aside0.mk k7
      clear k7
      by_cases i6 : d8 = true
      ·subst i6
       have H1 : ((Pxf.f k a4 a3 a0 0 0).bind fun d0 => ((Pr01b.f k d0 (([1] : List Int))).bind fun b7 => (if b7 = true then ((Pxb.f k a4 a3 a0).bind fun b4 => (if b4 = true then ((Pxg.f a4 a3 a0 1).bind fun b0 => (if (b0.length : Int) = 1 then ((Pxc.f 0 ([] : List ByteArray) ([] : List (S51))).bind fun b2 => (some (b2 == 1))) else (some false))) else (some false))) else (some false)))) = some r := by rw [if_pos rfl] at H; exact H
       clear H
       have H := H1
       clear H1
       replace H := Option.bind_eq_some_iff.mp H
       obtain ⟨d0, l8, H⟩ := H
       replace H : ((Pr01b.f k d0 (([1] : List Int))).bind fun b7 => (if b7 = true then ((Pxb.f k a4 a3 a0).bind fun b4 => (if b4 = true then ((Pxg.f a4 a3 a0 1).bind fun b0 => (if (b0.length : Int) = 1 then ((Pxc.f 0 ([] : List ByteArray) ([] : List (S51))).bind fun b2 => (some (b2 == 1))) else (some false))) else (some false))) else (some false))) = some r := H
       have q6 := Aside0.mk l8
       clear l8
       obtain ⟨k2, h2⟩ : ∃ y_ : List Int, y_ = (([1] : List Int)) := ⟨_, rfl⟩
       replace H : ((Pr01b.f k d0 k2).bind fun b7 => (if b7 = true then ((Pxb.f k a4 a3 a0).bind fun b4 => (if b4 = true then ((Pxg.f a4 a3 a0 1).bind fun b0 => (if (b0.length : Int) = 1 then ((Pxc.f 0 ([] : List ByteArray) ([] : List (S51))).bind fun b2 => (some (b2 == 1))) else (some false))) else (some false))) else (some false))) = some r := by first | (rw [h2]; with_reducible exact H) | (have f8 := (Option.bind_some _ _).symm.trans H; rw [h2]; with_reducible exact f8) | (have f8 := (Option.bind_some _ _).symm.trans H; with_reducible exact f8) | with_reducible exact H | (rw [h2]; exact H) | exact H
       have i8 := Aside0.mk h2
       clear h2
       replace H := Option.bind_eq_some_iff.mp H
       obtain ⟨b7, k4, H⟩ := H
       replace H : (if b7 = true then ((Pxb.f k a4 a3 a0).bind fun b4 => (if b4 = true then ((Pxg.f a4 a3 a0 1).bind fun b0 => (if (b0.length : Int) = 1 then ((Pxc.f 0 ([] : List ByteArray) ([] : List (S51))).bind fun b2 => (some (b2 == 1))) else (some false))) else (some false))) else (some false)) = some r := H
       have q7 := Aside0.mk k4
       clear k4
       by_cases j3 : b7 = true
       ·subst j3
        have H1 : ((Pxb.f k a4 a3 a0).bind fun b4 => (if b4 = true then ((Pxg.f a4 a3 a0 1).bind fun b0 => (if (b0.length : Int) = 1 then ((Pxc.f 0 ([] : List ByteArray) ([] : List (S51))).bind fun b2 => (some (b2 == 1))) else (some false))) else (some false))) = some r := by rw [if_pos rfl] at H; exact H
        clear H
        have H := H1
        clear H1
        replace H := Option.bind_eq_some_iff.mp H
        obtain ⟨b4, k1, H⟩ := H
        replace H : (if b4 = true then ((Pxg.f a4 a3 a0 1).bind fun b0 => (if (b0.length : Int) = 1 then ((Pxc.f 0 ([] : List ByteArray) ([] : List (S51))).bind fun b2 => (some (b2 == 1))) else (some false))) else (some false)) = some r := H
        have q4 := Aside0.mk k1
        clear k1
        by_cases i9 : b4 = true
        ·subst i9
         have H1 : ((Pxg.f a4 a3 a0 1).bind fun b0 => (if (b0.length : Int) = 1 then ((Pxc.f 0 ([] : List ByteArray) ([] : List (S51))).bind fun b2 => (some (b2 == 1))) else (some false))) = some r := by rw [if_pos rfl] at H; exact H
         clear H
         have H := H1
         clear H1
         replace H := Option.bind_eq_some_iff.mp H
         obtain ⟨b0, j7, H⟩ := H
         replace H : (if (b0.length : Int) = 1 then ((Pxc.f 0 ([] : List ByteArray) ([] : List (S51))).bind fun b2 => (some (b2 == 1))) else (some false)) = some r := H
         have q8 := Aside0.mk j7
         clear j7
         by_cases h7 : (b0.length : Int) = 1
         ·rw [if_pos h7] at H
          have c18b0 : ((b0.length : Int) == 1) = true := beq_iff_eq.mpr h7
          have c18b1 : ((b0.length : Int) != 1) = false := bne_eq_false_iff_eq.mpr h7
          clear h7
          replace H := Option.bind_eq_some_iff.mp H
          obtain ⟨b2, k3, H⟩ := H
          replace H : (some (b2 == 1)) = some r := H
          have q5 := Aside0.mk k3
          clear k3
          obtain rfl := Option.some.inj H
          go_enter Try.func24, Try.ntmps24
          go_wp2_with (first | ((with_reducible refine gate_dst (N := 4) rfl ?_); (try (refine gate_guard (by rfl) ?_; dsimp only)); refine Kd.R_lit Kd.string _ 9 ?hg (N := 4) ?hd (xs := ([(⟨#[97]⟩ : ByteArray)] : List ByteArray)) (inner := [.string (⟨#[97]⟩ : ByteArray)]) (ok := fun _ => True) (okp := fun _ => True) ?hr ?hp (fun _ hk => hk) trivial (Below.refl _ _) (Nat.le_refl _) (by simp) ?_; (case hd => rfl); (case hg => rfl); (case hr => first | (go_simp; done) | (go_simp; rfl)); (case hp => exact (Reps.one (show Kd.M Kd.string _ _ _ (⟨#[97]⟩ : ByteArray) [.string (⟨#[97]⟩ : ByteArray)] from rfl) (Reps.none _ _))); intro s7 u4 i1 hb hg_ hnew_; clear hg_ hnew_; (first | rw [← j6.out] at i1 | (simp only [Int.reduceToNat] at i1; rw [← j6.out] at i1)); have b8 := Aside0.mk (Kd.R_lower i1 (below_size (by repeat (first | (with_reducible first | exact HB.out | apply below_alloc | apply pw_below_drewN | apply below_drew1) | exact HB.out)))); have b9 := Aside0.mk (below_step (by repeat (first | (with_reducible first | exact HB.out | apply below_alloc | apply pw_below_drewN | apply below_drew1) | exact HB.out)) hb); clear HB; have a8 := b8; have HB := b9; clear b8 b9; clear hb i1) | ((with_reducible refine gate_dst (N := 8) rfl ?_); (try (refine gate_guard (by rfl) ?_; dsimp only)); refine Kd.R_lit k51 _ 51 ?hg (N := 8) ?hd (xs := ([(⟨1, 0, 1⟩ : S51), (⟨0, 0, 1⟩ : S51), (⟨0, 0, 1⟩ : S51)] : List (S51))) (inner := [.int .i64 1, .int .i64 0, .int .i64 1, .int .i64 0, .int .i64 0, .int .i64 1, .int .i64 0, .int .i64 0, .int .i64 1]) (ok := fun _ => True) (okp := fun _ => True) ?hr ?hp (fun _ hk => hk) trivial (Below.refl _ _) (Nat.le_refl _) (by simp) ?_; (case hd => rfl); (case hg => rfl); (case hr => first | (go_simp; done) | (go_simp; rfl)); (case hp => exact (Reps.c3 (show Kd.M k51 _ _ _ (⟨1, 0, 1⟩ : S51) [.int .i64 1, .int .i64 0, .int .i64 1] from (k51_mkM _ _ _ (⟨1, 0, 1⟩ : S51) )) (Reps.c3 (show Kd.M k51 _ _ _ (⟨0, 0, 1⟩ : S51) [.int .i64 0, .int .i64 0, .int .i64 1] from (k51_mkM _ _ _ (⟨0, 0, 1⟩ : S51) )) (Reps.c3 (show Kd.M k51 _ _ _ (⟨0, 0, 1⟩ : S51) [.int .i64 0, .int .i64 0, .int .i64 1] from (k51_mkM _ _ _ (⟨0, 0, 1⟩ : S51) )) (Reps.none _ _))))); intro r2 u5 h9 hb hg_ hnew_; clear hg_ hnew_; (first | rw [← j2.out] at h9 | (simp only [Int.reduceToNat] at h9; rw [← j2.out] at h9)); have b8 := Aside0.mk (Kd.R_below (by (with_reducible repeat (first | apply Kd.R_alloc | apply Kd.R_drewN | apply Kd.R_drew)); exact a8.out) hb); have b9 := Aside0.mk (Kd.R_lower h9 (below_size (by repeat (first | (with_reducible first | exact HB.out | apply below_alloc | apply pw_below_drewN | apply below_drew1) | exact HB.out)))); have d1 := Aside0.mk (below_step (by repeat (first | (with_reducible first | exact HB.out | apply below_alloc | apply pw_below_drewN | apply below_drew1) | exact HB.out)) hb); clear a8; clear HB; have a8 := b8; have a9 := b9; have HB := d1; clear b8 b9 d1; clear hb h9; obtain ⟨l7, k9, m7⟩ := Kd.R_slice a9.out; subst m7; obtain ⟨l4, j8, m3⟩ := Kd.R_slice a8.out; subst m3) | ((with_reducible refine gate_callee (f := 25) rfl ?_); refine goesL_ (some 10) rfl rfl Try.func25 (by kernel_rfl) rfl #[.agg #[.int .i64 3, .slice l4 i0.length j8, .slice l7 i3.length k9]] rfl (by (try simp only [List.map_toArray, List.map_cons, List.map_nil]); first | done | rfl | (simp only [List.length_drop, List.length_take]; rfl)) ?_; (with_reducible refine (Pxd.calls 3 _ _ i0 _ _ i3 a4 a3 a0 g9 _ ?g2 ?g5 ?g4 ?g3 A1.out).mono ?_); (case g2 => repeat (first | exact (Kd.R_reads' a8.out).2.2 | (with_reducible refine Kd.C_alloc ?_ _) | (with_reducible refine Kd.C_drewN ?_ _) | (with_reducible refine Kd.C_drew ?_))); (case g5 => exact (Kd.R_reads' a8.out).2.1); (case g4 => repeat (first | exact (Kd.R_reads' a9.out).2.2 | (with_reducible refine Kd.C_alloc ?_ _) | (with_reducible refine Kd.C_drewN ?_ _) | (with_reducible refine Kd.C_drew ?_))); (case g3 => exact (Kd.R_reads' a9.out).2.1); rintro e u1 ⟨t7, s8, rfl, e8, l5, hb⟩; refine ⟨_, rfl, ?_⟩; have b8 := Aside0.mk (Kd.R_elder' (by (with_reducible repeat (first | apply Kd.R_alloc | apply Kd.R_drewN | apply Kd.R_drew)); exact a8.out) (Kd.R_base e8) hb); have b9 := Aside0.mk (Kd.R_elder' (by (with_reducible repeat (first | apply Kd.R_alloc | apply Kd.R_drewN | apply Kd.R_drew)); exact a9.out) (Kd.R_base l5) hb); have d1 := Aside0.mk (Kd.R_lower (Kd.R_new' e8 (Kd.R_lt (by (with_reducible repeat (first | apply Kd.R_alloc | apply Kd.R_drewN | apply Kd.R_drew)); exact a8.out))) (below_size (by repeat (first | (with_reducible first | exact HB.out | apply below_alloc | apply pw_below_drewN | apply below_drew1) | exact HB.out)))); have d5 := Aside0.mk (Kd.R_lower (Kd.R_new' l5 (Kd.R_lt (by (with_reducible repeat (first | apply Kd.R_alloc | apply Kd.R_drewN | apply Kd.R_drew)); exact a9.out))) (below_size (by repeat (first | (with_reducible first | exact HB.out | apply below_alloc | apply pw_below_drewN | apply below_drew1) | exact HB.out)))); have d4 := Aside0.mk (below_step (by repeat (first | (with_reducible first | exact HB.out | apply below_alloc | apply pw_below_drewN | apply below_drew1) | exact HB.out)) hb); clear a8; clear a9; clear HB; have a8 := b8; have a9 := b9; have a7 := d1; have a6 := d5; have HB := d4; clear b8 b9 d1 d5 d4; (try clear hb); (try clear i2); (try clear hk); (try clear hi); (try clear e8); (try clear l5)) | ((with_reducible refine gate_dst (N := 1) rfl ?_); (try (refine gate_guard (by rfl) ?_; dsimp only)); refine box_event ?hg (N := 1) ?hd (cs := #[.int .i64 0, .slice none 0 0, .slice none 0 0]) (t := 25) ?hr ?_; (case hd => rfl); (case hg => rfl); (case hr => first | (go_simp; done) | (go_simp; rfl)); intro a5 hg k5 hbox hb; have b8 := Aside0.mk (Kd.R_below (by (with_reducible repeat (first | apply Kd.R_alloc | apply Kd.R_drewN | apply Kd.R_drew)); exact a8.out) hb); have b9 := Aside0.mk (Kd.R_below (by (with_reducible repeat (first | apply Kd.R_alloc | apply Kd.R_drewN | apply Kd.R_drew)); exact a9.out) hb); have d1 := Aside0.mk (Kd.R_below (by (with_reducible repeat (first | apply Kd.R_alloc | apply Kd.R_drewN | apply Kd.R_drew)); exact a7.out) hb); have d5 := Aside0.mk (Kd.R_below (by (with_reducible repeat (first | apply Kd.R_alloc | apply Kd.R_drewN | apply Kd.R_drew)); exact a6.out) hb); have d4 := Aside0.mk (below_step (by repeat (first | (with_reducible first | exact HB.out | apply below_alloc | apply pw_below_drewN | apply below_drew1) | exact HB.out)) hb); have e1 := Aside0.mk (hbox); have e0 := Aside0.mk ((by rw [hg]; exact (below_size (by repeat (first | (with_reducible first | exact HB.out | apply below_alloc | apply pw_below_drewN | apply below_drew1) | exact HB.out))) : w.heap.size ≤ a5)); have e4 := Aside0.mk ((by rw [hg]; exact (below_size (by repeat (first | (with_reducible first | exact HB.out | apply below_alloc | apply pw_below_drewN | apply below_drew1) | exact HB.out))) : w.heap.size ≤ a5)); clear a8; clear a9; clear a7; clear a6; clear HB; have a8 := b8; have a9 := b9; have a7 := d1; have a6 := d5; have HB := d4; have a1 := e1; have q9 := e0; have d9 := e4; clear b8 b9 d1 d5 d4 e1 e0 e4; clear hb hbox hg; have o5 : k5.cell? ⟨a5, 0, none⟩ = some (.int .i64 0) := (blk_cell a1.out 0).trans rfl; have p0 : k5.cell? ⟨a5, 1, none⟩ = some (.slice none 0 0) := (blk_cell a1.out 1).trans rfl; have n9 : k5.cell? ⟨a5, 2, none⟩ = some (.slice none 0 0) := (blk_cell a1.out 2).trans rfl; have p2 := blk_frozen a1.out 0; have o0 := blk_frozen a1.out 1; have p4 := blk_frozen a1.out 2; obtain ⟨d7, d3, n2⟩ := Kd.R_slice a7.out; subst n2; obtain ⟨t2, d6, n3⟩ := Kd.R_slice a6.out; subst n3; have i4 : 0 ≤ (0 : Int) := (by omega); have i5 : 0 < (a0.length : Int) := of_decide_eq_true (by first | (with_reducible assumption) | assumption); obtain ⟨b5, m9, f3, e9, f4⟩ := at_T51 (Kd.R_reads' a6.out).2.2 0 i4 i5; cases m9; have r0 : (0 < a0.length) = True := eq_true (by omega); (try rw [show ((0 : Int)).toNat = 0 from rfl] at f3); (try rw [show 0 * 3 = 0 from rfl] at f3); (try rw [Addr.add_zero'] at f3); (try rw [show ((0 : Int)).toNat = 0 from rfl] at e9); (try rw [show 0 * 3 = 0 from rfl] at e9); (try rw [Addr.add_zero'] at e9); (try rw [show ((0 : Int)).toNat = 0 from rfl] at f4); (try rw [show 0 * 3 = 0 from rfl] at f4); (try rw [Addr.add_zero'] at f4); have e5 : b5.block ≠ a5 := Kd.own_blk (Kd.R_ne a6.out a1.out (by decide)); have e6 : b5.block ≠ a5 := Kd.own_blk (Kd.R_ne a6.out a1.out (by decide)); have e7 : b5.block ≠ a5 := Kd.own_blk (Kd.R_ne a6.out a1.out (by decide)); replace f3 := (cell_far (p := ⟨a5, 0, none⟩) (by first | (rw [add_block]; exact e5) | (show (Addr.add _ _).block ≠ _; rw [add_block]; exact e5) | exact e5) (.int .i64 a4)).trans f3; replace e9 := (cell_far (p := ⟨a5, 0, none⟩) (by first | (rw [add_block]; exact e5) | (show (Addr.add _ _).block ≠ _; rw [add_block]; exact e5) | exact e5) (.int .i64 a4)).trans e9; replace f4 := (cell_far (p := ⟨a5, 0, none⟩) (by first | (rw [add_block]; exact e5) | (show (Addr.add _ _).block ≠ _; rw [add_block]; exact e5) | exact e5) (.int .i64 a4)).trans f4; replace f3 := (cell_far (p := ⟨a5, 1, none⟩) (by first | (rw [add_block]; exact e6) | (show (Addr.add _ _).block ≠ _; rw [add_block]; exact e6) | exact e6) (.slice d7 a3.length d3)).trans f3; replace e9 := (cell_far (p := ⟨a5, 1, none⟩) (by first | (rw [add_block]; exact e6) | (show (Addr.add _ _).block ≠ _; rw [add_block]; exact e6) | exact e6) (.slice d7 a3.length d3)).trans e9; replace f4 := (cell_far (p := ⟨a5, 1, none⟩) (by first | (rw [add_block]; exact e6) | (show (Addr.add _ _).block ≠ _; rw [add_block]; exact e6) | exact e6) (.slice d7 a3.length d3)).trans f4; replace f3 := (cell_far (p := ⟨a5, 2, none⟩) (by first | (rw [add_block]; exact e7) | (show (Addr.add _ _).block ≠ _; rw [add_block]; exact e7) | exact e7) (.slice (some b5) a0.length d6)).trans f3; replace e9 := (cell_far (p := ⟨a5, 2, none⟩) (by first | (rw [add_block]; exact e7) | (show (Addr.add _ _).block ≠ _; rw [add_block]; exact e7) | exact e7) (.slice (some b5) a0.length d6)).trans e9; replace f4 := (cell_far (p := ⟨a5, 2, none⟩) (by first | (rw [add_block]; exact e7) | (show (Addr.add _ _).block ≠ _; rw [add_block]; exact e7) | exact e7) (.slice (some b5) a0.length d6)).trans f4; clear e5; clear e6; clear e7; replace i4 := eq_true i4; replace i5 := eq_true i5) | (go_at_call 34; (with_reducible refine (Pxa.calls a4 _ _ a3 _ _ a0 0 g1 _ ?g2 ?g5 ?g4 ?g3 A6.out).mono ?_); (case g2 => refine (Kd.R_reads' (e := 9) (base := w.heap.size) (ok := fun k_ => (True ∧ some k_ ≠ (.slice l4 i0.length j8 : Value).ownBlock)) (n := a3.length) (c := d3) ?_).2.2; exact (by (with_reducible repeat (first | apply Kd.R_alloc | apply Kd.R_drewN | apply Kd.R_drew)); exact (Kd.R_mono (Kd.R_far (p := ⟨a5, 2, none⟩) (Kd.R_far (p := ⟨a5, 1, none⟩) (Kd.R_far (p := ⟨a5, 0, none⟩) (Kd.R_types a7.out a1.out (by decide)) (fun _ hk => hk.2) (.int .i64 a4)) (fun _ hk => hk.2) (.slice d7 a3.length d3)) (fun _ hk => hk.2) (.slice (some b5) a0.length d6)) (fun _ h_ => h_.1)))); (case g5 => exact (Kd.R_reads' a7.out).2.1); (case g4 => refine (Kd.R_reads' (e := 51) (base := w.heap.size) (ok := fun k_ => (True ∧ some k_ ≠ (.slice l7 i3.length k9 : Value).ownBlock)) (n := a0.length) (c := d6) ?_).2.2; exact (by (with_reducible repeat (first | apply Kd.R_alloc | apply Kd.R_drewN | apply Kd.R_drew)); exact (Kd.R_mono (Kd.R_far (p := ⟨a5, 2, none⟩) (Kd.R_far (p := ⟨a5, 1, none⟩) (Kd.R_far (p := ⟨a5, 0, none⟩) (Kd.R_types a6.out a1.out (by decide)) (fun _ hk => hk.2) (.int .i64 a4)) (fun _ hk => hk.2) (.slice d7 a3.length d3)) (fun _ hk => hk.2) (.slice (some b5) a0.length d6)) (fun _ h_ => h_.1)))); (case g3 => exact (Kd.R_reads' a6.out).2.1); rintro e u6 ⟨s9, rfl, e8, hb⟩; have b8 := Aside0.mk (Kd.R_below (by (with_reducible repeat (first | apply Kd.R_alloc | apply Kd.R_drewN | apply Kd.R_drew)); exact (Kd.R_mono (Kd.R_far (p := ⟨a5, 2, none⟩) (Kd.R_far (p := ⟨a5, 1, none⟩) (Kd.R_far (p := ⟨a5, 0, none⟩) (Kd.R_types a8.out a1.out (by decide)) (fun _ hk => hk.2) (.int .i64 a4)) (fun _ hk => hk.2) (.slice d7 a3.length d3)) (fun _ hk => hk.2) (.slice (some b5) a0.length d6)) (fun _ h_ => h_.1))) hb); have b9 := Aside0.mk (Kd.R_below (by (with_reducible repeat (first | apply Kd.R_alloc | apply Kd.R_drewN | apply Kd.R_drew)); exact (Kd.R_mono (Kd.R_far (p := ⟨a5, 2, none⟩) (Kd.R_far (p := ⟨a5, 1, none⟩) (Kd.R_far (p := ⟨a5, 0, none⟩) (Kd.R_types a9.out a1.out (by decide)) (fun _ hk => hk.2) (.int .i64 a4)) (fun _ hk => hk.2) (.slice d7 a3.length d3)) (fun _ hk => hk.2) (.slice (some b5) a0.length d6)) (fun _ h_ => h_.1))) hb); have d1 := Aside0.mk (Kd.R_below (by (with_reducible repeat (first | apply Kd.R_alloc | apply Kd.R_drewN | apply Kd.R_drew)); exact (Kd.R_mono (Kd.R_far (p := ⟨a5, 2, none⟩) (Kd.R_far (p := ⟨a5, 1, none⟩) (Kd.R_far (p := ⟨a5, 0, none⟩) (Kd.R_types a7.out a1.out (by decide)) (fun _ hk => hk.2) (.int .i64 a4)) (fun _ hk => hk.2) (.slice d7 a3.length d3)) (fun _ hk => hk.2) (.slice (some b5) a0.length d6)) (fun _ h_ => h_.1))) hb); have d5 := Aside0.mk (Kd.R_below (by (with_reducible repeat (first | apply Kd.R_alloc | apply Kd.R_drewN | apply Kd.R_drew)); exact (Kd.R_mono (Kd.R_far (p := ⟨a5, 2, none⟩) (Kd.R_far (p := ⟨a5, 1, none⟩) (Kd.R_far (p := ⟨a5, 0, none⟩) (Kd.R_types a6.out a1.out (by decide)) (fun _ hk => hk.2) (.int .i64 a4)) (fun _ hk => hk.2) (.slice d7 a3.length d3)) (fun _ hk => hk.2) (.slice (some b5) a0.length d6)) (fun _ h_ => h_.1))) hb); have d4 := Aside0.mk (Kd.R_lower e8 (below_size (by repeat (first | (with_reducible first | exact HB.out | apply below_alloc | apply pw_below_drewN | apply below_drew1 | refine below_set ?_ d9.out) | exact HB.out)))); have e1 := Aside0.mk (blk_below (g := a5) (o := .cells #[.int .i64 a4, .slice d7 a3.length d3, .slice (some b5) a0.length d6] 25 (0, 0)) (by (with_reducible repeat (first | refine blk_drewN ?_ _ | refine blk_drew ?_ | refine blk_alloc ?_ _)); refine blk_put (cs := #[.int .i64 a4, .slice d7 a3.length d3, .slice none 0 0]) ?_ 2 _ rfl; (with_reducible repeat (first | refine blk_drewN ?_ _ | refine blk_drew ?_ | refine blk_alloc ?_ _)); refine blk_put (cs := #[.int .i64 a4, .slice none 0 0, .slice none 0 0]) ?_ 1 _ rfl; (with_reducible repeat (first | refine blk_drewN ?_ _ | refine blk_drew ?_ | refine blk_alloc ?_ _)); refine blk_put (cs := #[.int .i64 0, .slice none 0 0, .slice none 0 0]) ?_ 0 _ rfl; (with_reducible repeat (first | refine blk_drewN ?_ _ | refine blk_drew ?_ | refine blk_alloc ?_ _)); exact a1.out) hb); have e0 := Aside0.mk (below_step (by repeat (first | (with_reducible first | exact HB.out | apply below_alloc | apply pw_below_drewN | apply below_drew1 | refine below_set ?_ d9.out) | exact HB.out)) hb); clear a8; clear a9; clear a7; clear a6; clear a1; clear HB; have a8 := b8; have a9 := b9; have a7 := d1; have a6 := d5; have b1 := d4; have a1 := e1; have HB := e0; clear b8 b9 d1 d5 d4 e1 e0; (try clear hb); (try clear i2); (try clear hk); (try clear hi); (try clear e8)) | ((with_reducible refine gate_dst (N := 32) rfl ?_); (try (refine gate_guard (by rfl) ?_; dsimp only)); refine Kd.R_lit (Kd.int .i64) _ 3 ?hg (N := 32) ?hd (xs := ([0, 1] : List Int)) (inner := [.int .i64 0, .int .i64 1]) (ok := fun _ => True) (okp := fun _ => True) ?hr ?hp (fun _ hk => hk) trivial (Below.refl _ _) (Nat.le_refl _) (by simp) ?_; (case hd => rfl); (case hg => rfl); (case hr => first | (go_simp; done) | (go_simp; rfl)); (case hp => exact (Reps.one (show Kd.M (Kd.int .i64) _ _ _ 0 [.int .i64 0] from rfl) (Reps.one (show Kd.M (Kd.int .i64) _ _ _ 1 [.int .i64 1] from rfl) (Reps.none _ _)))); intro t4 k6 h5 hb hg_ hnew_; clear hg_ hnew_; (first | rw [← i7.out] at h5 | (simp only [Int.reduceToNat] at h5; rw [← i7.out] at h5)); have b8 := Aside0.mk (Kd.R_below (by (with_reducible repeat (first | apply Kd.R_alloc | apply Kd.R_drewN | apply Kd.R_drew)); exact a8.out) hb); have b9 := Aside0.mk (Kd.R_below (by (with_reducible repeat (first | apply Kd.R_alloc | apply Kd.R_drewN | apply Kd.R_drew)); exact a9.out) hb); have d1 := Aside0.mk (Kd.R_below (by (with_reducible repeat (first | apply Kd.R_alloc | apply Kd.R_drewN | apply Kd.R_drew)); exact a7.out) hb); have d5 := Aside0.mk (Kd.R_below (by (with_reducible repeat (first | apply Kd.R_alloc | apply Kd.R_drewN | apply Kd.R_drew)); exact a6.out) hb); have d4 := Aside0.mk (Kd.R_elder' (by (with_reducible repeat (first | apply Kd.R_alloc | apply Kd.R_drewN | apply Kd.R_drew)); exact b1.out) (Kd.R_base h5) hb); have e1 := Aside0.mk (Kd.R_lower (Kd.R_new' h5 (Kd.R_lt (by (with_reducible repeat (first | apply Kd.R_alloc | apply Kd.R_drewN | apply Kd.R_drew)); exact b1.out))) (below_size (by repeat (first | (with_reducible first | exact HB.out | apply below_alloc | apply pw_below_drewN | apply below_drew1 | refine below_set ?_ d9.out) | exact HB.out)))); have e0 := Aside0.mk (blk_below (g := a5) (o := .cells #[.int .i64 a4, .slice d7 a3.length d3, .slice (some b5) a0.length d6] 25 (0, 0)) (by (with_reducible repeat (first | refine blk_drewN ?_ _ | refine blk_drew ?_ | refine blk_alloc ?_ _)); exact a1.out) hb); have e4 := Aside0.mk (below_step (by repeat (first | (with_reducible first | exact HB.out | apply below_alloc | apply pw_below_drewN | apply below_drew1 | refine below_set ?_ d9.out) | exact HB.out)) hb); clear a8; clear a9; clear a7; clear a6; clear b1; clear a1; clear HB; have a8 := b8; have a9 := b9; have a7 := d1; have a6 := d5; have b1 := d4; have b3 := e1; have a1 := e0; have HB := e4; clear b8 b9 d1 d5 d4 e1 e0 e4; clear hb h5; obtain ⟨r4, r8, m8⟩ := Kd.R_slice b1.out; subst m8; obtain ⟨s4, s6, m4⟩ := Kd.R_slice b3.out; subst m4) | (go_at_call 33; (with_reducible refine (Pr01b.calls k _ _ g1 _ _ l3 true _ ?g2 ?g5 ?g4 ?g3 A7.out).mono ?_); (case g2 => repeat (first | exact (Kd.R_reads' b1.out).2.2 | (with_reducible refine Kd.C_alloc ?_ _) | (with_reducible refine Kd.C_drewN ?_ _) | (with_reducible refine Kd.C_drew ?_))); (case g5 => exact (Kd.R_reads' b1.out).2.1); (case g4 => repeat (first | exact (Kd.R_reads' b3.out).2.2 | (with_reducible refine Kd.C_alloc ?_ _) | (with_reducible refine Kd.C_drewN ?_ _) | (with_reducible refine Kd.C_drew ?_))); (case g3 => exact (Kd.R_reads' b3.out).2.1); rintro e w' ⟨rfl, ⟨nd, rfl⟩⟩; have n5 : k6.cell? ⟨a5, 0, none⟩ = some (.int .i64 a4) := (blk_cell a1.out 0).trans rfl; have o1 : k6.cell? ⟨a5, 1, none⟩ = some (.slice d7 a3.length d3) := (blk_cell a1.out 1).trans rfl; have o7 : k6.cell? ⟨a5, 2, none⟩ = some (.slice (some b5) a0.length d6) := (blk_cell a1.out 2).trans rfl; have p3 := blk_frozen a1.out 0; have q3 := blk_frozen a1.out 1; have n4 := blk_frozen a1.out 2) | (go_at_call 29; (with_reducible refine (Pxe.calls k a4 _ _ a3 _ _ a0 1 0 e3 _ ?g2 ?g5 ?g4 ?g3 A9.out).mono ?_); (case g2 => repeat (first | exact (Kd.R_reads' a7.out).2.2 | (with_reducible refine Kd.C_alloc ?_ _) | (with_reducible refine Kd.C_drewN ?_ _) | (with_reducible refine Kd.C_drew ?_))); (case g5 => exact (Kd.R_reads' a7.out).2.1); (case g4 => repeat (first | exact (Kd.R_reads' a6.out).2.2 | (with_reducible refine Kd.C_alloc ?_ _) | (with_reducible refine Kd.C_drewN ?_ _) | (with_reducible refine Kd.C_drew ?_))); (case g3 => exact (Kd.R_reads' a6.out).2.1); rintro e u2 ⟨t5, rfl, e8, hb⟩; have b8 := Aside0.mk (Kd.R_below (by (with_reducible repeat (first | apply Kd.R_alloc | apply Kd.R_drewN | apply Kd.R_drew)); exact a8.out) hb); have b9 := Aside0.mk (Kd.R_below (by (with_reducible repeat (first | apply Kd.R_alloc | apply Kd.R_drewN | apply Kd.R_drew)); exact a9.out) hb); have d1 := Aside0.mk (Kd.R_below (by (with_reducible repeat (first | apply Kd.R_alloc | apply Kd.R_drewN | apply Kd.R_drew)); exact a7.out) hb); have d5 := Aside0.mk (Kd.R_below (by (with_reducible repeat (first | apply Kd.R_alloc | apply Kd.R_drewN | apply Kd.R_drew)); exact a6.out) hb); have d4 := Aside0.mk (Kd.R_elder' (by (with_reducible repeat (first | apply Kd.R_alloc | apply Kd.R_drewN | apply Kd.R_drew)); exact b1.out) (Kd.R_base e8) hb); have e1 := Aside0.mk (Kd.R_elder' (by (with_reducible repeat (first | apply Kd.R_alloc | apply Kd.R_drewN | apply Kd.R_drew)); exact b3.out) (Kd.R_base e8) hb); have e0 := Aside0.mk (Kd.R_lower (Kd.R_new' (Kd.R_new' e8 (Kd.R_lt (by (with_reducible repeat (first | apply Kd.R_alloc | apply Kd.R_drewN | apply Kd.R_drew)); exact b1.out))) (Kd.R_lt (by (with_reducible repeat (first | apply Kd.R_alloc | apply Kd.R_drewN | apply Kd.R_drew)); exact b3.out))) (below_size (by repeat (first | (with_reducible first | exact HB.out | apply below_alloc | apply pw_below_drewN | apply below_drew1 | refine below_set ?_ d9.out) | exact HB.out)))); have e4 := Aside0.mk (blk_below (g := a5) (o := .cells #[.int .i64 a4, .slice d7 a3.length d3, .slice (some b5) a0.length d6] 25 (0, 0)) (by (with_reducible repeat (first | refine blk_drewN ?_ _ | refine blk_drew ?_ | refine blk_alloc ?_ _)); exact a1.out) hb); have f6 := Aside0.mk (below_step (by repeat (first | (with_reducible first | exact HB.out | apply below_alloc | apply pw_below_drewN | apply below_drew1 | refine below_set ?_ d9.out) | exact HB.out)) hb); clear a8; clear a9; clear a7; clear a6; clear b1; clear b3; clear a1; clear HB; have a8 := b8; have a9 := b9; have a7 := d1; have a6 := d5; have b1 := d4; have b3 := e1; have b6 := e0; have a1 := e4; have HB := f6; clear b8 b9 d1 d5 d4 e1 e0 e4 f6; (try clear hb); (try clear i2); (try clear hk); (try clear hi); (try clear e8)) | ((with_reducible refine gate_dst (N := 38) rfl ?_); (try (refine gate_guard (by rfl) ?_; dsimp only)); refine Kd.R_lit (Kd.int .i64) _ 3 ?hg (N := 38) ?hd (xs := ([0, 1] : List Int)) (inner := [.int .i64 0, .int .i64 1]) (ok := fun _ => True) (okp := fun _ => True) ?hr ?hp (fun _ hk => hk) trivial (Below.refl _ _) (Nat.le_refl _) (by simp) ?_; (case hd => rfl); (case hg => rfl); (case hr => first | (go_simp; done) | (go_simp; rfl)); (case hp => exact (Reps.one (show Kd.M (Kd.int .i64) _ _ _ 0 [.int .i64 0] from rfl) (Reps.one (show Kd.M (Kd.int .i64) _ _ _ 1 [.int .i64 1] from rfl) (Reps.none _ _)))); intro t0 l6 g8 hb hg_ hnew_; clear hg_ hnew_; (first | rw [← j5.out] at g8 | (simp only [Int.reduceToNat] at g8; rw [← j5.out] at g8)); have b8 := Aside0.mk (Kd.R_below (by (with_reducible repeat (first | apply Kd.R_alloc | apply Kd.R_drewN | apply Kd.R_drew)); exact a8.out) hb); have b9 := Aside0.mk (Kd.R_below (by (with_reducible repeat (first | apply Kd.R_alloc | apply Kd.R_drewN | apply Kd.R_drew)); exact a9.out) hb); have d1 := Aside0.mk (Kd.R_below (by (with_reducible repeat (first | apply Kd.R_alloc | apply Kd.R_drewN | apply Kd.R_drew)); exact a7.out) hb); have d5 := Aside0.mk (Kd.R_below (by (with_reducible repeat (first | apply Kd.R_alloc | apply Kd.R_drewN | apply Kd.R_drew)); exact a6.out) hb); have d4 := Aside0.mk (Kd.R_elder' (by (with_reducible repeat (first | apply Kd.R_alloc | apply Kd.R_drewN | apply Kd.R_drew)); exact b1.out) (Kd.R_base g8) hb); have e1 := Aside0.mk (Kd.R_elder' (by (with_reducible repeat (first | apply Kd.R_alloc | apply Kd.R_drewN | apply Kd.R_drew)); exact b3.out) (Kd.R_base g8) hb); have e0 := Aside0.mk (Kd.R_elder' (by (with_reducible repeat (first | apply Kd.R_alloc | apply Kd.R_drewN | apply Kd.R_drew)); exact b6.out) (Kd.R_base g8) hb); have e4 := Aside0.mk (Kd.R_lower (Kd.R_new' (Kd.R_new' (Kd.R_new' g8 (Kd.R_lt (by (with_reducible repeat (first | apply Kd.R_alloc | apply Kd.R_drewN | apply Kd.R_drew)); exact b1.out))) (Kd.R_lt (by (with_reducible repeat (first | apply Kd.R_alloc | apply Kd.R_drewN | apply Kd.R_drew)); exact b3.out))) (Kd.R_lt (by (with_reducible repeat (first | apply Kd.R_alloc | apply Kd.R_drewN | apply Kd.R_drew)); exact b6.out))) (below_size (by repeat (first | (with_reducible first | exact HB.out | apply below_alloc | apply pw_below_drewN | apply below_drew1 | refine below_set ?_ d9.out) | exact HB.out)))); have f6 := Aside0.mk (blk_below (g := a5) (o := .cells #[.int .i64 a4, .slice d7 a3.length d3, .slice (some b5) a0.length d6] 25 (0, 0)) (by (with_reducible repeat (first | refine blk_drewN ?_ _ | refine blk_drew ?_ | refine blk_alloc ?_ _)); exact a1.out) hb); have g0 := Aside0.mk (below_step (by repeat (first | (with_reducible first | exact HB.out | apply below_alloc | apply pw_below_drewN | apply below_drew1 | refine below_set ?_ d9.out) | exact HB.out)) hb); clear a8; clear a9; clear a7; clear a6; clear b1; clear b3; clear b6; clear a1; clear HB; have a8 := b8; have a9 := b9; have a7 := d1; have a6 := d5; have b1 := d4; have b3 := e1; have b6 := e0; have d2 := e4; have a1 := f6; have HB := g0; clear b8 b9 d1 d5 d4 e1 e0 e4 f6 g0; clear hb g8; obtain ⟨t6, t1, n1⟩ := Kd.R_slice b6.out; subst n1; obtain ⟨r5, r6, n0⟩ := Kd.R_slice d2.out; subst n0) | (go_at_call 33; (with_reducible refine (Pr01b.calls k _ _ e3 _ _ k0 true _ ?g2 ?g5 ?g4 ?g3 j4.out).mono ?_); (case g2 => repeat (first | exact (Kd.R_reads' b6.out).2.2 | (with_reducible refine Kd.C_alloc ?_ _) | (with_reducible refine Kd.C_drewN ?_ _) | (with_reducible refine Kd.C_drew ?_))); (case g5 => exact (Kd.R_reads' b6.out).2.1); (case g4 => repeat (first | exact (Kd.R_reads' d2.out).2.2 | (with_reducible refine Kd.C_alloc ?_ _) | (with_reducible refine Kd.C_drewN ?_ _) | (with_reducible refine Kd.C_drew ?_))); (case g3 => exact (Kd.R_reads' d2.out).2.1); rintro e w' ⟨rfl, ⟨nd, rfl⟩⟩; have o9 : l6.cell? ⟨a5, 0, none⟩ = some (.int .i64 a4) := (blk_cell a1.out 0).trans rfl; have o4 : l6.cell? ⟨a5, 1, none⟩ = some (.slice d7 a3.length d3) := (blk_cell a1.out 1).trans rfl; have o2 : l6.cell? ⟨a5, 2, none⟩ = some (.slice (some b5) a0.length d6) := (blk_cell a1.out 2).trans rfl; have p9 := blk_frozen a1.out 0; have o8 := blk_frozen a1.out 1; have n8 := blk_frozen a1.out 2) | (go_at_call 28; (with_reducible refine (Pxf.calls k a4 _ _ a3 _ _ a0 0 0 d0 _ ?g2 ?g5 ?g4 ?g3 q6.out).mono ?_); (case g2 => repeat (first | exact (Kd.R_reads' a7.out).2.2 | (with_reducible refine Kd.C_alloc ?_ _) | (with_reducible refine Kd.C_drewN ?_ _) | (with_reducible refine Kd.C_drew ?_))); (case g5 => exact (Kd.R_reads' a7.out).2.1); (case g4 => repeat (first | exact (Kd.R_reads' a6.out).2.2 | (with_reducible refine Kd.C_alloc ?_ _) | (with_reducible refine Kd.C_drewN ?_ _) | (with_reducible refine Kd.C_drew ?_))); (case g3 => exact (Kd.R_reads' a6.out).2.1); rintro e u3 ⟨r1, rfl, e8, hb⟩; have b8 := Aside0.mk (Kd.R_below (by (with_reducible repeat (first | apply Kd.R_alloc | apply Kd.R_drewN | apply Kd.R_drew)); exact a8.out) hb); have b9 := Aside0.mk (Kd.R_below (by (with_reducible repeat (first | apply Kd.R_alloc | apply Kd.R_drewN | apply Kd.R_drew)); exact a9.out) hb); have d1 := Aside0.mk (Kd.R_below (by (with_reducible repeat (first | apply Kd.R_alloc | apply Kd.R_drewN | apply Kd.R_drew)); exact a7.out) hb); have d5 := Aside0.mk (Kd.R_below (by (with_reducible repeat (first | apply Kd.R_alloc | apply Kd.R_drewN | apply Kd.R_drew)); exact a6.out) hb); have d4 := Aside0.mk (Kd.R_elder' (by (with_reducible repeat (first | apply Kd.R_alloc | apply Kd.R_drewN | apply Kd.R_drew)); exact b1.out) (Kd.R_base e8) hb); have e1 := Aside0.mk (Kd.R_elder' (by (with_reducible repeat (first | apply Kd.R_alloc | apply Kd.R_drewN | apply Kd.R_drew)); exact b3.out) (Kd.R_base e8) hb); have e0 := Aside0.mk (Kd.R_elder' (by (with_reducible repeat (first | apply Kd.R_alloc | apply Kd.R_drewN | apply Kd.R_drew)); exact b6.out) (Kd.R_base e8) hb); have e4 := Aside0.mk (Kd.R_elder' (by (with_reducible repeat (first | apply Kd.R_alloc | apply Kd.R_drewN | apply Kd.R_drew)); exact d2.out) (Kd.R_base e8) hb); have f6 := Aside0.mk (Kd.R_lower (Kd.R_new' (Kd.R_new' (Kd.R_new' (Kd.R_new' e8 (Kd.R_lt (by (with_reducible repeat (first | apply Kd.R_alloc | apply Kd.R_drewN | apply Kd.R_drew)); exact b1.out))) (Kd.R_lt (by (with_reducible repeat (first | apply Kd.R_alloc | apply Kd.R_drewN | apply Kd.R_drew)); exact b3.out))) (Kd.R_lt (by (with_reducible repeat (first | apply Kd.R_alloc | apply Kd.R_drewN | apply Kd.R_drew)); exact b6.out))) (Kd.R_lt (by (with_reducible repeat (first | apply Kd.R_alloc | apply Kd.R_drewN | apply Kd.R_drew)); exact d2.out))) (below_size (by repeat (first | (with_reducible first | exact HB.out | apply below_alloc | apply pw_below_drewN | apply below_drew1 | refine below_set ?_ d9.out) | exact HB.out)))); have g0 := Aside0.mk (blk_below (g := a5) (o := .cells #[.int .i64 a4, .slice d7 a3.length d3, .slice (some b5) a0.length d6] 25 (0, 0)) (by (with_reducible repeat (first | refine blk_drewN ?_ _ | refine blk_drew ?_ | refine blk_alloc ?_ _)); exact a1.out) hb); have f9 := Aside0.mk (below_step (by repeat (first | (with_reducible first | exact HB.out | apply below_alloc | apply pw_below_drewN | apply below_drew1 | refine below_set ?_ d9.out) | exact HB.out)) hb); clear a8; clear a9; clear a7; clear a6; clear b1; clear b3; clear b6; clear d2; clear a1; clear HB; have a8 := b8; have a9 := b9; have a7 := d1; have a6 := d5; have b1 := d4; have b3 := e1; have b6 := e0; have d2 := e4; have e2 := f6; have a1 := g0; have HB := f9; clear b8 b9 d1 d5 d4 e1 e0 e4 f6 g0 f9; (try clear hb); (try clear i2); (try clear hk); (try clear hi); (try clear e8)) | ((with_reducible refine gate_dst (N := 44) rfl ?_); (try (refine gate_guard (by rfl) ?_; dsimp only)); refine Kd.R_lit (Kd.int .i64) _ 3 ?hg (N := 44) ?hd (xs := ([1] : List Int)) (inner := [.int .i64 1]) (ok := fun _ => True) (okp := fun _ => True) ?hr ?hp (fun _ hk => hk) trivial (Below.refl _ _) (Nat.le_refl _) (by simp) ?_; (case hd => rfl); (case hg => rfl); (case hr => first | (go_simp; done) | (go_simp; rfl)); (case hp => exact (Reps.one (show Kd.M (Kd.int .i64) _ _ _ 1 [.int .i64 1] from rfl) (Reps.none _ _))); intro t3 j9 g7 hb hg_ hnew_; clear hg_ hnew_; (first | rw [← i8.out] at g7 | (simp only [Int.reduceToNat] at g7; rw [← i8.out] at g7)); have b8 := Aside0.mk (Kd.R_below (by (with_reducible repeat (first | apply Kd.R_alloc | apply Kd.R_drewN | apply Kd.R_drew)); exact a8.out) hb); have b9 := Aside0.mk (Kd.R_below (by (with_reducible repeat (first | apply Kd.R_alloc | apply Kd.R_drewN | apply Kd.R_drew)); exact a9.out) hb); have d1 := Aside0.mk (Kd.R_below (by (with_reducible repeat (first | apply Kd.R_alloc | apply Kd.R_drewN | apply Kd.R_drew)); exact a7.out) hb); have d5 := Aside0.mk (Kd.R_below (by (with_reducible repeat (first | apply Kd.R_alloc | apply Kd.R_drewN | apply Kd.R_drew)); exact a6.out) hb); have d4 := Aside0.mk (Kd.R_elder' (by (with_reducible repeat (first | apply Kd.R_alloc | apply Kd.R_drewN | apply Kd.R_drew)); exact b1.out) (Kd.R_base g7) hb); have e1 := Aside0.mk (Kd.R_elder' (by (with_reducible repeat (first | apply Kd.R_alloc | apply Kd.R_drewN | apply Kd.R_drew)); exact b3.out) (Kd.R_base g7) hb); have e0 := Aside0.mk (Kd.R_elder' (by (with_reducible repeat (first | apply Kd.R_alloc | apply Kd.R_drewN | apply Kd.R_drew)); exact b6.out) (Kd.R_base g7) hb); have e4 := Aside0.mk (Kd.R_elder' (by (with_reducible repeat (first | apply Kd.R_alloc | apply Kd.R_drewN | apply Kd.R_drew)); exact d2.out) (Kd.R_base g7) hb); have f6 := Aside0.mk (Kd.R_elder' (by (with_reducible repeat (first | apply Kd.R_alloc | apply Kd.R_drewN | apply Kd.R_drew)); exact e2.out) (Kd.R_base g7) hb); have g0 := Aside0.mk (Kd.R_lower (Kd.R_new' (Kd.R_new' (Kd.R_new' (Kd.R_new' (Kd.R_new' g7 (Kd.R_lt (by (with_reducible repeat (first | apply Kd.R_alloc | apply Kd.R_drewN | apply Kd.R_drew)); exact b1.out))) (Kd.R_lt (by (with_reducible repeat (first | apply Kd.R_alloc | apply Kd.R_drewN | apply Kd.R_drew)); exact b3.out))) (Kd.R_lt (by (with_reducible repeat (first | apply Kd.R_alloc | apply Kd.R_drewN | apply Kd.R_drew)); exact b6.out))) (Kd.R_lt (by (with_reducible repeat (first | apply Kd.R_alloc | apply Kd.R_drewN | apply Kd.R_drew)); exact d2.out))) (Kd.R_lt (by (with_reducible repeat (first | apply Kd.R_alloc | apply Kd.R_drewN | apply Kd.R_drew)); exact e2.out))) (below_size (by repeat (first | (with_reducible first | exact HB.out | apply below_alloc | apply pw_below_drewN | apply below_drew1 | refine below_set ?_ d9.out) | exact HB.out)))); have f9 := Aside0.mk (blk_below (g := a5) (o := .cells #[.int .i64 a4, .slice d7 a3.length d3, .slice (some b5) a0.length d6] 25 (0, 0)) (by (with_reducible repeat (first | refine blk_drewN ?_ _ | refine blk_drew ?_ | refine blk_alloc ?_ _)); exact a1.out) hb); have g6 := Aside0.mk (below_step (by repeat (first | (with_reducible first | exact HB.out | apply below_alloc | apply pw_below_drewN | apply below_drew1 | refine below_set ?_ d9.out) | exact HB.out)) hb); clear a8; clear a9; clear a7; clear a6; clear b1; clear b3; clear b6; clear d2; clear e2; clear a1; clear HB; have a8 := b8; have a9 := b9; have a7 := d1; have a6 := d5; have b1 := d4; have b3 := e1; have b6 := e0; have d2 := e4; have e2 := f6; have f5 := g0; have a1 := f9; have HB := g6; clear b8 b9 d1 d5 d4 e1 e0 e4 f6 g0 f9 g6; clear hb g7; obtain ⟨s0, r3, m2⟩ := Kd.R_slice e2.out; subst m2; obtain ⟨s3, r9, m5⟩ := Kd.R_slice f5.out; subst m5) | (go_at_call 33; (with_reducible refine (Pr01b.calls k _ _ d0 _ _ k2 true _ ?g2 ?g5 ?g4 ?g3 q7.out).mono ?_); (case g2 => repeat (first | exact (Kd.R_reads' e2.out).2.2 | (with_reducible refine Kd.C_alloc ?_ _) | (with_reducible refine Kd.C_drewN ?_ _) | (with_reducible refine Kd.C_drew ?_))); (case g5 => exact (Kd.R_reads' e2.out).2.1); (case g4 => repeat (first | exact (Kd.R_reads' f5.out).2.2 | (with_reducible refine Kd.C_alloc ?_ _) | (with_reducible refine Kd.C_drewN ?_ _) | (with_reducible refine Kd.C_drew ?_))); (case g3 => exact (Kd.R_reads' f5.out).2.1); rintro e w' ⟨rfl, ⟨nd, rfl⟩⟩; have p6 : j9.cell? ⟨a5, 0, none⟩ = some (.int .i64 a4) := (blk_cell a1.out 0).trans rfl; have o3 : j9.cell? ⟨a5, 1, none⟩ = some (.slice d7 a3.length d3) := (blk_cell a1.out 1).trans rfl; have n6 : j9.cell? ⟨a5, 2, none⟩ = some (.slice (some b5) a0.length d6) := (blk_cell a1.out 2).trans rfl; have p5 := blk_frozen a1.out 0; have q0 := blk_frozen a1.out 1; have p8 := blk_frozen a1.out 2) | (go_at_call 31; (with_reducible refine (Pxb.calls k a4 _ _ a3 _ _ a0 true _ ?g2 ?g5 ?g4 ?g3 q4.out).mono ?_); (case g2 => repeat (first | exact (Kd.R_reads' a7.out).2.2 | (with_reducible refine Kd.C_alloc ?_ _) | (with_reducible refine Kd.C_drewN ?_ _) | (with_reducible refine Kd.C_drew ?_))); (case g5 => exact (Kd.R_reads' a7.out).2.1); (case g4 => repeat (first | exact (Kd.R_reads' a6.out).2.2 | (with_reducible refine Kd.C_alloc ?_ _) | (with_reducible refine Kd.C_drewN ?_ _) | (with_reducible refine Kd.C_drew ?_))); (case g3 => exact (Kd.R_reads' a6.out).2.1); rintro e k8 ⟨rfl, hb⟩; have b8 := Aside0.mk (Kd.R_below (by (with_reducible repeat (first | apply Kd.R_alloc | apply Kd.R_drewN | apply Kd.R_drew)); exact a8.out) hb); have b9 := Aside0.mk (Kd.R_below (by (with_reducible repeat (first | apply Kd.R_alloc | apply Kd.R_drewN | apply Kd.R_drew)); exact a9.out) hb); have d1 := Aside0.mk (Kd.R_below (by (with_reducible repeat (first | apply Kd.R_alloc | apply Kd.R_drewN | apply Kd.R_drew)); exact a7.out) hb); have d5 := Aside0.mk (Kd.R_below (by (with_reducible repeat (first | apply Kd.R_alloc | apply Kd.R_drewN | apply Kd.R_drew)); exact a6.out) hb); have d4 := Aside0.mk (Kd.R_below (by (with_reducible repeat (first | apply Kd.R_alloc | apply Kd.R_drewN | apply Kd.R_drew)); exact b1.out) hb); have e1 := Aside0.mk (Kd.R_below (by (with_reducible repeat (first | apply Kd.R_alloc | apply Kd.R_drewN | apply Kd.R_drew)); exact b3.out) hb); have e0 := Aside0.mk (Kd.R_below (by (with_reducible repeat (first | apply Kd.R_alloc | apply Kd.R_drewN | apply Kd.R_drew)); exact b6.out) hb); have e4 := Aside0.mk (Kd.R_below (by (with_reducible repeat (first | apply Kd.R_alloc | apply Kd.R_drewN | apply Kd.R_drew)); exact d2.out) hb); have f6 := Aside0.mk (Kd.R_below (by (with_reducible repeat (first | apply Kd.R_alloc | apply Kd.R_drewN | apply Kd.R_drew)); exact e2.out) hb); have g0 := Aside0.mk (Kd.R_below (by (with_reducible repeat (first | apply Kd.R_alloc | apply Kd.R_drewN | apply Kd.R_drew)); exact f5.out) hb); have f9 := Aside0.mk (blk_below (g := a5) (o := .cells #[.int .i64 a4, .slice d7 a3.length d3, .slice (some b5) a0.length d6] 25 (0, 0)) (by (with_reducible repeat (first | refine blk_drewN ?_ _ | refine blk_drew ?_ | refine blk_alloc ?_ _)); exact a1.out) hb); have g6 := Aside0.mk (below_step (by repeat (first | (with_reducible first | exact HB.out | apply below_alloc | apply pw_below_drewN | apply below_drew1 | refine below_set ?_ d9.out) | exact HB.out)) hb); clear a8; clear a9; clear a7; clear a6; clear b1; clear b3; clear b6; clear d2; clear e2; clear f5; clear a1; clear HB; have a8 := b8; have a9 := b9; have a7 := d1; have a6 := d5; have b1 := d4; have b3 := e1; have b6 := e0; have d2 := e4; have e2 := f6; have f5 := g0; have a1 := f9; have HB := g6; clear b8 b9 d1 d5 d4 e1 e0 e4 f6 g0 f9 g6; (try clear hb); (try clear i2); (try clear hk); (try clear hi); have o6 : k8.cell? ⟨a5, 0, none⟩ = some (.int .i64 a4) := (blk_cell a1.out 0).trans rfl; have n7 : k8.cell? ⟨a5, 1, none⟩ = some (.slice d7 a3.length d3) := (blk_cell a1.out 1).trans rfl; have p1 : k8.cell? ⟨a5, 2, none⟩ = some (.slice (some b5) a0.length d6) := (blk_cell a1.out 2).trans rfl; have p7 := blk_frozen a1.out 0; have q1 := blk_frozen a1.out 1; have q2 := blk_frozen a1.out 2) | (go_at_call 30; (with_reducible refine (Pxg.calls a4 _ _ a3 _ _ a0 1 b0 _ ?g2 ?g5 ?g4 ?g3 q8.out).mono ?_); (case g2 => repeat (first | exact (Kd.R_reads' a7.out).2.2 | (with_reducible refine Kd.C_alloc ?_ _) | (with_reducible refine Kd.C_drewN ?_ _) | (with_reducible refine Kd.C_drew ?_))); (case g5 => exact (Kd.R_reads' a7.out).2.1); (case g4 => repeat (first | exact (Kd.R_reads' a6.out).2.2 | (with_reducible refine Kd.C_alloc ?_ _) | (with_reducible refine Kd.C_drewN ?_ _) | (with_reducible refine Kd.C_drew ?_))); (case g3 => exact (Kd.R_reads' a6.out).2.1); rintro e t9 ⟨s1, rfl, e8, hb⟩; have b8 := Aside0.mk (Kd.R_below (by (with_reducible repeat (first | apply Kd.R_alloc | apply Kd.R_drewN | apply Kd.R_drew)); exact a8.out) hb); have b9 := Aside0.mk (Kd.R_elder' (by (with_reducible repeat (first | apply Kd.R_alloc | apply Kd.R_drewN | apply Kd.R_drew)); exact a9.out) (Kd.R_base e8) hb); have d1 := Aside0.mk (Kd.R_below (by (with_reducible repeat (first | apply Kd.R_alloc | apply Kd.R_drewN | apply Kd.R_drew)); exact a7.out) hb); have d5 := Aside0.mk (Kd.R_elder' (by (with_reducible repeat (first | apply Kd.R_alloc | apply Kd.R_drewN | apply Kd.R_drew)); exact a6.out) (Kd.R_base e8) hb); have d4 := Aside0.mk (Kd.R_below (by (with_reducible repeat (first | apply Kd.R_alloc | apply Kd.R_drewN | apply Kd.R_drew)); exact b1.out) hb); have e1 := Aside0.mk (Kd.R_below (by (with_reducible repeat (first | apply Kd.R_alloc | apply Kd.R_drewN | apply Kd.R_drew)); exact b3.out) hb); have e0 := Aside0.mk (Kd.R_below (by (with_reducible repeat (first | apply Kd.R_alloc | apply Kd.R_drewN | apply Kd.R_drew)); exact b6.out) hb); have e4 := Aside0.mk (Kd.R_below (by (with_reducible repeat (first | apply Kd.R_alloc | apply Kd.R_drewN | apply Kd.R_drew)); exact d2.out) hb); have f6 := Aside0.mk (Kd.R_below (by (with_reducible repeat (first | apply Kd.R_alloc | apply Kd.R_drewN | apply Kd.R_drew)); exact e2.out) hb); have g0 := Aside0.mk (Kd.R_below (by (with_reducible repeat (first | apply Kd.R_alloc | apply Kd.R_drewN | apply Kd.R_drew)); exact f5.out) hb); have f9 := Aside0.mk (Kd.R_lower (Kd.R_new' (Kd.R_new' e8 (Kd.R_lt (by (with_reducible repeat (first | apply Kd.R_alloc | apply Kd.R_drewN | apply Kd.R_drew)); exact a9.out))) (Kd.R_lt (by (with_reducible repeat (first | apply Kd.R_alloc | apply Kd.R_drewN | apply Kd.R_drew)); exact a6.out))) (below_size (by repeat (first | (with_reducible first | exact HB.out | apply below_alloc | apply pw_below_drewN | apply below_drew1 | refine below_set ?_ d9.out) | exact HB.out)))); have g6 := Aside0.mk (blk_below (g := a5) (o := .cells #[.int .i64 a4, .slice d7 a3.length d3, .slice (some b5) a0.length d6] 25 (0, 0)) (by (with_reducible repeat (first | refine blk_drewN ?_ _ | refine blk_drew ?_ | refine blk_alloc ?_ _)); exact a1.out) hb); have h8 := Aside0.mk (below_step (by repeat (first | (with_reducible first | exact HB.out | apply below_alloc | apply pw_below_drewN | apply below_drew1 | refine below_set ?_ d9.out) | exact HB.out)) hb); clear a8; clear a9; clear a7; clear a6; clear b1; clear b3; clear b6; clear d2; clear e2; clear f5; clear a1; clear HB; have a8 := b8; have a9 := b9; have a7 := d1; have a6 := d5; have b1 := d4; have b3 := e1; have b6 := e0; have d2 := e4; have e2 := f6; have f5 := g0; have h6 := f9; have a1 := g6; have HB := h8; clear b8 b9 d1 d5 d4 e1 e0 e4 f6 g0 f9 g6 h8; (try clear hb); (try clear i2); (try clear hk); (try clear hi); (try clear e8); obtain ⟨r7, t8, m6⟩ := Kd.R_slice h6.out; subst m6) | (go_at_call 27; (refine (Pxc.calls 0 _ _ ([] : List ByteArray) _ _ ([] : List (S51)) b2 _ ?g2 ?g5 ?g4 ?g3 q5.out).mono ?_); (case g2 => exact Kd.C_nil _ _); (case g5 => exact Nat.le_refl _); (case g4 => exact Kd.C_nil _ _); (case g3 => exact Nat.le_refl _); rintro e u0 ⟨rfl, hb⟩; have b8 := Aside0.mk (Kd.R_below (by (with_reducible repeat (first | apply Kd.R_alloc | apply Kd.R_drewN | apply Kd.R_drew)); exact a8.out) hb); have b9 := Aside0.mk (Kd.R_below (by (with_reducible repeat (first | apply Kd.R_alloc | apply Kd.R_drewN | apply Kd.R_drew)); exact a9.out) hb); have d1 := Aside0.mk (Kd.R_below (by (with_reducible repeat (first | apply Kd.R_alloc | apply Kd.R_drewN | apply Kd.R_drew)); exact a7.out) hb); have d5 := Aside0.mk (Kd.R_below (by (with_reducible repeat (first | apply Kd.R_alloc | apply Kd.R_drewN | apply Kd.R_drew)); exact a6.out) hb); have d4 := Aside0.mk (Kd.R_below (by (with_reducible repeat (first | apply Kd.R_alloc | apply Kd.R_drewN | apply Kd.R_drew)); exact b1.out) hb); have e1 := Aside0.mk (Kd.R_below (by (with_reducible repeat (first | apply Kd.R_alloc | apply Kd.R_drewN | apply Kd.R_drew)); exact b3.out) hb); have e0 := Aside0.mk (Kd.R_below (by (with_reducible repeat (first | apply Kd.R_alloc | apply Kd.R_drewN | apply Kd.R_drew)); exact b6.out) hb); have e4 := Aside0.mk (Kd.R_below (by (with_reducible repeat (first | apply Kd.R_alloc | apply Kd.R_drewN | apply Kd.R_drew)); exact d2.out) hb); have f6 := Aside0.mk (Kd.R_below (by (with_reducible repeat (first | apply Kd.R_alloc | apply Kd.R_drewN | apply Kd.R_drew)); exact e2.out) hb); have g0 := Aside0.mk (Kd.R_below (by (with_reducible repeat (first | apply Kd.R_alloc | apply Kd.R_drewN | apply Kd.R_drew)); exact f5.out) hb); have f9 := Aside0.mk (Kd.R_below (by (with_reducible repeat (first | apply Kd.R_alloc | apply Kd.R_drewN | apply Kd.R_drew)); exact h6.out) hb); have g6 := Aside0.mk (blk_below (g := a5) (o := .cells #[.int .i64 a4, .slice d7 a3.length d3, .slice (some b5) a0.length d6] 25 (0, 0)) (by (with_reducible repeat (first | refine blk_drewN ?_ _ | refine blk_drew ?_ | refine blk_alloc ?_ _)); exact a1.out) hb); have h8 := Aside0.mk (below_step (by repeat (first | (with_reducible first | exact HB.out | apply below_alloc | apply pw_below_drewN | apply below_drew1 | refine below_set ?_ d9.out) | exact HB.out)) hb); clear a8; clear a9; clear a7; clear a6; clear b1; clear b3; clear b6; clear d2; clear e2; clear f5; clear h6; clear a1; clear HB; have a8 := b8; have a9 := b9; have a7 := d1; have a6 := d5; have b1 := d4; have b3 := e1; have b6 := e0; have d2 := e4; have e2 := f6; have f5 := g0; have h6 := f9; have a1 := g6; have HB := h8; clear b8 b9 d1 d5 d4 e1 e0 e4 f6 g0 f9 g6 h8; (try clear hb); (try clear i2); (try clear hk); (try clear hi)))
          go_ret
          exact ⟨by first | rfl | (simp [errW_none, errW_some] <;> rfl) | (simp [*, errW_none, errW_some] <;> rfl), by repeat (first | (with_reducible first | exact HB.out | apply below_alloc | apply pw_below_drewN | apply below_drew1 | refine below_set ?_ d9.out) | exact HB.out)⟩
         ·rw [if_neg h7] at H
          have c18b0 : ((b0.length : Int) == 1) = false := beq_eq_false_iff_ne.mpr h7
          have c18b1 : ((b0.length : Int) != 1) = true := bne_iff_ne.mpr h7
          obtain rfl := Option.some.inj H
          exact absurd hr_.out (by decide)
        ·replace i9 := Bool.eq_false_iff.mpr i9
         subst i9
         have H1 : (some false) = some r := by rw [if_neg (show ¬ (false = true) by decide)] at H; exact H
         clear H
         have H := H1
         clear H1
         obtain rfl := Option.some.inj H
         exact absurd hr_.out (by decide)
       ·replace j3 := Bool.eq_false_iff.mpr j3
        subst j3
        have H1 : (some false) = some r := by rw [if_neg (show ¬ (false = true) by decide)] at H; exact H
        clear H
        have H := H1
        clear H1
        obtain rfl := Option.some.inj H
        exact absurd hr_.out (by decide)
      ·replace i6 := Bool.eq_false_iff.mpr i6
       subst i6
       have H1 : (some false) = some r := by rw [if_neg (show ¬ (false = true) by decide)] at H; exact H
       clear H
       have H := H1
       clear H1
       obtain rfl := Option.some.inj H
       exact absurd hr_.out (by decide)
     ·replace c8 := Bool.eq_false_iff.mpr c8
      subst c8
      have H1 : (some false) = some r := by rw [if_neg (show ¬ (false = true) by decide)] at H; exact H
      clear H
      have H := H1
      clear H1
      obtain rfl := Option.some.inj H
      exact absurd hr_.out (by decide)
    ·rw [if_neg c5] at H
     have c5b0 : (((rd_T51 a0 0).f0) == 0 && (((rd_T51 a0 0).f1) == 0 && (((rd_T51 a0 0).f2) == 1))) = false := by simpa using c5
     (try (have c5b1 : decide (((rd_T51 a0 0).f0) = 0 && (((rd_T51 a0 0).f1) == 0 && (((rd_T51 a0 0).f2) == 1))) = false := by simpa using c5))
     (try (have c5b2 : (((rd_T51 a0 0).f0) == 0 && (((rd_T51 a0 0).f1) == 0 && (((rd_T51 a0 0).f2) == 1))) = false := by simpa using c5))
     (try (have c5b3 : ¬ (((rd_T51 a0 0).f0) = 0 && (((rd_T51 a0 0).f1) == 0 && (((rd_T51 a0 0).f2) == 1))) := by simpa using c5))
     clear c5
     obtain rfl := Option.some.inj H
     exact absurd hr_.out (by decide)
   ·rw [if_neg c4] at H
    exact absurd H (by simp)
  ·rw [if_neg c3] at H
   have c3b0 : ((a0.length : Int) == 2) = false := beq_eq_false_iff_ne.mpr c3
   have c3b1 : ((a0.length : Int) != 2) = true := bne_iff_ne.mpr c3
   obtain rfl := Option.some.inj H
   exact absurd hr_.out (by decide)
 ·rw [if_neg c2] at H
  have c2b0 : (g9 == 0) = false := beq_eq_false_iff_ne.mpr c2
  have c2b1 : (g9 != 0) = true := bne_iff_ne.mpr c2
  obtain rfl := Option.some.inj H
  exact absurd hr_.out (by decide)
end Go.Proofs.Ythaaockbapbooaa.Pr
set_option linter.unusedVariables false
set_option linter.unusedSimpArgs false
namespace Go.Proofs.Ythaaockbapbooaa.H
open Go.RowKit Go.Proofs.Ythaaockbapbooaa.Pr Go.Proofs.YthaaockbapbooaaW.PrintWords Go.Proofs.Ythaaockbapbooaa.Sem
def SmallL (n : Int) (ls : List ByteArray) (es : List Ed) : Prop := (n ≤ 60 ∨ 2048 < n) ∧ es.length ≤ 200 ∧ ls.length < 70
theorem light26_end (n : Int) (ls : List ByteArray) (es : List Ed) (i : Int) : ∃ b, Ev (fun k => Pr26a.j1 k i false n ls es) b ∧ (b = true → SmallL n ls es) := by
 by_cases h1 : (ls.length : Int) < 70
 ·by_cases h2 : (es.length : Int) ≤ 200
  ·by_cases h3 : n ≤ 60
   ·exact ⟨true, Ev.step (fun k => Pr26a.j1.eq_2 ..) (Ev.neg (by simp) (Ev.pos h1 (Ev.pos h2 (Ev.pos h3 (Ev.now _))))), fun _ => ⟨.inl h3, by omega, by omega⟩⟩
   ·exact ⟨decide (n > 2048), Ev.step (fun k => Pr26a.j1.eq_2 ..) (Ev.neg (by simp) (Ev.pos h1 (Ev.pos h2 (Ev.neg h3 (Ev.now _))))), fun h => ⟨.inr (of_decide_eq_true h), by omega, by omega⟩⟩
  ·exact ⟨false, Ev.step (fun k => Pr26a.j1.eq_2 ..) (Ev.neg (by simp) (Ev.pos h1 (Ev.neg h2 (Ev.now _)))), fun h => by cases h⟩
 ·exact ⟨false, Ev.step (fun k => Pr26a.j1.eq_2 ..) (Ev.neg (by simp) (Ev.neg h1 (Ev.now _))), fun h => by cases h⟩
theorem light26_ev (n : Int) (ls : List ByteArray) (es : List Ed) : ∀ d i : Nat, i + d = 70 → ∃ b, Ev (fun k => Pr26a.l0 k (i : Int) n ls es) b ∧ (b = true → SmallL n ls es)
 | 0, i, h => by
  obtain ⟨b, e, hb⟩ := light26_end n ls es (i : Int)
  refine ⟨b, Ev.step (fun k => Pr26a.l0.eq_2 ..) ?_, hb⟩
  rw [decide_eq_false (show ¬ (i : Int) < 70 by omega)]
  simp only [ite_self]
  exact e
 | d + 1, i, h => by
  by_cases hl : (i : Int) < (ls.length : Int)
  ·by_cases hs : ((rdOf ByteArray.empty ls (i : Int)).size : Int) > 300
   ·refine ⟨false, Ev.step (fun k => Pr26a.l0.eq_2 ..) (Ev.pos hl ?_), fun h => by cases h⟩
    rw [decide_eq_true (show (i : Int) < 70 by omega)]
    exact Ev.step (fun k => Pr26a.j1.eq_2 ..) (Ev.pos rfl (Ev.pos (by omega) (Ev.pos hl (Ev.pos hs (Ev.now _)))))
   ·obtain ⟨b, e, hb⟩ := light26_ev n ls es d (i + 1) (by omega)
    refine ⟨b, Ev.step (fun k => Pr26a.l0.eq_2 ..) (Ev.pos hl ?_), hb⟩
    rw [decide_eq_true (show (i : Int) < 70 by omega)]
    refine Ev.step (fun k => Pr26a.j1.eq_2 ..) (Ev.pos rfl (Ev.pos (by omega) (Ev.pos hl (Ev.neg hs ?_))))
    rw [w1n (by omega)]
    exact e
  ·obtain ⟨b, e, hb⟩ := light26_end n ls es (i : Int)
   exact ⟨b, Ev.step (fun k => Pr26a.l0.eq_2 ..) (Ev.neg hl e), hb⟩
theorem light_ev (n : Int) (ls : List ByteArray) (es : List Ed) : ∃ b, Ev (fun k => Pr26a.f k n ls es) b ∧ (b = true → SmallL n ls es) := light26_ev n ls es 70 0 rfl
theorem awake26 : Ev (fun k => Pl26b.f k) true := Ev.of Pl26b.mono (k := 20) (by kernel_rfl)
end Go.Proofs.Ythaaockbapbooaa.H
set_option linter.unusedVariables false
set_option linter.unusedSimpArgs false
namespace Go.Proofs.Ythaaockbapbooaa.Pr
open Go.RowKit Go.Proofs.Ythaaockbapbooaa.H Go.Proofs.YthaaockbapbooaaW.PrintWords Go.Proofs.Ythaaockbapbooaa.Sem Go.Proofs.YthaaockbapbooaaW.PrintLast
def HLts (n : Int) (ls : List ByteArray) (es : List Ed) : Prop := True
theorem ltsChecks_pure (n : Int) (ls : List ByteArray) (es : List Ed) : HLts n ls es := trivial
set_option maxHeartbeats 4000000 in
set_option maxRecDepth 100000 in
theorem Pl26a.calls (n : Int) (A0_1 : Option Addr) (c0_1 : Nat) (ls : List ByteArray) (A0_2 : Option Addr) (c0_2 : Nat) (es : List Ed) (r : Bool) (w : World) (hr0_1 : Kd.C Kd.string w A0_1 ls.length ls) (hc0_1 : ls.length ≤ c0_1) (hr0_2 : Kd.C k51 w A0_2 es.length es) (hc0_2 : es.length ≤ c0_2) (h : HLts n ls es) (hr_ : Aside0 (r = true)) :
  Calls Try.prog 6 #[.agg #[.int .i64 n, .slice A0_1 ls.length c0_1, .slice A0_2 es.length c0_2]] w fun e w' => e = .returned (.bool r) ∧ Below w.heap.size w w' := by
 obtain ⟨rfl⟩ := hr_
 clear h
 have HB := Aside0.mk (Below.refl w.heap.size w)
 have a6 := Aside0.mk hr0_1
 have b4 := Aside0.mk hr0_2
 have d5 := Aside0.mk hc0_1
 have f0 := Aside0.mk hc0_2
 clear hr0_1 hr0_2 hc0_1 hc0_2
 obtain ⟨b, hbE, hbS⟩ := light_ev n ls es
 obtain ⟨kl, hl⟩ := hbE.rounds
 obtain ⟨ka, ha⟩ := awake26.rounds
 have HL := Aside0.mk hl
 have HA := Aside0.mk ha
 have HS := Aside0.mk hbS
 clear hl ha hbE hbS
 cases b with
 | false =>
  go_enter Try.func6, Try.ntmps6
  go_wp2_with fail
  refine (Pr26a.calls kl n _ _ ls _ _ es false _ (Kd.C_below a6.out (below_alloc HB.out _)) d5.out (Kd.C_below b4.out (below_alloc HB.out _)) f0.out HL.out).mono ?_
  rintro e w1 ⟨rfl, hB⟩
  have b5 := Aside0.mk (below_then (below_alloc HB.out _) (below_alloc HB.out _).size hB)
  clear hB
  go_wp2_with fail
  refine (Pl26b.calls ka true _ HA.out ⟨rfl⟩).mono ?_
  rintro e w2 ⟨rfl, hB⟩
  have d8 := Aside0.mk (below_then b5.out b5.out.size hB)
  clear hB
  go_wp2
  go_ret
  exact ⟨rfl, d8.out⟩
 | true =>
  have hsm := HS.out rfl
  have he : es.length ≤ 1000000 := by have := hsm.2.1; omega
  have hls : ls.length ≤ 1000000 := by have := hsm.2.2; omega
  clear hsm
  have hsl := sortE_length es
  have HM := Aside0.mk (may_any n ls (sortE es))
  obtain ⟨r1, r2, r3, r4, hS⟩ : ∃ r1 r2 r3 r4, (if mayR n ls (sortE es) then (n, ls, sortE es, (0 : Int)) else (0, [], [], 1)) = (r1, r2, r3, r4) := ⟨_, _, _, _, rfl⟩
  have HSo := Aside0.mk hS
  clear hS
  go_enter Try.func6, Try.ntmps6
  go_wp2_with fail
  refine (Pr26a.calls kl n _ _ ls _ _ es true _ (Kd.C_below a6.out (below_alloc HB.out _)) d5.out (Kd.C_below b4.out (below_alloc HB.out _)) f0.out HL.out).mono ?_
  rintro e w1 ⟨rfl, hB⟩
  have b5 := Aside0.mk (below_then (below_alloc HB.out _) (below_alloc HB.out _).size hB)
  have d4 := Aside0.mk (show BoxL w1 w.heap.size n (.slice A0_1 ls.length c0_1) (.slice A0_2 es.length c0_2) from blk_below (blk_new w _) hB)
  have b0 := d4.out.c0
  have b1 := d4.out.c1
  have b2 := d4.out.c2
  clear hB
  go_wp2_with fail
  refine (sort_any n ls es A0_1 A0_2 c0_1 c0_2 _ (Kd.C_below a6.out b5.out) d5.out (Kd.C_below b4.out b5.out) f0.out hls he HSo.out).mono ?_
  rintro e w2 ⟨v1, v2, rfl, g4, e9, hB⟩
  obtain ⟨A3, c3, hv⟩ := Kd.R_slice g4
  subst hv
  obtain ⟨A4, c4, hv⟩ := Kd.R_slice e9
  subst hv
  have g7 := Aside0.mk g4
  have g8 := Aside0.mk e9
  have d8 := Aside0.mk (below_then b5.out b5.out.size hB)
  have g6 := Aside0.mk (d4.out.below hB)
  clear b0 b1 b2 d4 b5 g4 e9 hB
  have e6 := Aside0.mk (blk_new w2 (Obj.cells #[.int .i64 r1, .slice A3 r2.length c3, .slice A4 r3.length c4] 25))
  have a9 := below_alloc (Below.refl w2.heap.size w2) (Obj.cells #[.int .i64 r1, .slice A3 r2.length c3, .slice A4 r3.length c4] 25)
  have b9 := Aside0.mk (g6.out.below a9)
  have f2 := Aside0.mk (Kd.R_below g7.out a9)
  have f7 := Aside0.mk (Kd.R_below g8.out a9)
  have d9 := Aside0.mk (below_then d8.out d8.out.size a9)
  have b0 := b9.out.c0
  have b1 := b9.out.c1
  have b2 := b9.out.c2
  clear a9 g6 g7 g8 d8
  go_wp2_with fail
  obtain ⟨D, hD⟩ : ∃ D, D = w2.heap.size := ⟨_, rfl⟩
  rw [← hD] at e6 ⊢
  clear hD b0 b1 b2
  generalize (w2.alloc (Obj.cells #[Value.int IntKind.i64 r1, Value.slice A3 r2.length c3, Value.slice A4 r3.length c4] 25)) = w3 at b9 f2 f7 d9 e6 ⊢
  refine (rsort_any n A0_1 ls.length c0_1 es A0_2 c0_2 w3 (Kd.C_below b4.out d9.out) he).mono ?_
  rintro e w4 ⟨v5, rfl, hR, hB⟩
  obtain ⟨A5, c5, hv⟩ := Kd.R_slice hR
  subst hv
  have a9 := below_alloc (Below.refl w4.heap.size w4) (Obj.cells #[.int .i64 n, .slice A0_1 ls.length c0_1, .slice A5 (sortE es).length c5] 25)
  have d0 := below_then hB hB.size a9
  have e5 := Aside0.mk (blk_new w4 (Obj.cells #[.int .i64 n, .slice A0_1 ls.length c0_1, .slice A5 (sortE es).length c5] 25))
  have e0 := Aside0.mk (b9.out.below d0)
  have e8 := Aside0.mk (blk_below e6.out d0)
  have g5 := Aside0.mk (Kd.R_below f2.out d0)
  have g3 := Aside0.mk (Kd.R_below f7.out d0)
  have f3 := Aside0.mk (Kd.R_below hR a9)
  have d7 := Aside0.mk (below_then d9.out d9.out.size d0)
  clear a9 d0 hR hB b9 e6 f2 f7 d9
  have b0 := e0.out.c0
  have b1 := e0.out.c1
  have b2 := e0.out.c2
  go_wp2_with fail
  obtain ⟨G, hG⟩ : ∃ G, G = w4.heap.size := ⟨_, rfl⟩
  rw [← hG] at e5 ⊢
  clear hG b0 b1 b2
  generalize (w4.alloc (Obj.cells #[Value.int IntKind.i64 n, Value.slice A0_1 ls.length c0_1, Value.slice A5 (sortE es).length c5] 25)) = w5 at e0 g5 g3 d7 e8 e5 f3 ⊢
  refine (may_any n ls es A0_1 A0_2 c0_1 c0_2 w5 (Kd.C_below a6.out d7.out) (Kd.C_below b4.out d7.out)).mono ?_
  rintro e w6 ⟨rfl, hB⟩
  have e4 := Aside0.mk (below_then d7.out d7.out.size hB)
  have f5 := Aside0.mk hB
  have e7 := Aside0.mk (e0.out.below hB)
  have b0 := e7.out.c0
  have b1 := e7.out.c1
  have b2 := e7.out.c2
  clear hB
  go_wp2_with fail
  clear b0 b1 b2
  have hck := check_any n ls es A0_1 A0_2 c0_1 c0_2 w6 (Kd.C_below a6.out e4.out) (Kd.C_below b4.out e4.out)
  rw [may_same] at hck
  refine hck.mono ?_
  clear hck
  rintro e w7 ⟨rfl, hB⟩
  have b6 := Aside0.mk (below_then e4.out e4.out.size hB)
  have d1 := Aside0.mk (below_then f5.out f5.out.size hB)
  have f4 := Aside0.mk (e7.out.below hB)
  have b0 := f4.out.c0
  have b1 := f4.out.c1
  have b2 := f4.out.c2
  clear hB
  cases hm : mayR n ls es with
  | true =>
   go_wp2_with fail
   clear b0 b1 b2
   have hck := check_any n ls es A0_1 A0_2 c0_1 c0_2 w7 (Kd.C_below a6.out b6.out) (Kd.C_below b4.out b6.out)
   rw [may_same, hm] at hck
   refine hck.mono ?_
   clear hck
   rintro e w8 ⟨rfl, hB⟩
   have b7 := Aside0.mk (below_then b6.out b6.out.size hB)
   have a0 := below_then d1.out d1.out.size hB
   have f8 := Aside0.mk (blk_below e8.out a0)
   have a8 := Aside0.mk (blk_below e5.out a0)
   have f1 := Aside0.mk (Kd.R_below g5.out a0)
   have f9 := Aside0.mk (Kd.R_below g3.out a0)
   have d6 := Aside0.mk (Kd.R_below f3.out a0)
   have g0 := (blk_cell a8.out 0).trans rfl
   have g1 := (blk_cell a8.out 1).trans rfl
   have g2 := (blk_cell a8.out 2).trans rfl
   clear hB a0 hm
   go_wp2_with fail
   refine (HM.out A0_1 A5 c0_1 c5 w8 (Kd.C_below a6.out b7.out) (Kd.R_reads' d6.out).2.2).mono ?_
   rintro e w9 ⟨rfl, hB⟩
   have a3 := Aside0.mk (below_then b7.out b7.out.size hB)
   have b3 := Aside0.mk (blk_below f8.out hB)
   have b8 := Aside0.mk (blk_below a8.out hB)
   have a5 := Aside0.mk (Kd.R_below f1.out hB)
   have a4 := Aside0.mk (Kd.R_below f9.out hB)
   have d2 := Aside0.mk (Kd.R_below d6.out hB)
   have y0 := (blk_cell b3.out 0).trans rfl
   have y1 := (blk_cell b3.out 1).trans rfl
   have y2 := (blk_cell b3.out 2).trans rfl
   clear hB g0 g1 g2
   cases hs : mayR n ls (sortE es) with
   | false =>
    have HF := HSo.out
    rw [hs, if_neg (by simp)] at HF
    simp only [Prod.mk.injEq] at HF
    obtain ⟨rfl, rfl, rfl, rfl⟩ := HF
    obtain ⟨ks, hsm⟩ := (same26_refl 0 [] [] (by simp) (by simp)).rounds
    have HSm := Aside0.mk hsm
    clear hsm hs
    go_wp2_with fail
    refine (Pr26b.calls ks 0 _ _ [] _ _ [] 0 none 0 [] none 0 [] true _ (Kd.R_reads' a5.out).2.2 (Kd.R_reads' a5.out).2.1 (Kd.R_reads' a4.out).2.2 (Kd.R_reads' a4.out).2.1 (Kd.C_nil _ _) (Nat.le_refl _) (Kd.C_nil _ _) (Nat.le_refl _) HSm.out).mono ?_
    rintro e d3 ⟨rfl, hB⟩
    have a1 := Aside0.mk (below_then a3.out a3.out.size hB)
    clear hB y0 y1 y2
    go_wp2_with fail
    refine (Pl26b.calls ka true _ HA.out ⟨rfl⟩).mono ?_
    rintro e f6 ⟨rfl, hB⟩
    have a2 := Aside0.mk (below_then a1.out a1.out.size hB)
    clear hB
    go_wp2
    go_ret
    exact ⟨rfl, a2.out⟩
   | true =>
    have HF := HSo.out
    rw [hs, if_pos rfl] at HF
    simp only [Prod.mk.injEq] at HF
    obtain ⟨rfl, rfl, rfl, rfl⟩ := HF
    obtain ⟨ks, hsm⟩ := (same26_refl n ls (sortE es) hls (by omega)).rounds
    have HSm := Aside0.mk hsm
    have HMs := Aside0.mk hs
    have z0 := (blk_cell b8.out 0).trans rfl
    have z1 := (blk_cell b8.out 1).trans rfl
    have z2 := (blk_cell b8.out 2).trans rfl
    clear hsm hs
    go_wp2_with fail
    refine (Pr26b.calls ks n _ _ ls _ _ (sortE es) n _ _ ls _ _ (sortE es) true _ (Kd.R_reads' a5.out).2.2 (Kd.R_reads' a5.out).2.1 (Kd.R_reads' a4.out).2.2 (Kd.R_reads' a4.out).2.1 (Kd.C_below a6.out a3.out) d5.out (Kd.R_reads' d2.out).2.2 (Kd.R_reads' d2.out).2.1 HSm.out).mono ?_
    rintro e d3 ⟨rfl, hB⟩
    have a1 := Aside0.mk (below_then a3.out a3.out.size hB)
    have a7 := Aside0.mk (blk_below b3.out hB)
    have e2 := Aside0.mk (Kd.R_below a5.out hB)
    have e3 := Aside0.mk (Kd.R_below a4.out hB)
    clear hB y0 y1 y2 z0 z1 z2
    have y0 := (blk_cell a7.out 0).trans rfl
    have y1 := (blk_cell a7.out 1).trans rfl
    have y2 := (blk_cell a7.out 2).trans rfl
    go_wp2_with fail
    refine (check_yes n ls (sortE es) A3 A4 c3 c4 d3 (Kd.R_reads' e2.out).2.2 (Kd.R_reads' e3.out).2.2 (by rw [may_same]; exact HMs.out)).mono ?_
    rintro e f6 ⟨rfl, hB⟩
    have a2 := Aside0.mk (below_then a1.out a1.out.size hB)
    clear hB y0 y1 y2
    go_wp2_with fail
    refine (Pl26b.calls ka true _ HA.out ⟨rfl⟩).mono ?_
    rintro e g9 ⟨rfl, hB⟩
    have e1 := Aside0.mk (below_then a2.out a2.out.size hB)
    clear hB
    go_wp2
    go_ret
    exact ⟨rfl, e1.out⟩
  | false =>
   go_wp2_with fail
   clear b0 b1 b2
   have hck := check_any n ls es A0_1 A0_2 c0_1 c0_2 w7 (Kd.C_below a6.out b6.out) (Kd.C_below b4.out b6.out)
   rw [may_same, hm] at hck
   refine hck.mono ?_
   clear hck
   rintro e w8 ⟨rfl, hB⟩
   have b7 := Aside0.mk (below_then b6.out b6.out.size hB)
   have a0 := below_then d1.out d1.out.size hB
   have f8 := Aside0.mk (blk_below e8.out a0)
   have a8 := Aside0.mk (blk_below e5.out a0)
   have f1 := Aside0.mk (Kd.R_below g5.out a0)
   have f9 := Aside0.mk (Kd.R_below g3.out a0)
   have d6 := Aside0.mk (Kd.R_below f3.out a0)
   have g0 := (blk_cell a8.out 0).trans rfl
   have g1 := (blk_cell a8.out 1).trans rfl
   have g2 := (blk_cell a8.out 2).trans rfl
   clear hB a0 hm
   go_wp2_with fail
   refine (HM.out A0_1 A5 c0_1 c5 w8 (Kd.C_below a6.out b7.out) (Kd.R_reads' d6.out).2.2).mono ?_
   rintro e w9 ⟨rfl, hB⟩
   have a3 := Aside0.mk (below_then b7.out b7.out.size hB)
   have b3 := Aside0.mk (blk_below f8.out hB)
   have b8 := Aside0.mk (blk_below a8.out hB)
   have a5 := Aside0.mk (Kd.R_below f1.out hB)
   have a4 := Aside0.mk (Kd.R_below f9.out hB)
   have d2 := Aside0.mk (Kd.R_below d6.out hB)
   have y0 := (blk_cell b3.out 0).trans rfl
   have y1 := (blk_cell b3.out 1).trans rfl
   have y2 := (blk_cell b3.out 2).trans rfl
   clear hB g0 g1 g2
   cases hs : mayR n ls (sortE es) with
   | false =>
    have HF := HSo.out
    rw [hs, if_neg (by simp)] at HF
    simp only [Prod.mk.injEq] at HF
    obtain ⟨rfl, rfl, rfl, rfl⟩ := HF
    obtain ⟨ks, hsm⟩ := (same26_refl 0 [] [] (by simp) (by simp)).rounds
    have HSm := Aside0.mk hsm
    clear hsm hs
    go_wp2_with fail
    refine (Pr26b.calls ks 0 _ _ [] _ _ [] 0 none 0 [] none 0 [] true _ (Kd.R_reads' a5.out).2.2 (Kd.R_reads' a5.out).2.1 (Kd.R_reads' a4.out).2.2 (Kd.R_reads' a4.out).2.1 (Kd.C_nil _ _) (Nat.le_refl _) (Kd.C_nil _ _) (Nat.le_refl _) HSm.out).mono ?_
    rintro e d3 ⟨rfl, hB⟩
    have a1 := Aside0.mk (below_then a3.out a3.out.size hB)
    clear hB y0 y1 y2
    go_wp2_with fail
    refine (Pl26b.calls ka true _ HA.out ⟨rfl⟩).mono ?_
    rintro e f6 ⟨rfl, hB⟩
    have a2 := Aside0.mk (below_then a1.out a1.out.size hB)
    clear hB
    go_wp2
    go_ret
    exact ⟨rfl, a2.out⟩
   | true =>
    have HF := HSo.out
    rw [hs, if_pos rfl] at HF
    simp only [Prod.mk.injEq] at HF
    obtain ⟨rfl, rfl, rfl, rfl⟩ := HF
    obtain ⟨ks, hsm⟩ := (same26_refl n ls (sortE es) hls (by omega)).rounds
    have HSm := Aside0.mk hsm
    have HMs := Aside0.mk hs
    have z0 := (blk_cell b8.out 0).trans rfl
    have z1 := (blk_cell b8.out 1).trans rfl
    have z2 := (blk_cell b8.out 2).trans rfl
    clear hsm hs
    go_wp2_with fail
    refine (Pr26b.calls ks n _ _ ls _ _ (sortE es) n _ _ ls _ _ (sortE es) true _ (Kd.R_reads' a5.out).2.2 (Kd.R_reads' a5.out).2.1 (Kd.R_reads' a4.out).2.2 (Kd.R_reads' a4.out).2.1 (Kd.C_below a6.out a3.out) d5.out (Kd.R_reads' d2.out).2.2 (Kd.R_reads' d2.out).2.1 HSm.out).mono ?_
    rintro e d3 ⟨rfl, hB⟩
    have a1 := Aside0.mk (below_then a3.out a3.out.size hB)
    have a7 := Aside0.mk (blk_below b3.out hB)
    have e2 := Aside0.mk (Kd.R_below a5.out hB)
    have e3 := Aside0.mk (Kd.R_below a4.out hB)
    clear hB y0 y1 y2 z0 z1 z2
    have y0 := (blk_cell a7.out 0).trans rfl
    have y1 := (blk_cell a7.out 1).trans rfl
    have y2 := (blk_cell a7.out 2).trans rfl
    go_wp2_with fail
    refine (check_yes n ls (sortE es) A3 A4 c3 c4 d3 (Kd.R_reads' e2.out).2.2 (Kd.R_reads' e3.out).2.2 (by rw [may_same]; exact HMs.out)).mono ?_
    rintro e f6 ⟨rfl, hB⟩
    have a2 := Aside0.mk (below_then a1.out a1.out.size hB)
    clear hB y0 y1 y2
    go_wp2_with fail
    refine (Pl26b.calls ka true _ HA.out ⟨rfl⟩).mono ?_
    rintro e g9 ⟨rfl, hB⟩
    have e1 := Aside0.mk (below_then a2.out a2.out.size hB)
    clear hB
    go_wp2
    go_ret
    exact ⟨rfl, e1.out⟩
end Go.Proofs.Ythaaockbapbooaa.Pr
set_option linter.unusedVariables false
set_option linter.unusedSimpArgs false
namespace Go.Proofs.Ythaaockbapbooaa.ltsChecks
open Go.ChangeShapes Go.WideShapes Go.ChangeAt Go.RowKit Go.Proofs.Ythaaockbapbooaa.Pr Go.Proofs.YthaaockbapbooaaW.PrintWords Go.Proofs.Ythaaockbapbooaa.H
theorem own : ownKnob Try.prog.godebug = none := by kernel_rfl
set_option maxRecDepth 100000 in
theorem lifted (os : Os) (started : os.Started) (H : Type) (enc : TypeId × Value → H) :
  ReturnsInHanded {} Try.checked os 6 .any (Rows.ltsChecksSpec.pre6 enc Try.prog Try.f6 Rows.ltsChecksRow.domain false) (Rows.ltsChecksSpec.post enc Try.prog Try.f6 false true false false) := by
 refine returnsInHanded_of_change_sized (C := Try.checked) own started (by kernel_rfl) Try.func6
  (ChangeSpec.witness6 (enc := enc) (C := Try.checked) false ⟨#[], #[.agg #[.int .i64 0, .slice none 0 0, .slice none 0 0]], []⟩ 8 (by kernel_rfl) (by kernel_rfl) (by kernel_rfl) (by kernel_rfl)) ?_
 intro W base args ds gs before hval0 hW hcnd hsz0 _
 have hval : ∀ (j : Nat) t v, Try.f6.params[j]? = some t → args[j]? = some v → Value.okWide Try.prog W .any base t v := hval0
 have hW' := hW
 obtain ⟨p, q, hA0, hV, rfl, hfz, hnd⟩ := hW
 have hA : DataW.TrodAll enc Try.prog W 0 (fun _ => true) true Try.f6.params.toList args.toList ds p := hA0
 rw [Try.params6] at hA hval
 obtain ⟨v0, vs0, d0, ds0, p0, q0, hargs, rfl, rfl, h0, r0⟩ := trodAll_cons hA
 obtain ⟨rfl, rfl, rfl⟩ := trodAll_nil r0
 obtain rfl : args = #[v0] := by cases args; simp_all
 obtain ⟨rfl, rfl⟩ := trodVars_none hV
 have k0 := h0
 have lt0 : ∀ x ∈ p0, x.block < W.heap.size := by obtain ⟨m, hm⟩ := k0; exact DataW.trod_lt m _ _ _ hm
 obtain ⟨n0, ls0, es0, A0, B0, c0, e0, rfl, wf0, rl0, cl0, re0, ce0⟩ := open_lts2 (hval 0 25 v0 rfl rfl) h0
 clear hA0 hval0 hsz0
 have hk := ltsChecks_pure n0 ls0 es0
 refine (Pr.Pl26a.calls (r := true) (w := W) (hr0_1 := rl0) (hc0_1 := cl0) (hr0_2 := re0) (hc0_2 := ce0) (h := hk) (hr_ := ⟨rfl⟩)).mono fun e W' ⟨he, bel⟩ => ?_
 subst he
 exact ⟨_, rfl, _, _, _, [], _, [], hW', trodAll_mk1 (shut_bool Try.underlying4 _), (trodAll_cons_mk (Below.trod laid_out (by kernel_rfl) (of_decide_eq_true (by kernel_rfl)) k0 bel lt0) trodAll_mk0), rfl, bel.frame _, fun h => by cases h⟩
theorem over : Rows.ltsChecksRow.holds Try.pinned (OpenSpec.ofChange Rows.ltsChecksSpec) :=
 OpenClaim.holds_of_wide 6 Try.f6 rfl rfl rfl rfl rfl rfl rfl ⟨rfl, rfl, rfl, rfl, rfl⟩ rfl rfl rfl rfl rfl (by kernel_rfl) Try.func6 (by kernel_rfl)
  (of_decide_eq_true (by kernel_rfl)) (by unfold Func.isWrapper; first | (rw [if_pos (by decide +kernel)]; kernel_rfl) | (rw [if_neg (by decide +kernel)]; exact ⟨rfl, rfl⟩))
  (fun os started H enc _ => lifted os started H enc)
theorem proved : Rows.LtsChecksSaid := over
#print axioms proved
end Go.Proofs.Ythaaockbapbooaa.ltsChecks
namespace Go.Proofs.Ythaaockbapbooaa
theorem ltsChecks_holds : Rows.LtsChecksSaid := ltsChecks.proved
end Go.Proofs.Ythaaockbapbooaa
