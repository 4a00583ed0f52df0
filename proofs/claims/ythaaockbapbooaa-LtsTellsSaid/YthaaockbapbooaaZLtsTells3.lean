/-
  Parts of the proof of LtsTells (joined by wip/tools/bundle.py), part 3: plain words and walks of the functions that the law reaches.
-/
import Derived.Test.YthaaockbapbooaaZLtsTells2
namespace Go.Proofs.Ythaaockbapbooaa.Pr
open Go.RowKit Go.Proofs.YthaaockbapbooaaW.PrintWords Go.Proofs.YthaaockbapbooaaW.PrintLast Go.Proofs.YthaaockbapbooaaW.PrintMore
attribute [local go_sem] max2_int min2_int max_two min_two max_three min_three max_four min_four
set_option linter.unusedVariables false
set_option linter.unusedSimpArgs false
attribute [local go_sem high] eqA51
def Pl26b.f (k : Nat)  : Option (Bool) := (Pxd.f 3 (([(⟨#[97]⟩ : ByteArray)] : List ByteArray)) (([(⟨1, 0, 1⟩ : S51), (⟨0, 0, 1⟩ : S51), (⟨0, 0, 1⟩ : S51)] : List (S51)))).bind fun bt140 => (if bt140.2.2.2 = 0 then (if (bt140.2.2.1.length : Int) = 2 then (if 0 < (bt140.2.2.1.length : Int) then (if (((rd_T51 bt140.2.2.1 0).f0) == 0 && (((rd_T51 bt140.2.2.1 0).f1) == 0 && (((rd_T51 bt140.2.2.1 0).f2) == 1))) = true then ((Pxa.f bt140.1 bt140.2.1 bt140.2.2.1 0).bind fun t150 => ((Pr01b.f k t150 (([0, 1] : List Int))).bind fun t156 => (if t156 = true then ((Pxe.f k bt140.1 bt140.2.1 bt140.2.2.1 1 0).bind fun t157 => ((Pr01b.f k t157 (([0, 1] : List Int))).bind fun t163 => (if t163 = true then ((Pxf.f k bt140.1 bt140.2.1 bt140.2.2.1 0 0).bind fun t164 => ((Pr01b.f k t164 (([1] : List Int))).bind fun t170 => (if t170 = true then ((Pxb.f k bt140.1 bt140.2.1 bt140.2.2.1).bind fun t171 => (if t171 = true then ((Pxg.f bt140.1 bt140.2.1 bt140.2.2.1 1).bind fun t172 => (if (t172.length : Int) = 1 then ((Pxc.f 0 ([] : List ByteArray) ([] : List (S51))).bind fun t175 => (some (t175 == 1))) else (some false))) else (some false))) else (some false)))) else (some false)))) else (some false)))) else (some false)) else (none)) else (some false)) else (some false))
theorem Pl26b.mono : ∀ k, LeO (Pl26b.f k ) (Pl26b.f (k + 1) ) := by
 intro  k
 unfold Pl26b.f
 repeat' first
   | (with_reducible exact Pxe.mono _ _ _ _ _ _)
   | (with_reducible exact Pxb.mono _ _ _ _)
   | (with_reducible exact Pxf.mono _ _ _ _ _ _)
   | (with_reducible exact Pr01b.mono _ _ _)
   | (with_reducible exact LeO.refl _)
   | (with_reducible exact LeO.none _)
   | (with_reducible refine LeO.ite ?_ ?_)
   | (with_reducible refine LeO.bind ?_ (fun _ => ?_))
   | exact Pxe.mono _ _ _ _ _ _
   | exact Pxb.mono _ _ _ _
   | exact Pxf.mono _ _ _ _ _ _
   | exact Pr01b.mono _ _ _
   | exact LeO.none _
   | refine LeO.ite ?_ ?_
   | refine LeO.bind ?_ (fun _ => ?_)
set_option maxHeartbeats 8000000 in
set_option maxRecDepth 100000 in
theorem Pl26b.calls (k : Nat)  (r : Bool) (w : World) (h : Pl26b.f k  = some r) (hr_ : Aside0 (r = true)) :
  Calls Try.prog 24 #[] w fun e w' => e = .returned (.bool r) ∧ Below w.heap.size w w' := by
 have r9 := Try.underlying51
 have t1 := Try.underlying25
 have HB := Aside0.mk (Below.refl w.heap.size w)
 have H : ((Pxd.f 3 (([(⟨#[97]⟩ : ByteArray)] : List ByteArray)) (([(⟨1, 0, 1⟩ : S51), (⟨0, 0, 1⟩ : S51), (⟨0, 0, 1⟩ : S51)] : List (S51)))).bind fun a2 => (if a2.2.2.2 = 0 then (if (a2.2.2.1.length : Int) = 2 then (if 0 < (a2.2.2.1.length : Int) then (if (((rd_T51 a2.2.2.1 0).f0) == 0 && (((rd_T51 a2.2.2.1 0).f1) == 0 && (((rd_T51 a2.2.2.1 0).f2) == 1))) = true then ((Pxa.f a2.1 a2.2.1 a2.2.2.1 0).bind fun g1 => ((Pr01b.f k g1 (([0, 1] : List Int))).bind fun f8 => (if f8 = true then ((Pxe.f k a2.1 a2.2.1 a2.2.2.1 1 0).bind fun e3 => ((Pr01b.f k e3 (([0, 1] : List Int))).bind fun d8 => (if d8 = true then ((Pxf.f k a2.1 a2.2.1 a2.2.2.1 0 0).bind fun d0 => ((Pr01b.f k d0 (([1] : List Int))).bind fun b7 => (if b7 = true then ((Pxb.f k a2.1 a2.2.1 a2.2.2.1).bind fun b4 => (if b4 = true then ((Pxg.f a2.1 a2.2.1 a2.2.2.1 1).bind fun b0 => (if (b0.length : Int) = 1 then ((Pxc.f 0 ([] : List ByteArray) ([] : List (S51))).bind fun b2 => (some (b2 == 1))) else (some false))) else (some false))) else (some false)))) else (some false)))) else (some false)))) else (some false)) else (none)) else (some false)) else (some false))) = some r := h
 clear h
 obtain ⟨h7, h4⟩ : ∃ y_ : List ByteArray, y_ = (([(⟨#[97]⟩ : ByteArray)] : List ByteArray)) := ⟨_, rfl⟩
 replace H : ((Pxd.f 3 h7 (([(⟨1, 0, 1⟩ : S51), (⟨0, 0, 1⟩ : S51), (⟨0, 0, 1⟩ : S51)] : List (S51)))).bind fun a2 => (if a2.2.2.2 = 0 then (if (a2.2.2.1.length : Int) = 2 then (if 0 < (a2.2.2.1.length : Int) then (if (((rd_T51 a2.2.2.1 0).f0) == 0 && (((rd_T51 a2.2.2.1 0).f1) == 0 && (((rd_T51 a2.2.2.1 0).f2) == 1))) = true then ((Pxa.f a2.1 a2.2.1 a2.2.2.1 0).bind fun g1 => ((Pr01b.f k g1 (([0, 1] : List Int))).bind fun f8 => (if f8 = true then ((Pxe.f k a2.1 a2.2.1 a2.2.2.1 1 0).bind fun e3 => ((Pr01b.f k e3 (([0, 1] : List Int))).bind fun d8 => (if d8 = true then ((Pxf.f k a2.1 a2.2.1 a2.2.2.1 0 0).bind fun d0 => ((Pr01b.f k d0 (([1] : List Int))).bind fun b7 => (if b7 = true then ((Pxb.f k a2.1 a2.2.1 a2.2.2.1).bind fun b4 => (if b4 = true then ((Pxg.f a2.1 a2.2.1 a2.2.2.1 1).bind fun b0 => (if (b0.length : Int) = 1 then ((Pxc.f 0 ([] : List ByteArray) ([] : List (S51))).bind fun b2 => (some (b2 == 1))) else (some false))) else (some false))) else (some false)))) else (some false)))) else (some false)))) else (some false)) else (none)) else (some false)) else (some false))) = some r := by first | (rw [h4]; with_reducible exact H) | (have f7 := (Option.bind_some _ _).symm.trans H; rw [h4]; with_reducible exact f7) | (have f7 := (Option.bind_some _ _).symm.trans H; with_reducible exact f7) | with_reducible exact H | (rw [h4]; exact H) | exact H
 have j5 := Aside0.mk h4
 clear h4
 obtain ⟨i3, h3⟩ : ∃ y_ : List (S51), y_ = (([(⟨1, 0, 1⟩ : S51), (⟨0, 0, 1⟩ : S51), (⟨0, 0, 1⟩ : S51)] : List (S51))) := ⟨_, rfl⟩
 replace H : ((Pxd.f 3 h7 i3).bind fun a2 => (if a2.2.2.2 = 0 then (if (a2.2.2.1.length : Int) = 2 then (if 0 < (a2.2.2.1.length : Int) then (if (((rd_T51 a2.2.2.1 0).f0) == 0 && (((rd_T51 a2.2.2.1 0).f1) == 0 && (((rd_T51 a2.2.2.1 0).f2) == 1))) = true then ((Pxa.f a2.1 a2.2.1 a2.2.2.1 0).bind fun g1 => ((Pr01b.f k g1 (([0, 1] : List Int))).bind fun f8 => (if f8 = true then ((Pxe.f k a2.1 a2.2.1 a2.2.2.1 1 0).bind fun e3 => ((Pr01b.f k e3 (([0, 1] : List Int))).bind fun d8 => (if d8 = true then ((Pxf.f k a2.1 a2.2.1 a2.2.2.1 0 0).bind fun d0 => ((Pr01b.f k d0 (([1] : List Int))).bind fun b7 => (if b7 = true then ((Pxb.f k a2.1 a2.2.1 a2.2.2.1).bind fun b4 => (if b4 = true then ((Pxg.f a2.1 a2.2.1 a2.2.2.1 1).bind fun b0 => (if (b0.length : Int) = 1 then ((Pxc.f 0 ([] : List ByteArray) ([] : List (S51))).bind fun b2 => (some (b2 == 1))) else (some false))) else (some false))) else (some false)))) else (some false)))) else (some false)))) else (some false)) else (none)) else (some false)) else (some false))) = some r := by first | (rw [h3]; with_reducible exact H) | (have f7 := (Option.bind_some _ _).symm.trans H; rw [h3]; with_reducible exact f7) | (have f7 := (Option.bind_some _ _).symm.trans H; with_reducible exact f7) | with_reducible exact H | (rw [h3]; exact H) | exact H
 have j4 := Aside0.mk h3
 clear h3
 replace H := Option.bind_eq_some_iff.mp H
 obtain ⟨⟨a4, a3, a0, g9⟩, i6, H⟩ := H
 replace H : (if g9 = 0 then (if (a0.length : Int) = 2 then (if 0 < (a0.length : Int) then (if (((rd_T51 a0 0).f0) == 0 && (((rd_T51 a0 0).f1) == 0 && (((rd_T51 a0 0).f2) == 1))) = true then ((Pxa.f a4 a3 a0 0).bind fun g1 => ((Pr01b.f k g1 (([0, 1] : List Int))).bind fun f8 => (if f8 = true then ((Pxe.f k a4 a3 a0 1 0).bind fun e3 => ((Pr01b.f k e3 (([0, 1] : List Int))).bind fun d8 => (if d8 = true then ((Pxf.f k a4 a3 a0 0 0).bind fun d0 => ((Pr01b.f k d0 (([1] : List Int))).bind fun b7 => (if b7 = true then ((Pxb.f k a4 a3 a0).bind fun b4 => (if b4 = true then ((Pxg.f a4 a3 a0 1).bind fun b0 => (if (b0.length : Int) = 1 then ((Pxc.f 0 ([] : List ByteArray) ([] : List (S51))).bind fun b2 => (some (b2 == 1))) else (some false))) else (some false))) else (some false)))) else (some false)))) else (some false)))) else (some false)) else (none)) else (some false)) else (some false)) = some r := H
 have A1 := Aside0.mk i6
 clear i6
 by_cases c2 : g9 = 0
 ·rw [if_pos c2] at H
  have c2b0 : (g9 == 0) = true := beq_iff_eq.mpr c2
  have c2b1 : (g9 != 0) = false := bne_eq_false_iff_eq.mpr c2
  clear c2
  by_cases c3 : (a0.length : Int) = 2
  ·rw [if_pos c3] at H
   have c3b0 : ((a0.length : Int) == 2) = true := beq_iff_eq.mpr c3
   have c3b1 : ((a0.length : Int) != 2) = false := bne_eq_false_iff_eq.mpr c3
   clear c3
   by_cases c4 : 0 < (a0.length : Int)
   ·rw [if_pos c4] at H
    have c4b0 : decide (0 < (a0.length : Int)) = true := decide_eq_true c4
    have c4b1 : decide (0 < a0.length) = true := decide_eq_true (by omega)
    clear c4
    by_cases c5 : (((rd_T51 a0 0).f0) == 0 && (((rd_T51 a0 0).f1) == 0 && (((rd_T51 a0 0).f2) == 1))) = true
    ·rw [if_pos c5] at H
     have c5b0 : (((rd_T51 a0 0).f0) == 0 && (((rd_T51 a0 0).f1) == 0 && (((rd_T51 a0 0).f2) == 1))) = true := c5
     (try (have c5b1 : decide (((rd_T51 a0 0).f0) = 0 && (((rd_T51 a0 0).f1) == 0 && (((rd_T51 a0 0).f2) == 1))) = true := by simpa using c5))
     (try (have c5b2 : (((rd_T51 a0 0).f0) == 0 && (((rd_T51 a0 0).f1) == 0 && (((rd_T51 a0 0).f2) == 1))) = true := by simpa using c5))
     clear c5
     replace H := Option.bind_eq_some_iff.mp H
     obtain ⟨g1, l9, H⟩ := H
     replace H : ((Pr01b.f k g1 (([0, 1] : List Int))).bind fun f8 => (if f8 = true then ((Pxe.f k a4 a3 a0 1 0).bind fun e3 => ((Pr01b.f k e3 (([0, 1] : List Int))).bind fun d8 => (if d8 = true then ((Pxf.f k a4 a3 a0 0 0).bind fun d0 => ((Pr01b.f k d0 (([1] : List Int))).bind fun b7 => (if b7 = true then ((Pxb.f k a4 a3 a0).bind fun b4 => (if b4 = true then ((Pxg.f a4 a3 a0 1).bind fun b0 => (if (b0.length : Int) = 1 then ((Pxc.f 0 ([] : List ByteArray) ([] : List (S51))).bind fun b2 => (some (b2 == 1))) else (some false))) else (some false))) else (some false)))) else (some false)))) else (some false))) = some r := H
     have A6 := Aside0.mk l9
     clear l9
     obtain ⟨l3, h2⟩ : ∃ y_ : List Int, y_ = (([0, 1] : List Int)) := ⟨_, rfl⟩
     replace H : ((Pr01b.f k g1 l3).bind fun f8 => (if f8 = true then ((Pxe.f k a4 a3 a0 1 0).bind fun e3 => ((Pr01b.f k e3 (([0, 1] : List Int))).bind fun d8 => (if d8 = true then ((Pxf.f k a4 a3 a0 0 0).bind fun d0 => ((Pr01b.f k d0 (([1] : List Int))).bind fun b7 => (if b7 = true then ((Pxb.f k a4 a3 a0).bind fun b4 => (if b4 = true then ((Pxg.f a4 a3 a0 1).bind fun b0 => (if (b0.length : Int) = 1 then ((Pxc.f 0 ([] : List ByteArray) ([] : List (S51))).bind fun b2 => (some (b2 == 1))) else (some false))) else (some false))) else (some false)))) else (some false)))) else (some false))) = some r := by first | (rw [h2]; with_reducible exact H) | (have f7 := (Option.bind_some _ _).symm.trans H; rw [h2]; with_reducible exact f7) | (have f7 := (Option.bind_some _ _).symm.trans H; with_reducible exact f7) | with_reducible exact H | (rw [h2]; exact H) | exact H
     have i9 := Aside0.mk h2
     clear h2
     replace H := Option.bind_eq_some_iff.mp H
     obtain ⟨f8, m0, H⟩ := H
     replace H : (if f8 = true then ((Pxe.f k a4 a3 a0 1 0).bind fun e3 => ((Pr01b.f k e3 (([0, 1] : List Int))).bind fun d8 => (if d8 = true then ((Pxf.f k a4 a3 a0 0 0).bind fun d0 => ((Pr01b.f k d0 (([1] : List Int))).bind fun b7 => (if b7 = true then ((Pxb.f k a4 a3 a0).bind fun b4 => (if b4 = true then ((Pxg.f a4 a3 a0 1).bind fun b0 => (if (b0.length : Int) = 1 then ((Pxc.f 0 ([] : List ByteArray) ([] : List (S51))).bind fun b2 => (some (b2 == 1))) else (some false))) else (some false))) else (some false)))) else (some false)))) else (some false)) = some r := H
     have A7 := Aside0.mk m0
     clear m0
     by_cases c8 : f8 = true
     ·subst c8
      have H1 : ((Pxe.f k a4 a3 a0 1 0).bind fun e3 => ((Pr01b.f k e3 (([0, 1] : List Int))).bind fun d8 => (if d8 = true then ((Pxf.f k a4 a3 a0 0 0).bind fun d0 => ((Pr01b.f k d0 (([1] : List Int))).bind fun b7 => (if b7 = true then ((Pxb.f k a4 a3 a0).bind fun b4 => (if b4 = true then ((Pxg.f a4 a3 a0 1).bind fun b0 => (if (b0.length : Int) = 1 then ((Pxc.f 0 ([] : List ByteArray) ([] : List (S51))).bind fun b2 => (some (b2 == 1))) else (some false))) else (some false))) else (some false)))) else (some false)))) = some r := by rw [if_pos rfl] at H; exact H
      clear H
      have H := H1
      clear H1
      replace H := Option.bind_eq_some_iff.mp H
      obtain ⟨e3, m1, H⟩ := H
      replace H : ((Pr01b.f k e3 (([0, 1] : List Int))).bind fun d8 => (if d8 = true then ((Pxf.f k a4 a3 a0 0 0).bind fun d0 => ((Pr01b.f k d0 (([1] : List Int))).bind fun b7 => (if b7 = true then ((Pxb.f k a4 a3 a0).bind fun b4 => (if b4 = true then ((Pxg.f a4 a3 a0 1).bind fun b0 => (if (b0.length : Int) = 1 then ((Pxc.f 0 ([] : List ByteArray) ([] : List (S51))).bind fun b2 => (some (b2 == 1))) else (some false))) else (some false))) else (some false)))) else (some false))) = some r := H
      have A9 := Aside0.mk m1
      clear m1
      obtain ⟨k7, h1⟩ : ∃ y_ : List Int, y_ = (([0, 1] : List Int)) := ⟨_, rfl⟩
      replace H : ((Pr01b.f k e3 k7).bind fun d8 => (if d8 = true then ((Pxf.f k a4 a3 a0 0 0).bind fun d0 => ((Pr01b.f k d0 (([1] : List Int))).bind fun b7 => (if b7 = true then ((Pxb.f k a4 a3 a0).bind fun b4 => (if b4 = true then ((Pxg.f a4 a3 a0 1).bind fun b0 => (if (b0.length : Int) = 1 then ((Pxc.f 0 ([] : List ByteArray) ([] : List (S51))).bind fun b2 => (some (b2 == 1))) else (some false))) else (some false))) else (some false)))) else (some false))) = some r := by first | (rw [h1]; with_reducible exact H) | (have f7 := (Option.bind_some _ _).symm.trans H; rw [h1]; with_reducible exact f7) | (have f7 := (Option.bind_some _ _).symm.trans H; with_reducible exact f7) | with_reducible exact H | (rw [h1]; exact H) | exact H
      have j3 := Aside0.mk h1
      clear h1
      replace H := Option.bind_eq_some_iff.mp H
      obtain ⟨d8, k4, H⟩ := H
      replace H : (if d8 = true then ((Pxf.f k a4 a3 a0 0 0).bind fun d0 => ((Pr01b.f k d0 (([1] : List Int))).bind fun b7 => (if b7 = true then ((Pxb.f k a4 a3 a0).bind fun b4 => (if b4 = true then ((Pxg.f a4 a3 a0 1).bind fun b0 => (if (b0.length : Int) = 1 then ((Pxc.f 0 ([] : List ByteArray) ([] : List (S51))).bind fun b2 => (some (b2 == 1))) else (some false))) else (some false))) else (some false)))) else (some false)) = some r := H
      have i6 := Aside0.mk k4
      clear k4
      by_cases j6 : d8 = true
      ·subst j6
       have H1 : ((Pxf.f k a4 a3 a0 0 0).bind fun d0 => ((Pr01b.f k d0 (([1] : List Int))).bind fun b7 => (if b7 = true then ((Pxb.f k a4 a3 a0).bind fun b4 => (if b4 = true then ((Pxg.f a4 a3 a0 1).bind fun b0 => (if (b0.length : Int) = 1 then ((Pxc.f 0 ([] : List ByteArray) ([] : List (S51))).bind fun b2 => (some (b2 == 1))) else (some false))) else (some false))) else (some false)))) = some r := by rw [if_pos rfl] at H; exact H
       clear H
       have H := H1
       clear H1
       replace H := Option.bind_eq_some_iff.mp H
       obtain ⟨d0, l4, H⟩ := H
       replace H : ((Pr01b.f k d0 (([1] : List Int))).bind fun b7 => (if b7 = true then ((Pxb.f k a4 a3 a0).bind fun b4 => (if b4 = true then ((Pxg.f a4 a3 a0 1).bind fun b0 => (if (b0.length : Int) = 1 then ((Pxc.f 0 ([] : List ByteArray) ([] : List (S51))).bind fun b2 => (some (b2 == 1))) else (some false))) else (some false))) else (some false))) = some r := H
       have q6 := Aside0.mk l4
       clear l4
       obtain ⟨l6, h0⟩ : ∃ y_ : List Int, y_ = (([1] : List Int)) := ⟨_, rfl⟩
       replace H : ((Pr01b.f k d0 l6).bind fun b7 => (if b7 = true then ((Pxb.f k a4 a3 a0).bind fun b4 => (if b4 = true then ((Pxg.f a4 a3 a0 1).bind fun b0 => (if (b0.length : Int) = 1 then ((Pxc.f 0 ([] : List ByteArray) ([] : List (S51))).bind fun b2 => (some (b2 == 1))) else (some false))) else (some false))) else (some false))) = some r := by first | (rw [h0]; with_reducible exact H) | (have f7 := (Option.bind_some _ _).symm.trans H; rw [h0]; with_reducible exact f7) | (have f7 := (Option.bind_some _ _).symm.trans H; with_reducible exact f7) | with_reducible exact H | (rw [h0]; exact H) | exact H
       have j2 := Aside0.mk h0
       clear h0
       replace H := Option.bind_eq_some_iff.mp H
       obtain ⟨b7, k9, H⟩ := H
       replace H : (if b7 = true then ((Pxb.f k a4 a3 a0).bind fun b4 => (if b4 = true then ((Pxg.f a4 a3 a0 1).bind fun b0 => (if (b0.length : Int) = 1 then ((Pxc.f 0 ([] : List ByteArray) ([] : List (S51))).bind fun b2 => (some (b2 == 1))) else (some false))) else (some false))) else (some false)) = some r := H
       have q5 := Aside0.mk k9
       clear k9
       by_cases i8 : b7 = true
       ·subst i8
        have H1 : ((Pxb.f k a4 a3 a0).bind fun b4 => (if b4 = true then ((Pxg.f a4 a3 a0 1).bind fun b0 => (if (b0.length : Int) = 1 then ((Pxc.f 0 ([] : List ByteArray) ([] : List (S51))).bind fun b2 => (some (b2 == 1))) else (some false))) else (some false))) = some r := by rw [if_pos rfl] at H; exact H
        clear H
        have H := H1
        clear H1
        replace H := Option.bind_eq_some_iff.mp H
        obtain ⟨b4, k0, H⟩ := H
        replace H : (if b4 = true then ((Pxg.f a4 a3 a0 1).bind fun b0 => (if (b0.length : Int) = 1 then ((Pxc.f 0 ([] : List ByteArray) ([] : List (S51))).bind fun b2 => (some (b2 == 1))) else (some false))) else (some false)) = some r := H
        have q4 := Aside0.mk k0
        clear k0
        by_cases i7 : b4 = true
        ·subst i7
         have H1 : ((Pxg.f a4 a3 a0 1).bind fun b0 => (if (b0.length : Int) = 1 then ((Pxc.f 0 ([] : List ByteArray) ([] : List (S51))).bind fun b2 => (some (b2 == 1))) else (some false))) = some r := by rw [if_pos rfl] at H; exact H
         clear H
         have H := H1
         clear H1
         replace H := Option.bind_eq_some_iff.mp H
         obtain ⟨b0, l5, H⟩ := H
         replace H : (if (b0.length : Int) = 1 then ((Pxc.f 0 ([] : List ByteArray) ([] : List (S51))).bind fun b2 => (some (b2 == 1))) else (some false)) = some r := H
         have q7 := Aside0.mk l5
         clear l5
         by_cases h9 : (b0.length : Int) = 1
         ·rw [if_pos h9] at H
          have c18b0 : ((b0.length : Int) == 1) = true := beq_iff_eq.mpr h9
          have c18b1 : ((b0.length : Int) != 1) = false := bne_eq_false_iff_eq.mpr h9
          clear h9
          replace H := Option.bind_eq_some_iff.mp H
          obtain ⟨b2, k1, H⟩ := H
          replace H : (some (b2 == 1)) = some r := H
          have q8 := Aside0.mk k1
          clear k1
          obtain rfl := Option.some.inj H
          go_enter Try.func24, Try.ntmps24
          go_wp2_with (first | ((with_reducible refine gate_dst (N := 4) rfl ?_); (try (refine gate_guard (by rfl) ?_; dsimp only)); refine Kd.R_lit Kd.string _ 9 ?hg (N := 4) ?hd (xs := ([(⟨#[97]⟩ : ByteArray)] : List ByteArray)) (inner := [.string (⟨#[97]⟩ : ByteArray)]) (ok := fun _ => True) (okp := fun _ => True) ?hr ?hp (fun _ hk => hk) trivial (Below.refl _ _) (Nat.le_refl _) (by simp) ?_; (case hd => rfl); (case hg => rfl); (case hr => first | (go_simp; done) | (go_simp; rfl)); (case hp => exact (Reps.one (show Kd.M Kd.string _ _ _ (⟨#[97]⟩ : ByteArray) [.string (⟨#[97]⟩ : ByteArray)] from rfl) (Reps.none _ _))); intro t3 u1 i0 hb hg_ hnew_; clear hg_ hnew_; (first | rw [← j5.out] at i0 | (simp only [Int.reduceToNat] at i0; rw [← j5.out] at i0)); have b8 := Aside0.mk (Kd.R_lower i0 (below_size (by repeat (first | (with_reducible first | exact HB.out | apply below_alloc | apply pw_below_drewN | apply below_drew1) | exact HB.out)))); have b9 := Aside0.mk (below_step (by repeat (first | (with_reducible first | exact HB.out | apply below_alloc | apply pw_below_drewN | apply below_drew1) | exact HB.out)) hb); clear HB; have a8 := b8; have HB := b9; clear b8 b9; clear hb i0) | ((with_reducible refine gate_dst (N := 8) rfl ?_); (try (refine gate_guard (by rfl) ?_; dsimp only)); refine Kd.R_lit k51 _ 51 ?hg (N := 8) ?hd (xs := ([(⟨1, 0, 1⟩ : S51), (⟨0, 0, 1⟩ : S51), (⟨0, 0, 1⟩ : S51)] : List (S51))) (inner := [.int .i64 1, .int .i64 0, .int .i64 1, .int .i64 0, .int .i64 0, .int .i64 1, .int .i64 0, .int .i64 0, .int .i64 1]) (ok := fun _ => True) (okp := fun _ => True) ?hr ?hp (fun _ hk => hk) trivial (Below.refl _ _) (Nat.le_refl _) (by simp) ?_; (case hd => rfl); (case hg => rfl); (case hr => first | (go_simp; done) | (go_simp; rfl)); (case hp => exact (Reps.c3 (show Kd.M k51 _ _ _ (⟨1, 0, 1⟩ : S51) [.int .i64 1, .int .i64 0, .int .i64 1] from (k51_mkM _ _ _ (⟨1, 0, 1⟩ : S51) )) (Reps.c3 (show Kd.M k51 _ _ _ (⟨0, 0, 1⟩ : S51) [.int .i64 0, .int .i64 0, .int .i64 1] from (k51_mkM _ _ _ (⟨0, 0, 1⟩ : S51) )) (Reps.c3 (show Kd.M k51 _ _ _ (⟨0, 0, 1⟩ : S51) [.int .i64 0, .int .i64 0, .int .i64 1] from (k51_mkM _ _ _ (⟨0, 0, 1⟩ : S51) )) (Reps.none _ _))))); intro r1 u4 i1 hb hg_ hnew_; clear hg_ hnew_; (first | rw [← j4.out] at i1 | (simp only [Int.reduceToNat] at i1; rw [← j4.out] at i1)); have b8 := Aside0.mk (Kd.R_below (by (with_reducible repeat (first | apply Kd.R_alloc | apply Kd.R_drewN | apply Kd.R_drew)); exact a8.out) hb); have b9 := Aside0.mk (Kd.R_lower i1 (below_size (by repeat (first | (with_reducible first | exact HB.out | apply below_alloc | apply pw_below_drewN | apply below_drew1) | exact HB.out)))); have d1 := Aside0.mk (below_step (by repeat (first | (with_reducible first | exact HB.out | apply below_alloc | apply pw_below_drewN | apply below_drew1) | exact HB.out)) hb); clear a8; clear HB; have a8 := b8; have a9 := b9; have HB := d1; clear b8 b9 d1; clear hb i1; obtain ⟨l8, j9, m8⟩ := Kd.R_slice a9.out; subst m8; obtain ⟨k6, k3, m2⟩ := Kd.R_slice a8.out; subst m2) | ((with_reducible refine gate_callee (f := 25) rfl ?_); refine goesL_ (some 10) rfl rfl Try.func25 (by kernel_rfl) rfl #[.agg #[.int .i64 3, .slice k6 h7.length k3, .slice l8 i3.length j9]] rfl (by (try simp only [List.map_toArray, List.map_cons, List.map_nil]); first | done | rfl | (simp only [List.length_drop, List.length_take]; rfl)) ?_; (with_reducible refine (Pxd.calls 3 _ _ h7 _ _ i3 a4 a3 a0 g9 _ ?g2 ?g4 ?g3 ?g5 A1.out).mono ?_); (case g2 => repeat (first | exact (Kd.R_reads' a8.out).2.2 | (with_reducible refine Kd.C_alloc ?_ _) | (with_reducible refine Kd.C_drewN ?_ _) | (with_reducible refine Kd.C_drew ?_))); (case g4 => exact (Kd.R_reads' a8.out).2.1); (case g3 => repeat (first | exact (Kd.R_reads' a9.out).2.2 | (with_reducible refine Kd.C_alloc ?_ _) | (with_reducible refine Kd.C_drewN ?_ _) | (with_reducible refine Kd.C_drew ?_))); (case g5 => exact (Kd.R_reads' a9.out).2.1); rintro e u5 ⟨t4, r3, rfl, e8, k8, hb⟩; refine ⟨_, rfl, ?_⟩; have b8 := Aside0.mk (Kd.R_elder' (by (with_reducible repeat (first | apply Kd.R_alloc | apply Kd.R_drewN | apply Kd.R_drew)); exact a8.out) (Kd.R_base e8) hb); have b9 := Aside0.mk (Kd.R_elder' (by (with_reducible repeat (first | apply Kd.R_alloc | apply Kd.R_drewN | apply Kd.R_drew)); exact a9.out) (Kd.R_base k8) hb); have d1 := Aside0.mk (Kd.R_lower (Kd.R_new' e8 (Kd.R_lt (by (with_reducible repeat (first | apply Kd.R_alloc | apply Kd.R_drewN | apply Kd.R_drew)); exact a8.out))) (below_size (by repeat (first | (with_reducible first | exact HB.out | apply below_alloc | apply pw_below_drewN | apply below_drew1) | exact HB.out)))); have d4 := Aside0.mk (Kd.R_lower (Kd.R_new' k8 (Kd.R_lt (by (with_reducible repeat (first | apply Kd.R_alloc | apply Kd.R_drewN | apply Kd.R_drew)); exact a9.out))) (below_size (by repeat (first | (with_reducible first | exact HB.out | apply below_alloc | apply pw_below_drewN | apply below_drew1) | exact HB.out)))); have d5 := Aside0.mk (below_step (by repeat (first | (with_reducible first | exact HB.out | apply below_alloc | apply pw_below_drewN | apply below_drew1) | exact HB.out)) hb); clear a8; clear a9; clear HB; have a8 := b8; have a9 := b9; have a7 := d1; have a6 := d4; have HB := d5; clear b8 b9 d1 d4 d5; (try clear hb); (try clear i2); (try clear hk); (try clear hi); (try clear e8); (try clear k8)) | ((with_reducible refine gate_dst (N := 1) rfl ?_); (try (refine gate_guard (by rfl) ?_; dsimp only)); refine box_event ?hg (N := 1) ?hd (cs := #[.int .i64 0, .slice none 0 0, .slice none 0 0]) (t := 25) ?hr ?_; (case hd => rfl); (case hg => rfl); (case hr => first | (go_simp; done) | (go_simp; rfl)); intro a5 hg k2 hbox hb; have b8 := Aside0.mk (Kd.R_below (by (with_reducible repeat (first | apply Kd.R_alloc | apply Kd.R_drewN | apply Kd.R_drew)); exact a8.out) hb); have b9 := Aside0.mk (Kd.R_below (by (with_reducible repeat (first | apply Kd.R_alloc | apply Kd.R_drewN | apply Kd.R_drew)); exact a9.out) hb); have d1 := Aside0.mk (Kd.R_below (by (with_reducible repeat (first | apply Kd.R_alloc | apply Kd.R_drewN | apply Kd.R_drew)); exact a7.out) hb); have d4 := Aside0.mk (Kd.R_below (by (with_reducible repeat (first | apply Kd.R_alloc | apply Kd.R_drewN | apply Kd.R_drew)); exact a6.out) hb); have d5 := Aside0.mk (below_step (by repeat (first | (with_reducible first | exact HB.out | apply below_alloc | apply pw_below_drewN | apply below_drew1) | exact HB.out)) hb); have d9 := Aside0.mk (hbox); have e0 := Aside0.mk ((by rw [hg]; exact (below_size (by repeat (first | (with_reducible first | exact HB.out | apply below_alloc | apply pw_below_drewN | apply below_drew1) | exact HB.out))) : w.heap.size ≤ a5)); have e4 := Aside0.mk ((by rw [hg]; exact (below_size (by repeat (first | (with_reducible first | exact HB.out | apply below_alloc | apply pw_below_drewN | apply below_drew1) | exact HB.out))) : w.heap.size ≤ a5)); clear a8; clear a9; clear a7; clear a6; clear HB; have a8 := b8; have a9 := b9; have a7 := d1; have a6 := d4; have HB := d5; have a1 := d9; have q9 := e0; have e1 := e4; clear b8 b9 d1 d4 d5 d9 e0 e4; clear hb hbox hg; have p2 : k2.cell? ⟨a5, 0, none⟩ = some (.int .i64 0) := (blk_cell a1.out 0).trans rfl; have p7 : k2.cell? ⟨a5, 1, none⟩ = some (.slice none 0 0) := (blk_cell a1.out 1).trans rfl; have p8 : k2.cell? ⟨a5, 2, none⟩ = some (.slice none 0 0) := (blk_cell a1.out 2).trans rfl; have n5 := blk_frozen a1.out 0; have o5 := blk_frozen a1.out 1; have o0 := blk_frozen a1.out 2; obtain ⟨d6, d3, m5⟩ := Kd.R_slice a7.out; subst m5; obtain ⟨s2, d7, n2⟩ := Kd.R_slice a6.out; subst n2; have i4 : 0 ≤ (0 : Int) := (by omega); have i5 : 0 < (a0.length : Int) := of_decide_eq_true (by first | (with_reducible assumption) | assumption); obtain ⟨b5, m6, e9, f4, f3⟩ := at_T51 (Kd.R_reads' a6.out).2.2 0 i4 i5; cases m6; have r0 : (0 < a0.length) = True := eq_true (by omega); (try rw [show ((0 : Int)).toNat = 0 from rfl] at e9); (try rw [show 0 * 3 = 0 from rfl] at e9); (try rw [Addr.add_zero'] at e9); (try rw [show ((0 : Int)).toNat = 0 from rfl] at f4); (try rw [show 0 * 3 = 0 from rfl] at f4); (try rw [Addr.add_zero'] at f4); (try rw [show ((0 : Int)).toNat = 0 from rfl] at f3); (try rw [show 0 * 3 = 0 from rfl] at f3); (try rw [Addr.add_zero'] at f3); have e7 : b5.block ≠ a5 := Kd.own_blk (Kd.R_ne a6.out a1.out (by decide)); have e6 : b5.block ≠ a5 := Kd.own_blk (Kd.R_ne a6.out a1.out (by decide)); have e5 : b5.block ≠ a5 := Kd.own_blk (Kd.R_ne a6.out a1.out (by decide)); replace e9 := (cell_far (p := ⟨a5, 0, none⟩) (by first | (rw [add_block]; exact e7) | (show (Addr.add _ _).block ≠ _; rw [add_block]; exact e7) | exact e7) (.int .i64 a4)).trans e9; replace f4 := (cell_far (p := ⟨a5, 0, none⟩) (by first | (rw [add_block]; exact e7) | (show (Addr.add _ _).block ≠ _; rw [add_block]; exact e7) | exact e7) (.int .i64 a4)).trans f4; replace f3 := (cell_far (p := ⟨a5, 0, none⟩) (by first | (rw [add_block]; exact e7) | (show (Addr.add _ _).block ≠ _; rw [add_block]; exact e7) | exact e7) (.int .i64 a4)).trans f3; replace e9 := (cell_far (p := ⟨a5, 1, none⟩) (by first | (rw [add_block]; exact e6) | (show (Addr.add _ _).block ≠ _; rw [add_block]; exact e6) | exact e6) (.slice d6 a3.length d3)).trans e9; replace f4 := (cell_far (p := ⟨a5, 1, none⟩) (by first | (rw [add_block]; exact e6) | (show (Addr.add _ _).block ≠ _; rw [add_block]; exact e6) | exact e6) (.slice d6 a3.length d3)).trans f4; replace f3 := (cell_far (p := ⟨a5, 1, none⟩) (by first | (rw [add_block]; exact e6) | (show (Addr.add _ _).block ≠ _; rw [add_block]; exact e6) | exact e6) (.slice d6 a3.length d3)).trans f3; replace e9 := (cell_far (p := ⟨a5, 2, none⟩) (by first | (rw [add_block]; exact e5) | (show (Addr.add _ _).block ≠ _; rw [add_block]; exact e5) | exact e5) (.slice (some b5) a0.length d7)).trans e9; replace f4 := (cell_far (p := ⟨a5, 2, none⟩) (by first | (rw [add_block]; exact e5) | (show (Addr.add _ _).block ≠ _; rw [add_block]; exact e5) | exact e5) (.slice (some b5) a0.length d7)).trans f4; replace f3 := (cell_far (p := ⟨a5, 2, none⟩) (by first | (rw [add_block]; exact e5) | (show (Addr.add _ _).block ≠ _; rw [add_block]; exact e5) | exact e5) (.slice (some b5) a0.length d7)).trans f3; clear e7; clear e6; clear e5; replace i4 := eq_true i4; replace i5 := eq_true i5) | (go_at_call 34; (with_reducible refine (Pxa.calls a4 _ _ a3 _ _ a0 0 g1 _ ?g2 ?g4 ?g3 ?g5 A6.out).mono ?_); (case g2 => refine (Kd.R_reads' (e := 9) (base := w.heap.size) (ok := fun k_ => (True ∧ some k_ ≠ (.slice k6 h7.length k3 : Value).ownBlock)) (n := a3.length) (c := d3) ?_).2.2; exact (by (with_reducible repeat (first | apply Kd.R_alloc | apply Kd.R_drewN | apply Kd.R_drew)); exact (Kd.R_mono (Kd.R_far (p := ⟨a5, 2, none⟩) (Kd.R_far (p := ⟨a5, 1, none⟩) (Kd.R_far (p := ⟨a5, 0, none⟩) (Kd.R_types a7.out a1.out (by decide)) (fun _ hk => hk.2) (.int .i64 a4)) (fun _ hk => hk.2) (.slice d6 a3.length d3)) (fun _ hk => hk.2) (.slice (some b5) a0.length d7)) (fun _ h_ => h_.1)))); (case g4 => exact (Kd.R_reads' a7.out).2.1); (case g3 => refine (Kd.R_reads' (e := 51) (base := w.heap.size) (ok := fun k_ => (True ∧ some k_ ≠ (.slice l8 i3.length j9 : Value).ownBlock)) (n := a0.length) (c := d7) ?_).2.2; exact (by (with_reducible repeat (first | apply Kd.R_alloc | apply Kd.R_drewN | apply Kd.R_drew)); exact (Kd.R_mono (Kd.R_far (p := ⟨a5, 2, none⟩) (Kd.R_far (p := ⟨a5, 1, none⟩) (Kd.R_far (p := ⟨a5, 0, none⟩) (Kd.R_types a6.out a1.out (by decide)) (fun _ hk => hk.2) (.int .i64 a4)) (fun _ hk => hk.2) (.slice d6 a3.length d3)) (fun _ hk => hk.2) (.slice (some b5) a0.length d7)) (fun _ h_ => h_.1)))); (case g5 => exact (Kd.R_reads' a6.out).2.1); rintro e t9 ⟨s3, rfl, e8, hb⟩; have b8 := Aside0.mk (Kd.R_below (by (with_reducible repeat (first | apply Kd.R_alloc | apply Kd.R_drewN | apply Kd.R_drew)); exact (Kd.R_mono (Kd.R_far (p := ⟨a5, 2, none⟩) (Kd.R_far (p := ⟨a5, 1, none⟩) (Kd.R_far (p := ⟨a5, 0, none⟩) (Kd.R_types a8.out a1.out (by decide)) (fun _ hk => hk.2) (.int .i64 a4)) (fun _ hk => hk.2) (.slice d6 a3.length d3)) (fun _ hk => hk.2) (.slice (some b5) a0.length d7)) (fun _ h_ => h_.1))) hb); have b9 := Aside0.mk (Kd.R_below (by (with_reducible repeat (first | apply Kd.R_alloc | apply Kd.R_drewN | apply Kd.R_drew)); exact (Kd.R_mono (Kd.R_far (p := ⟨a5, 2, none⟩) (Kd.R_far (p := ⟨a5, 1, none⟩) (Kd.R_far (p := ⟨a5, 0, none⟩) (Kd.R_types a9.out a1.out (by decide)) (fun _ hk => hk.2) (.int .i64 a4)) (fun _ hk => hk.2) (.slice d6 a3.length d3)) (fun _ hk => hk.2) (.slice (some b5) a0.length d7)) (fun _ h_ => h_.1))) hb); have d1 := Aside0.mk (Kd.R_below (by (with_reducible repeat (first | apply Kd.R_alloc | apply Kd.R_drewN | apply Kd.R_drew)); exact (Kd.R_mono (Kd.R_far (p := ⟨a5, 2, none⟩) (Kd.R_far (p := ⟨a5, 1, none⟩) (Kd.R_far (p := ⟨a5, 0, none⟩) (Kd.R_types a7.out a1.out (by decide)) (fun _ hk => hk.2) (.int .i64 a4)) (fun _ hk => hk.2) (.slice d6 a3.length d3)) (fun _ hk => hk.2) (.slice (some b5) a0.length d7)) (fun _ h_ => h_.1))) hb); have d4 := Aside0.mk (Kd.R_below (by (with_reducible repeat (first | apply Kd.R_alloc | apply Kd.R_drewN | apply Kd.R_drew)); exact (Kd.R_mono (Kd.R_far (p := ⟨a5, 2, none⟩) (Kd.R_far (p := ⟨a5, 1, none⟩) (Kd.R_far (p := ⟨a5, 0, none⟩) (Kd.R_types a6.out a1.out (by decide)) (fun _ hk => hk.2) (.int .i64 a4)) (fun _ hk => hk.2) (.slice d6 a3.length d3)) (fun _ hk => hk.2) (.slice (some b5) a0.length d7)) (fun _ h_ => h_.1))) hb); have d5 := Aside0.mk (Kd.R_lower e8 (below_size (by repeat (first | (with_reducible first | exact HB.out | apply below_alloc | apply pw_below_drewN | apply below_drew1 | refine below_set ?_ e1.out) | exact HB.out)))); have d9 := Aside0.mk (blk_below (g := a5) (o := .cells #[.int .i64 a4, .slice d6 a3.length d3, .slice (some b5) a0.length d7] 25 (0, 0)) (by (with_reducible repeat (first | refine blk_drewN ?_ _ | refine blk_drew ?_ | refine blk_alloc ?_ _)); refine blk_put (cs := #[.int .i64 a4, .slice d6 a3.length d3, .slice none 0 0]) ?_ 2 _ rfl; (with_reducible repeat (first | refine blk_drewN ?_ _ | refine blk_drew ?_ | refine blk_alloc ?_ _)); refine blk_put (cs := #[.int .i64 a4, .slice none 0 0, .slice none 0 0]) ?_ 1 _ rfl; (with_reducible repeat (first | refine blk_drewN ?_ _ | refine blk_drew ?_ | refine blk_alloc ?_ _)); refine blk_put (cs := #[.int .i64 0, .slice none 0 0, .slice none 0 0]) ?_ 0 _ rfl; (with_reducible repeat (first | refine blk_drewN ?_ _ | refine blk_drew ?_ | refine blk_alloc ?_ _)); exact a1.out) hb); have e0 := Aside0.mk (below_step (by repeat (first | (with_reducible first | exact HB.out | apply below_alloc | apply pw_below_drewN | apply below_drew1 | refine below_set ?_ e1.out) | exact HB.out)) hb); clear a8; clear a9; clear a7; clear a6; clear a1; clear HB; have a8 := b8; have a9 := b9; have a7 := d1; have a6 := d4; have b1 := d5; have a1 := d9; have HB := e0; clear b8 b9 d1 d4 d5 d9 e0; (try clear hb); (try clear i2); (try clear hk); (try clear hi); (try clear e8)) | ((with_reducible refine gate_dst (N := 32) rfl ?_); (try (refine gate_guard (by rfl) ?_; dsimp only)); refine Kd.R_lit (Kd.int .i64) _ 3 ?hg (N := 32) ?hd (xs := ([0, 1] : List Int)) (inner := [.int .i64 0, .int .i64 1]) (ok := fun _ => True) (okp := fun _ => True) ?hr ?hp (fun _ hk => hk) trivial (Below.refl _ _) (Nat.le_refl _) (by simp) ?_; (case hd => rfl); (case hg => rfl); (case hr => first | (go_simp; done) | (go_simp; rfl)); (case hp => exact (Reps.one (show Kd.M (Kd.int .i64) _ _ _ 0 [.int .i64 0] from rfl) (Reps.one (show Kd.M (Kd.int .i64) _ _ _ 1 [.int .i64 1] from rfl) (Reps.none _ _)))); intro s7 l7 h5 hb hg_ hnew_; clear hg_ hnew_; (first | rw [← i9.out] at h5 | (simp only [Int.reduceToNat] at h5; rw [← i9.out] at h5)); have b8 := Aside0.mk (Kd.R_below (by (with_reducible repeat (first | apply Kd.R_alloc | apply Kd.R_drewN | apply Kd.R_drew)); exact a8.out) hb); have b9 := Aside0.mk (Kd.R_below (by (with_reducible repeat (first | apply Kd.R_alloc | apply Kd.R_drewN | apply Kd.R_drew)); exact a9.out) hb); have d1 := Aside0.mk (Kd.R_below (by (with_reducible repeat (first | apply Kd.R_alloc | apply Kd.R_drewN | apply Kd.R_drew)); exact a7.out) hb); have d4 := Aside0.mk (Kd.R_below (by (with_reducible repeat (first | apply Kd.R_alloc | apply Kd.R_drewN | apply Kd.R_drew)); exact a6.out) hb); have d5 := Aside0.mk (Kd.R_elder' (by (with_reducible repeat (first | apply Kd.R_alloc | apply Kd.R_drewN | apply Kd.R_drew)); exact b1.out) (Kd.R_base h5) hb); have d9 := Aside0.mk (Kd.R_lower (Kd.R_new' h5 (Kd.R_lt (by (with_reducible repeat (first | apply Kd.R_alloc | apply Kd.R_drewN | apply Kd.R_drew)); exact b1.out))) (below_size (by repeat (first | (with_reducible first | exact HB.out | apply below_alloc | apply pw_below_drewN | apply below_drew1 | refine below_set ?_ e1.out) | exact HB.out)))); have e0 := Aside0.mk (blk_below (g := a5) (o := .cells #[.int .i64 a4, .slice d6 a3.length d3, .slice (some b5) a0.length d7] 25 (0, 0)) (by (with_reducible repeat (first | refine blk_drewN ?_ _ | refine blk_drew ?_ | refine blk_alloc ?_ _)); exact a1.out) hb); have e4 := Aside0.mk (below_step (by repeat (first | (with_reducible first | exact HB.out | apply below_alloc | apply pw_below_drewN | apply below_drew1 | refine below_set ?_ e1.out) | exact HB.out)) hb); clear a8; clear a9; clear a7; clear a6; clear b1; clear a1; clear HB; have a8 := b8; have a9 := b9; have a7 := d1; have a6 := d4; have b1 := d5; have b3 := d9; have a1 := e0; have HB := e4; clear b8 b9 d1 d4 d5 d9 e0 e4; clear hb h5; obtain ⟨t5, t0, m3⟩ := Kd.R_slice b1.out; subst m3; obtain ⟨r2, s8, n3⟩ := Kd.R_slice b3.out; subst n3) | (go_at_call 33; (with_reducible refine (Pr01b.calls k _ _ g1 _ _ l3 true _ ?g2 ?g4 ?g3 ?g5 A7.out).mono ?_); (case g2 => repeat (first | exact (Kd.R_reads' b1.out).2.2 | (with_reducible refine Kd.C_alloc ?_ _) | (with_reducible refine Kd.C_drewN ?_ _) | (with_reducible refine Kd.C_drew ?_))); (case g4 => exact (Kd.R_reads' b1.out).2.1); (case g3 => repeat (first | exact (Kd.R_reads' b3.out).2.2 | (with_reducible refine Kd.C_alloc ?_ _) | (with_reducible refine Kd.C_drewN ?_ _) | (with_reducible refine Kd.C_drew ?_))); (case g5 => exact (Kd.R_reads' b3.out).2.1); rintro e w' ⟨rfl, ⟨nd, rfl⟩⟩; have p9 : l7.cell? ⟨a5, 0, none⟩ = some (.int .i64 a4) := (blk_cell a1.out 0).trans rfl; have n8 : l7.cell? ⟨a5, 1, none⟩ = some (.slice d6 a3.length d3) := (blk_cell a1.out 1).trans rfl; have n4 : l7.cell? ⟨a5, 2, none⟩ = some (.slice (some b5) a0.length d7) := (blk_cell a1.out 2).trans rfl; have o1 := blk_frozen a1.out 0; have o3 := blk_frozen a1.out 1; have p0 := blk_frozen a1.out 2) | (go_at_call 29; (with_reducible refine (Pxe.calls k a4 _ _ a3 _ _ a0 1 0 e3 _ ?g2 ?g4 ?g3 ?g5 A9.out).mono ?_); (case g2 => repeat (first | exact (Kd.R_reads' a7.out).2.2 | (with_reducible refine Kd.C_alloc ?_ _) | (with_reducible refine Kd.C_drewN ?_ _) | (with_reducible refine Kd.C_drew ?_))); (case g4 => exact (Kd.R_reads' a7.out).2.1); (case g3 => repeat (first | exact (Kd.R_reads' a6.out).2.2 | (with_reducible refine Kd.C_alloc ?_ _) | (with_reducible refine Kd.C_drewN ?_ _) | (with_reducible refine Kd.C_drew ?_))); (case g5 => exact (Kd.R_reads' a6.out).2.1); rintro e u3 ⟨r8, rfl, e8, hb⟩; have b8 := Aside0.mk (Kd.R_below (by (with_reducible repeat (first | apply Kd.R_alloc | apply Kd.R_drewN | apply Kd.R_drew)); exact a8.out) hb); have b9 := Aside0.mk (Kd.R_below (by (with_reducible repeat (first | apply Kd.R_alloc | apply Kd.R_drewN | apply Kd.R_drew)); exact a9.out) hb); have d1 := Aside0.mk (Kd.R_below (by (with_reducible repeat (first | apply Kd.R_alloc | apply Kd.R_drewN | apply Kd.R_drew)); exact a7.out) hb); have d4 := Aside0.mk (Kd.R_below (by (with_reducible repeat (first | apply Kd.R_alloc | apply Kd.R_drewN | apply Kd.R_drew)); exact a6.out) hb); have d5 := Aside0.mk (Kd.R_elder' (by (with_reducible repeat (first | apply Kd.R_alloc | apply Kd.R_drewN | apply Kd.R_drew)); exact b1.out) (Kd.R_base e8) hb); have d9 := Aside0.mk (Kd.R_elder' (by (with_reducible repeat (first | apply Kd.R_alloc | apply Kd.R_drewN | apply Kd.R_drew)); exact b3.out) (Kd.R_base e8) hb); have e0 := Aside0.mk (Kd.R_lower (Kd.R_new' (Kd.R_new' e8 (Kd.R_lt (by (with_reducible repeat (first | apply Kd.R_alloc | apply Kd.R_drewN | apply Kd.R_drew)); exact b1.out))) (Kd.R_lt (by (with_reducible repeat (first | apply Kd.R_alloc | apply Kd.R_drewN | apply Kd.R_drew)); exact b3.out))) (below_size (by repeat (first | (with_reducible first | exact HB.out | apply below_alloc | apply pw_below_drewN | apply below_drew1 | refine below_set ?_ e1.out) | exact HB.out)))); have e4 := Aside0.mk (blk_below (g := a5) (o := .cells #[.int .i64 a4, .slice d6 a3.length d3, .slice (some b5) a0.length d7] 25 (0, 0)) (by (with_reducible repeat (first | refine blk_drewN ?_ _ | refine blk_drew ?_ | refine blk_alloc ?_ _)); exact a1.out) hb); have f6 := Aside0.mk (below_step (by repeat (first | (with_reducible first | exact HB.out | apply below_alloc | apply pw_below_drewN | apply below_drew1 | refine below_set ?_ e1.out) | exact HB.out)) hb); clear a8; clear a9; clear a7; clear a6; clear b1; clear b3; clear a1; clear HB; have a8 := b8; have a9 := b9; have a7 := d1; have a6 := d4; have b1 := d5; have b3 := d9; have b6 := e0; have a1 := e4; have HB := f6; clear b8 b9 d1 d4 d5 d9 e0 e4 f6; (try clear hb); (try clear i2); (try clear hk); (try clear hi); (try clear e8)) | ((with_reducible refine gate_dst (N := 38) rfl ?_); (try (refine gate_guard (by rfl) ?_; dsimp only)); refine Kd.R_lit (Kd.int .i64) _ 3 ?hg (N := 38) ?hd (xs := ([0, 1] : List Int)) (inner := [.int .i64 0, .int .i64 1]) (ok := fun _ => True) (okp := fun _ => True) ?hr ?hp (fun _ hk => hk) trivial (Below.refl _ _) (Nat.le_refl _) (by simp) ?_; (case hd => rfl); (case hg => rfl); (case hr => first | (go_simp; done) | (go_simp; rfl)); (case hp => exact (Reps.one (show Kd.M (Kd.int .i64) _ _ _ 0 [.int .i64 0] from rfl) (Reps.one (show Kd.M (Kd.int .i64) _ _ _ 1 [.int .i64 1] from rfl) (Reps.none _ _)))); intro r4 j7 g8 hb hg_ hnew_; clear hg_ hnew_; (first | rw [← j3.out] at g8 | (simp only [Int.reduceToNat] at g8; rw [← j3.out] at g8)); have b8 := Aside0.mk (Kd.R_below (by (with_reducible repeat (first | apply Kd.R_alloc | apply Kd.R_drewN | apply Kd.R_drew)); exact a8.out) hb); have b9 := Aside0.mk (Kd.R_below (by (with_reducible repeat (first | apply Kd.R_alloc | apply Kd.R_drewN | apply Kd.R_drew)); exact a9.out) hb); have d1 := Aside0.mk (Kd.R_below (by (with_reducible repeat (first | apply Kd.R_alloc | apply Kd.R_drewN | apply Kd.R_drew)); exact a7.out) hb); have d4 := Aside0.mk (Kd.R_below (by (with_reducible repeat (first | apply Kd.R_alloc | apply Kd.R_drewN | apply Kd.R_drew)); exact a6.out) hb); have d5 := Aside0.mk (Kd.R_elder' (by (with_reducible repeat (first | apply Kd.R_alloc | apply Kd.R_drewN | apply Kd.R_drew)); exact b1.out) (Kd.R_base g8) hb); have d9 := Aside0.mk (Kd.R_elder' (by (with_reducible repeat (first | apply Kd.R_alloc | apply Kd.R_drewN | apply Kd.R_drew)); exact b3.out) (Kd.R_base g8) hb); have e0 := Aside0.mk (Kd.R_elder' (by (with_reducible repeat (first | apply Kd.R_alloc | apply Kd.R_drewN | apply Kd.R_drew)); exact b6.out) (Kd.R_base g8) hb); have e4 := Aside0.mk (Kd.R_lower (Kd.R_new' (Kd.R_new' (Kd.R_new' g8 (Kd.R_lt (by (with_reducible repeat (first | apply Kd.R_alloc | apply Kd.R_drewN | apply Kd.R_drew)); exact b1.out))) (Kd.R_lt (by (with_reducible repeat (first | apply Kd.R_alloc | apply Kd.R_drewN | apply Kd.R_drew)); exact b3.out))) (Kd.R_lt (by (with_reducible repeat (first | apply Kd.R_alloc | apply Kd.R_drewN | apply Kd.R_drew)); exact b6.out))) (below_size (by repeat (first | (with_reducible first | exact HB.out | apply below_alloc | apply pw_below_drewN | apply below_drew1 | refine below_set ?_ e1.out) | exact HB.out)))); have f6 := Aside0.mk (blk_below (g := a5) (o := .cells #[.int .i64 a4, .slice d6 a3.length d3, .slice (some b5) a0.length d7] 25 (0, 0)) (by (with_reducible repeat (first | refine blk_drewN ?_ _ | refine blk_drew ?_ | refine blk_alloc ?_ _)); exact a1.out) hb); have g0 := Aside0.mk (below_step (by repeat (first | (with_reducible first | exact HB.out | apply below_alloc | apply pw_below_drewN | apply below_drew1 | refine below_set ?_ e1.out) | exact HB.out)) hb); clear a8; clear a9; clear a7; clear a6; clear b1; clear b3; clear b6; clear a1; clear HB; have a8 := b8; have a9 := b9; have a7 := d1; have a6 := d4; have b1 := d5; have b3 := d9; have b6 := e0; have d2 := e4; have a1 := f6; have HB := g0; clear b8 b9 d1 d4 d5 d9 e0 e4 f6 g0; clear hb g8; obtain ⟨s4, r5, m4⟩ := Kd.R_slice b6.out; subst m4; obtain ⟨r6, s1, n0⟩ := Kd.R_slice d2.out; subst n0) | (go_at_call 33; (with_reducible refine (Pr01b.calls k _ _ e3 _ _ k7 true _ ?g2 ?g4 ?g3 ?g5 i6.out).mono ?_); (case g2 => repeat (first | exact (Kd.R_reads' b6.out).2.2 | (with_reducible refine Kd.C_alloc ?_ _) | (with_reducible refine Kd.C_drewN ?_ _) | (with_reducible refine Kd.C_drew ?_))); (case g4 => exact (Kd.R_reads' b6.out).2.1); (case g3 => repeat (first | exact (Kd.R_reads' d2.out).2.2 | (with_reducible refine Kd.C_alloc ?_ _) | (with_reducible refine Kd.C_drewN ?_ _) | (with_reducible refine Kd.C_drew ?_))); (case g5 => exact (Kd.R_reads' d2.out).2.1); rintro e w' ⟨rfl, ⟨nd, rfl⟩⟩; have q2 : j7.cell? ⟨a5, 0, none⟩ = some (.int .i64 a4) := (blk_cell a1.out 0).trans rfl; have q3 : j7.cell? ⟨a5, 1, none⟩ = some (.slice d6 a3.length d3) := (blk_cell a1.out 1).trans rfl; have o9 : j7.cell? ⟨a5, 2, none⟩ = some (.slice (some b5) a0.length d7) := (blk_cell a1.out 2).trans rfl; have p4 := blk_frozen a1.out 0; have p1 := blk_frozen a1.out 1; have o8 := blk_frozen a1.out 2) | (go_at_call 28; (with_reducible refine (Pxf.calls k a4 _ _ a3 _ _ a0 0 0 d0 _ ?g2 ?g4 ?g3 ?g5 q6.out).mono ?_); (case g2 => repeat (first | exact (Kd.R_reads' a7.out).2.2 | (with_reducible refine Kd.C_alloc ?_ _) | (with_reducible refine Kd.C_drewN ?_ _) | (with_reducible refine Kd.C_drew ?_))); (case g4 => exact (Kd.R_reads' a7.out).2.1); (case g3 => repeat (first | exact (Kd.R_reads' a6.out).2.2 | (with_reducible refine Kd.C_alloc ?_ _) | (with_reducible refine Kd.C_drewN ?_ _) | (with_reducible refine Kd.C_drew ?_))); (case g5 => exact (Kd.R_reads' a6.out).2.1); rintro e u0 ⟨s0, rfl, e8, hb⟩; have b8 := Aside0.mk (Kd.R_below (by (with_reducible repeat (first | apply Kd.R_alloc | apply Kd.R_drewN | apply Kd.R_drew)); exact a8.out) hb); have b9 := Aside0.mk (Kd.R_below (by (with_reducible repeat (first | apply Kd.R_alloc | apply Kd.R_drewN | apply Kd.R_drew)); exact a9.out) hb); have d1 := Aside0.mk (Kd.R_below (by (with_reducible repeat (first | apply Kd.R_alloc | apply Kd.R_drewN | apply Kd.R_drew)); exact a7.out) hb); have d4 := Aside0.mk (Kd.R_below (by (with_reducible repeat (first | apply Kd.R_alloc | apply Kd.R_drewN | apply Kd.R_drew)); exact a6.out) hb); have d5 := Aside0.mk (Kd.R_elder' (by (with_reducible repeat (first | apply Kd.R_alloc | apply Kd.R_drewN | apply Kd.R_drew)); exact b1.out) (Kd.R_base e8) hb); have d9 := Aside0.mk (Kd.R_elder' (by (with_reducible repeat (first | apply Kd.R_alloc | apply Kd.R_drewN | apply Kd.R_drew)); exact b3.out) (Kd.R_base e8) hb); have e0 := Aside0.mk (Kd.R_elder' (by (with_reducible repeat (first | apply Kd.R_alloc | apply Kd.R_drewN | apply Kd.R_drew)); exact b6.out) (Kd.R_base e8) hb); have e4 := Aside0.mk (Kd.R_elder' (by (with_reducible repeat (first | apply Kd.R_alloc | apply Kd.R_drewN | apply Kd.R_drew)); exact d2.out) (Kd.R_base e8) hb); have f6 := Aside0.mk (Kd.R_lower (Kd.R_new' (Kd.R_new' (Kd.R_new' (Kd.R_new' e8 (Kd.R_lt (by (with_reducible repeat (first | apply Kd.R_alloc | apply Kd.R_drewN | apply Kd.R_drew)); exact b1.out))) (Kd.R_lt (by (with_reducible repeat (first | apply Kd.R_alloc | apply Kd.R_drewN | apply Kd.R_drew)); exact b3.out))) (Kd.R_lt (by (with_reducible repeat (first | apply Kd.R_alloc | apply Kd.R_drewN | apply Kd.R_drew)); exact b6.out))) (Kd.R_lt (by (with_reducible repeat (first | apply Kd.R_alloc | apply Kd.R_drewN | apply Kd.R_drew)); exact d2.out))) (below_size (by repeat (first | (with_reducible first | exact HB.out | apply below_alloc | apply pw_below_drewN | apply below_drew1 | refine below_set ?_ e1.out) | exact HB.out)))); have g0 := Aside0.mk (blk_below (g := a5) (o := .cells #[.int .i64 a4, .slice d6 a3.length d3, .slice (some b5) a0.length d7] 25 (0, 0)) (by (with_reducible repeat (first | refine blk_drewN ?_ _ | refine blk_drew ?_ | refine blk_alloc ?_ _)); exact a1.out) hb); have f9 := Aside0.mk (below_step (by repeat (first | (with_reducible first | exact HB.out | apply below_alloc | apply pw_below_drewN | apply below_drew1 | refine below_set ?_ e1.out) | exact HB.out)) hb); clear a8; clear a9; clear a7; clear a6; clear b1; clear b3; clear b6; clear d2; clear a1; clear HB; have a8 := b8; have a9 := b9; have a7 := d1; have a6 := d4; have b1 := d5; have b3 := d9; have b6 := e0; have d2 := e4; have e2 := f6; have a1 := g0; have HB := f9; clear b8 b9 d1 d4 d5 d9 e0 e4 f6 g0 f9; (try clear hb); (try clear i2); (try clear hk); (try clear hi); (try clear e8)) | ((with_reducible refine gate_dst (N := 44) rfl ?_); (try (refine gate_guard (by rfl) ?_; dsimp only)); refine Kd.R_lit (Kd.int .i64) _ 3 ?hg (N := 44) ?hd (xs := ([1] : List Int)) (inner := [.int .i64 1]) (ok := fun _ => True) (okp := fun _ => True) ?hr ?hp (fun _ hk => hk) trivial (Below.refl _ _) (Nat.le_refl _) (by simp) ?_; (case hd => rfl); (case hg => rfl); (case hr => first | (go_simp; done) | (go_simp; rfl)); (case hp => exact (Reps.one (show Kd.M (Kd.int .i64) _ _ _ 1 [.int .i64 1] from rfl) (Reps.none _ _))); intro t8 j8 g7 hb hg_ hnew_; clear hg_ hnew_; (first | rw [← j2.out] at g7 | (simp only [Int.reduceToNat] at g7; rw [← j2.out] at g7)); have b8 := Aside0.mk (Kd.R_below (by (with_reducible repeat (first | apply Kd.R_alloc | apply Kd.R_drewN | apply Kd.R_drew)); exact a8.out) hb); have b9 := Aside0.mk (Kd.R_below (by (with_reducible repeat (first | apply Kd.R_alloc | apply Kd.R_drewN | apply Kd.R_drew)); exact a9.out) hb); have d1 := Aside0.mk (Kd.R_below (by (with_reducible repeat (first | apply Kd.R_alloc | apply Kd.R_drewN | apply Kd.R_drew)); exact a7.out) hb); have d4 := Aside0.mk (Kd.R_below (by (with_reducible repeat (first | apply Kd.R_alloc | apply Kd.R_drewN | apply Kd.R_drew)); exact a6.out) hb); have d5 := Aside0.mk (Kd.R_elder' (by (with_reducible repeat (first | apply Kd.R_alloc | apply Kd.R_drewN | apply Kd.R_drew)); exact b1.out) (Kd.R_base g7) hb); have d9 := Aside0.mk (Kd.R_elder' (by (with_reducible repeat (first | apply Kd.R_alloc | apply Kd.R_drewN | apply Kd.R_drew)); exact b3.out) (Kd.R_base g7) hb); have e0 := Aside0.mk (Kd.R_elder' (by (with_reducible repeat (first | apply Kd.R_alloc | apply Kd.R_drewN | apply Kd.R_drew)); exact b6.out) (Kd.R_base g7) hb); have e4 := Aside0.mk (Kd.R_elder' (by (with_reducible repeat (first | apply Kd.R_alloc | apply Kd.R_drewN | apply Kd.R_drew)); exact d2.out) (Kd.R_base g7) hb); have f6 := Aside0.mk (Kd.R_elder' (by (with_reducible repeat (first | apply Kd.R_alloc | apply Kd.R_drewN | apply Kd.R_drew)); exact e2.out) (Kd.R_base g7) hb); have g0 := Aside0.mk (Kd.R_lower (Kd.R_new' (Kd.R_new' (Kd.R_new' (Kd.R_new' (Kd.R_new' g7 (Kd.R_lt (by (with_reducible repeat (first | apply Kd.R_alloc | apply Kd.R_drewN | apply Kd.R_drew)); exact b1.out))) (Kd.R_lt (by (with_reducible repeat (first | apply Kd.R_alloc | apply Kd.R_drewN | apply Kd.R_drew)); exact b3.out))) (Kd.R_lt (by (with_reducible repeat (first | apply Kd.R_alloc | apply Kd.R_drewN | apply Kd.R_drew)); exact b6.out))) (Kd.R_lt (by (with_reducible repeat (first | apply Kd.R_alloc | apply Kd.R_drewN | apply Kd.R_drew)); exact d2.out))) (Kd.R_lt (by (with_reducible repeat (first | apply Kd.R_alloc | apply Kd.R_drewN | apply Kd.R_drew)); exact e2.out))) (below_size (by repeat (first | (with_reducible first | exact HB.out | apply below_alloc | apply pw_below_drewN | apply below_drew1 | refine below_set ?_ e1.out) | exact HB.out)))); have f9 := Aside0.mk (blk_below (g := a5) (o := .cells #[.int .i64 a4, .slice d6 a3.length d3, .slice (some b5) a0.length d7] 25 (0, 0)) (by (with_reducible repeat (first | refine blk_drewN ?_ _ | refine blk_drew ?_ | refine blk_alloc ?_ _)); exact a1.out) hb); have g6 := Aside0.mk (below_step (by repeat (first | (with_reducible first | exact HB.out | apply below_alloc | apply pw_below_drewN | apply below_drew1 | refine below_set ?_ e1.out) | exact HB.out)) hb); clear a8; clear a9; clear a7; clear a6; clear b1; clear b3; clear b6; clear d2; clear e2; clear a1; clear HB; have a8 := b8; have a9 := b9; have a7 := d1; have a6 := d4; have b1 := d5; have b3 := d9; have b6 := e0; have d2 := e4; have e2 := f6; have f5 := g0; have a1 := f9; have HB := g6; clear b8 b9 d1 d4 d5 d9 e0 e4 f6 g0 f9 g6; clear hb g7; obtain ⟨t2, s9, m9⟩ := Kd.R_slice e2.out; subst m9; obtain ⟨s6, r7, n1⟩ := Kd.R_slice f5.out; subst n1) | (go_at_call 33; (with_reducible refine (Pr01b.calls k _ _ d0 _ _ l6 true _ ?g2 ?g4 ?g3 ?g5 q5.out).mono ?_); (case g2 => repeat (first | exact (Kd.R_reads' e2.out).2.2 | (with_reducible refine Kd.C_alloc ?_ _) | (with_reducible refine Kd.C_drewN ?_ _) | (with_reducible refine Kd.C_drew ?_))); (case g4 => exact (Kd.R_reads' e2.out).2.1); (case g3 => repeat (first | exact (Kd.R_reads' f5.out).2.2 | (with_reducible refine Kd.C_alloc ?_ _) | (with_reducible refine Kd.C_drewN ?_ _) | (with_reducible refine Kd.C_drew ?_))); (case g5 => exact (Kd.R_reads' f5.out).2.1); rintro e w' ⟨rfl, ⟨nd, rfl⟩⟩; have p6 : j8.cell? ⟨a5, 0, none⟩ = some (.int .i64 a4) := (blk_cell a1.out 0).trans rfl; have p5 : j8.cell? ⟨a5, 1, none⟩ = some (.slice d6 a3.length d3) := (blk_cell a1.out 1).trans rfl; have q0 : j8.cell? ⟨a5, 2, none⟩ = some (.slice (some b5) a0.length d7) := (blk_cell a1.out 2).trans rfl; have n7 := blk_frozen a1.out 0; have n9 := blk_frozen a1.out 1; have n6 := blk_frozen a1.out 2) | (go_at_call 31; (with_reducible refine (Pxb.calls k a4 _ _ a3 _ _ a0 true _ ?g2 ?g4 ?g3 ?g5 q4.out).mono ?_); (case g2 => repeat (first | exact (Kd.R_reads' a7.out).2.2 | (with_reducible refine Kd.C_alloc ?_ _) | (with_reducible refine Kd.C_drewN ?_ _) | (with_reducible refine Kd.C_drew ?_))); (case g4 => exact (Kd.R_reads' a7.out).2.1); (case g3 => repeat (first | exact (Kd.R_reads' a6.out).2.2 | (with_reducible refine Kd.C_alloc ?_ _) | (with_reducible refine Kd.C_drewN ?_ _) | (with_reducible refine Kd.C_drew ?_))); (case g5 => exact (Kd.R_reads' a6.out).2.1); rintro e k5 ⟨rfl, hb⟩; have b8 := Aside0.mk (Kd.R_below (by (with_reducible repeat (first | apply Kd.R_alloc | apply Kd.R_drewN | apply Kd.R_drew)); exact a8.out) hb); have b9 := Aside0.mk (Kd.R_below (by (with_reducible repeat (first | apply Kd.R_alloc | apply Kd.R_drewN | apply Kd.R_drew)); exact a9.out) hb); have d1 := Aside0.mk (Kd.R_below (by (with_reducible repeat (first | apply Kd.R_alloc | apply Kd.R_drewN | apply Kd.R_drew)); exact a7.out) hb); have d4 := Aside0.mk (Kd.R_below (by (with_reducible repeat (first | apply Kd.R_alloc | apply Kd.R_drewN | apply Kd.R_drew)); exact a6.out) hb); have d5 := Aside0.mk (Kd.R_below (by (with_reducible repeat (first | apply Kd.R_alloc | apply Kd.R_drewN | apply Kd.R_drew)); exact b1.out) hb); have d9 := Aside0.mk (Kd.R_below (by (with_reducible repeat (first | apply Kd.R_alloc | apply Kd.R_drewN | apply Kd.R_drew)); exact b3.out) hb); have e0 := Aside0.mk (Kd.R_below (by (with_reducible repeat (first | apply Kd.R_alloc | apply Kd.R_drewN | apply Kd.R_drew)); exact b6.out) hb); have e4 := Aside0.mk (Kd.R_below (by (with_reducible repeat (first | apply Kd.R_alloc | apply Kd.R_drewN | apply Kd.R_drew)); exact d2.out) hb); have f6 := Aside0.mk (Kd.R_below (by (with_reducible repeat (first | apply Kd.R_alloc | apply Kd.R_drewN | apply Kd.R_drew)); exact e2.out) hb); have g0 := Aside0.mk (Kd.R_below (by (with_reducible repeat (first | apply Kd.R_alloc | apply Kd.R_drewN | apply Kd.R_drew)); exact f5.out) hb); have f9 := Aside0.mk (blk_below (g := a5) (o := .cells #[.int .i64 a4, .slice d6 a3.length d3, .slice (some b5) a0.length d7] 25 (0, 0)) (by (with_reducible repeat (first | refine blk_drewN ?_ _ | refine blk_drew ?_ | refine blk_alloc ?_ _)); exact a1.out) hb); have g6 := Aside0.mk (below_step (by repeat (first | (with_reducible first | exact HB.out | apply below_alloc | apply pw_below_drewN | apply below_drew1 | refine below_set ?_ e1.out) | exact HB.out)) hb); clear a8; clear a9; clear a7; clear a6; clear b1; clear b3; clear b6; clear d2; clear e2; clear f5; clear a1; clear HB; have a8 := b8; have a9 := b9; have a7 := d1; have a6 := d4; have b1 := d5; have b3 := d9; have b6 := e0; have d2 := e4; have e2 := f6; have f5 := g0; have a1 := f9; have HB := g6; clear b8 b9 d1 d4 d5 d9 e0 e4 f6 g0 f9 g6; (try clear hb); (try clear i2); (try clear hk); (try clear hi); have o2 : k5.cell? ⟨a5, 0, none⟩ = some (.int .i64 a4) := (blk_cell a1.out 0).trans rfl; have o4 : k5.cell? ⟨a5, 1, none⟩ = some (.slice d6 a3.length d3) := (blk_cell a1.out 1).trans rfl; have o7 : k5.cell? ⟨a5, 2, none⟩ = some (.slice (some b5) a0.length d7) := (blk_cell a1.out 2).trans rfl; have p3 := blk_frozen a1.out 0; have q1 := blk_frozen a1.out 1; have o6 := blk_frozen a1.out 2) | (go_at_call 30; (with_reducible refine (Pxg.calls a4 _ _ a3 _ _ a0 1 b0 _ ?g2 ?g4 ?g3 ?g5 q7.out).mono ?_); (case g2 => repeat (first | exact (Kd.R_reads' a7.out).2.2 | (with_reducible refine Kd.C_alloc ?_ _) | (with_reducible refine Kd.C_drewN ?_ _) | (with_reducible refine Kd.C_drew ?_))); (case g4 => exact (Kd.R_reads' a7.out).2.1); (case g3 => repeat (first | exact (Kd.R_reads' a6.out).2.2 | (with_reducible refine Kd.C_alloc ?_ _) | (with_reducible refine Kd.C_drewN ?_ _) | (with_reducible refine Kd.C_drew ?_))); (case g5 => exact (Kd.R_reads' a6.out).2.1); rintro e u2 ⟨t6, rfl, e8, hb⟩; have b8 := Aside0.mk (Kd.R_below (by (with_reducible repeat (first | apply Kd.R_alloc | apply Kd.R_drewN | apply Kd.R_drew)); exact a8.out) hb); have b9 := Aside0.mk (Kd.R_elder' (by (with_reducible repeat (first | apply Kd.R_alloc | apply Kd.R_drewN | apply Kd.R_drew)); exact a9.out) (Kd.R_base e8) hb); have d1 := Aside0.mk (Kd.R_below (by (with_reducible repeat (first | apply Kd.R_alloc | apply Kd.R_drewN | apply Kd.R_drew)); exact a7.out) hb); have d4 := Aside0.mk (Kd.R_elder' (by (with_reducible repeat (first | apply Kd.R_alloc | apply Kd.R_drewN | apply Kd.R_drew)); exact a6.out) (Kd.R_base e8) hb); have d5 := Aside0.mk (Kd.R_below (by (with_reducible repeat (first | apply Kd.R_alloc | apply Kd.R_drewN | apply Kd.R_drew)); exact b1.out) hb); have d9 := Aside0.mk (Kd.R_below (by (with_reducible repeat (first | apply Kd.R_alloc | apply Kd.R_drewN | apply Kd.R_drew)); exact b3.out) hb); have e0 := Aside0.mk (Kd.R_below (by (with_reducible repeat (first | apply Kd.R_alloc | apply Kd.R_drewN | apply Kd.R_drew)); exact b6.out) hb); have e4 := Aside0.mk (Kd.R_below (by (with_reducible repeat (first | apply Kd.R_alloc | apply Kd.R_drewN | apply Kd.R_drew)); exact d2.out) hb); have f6 := Aside0.mk (Kd.R_below (by (with_reducible repeat (first | apply Kd.R_alloc | apply Kd.R_drewN | apply Kd.R_drew)); exact e2.out) hb); have g0 := Aside0.mk (Kd.R_below (by (with_reducible repeat (first | apply Kd.R_alloc | apply Kd.R_drewN | apply Kd.R_drew)); exact f5.out) hb); have f9 := Aside0.mk (Kd.R_lower (Kd.R_new' (Kd.R_new' e8 (Kd.R_lt (by (with_reducible repeat (first | apply Kd.R_alloc | apply Kd.R_drewN | apply Kd.R_drew)); exact a9.out))) (Kd.R_lt (by (with_reducible repeat (first | apply Kd.R_alloc | apply Kd.R_drewN | apply Kd.R_drew)); exact a6.out))) (below_size (by repeat (first | (with_reducible first | exact HB.out | apply below_alloc | apply pw_below_drewN | apply below_drew1 | refine below_set ?_ e1.out) | exact HB.out)))); have g6 := Aside0.mk (blk_below (g := a5) (o := .cells #[.int .i64 a4, .slice d6 a3.length d3, .slice (some b5) a0.length d7] 25 (0, 0)) (by (with_reducible repeat (first | refine blk_drewN ?_ _ | refine blk_drew ?_ | refine blk_alloc ?_ _)); exact a1.out) hb); have h8 := Aside0.mk (below_step (by repeat (first | (with_reducible first | exact HB.out | apply below_alloc | apply pw_below_drewN | apply below_drew1 | refine below_set ?_ e1.out) | exact HB.out)) hb); clear a8; clear a9; clear a7; clear a6; clear b1; clear b3; clear b6; clear d2; clear e2; clear f5; clear a1; clear HB; have a8 := b8; have a9 := b9; have a7 := d1; have a6 := d4; have b1 := d5; have b3 := d9; have b6 := e0; have d2 := e4; have e2 := f6; have f5 := g0; have h6 := f9; have a1 := g6; have HB := h8; clear b8 b9 d1 d4 d5 d9 e0 e4 f6 g0 f9 g6 h8; (try clear hb); (try clear i2); (try clear hk); (try clear hi); (try clear e8); obtain ⟨t7, s5, m7⟩ := Kd.R_slice h6.out; subst m7) | (go_at_call 27; (refine (Pxc.calls 0 _ _ ([] : List ByteArray) _ _ ([] : List (S51)) b2 _ ?g2 ?g4 ?g3 ?g5 q8.out).mono ?_); (case g2 => exact Kd.C_nil _ _); (case g4 => exact Nat.le_refl _); (case g3 => exact Kd.C_nil _ _); (case g5 => exact Nat.le_refl _); rintro e u6 ⟨rfl, hb⟩; have b8 := Aside0.mk (Kd.R_below (by (with_reducible repeat (first | apply Kd.R_alloc | apply Kd.R_drewN | apply Kd.R_drew)); exact a8.out) hb); have b9 := Aside0.mk (Kd.R_below (by (with_reducible repeat (first | apply Kd.R_alloc | apply Kd.R_drewN | apply Kd.R_drew)); exact a9.out) hb); have d1 := Aside0.mk (Kd.R_below (by (with_reducible repeat (first | apply Kd.R_alloc | apply Kd.R_drewN | apply Kd.R_drew)); exact a7.out) hb); have d4 := Aside0.mk (Kd.R_below (by (with_reducible repeat (first | apply Kd.R_alloc | apply Kd.R_drewN | apply Kd.R_drew)); exact a6.out) hb); have d5 := Aside0.mk (Kd.R_below (by (with_reducible repeat (first | apply Kd.R_alloc | apply Kd.R_drewN | apply Kd.R_drew)); exact b1.out) hb); have d9 := Aside0.mk (Kd.R_below (by (with_reducible repeat (first | apply Kd.R_alloc | apply Kd.R_drewN | apply Kd.R_drew)); exact b3.out) hb); have e0 := Aside0.mk (Kd.R_below (by (with_reducible repeat (first | apply Kd.R_alloc | apply Kd.R_drewN | apply Kd.R_drew)); exact b6.out) hb); have e4 := Aside0.mk (Kd.R_below (by (with_reducible repeat (first | apply Kd.R_alloc | apply Kd.R_drewN | apply Kd.R_drew)); exact d2.out) hb); have f6 := Aside0.mk (Kd.R_below (by (with_reducible repeat (first | apply Kd.R_alloc | apply Kd.R_drewN | apply Kd.R_drew)); exact e2.out) hb); have g0 := Aside0.mk (Kd.R_below (by (with_reducible repeat (first | apply Kd.R_alloc | apply Kd.R_drewN | apply Kd.R_drew)); exact f5.out) hb); have f9 := Aside0.mk (Kd.R_below (by (with_reducible repeat (first | apply Kd.R_alloc | apply Kd.R_drewN | apply Kd.R_drew)); exact h6.out) hb); have g6 := Aside0.mk (blk_below (g := a5) (o := .cells #[.int .i64 a4, .slice d6 a3.length d3, .slice (some b5) a0.length d7] 25 (0, 0)) (by (with_reducible repeat (first | refine blk_drewN ?_ _ | refine blk_drew ?_ | refine blk_alloc ?_ _)); exact a1.out) hb); have h8 := Aside0.mk (below_step (by repeat (first | (with_reducible first | exact HB.out | apply below_alloc | apply pw_below_drewN | apply below_drew1 | refine below_set ?_ e1.out) | exact HB.out)) hb); clear a8; clear a9; clear a7; clear a6; clear b1; clear b3; clear b6; clear d2; clear e2; clear f5; clear h6; clear a1; clear HB; have a8 := b8; have a9 := b9; have a7 := d1; have a6 := d4; have b1 := d5; have b3 := d9; have b6 := e0; have d2 := e4; have e2 := f6; have f5 := g0; have h6 := f9; have a1 := g6; have HB := h8; clear b8 b9 d1 d4 d5 d9 e0 e4 f6 g0 f9 g6 h8; (try clear hb); (try clear i2); (try clear hk); (try clear hi)))
          go_ret
          exact ⟨by first | rfl | (simp [errW_none, errW_some] <;> rfl) | (simp [*, errW_none, errW_some] <;> rfl), by repeat (first | (with_reducible first | exact HB.out | apply below_alloc | apply pw_below_drewN | apply below_drew1 | refine below_set ?_ e1.out) | exact HB.out)⟩
         ·rw [if_neg h9] at H
          have c18b0 : ((b0.length : Int) == 1) = false := beq_eq_false_iff_ne.mpr h9
          have c18b1 : ((b0.length : Int) != 1) = true := bne_iff_ne.mpr h9
          obtain rfl := Option.some.inj H
          exact absurd hr_.out (by decide)
        ·replace i7 := Bool.eq_false_iff.mpr i7
         subst i7
         have H1 : (some false) = some r := by rw [if_neg (show ¬ (false = true) by decide)] at H; exact H
         clear H
         have H := H1
         clear H1
         obtain rfl := Option.some.inj H
         exact absurd hr_.out (by decide)
       ·replace i8 := Bool.eq_false_iff.mpr i8
        subst i8
        have H1 : (some false) = some r := by rw [if_neg (show ¬ (false = true) by decide)] at H; exact H
        clear H
        have H := H1
        clear H1
        obtain rfl := Option.some.inj H
        exact absurd hr_.out (by decide)
      ·replace j6 := Bool.eq_false_iff.mpr j6
       subst j6
       have H1 : (some false) = some r := by rw [if_neg (show ¬ (false = true) by decide)] at H; exact H
       clear H
       have H := H1
       clear H1
       obtain rfl := Option.some.inj H
       exact absurd hr_.out (by decide)
     ·replace c8 := Bool.eq_false_iff.mpr c8
      subst c8
      have H1 : (some false) = some r := by rw [if_neg (show ¬ (false = true) by decide)] at H; exact H
      clear H
      have H := H1
      clear H1
      obtain rfl := Option.some.inj H
      exact absurd hr_.out (by decide)
    ·rw [if_neg c5] at H
     have c5b0 : (((rd_T51 a0 0).f0) == 0 && (((rd_T51 a0 0).f1) == 0 && (((rd_T51 a0 0).f2) == 1))) = false := by simpa using c5
     (try (have c5b1 : decide (((rd_T51 a0 0).f0) = 0 && (((rd_T51 a0 0).f1) == 0 && (((rd_T51 a0 0).f2) == 1))) = false := by simpa using c5))
     (try (have c5b2 : (((rd_T51 a0 0).f0) == 0 && (((rd_T51 a0 0).f1) == 0 && (((rd_T51 a0 0).f2) == 1))) = false := by simpa using c5))
     (try (have c5b3 : ¬ (((rd_T51 a0 0).f0) = 0 && (((rd_T51 a0 0).f1) == 0 && (((rd_T51 a0 0).f2) == 1))) := by simpa using c5))
     clear c5
     obtain rfl := Option.some.inj H
     exact absurd hr_.out (by decide)
   ·rw [if_neg c4] at H
    exact absurd H (by simp)
  ·rw [if_neg c3] at H
   have c3b0 : ((a0.length : Int) == 2) = false := beq_eq_false_iff_ne.mpr c3
   have c3b1 : ((a0.length : Int) != 2) = true := bne_iff_ne.mpr c3
   obtain rfl := Option.some.inj H
   exact absurd hr_.out (by decide)
 ·rw [if_neg c2] at H
  have c2b0 : (g9 == 0) = false := beq_eq_false_iff_ne.mpr c2
  have c2b1 : (g9 != 0) = true := bne_iff_ne.mpr c2
  obtain rfl := Option.some.inj H
  exact absurd hr_.out (by decide)
end Go.Proofs.Ythaaockbapbooaa.Pr
namespace Go.Proofs.Ythaaockbapbooaa.Pr
open Go.RowKit Go.Proofs.YthaaockbapbooaaW.PrintWords Go.Proofs.YthaaockbapbooaaW.PrintLast Go.Proofs.YthaaockbapbooaaW.PrintMore
attribute [local go_sem] max2_int min2_int max_two min_two max_three min_three max_four min_four
set_option linter.unusedVariables false
set_option linter.unusedSimpArgs false
def Pr26b.l0 : Nat → Int → Int → List Int → Int → Int → List ByteArray → List (S51) → Option (List Int)
 | 0, _, _, _, _, _, _, _ => none
 | k + 1, x1, x2, x7, x8, x177000, x177001, x177002 => if x8 < (x177002.length : Int) then (if 0 ≤ x8 then (if ((rd_T51 x177002 x8).f0) = x1 then (if ((rd_T51 x177002 x8).f1) = x2 then (if x7.length < 17592186044416 then (Pr26b.l0 k x1 x2 (x7 ++ [(rd_T51 x177002 x8).f2]) (wrap64 (x8 + 1)) x177000 x177001 x177002) else (none)) else (Pr26b.l0 k x1 x2 x7 (wrap64 (x8 + 1)) x177000 x177001 x177002)) else (Pr26b.l0 k x1 x2 x7 (wrap64 (x8 + 1)) x177000 x177001 x177002)) else (none)) else (some x7)
def Pr26b.f (k : Nat) (a0_0 : Int) (l0_1 : List ByteArray) (l0_2 : List (S51)) (a1 : Int) (a2 : Int) : Option (List Int) := Pr26b.l0 k a1 a2 (([] : List Int)) 0 a0_0 l0_1 l0_2
theorem Pr26b.mono_l : ∀ k, (∀ y0 y1 y2 y3 y4 y5 y6, LeO (Pr26b.l0 k y0 y1 y2 y3 y4 y5 y6) (Pr26b.l0 (k + 1) y0 y1 y2 y3 y4 y5 y6))
 | 0 => fun _ _ _ _ _ _ _ r h => by simp [Pr26b.l0] at h
 | k + 1 => by
  have ih0 := Pr26b.mono_l k
  ·intro y0 y1 y2 y3 y4 y5 y6
   unfold Pr26b.l0
   repeat' first
   | (with_reducible exact ih0 _ _ _ _ _ _ _)
   | (with_reducible exact LeO.refl _)
   | (with_reducible exact LeO.none _)
   | (with_reducible refine LeO.ite ?_ ?_)
   | (with_reducible refine LeO.bind ?_ (fun _ => ?_))
   | exact ih0 _ _ _ _ _ _ _
   | exact LeO.none _
   | refine LeO.ite ?_ ?_
   | refine LeO.bind ?_ (fun _ => ?_)
theorem Pr26b.mono : ∀ a0 a1 a2 a3 a4 k, LeO (Pr26b.f k a0 a1 a2 a3 a4) (Pr26b.f (k + 1) a0 a1 a2 a3 a4) := by
 intro a0 a1 a2 a3 a4 k
 have ih0 := Pr26b.mono_l k
 unfold Pr26b.f
 repeat' first
   | (with_reducible exact ih0 _ _ _ _ _ _ _)
   | (with_reducible exact LeO.refl _)
   | (with_reducible exact LeO.none _)
   | (with_reducible refine LeO.ite ?_ ?_)
   | (with_reducible refine LeO.bind ?_ (fun _ => ?_))
   | exact ih0 _ _ _ _ _ _ _
   | exact LeO.none _
   | refine LeO.ite ?_ ?_
   | refine LeO.bind ?_ (fun _ => ?_)
set_option maxHeartbeats 8000000 in
set_option maxRecDepth 100000 in
theorem Pr26b.calls (k : Nat) (a0_0 : Int) (A0_1 : Option Addr) (c0_1 : Nat) (l0_1 : List ByteArray) (A0_2 : Option Addr) (c0_2 : Nat) (l0_2 : List (S51)) (a1 : Int) (a2 : Int) (r : List Int) (w : World) (hr0_1 : Kd.C Kd.string w A0_1 l0_1.length l0_1) (hc0_1 : l0_1.length ≤ c0_1) (hr0_2 : Kd.C k51 w A0_2 l0_2.length l0_2) (hc0_2 : l0_2.length ≤ c0_2) (h : Pr26b.f k a0_0 l0_1 l0_2 a1 a2 = some r) :
  Calls Try.prog 32 #[.agg #[.int .i64 a0_0, .slice A0_1 l0_1.length c0_1, .slice A0_2 l0_2.length c0_2], .int .i64 a1, .int .i64 a2] w fun e w' => ∃ v0_ : Value, e = .returned (v0_) ∧ Kd.R (Kd.int .i64) 3 w' w.heap.size (fun _ => True) v0_ r ∧ Below w.heap.size w w' := by
 have i9 := Try.underlying25
 have i4 := Aside0.mk hr0_1
 have i7 := Aside0.mk hc0_1
 clear hr0_1 hc0_1
 have b6 := Aside0.mk hr0_2
 have i5 := Aside0.mk hc0_2
 clear hr0_2 hc0_2
 have HB := Aside0.mk (Below.refl w.heap.size w)
 have H : (Pr26b.l0 k a1 a2 (([] : List Int)) 0 a0_0 l0_1 l0_2) = some r := h
 clear h
 obtain ⟨e9, b9⟩ : ∃ y_ : List Int, y_ = (([] : List Int)) := ⟨_, rfl⟩
 replace H : (Pr26b.l0 k a1 a2 e9 0 a0_0 l0_1 l0_2) = some r := by first | (rw [b9]; with_reducible exact H) | (have d8 := (Option.bind_some _ _).symm.trans H; rw [b9]; with_reducible exact d8) | (have d8 := (Option.bind_some _ _).symm.trans H; with_reducible exact d8) | with_reducible exact H | (rw [b9]; exact H) | exact H
 have e6 := Aside0.mk b9
 clear b9
 have H' := Aside0.mk H
 clear H
 go_enter Try.func32, Try.ntmps32
 go_wp2_with (first | ((with_reducible refine gate_dst (N := 3) rfl ?_); refine box_event ?hg (N := 3) ?hd (cs := #[.int .i64 a0_0, .slice A0_1 l0_1.length c0_1, .slice A0_2 l0_2.length c0_2]) (t := 25) ?hr ?_; (case hd => rfl); (case hg => rfl); (case hr => first | (go_simp; done) | (go_simp; rfl)); intro a4 hg w4 hbox hb; have d5 := Aside0.mk (below_step (by repeat (first | (with_reducible first | exact HB.out | apply below_alloc | apply pw_below_drewN | apply below_drew1) | exact HB.out)) hb); have d6 := Aside0.mk (hbox); have d7 := Aside0.mk ((by rw [hg]; exact (below_size (by repeat (first | (with_reducible first | exact HB.out | apply below_alloc | apply pw_below_drewN | apply below_drew1) | exact HB.out))) : w.heap.size ≤ a4)); have f8 := Aside0.mk ((by rw [hg]; exact (below_size (by repeat (first | (with_reducible first | exact HB.out | apply below_alloc | apply pw_below_drewN | apply below_drew1) | exact HB.out))) : w.heap.size ≤ a4)); clear HB; have HB := d5; have a0 := d6; have i6 := d7; have b1 := f8; clear d5 d6 d7 f8; clear hb hbox hg) | ((with_reducible refine gate_dst (N := 9) rfl ?_); refine Kd.R_lit (Kd.int .i64) _ 3 ?hg (N := 9) ?hd (xs := ([] : List Int)) (inner := []) (ok := fun _ => True) (okp := fun _ => True) ?hr ?hp (fun _ hk => hk) trivial (Below.refl _ _) (Nat.le_refl _) (by simp) ?_; (case hd => rfl); (case hg => rfl); (case hr => first | (go_simp; done) | (go_simp; rfl)); (case hp => exact (Reps.none _ _)); intro i8 w5 e2 hb hg_ hnew_; clear hg_ hnew_; (first | rw [← e6.out] at e2 | (simp only [Int.reduceToNat] at e2; rw [← e6.out] at e2)); have d5 := Aside0.mk (Kd.R_lower e2 (below_size (by repeat (first | (with_reducible first | exact HB.out | apply below_alloc | apply pw_below_drewN | apply below_drew1 | refine below_set ?_ b1.out) | exact HB.out)))); have d6 := Aside0.mk (blk_below (g := a4) (o := .cells #[.int .i64 a0_0, .slice A0_1 l0_1.length c0_1, .slice A0_2 l0_2.length c0_2] 25 (0, 0)) (by (with_reducible repeat (first | refine blk_drewN ?_ _ | refine blk_drew ?_ | refine blk_alloc ?_ _)); exact a0.out) hb); have d7 := Aside0.mk (below_step (by repeat (first | (with_reducible first | exact HB.out | apply below_alloc | apply pw_below_drewN | apply below_drew1 | refine below_set ?_ b1.out) | exact HB.out)) hb); clear a0; clear HB; have f7 := d5; have a0 := d6; have HB := d7; clear d5 d6 d7; clear hb e2))
 go_loopg [7, 8] k (fun kq v7 v8 w' => ∃ (b4 : List Int) (a3 : Int), v8 = .int .i64 a3 ∧ Aside0 (Pr26b.l0 kq a1 a2 b4 a3 a0_0 l0_1 l0_2 = some r) ∧ Aside0 (kq ≤ k) ∧ Aside0 (Kd.R (Kd.int .i64) 3 w' w.heap.size (fun _ => True) v7 b4) ∧ Aside0 (w'.heap[a4]? = some (.cells #[.int .i64 a0_0, (.slice A0_1 l0_1.length c0_1), (.slice A0_2 l0_2.length c0_2)] 25 (0, 0))) ∧ Aside0 (Below w.heap.size w w'))
 case atStart => exact ⟨(e9), (0), (by first | rfl | (simp; done) | (simp [*]; done)), H', ⟨Nat.le_refl _⟩, ⟨by (with_reducible repeat (first | apply Kd.R_alloc | apply Kd.R_drewN | apply Kd.R_drew)); exact f7.out⟩, ⟨by (with_reducible repeat (first | refine blk_drewN ?_ _ | refine blk_drew ?_ | refine blk_alloc ?_ _)); exact a0.out⟩, ⟨by repeat (first | (with_reducible first | exact HB.out | apply below_alloc | apply pw_below_drewN | apply below_drew1 | refine below_set ?_ b1.out) | exact HB.out)⟩⟩
 case round =>
  clear H'
  try clear p2
  try clear c3
  obtain ⟨b4, a3, rfl, HA, e0, d3, a0, HB⟩ := hrel
  cases gk with
  | zero => exact absurd HA.out (by simp [Pr26b.l0])
  | succ k1 =>
   have H := HA.out
   clear HA
   simp only [Pr26b.l0] at H
   by_cases c7 : a3 < (l0_2.length : Int)
   ·rw [if_pos c7] at H
    have c7b0 : decide (a3 < (l0_2.length : Int)) = true := decide_eq_true c7
    clear c7
    by_cases c8 : 0 ≤ a3
    ·rw [if_pos c8] at H
     have c8b0 : decide (0 ≤ a3) = true := decide_eq_true c8
     clear c8
     by_cases c9 : ((rd_T51 l0_2 a3).f0) = a1
     ·rw [if_pos c9] at H
      have c9b0 : (((rd_T51 l0_2 a3).f0) == a1) = true := beq_iff_eq.mpr c9
      have c9b1 : (((rd_T51 l0_2 a3).f0) != a1) = false := bne_eq_false_iff_eq.mpr c9
      clear c9
      by_cases c10 : ((rd_T51 l0_2 a3).f1) = a2
      ·rw [if_pos c10] at H
       have c10b0 : (((rd_T51 l0_2 a3).f1) == a2) = true := beq_iff_eq.mpr c10
       have c10b1 : (((rd_T51 l0_2 a3).f1) != a2) = false := bne_eq_false_iff_eq.mpr c10
       clear c10
       by_cases e7 : b4.length < 17592186044416
       ·rw [if_pos e7] at H
        have f3 := Aside0.mk e7
        clear e7
        obtain ⟨e8, d0⟩ : ∃ y_ : List Int, y_ = (b4 ++ [(rd_T51 l0_2 a3).f2]) := ⟨_, rfl⟩
        replace H : (Pr26b.l0 k1 a1 a2 e8 (wrap64 (a3 + 1)) a0_0 l0_1 l0_2) = some r := by first | (rw [d0]; with_reducible exact H) | (have d8 := (Option.bind_some _ _).symm.trans H; rw [d0]; with_reducible exact d8) | (have d8 := (Option.bind_some _ _).symm.trans H; with_reducible exact d8) | with_reducible exact H | (rw [d0]; exact H) | exact H
        have f4 := Aside0.mk d0
        clear d0
        have H' := Aside0.mk H
        clear H
        have g0 : wr.cell? ⟨a4, 0, none⟩ = some (.int .i64 a0_0) := (blk_cell a0.out 0).trans rfl
        have h5 : wr.cell? ⟨a4, 1, none⟩ = some (.slice A0_1 l0_1.length c0_1) := (blk_cell a0.out 1).trans rfl
        have i2 : wr.cell? ⟨a4, 2, none⟩ = some (.slice A0_2 l0_2.length c0_2) := (blk_cell a0.out 2).trans rfl
        have g7 := blk_frozen a0.out 0
        have h8 := blk_frozen a0.out 1
        have i1 := blk_frozen a0.out 2
        have b3 : 0 ≤ (a3 : Int) := of_decide_eq_true (by first | (with_reducible assumption) | assumption)
        have b2 : a3 < (l0_2.length : Int) := of_decide_eq_true (by first | (with_reducible assumption) | assumption)
        obtain ⟨b5, d9, a5, a7, a6⟩ := at_T51 b6.out a3 b3 b2
        cases d9
        replace a5 := (HB.out.cell (World.block_lt_of_cell? w _ a5)).trans a5
        replace a7 := (HB.out.cell (World.block_lt_of_cell? w _ a7)).trans a7
        replace a6 := (HB.out.cell (World.block_lt_of_cell? w _ a6)).trans a6
        replace b3 := eq_true b3
        replace b2 := eq_true b2
        have b7 : 0 ≤ (a3 : Int) := of_decide_eq_true (by first | (with_reducible assumption) | assumption)
        have b8 : a3 < (l0_2.length : Int) := of_decide_eq_true (by first | (with_reducible assumption) | assumption)
        obtain ⟨e1, e4, b0, a9, a8⟩ := at_T51 b6.out a3 b7 b8
        obtain rfl : b5 = e1 := (by injection e4)
        replace b0 := (HB.out.cell (World.block_lt_of_cell? w _ b0)).trans b0
        replace a9 := (HB.out.cell (World.block_lt_of_cell? w _ a9)).trans a9
        replace a8 := (HB.out.cell (World.block_lt_of_cell? w _ a8)).trans a8
        replace b7 := eq_true b7
        replace b8 := eq_true b8
        have e5 : 0 ≤ (a3 : Int) := of_decide_eq_true (by first | (with_reducible assumption) | assumption)
        have e3 : a3 < (l0_2.length : Int) := of_decide_eq_true (by first | (with_reducible assumption) | assumption)
        obtain ⟨f5, f9, d4, d1, d2⟩ := at_T51 b6.out a3 e5 e3
        obtain rfl : b5 = f5 := (by injection f9)
        replace d4 := (HB.out.cell (World.block_lt_of_cell? w _ d4)).trans d4
        replace d1 := (HB.out.cell (World.block_lt_of_cell? w _ d1)).trans d1
        replace d2 := (HB.out.cell (World.block_lt_of_cell? w _ d2)).trans d2
        replace e5 := eq_true e5
        replace e3 := eq_true e3
        go_wp2_with (first | ((with_reducible refine gate_builtin (b := .append) (xs := #[.tmp 35, .tmp 42]) rfl ?_); at_builtin; refine Kd.R_append (Kd.int .i64) (w0 := w) w.heap.size rfl (.tmp 35) (.tmp 42) 47 3 (.int .i64 0) 8 rfl Try.underlying47 info3 rfl (by decide) (by omega) u7 b4 ((rd_T51 l0_2 a3).f2) [.int .i64 ((rd_T51 l0_2 a3).f2)] (fun _ => True) (fun _ => False) rfl rfl ?aP (fun _ hk => hk.elim) ?aF ?aO ?aB ?aS ?aL ?_; (case aP => exact rfl); (case aB => exact (by repeat (first | (with_reducible first | exact HB.out | apply below_alloc | apply pw_below_drewN | apply below_drew1 | refine below_set ?_ b1.out) | exact HB.out))); (case aF => exact (fun _ _ => trivial)); (case aO => exact (by (with_reducible repeat (first | apply Kd.R_alloc | apply Kd.R_drewN | apply Kd.R_drew)); exact d3.out)); (case aS => exact (below_size (by repeat (first | (with_reducible first | exact HB.out | apply below_alloc | apply pw_below_drewN | apply below_drew1 | refine below_set ?_ b1.out) | exact HB.out)))); (case aL => have := f3.out; omega); intro j2 j3 ho hb hg hat; rw [← f4.out] at ho; have d5 := Aside0.mk (blk_grown (g := a4) (o := .cells #[.int .i64 a0_0, .slice A0_1 l0_1.length c0_1, .slice (some b5) l0_2.length c0_2] 25 (0, 0)) (by (with_reducible repeat (first | refine blk_drewN ?_ _ | refine blk_drew ?_ | refine blk_alloc ?_ _)); exact a0.out) hg (Kd.R_ne d3.out a0.out (by decide))); have d6 := Aside0.mk (hb); have d7 := Aside0.mk (ho); clear a0; clear HB; clear d3; have a0 := d5; have HB := d6; have f6 := d7; clear d5 d6 d7; clear ho hb hg hat))
        go_roundg k1
        case measure => have := e0.out; omega
        case rel => exact ⟨(e8), (wrap64 (a3 + 1)), (by first | rfl | (simp; done) | (simp [*]; done)), H', ⟨by have := e0.out; omega⟩, ⟨by (with_reducible repeat (first | apply Kd.R_alloc | apply Kd.R_drewN | apply Kd.R_drew)); exact f6.out⟩, ⟨by (with_reducible repeat (first | refine blk_drewN ?_ _ | refine blk_drew ?_ | refine blk_alloc ?_ _)); exact a0.out⟩, ⟨by repeat (first | (with_reducible first | exact HB.out | apply below_alloc | apply pw_below_drewN | apply below_drew1 | refine below_set ?_ b1.out) | exact HB.out)⟩⟩
       ·rw [if_neg e7] at H
        exact absurd H (by simp)
      ·rw [if_neg c10] at H
       have c10b0 : (((rd_T51 l0_2 a3).f1) == a2) = false := beq_eq_false_iff_ne.mpr c10
       have c10b1 : (((rd_T51 l0_2 a3).f1) != a2) = true := bne_iff_ne.mpr c10
       have H' := Aside0.mk H
       clear H
       have g4 : wr.cell? ⟨a4, 0, none⟩ = some (.int .i64 a0_0) := (blk_cell a0.out 0).trans rfl
       have h6 : wr.cell? ⟨a4, 1, none⟩ = some (.slice A0_1 l0_1.length c0_1) := (blk_cell a0.out 1).trans rfl
       have i0 : wr.cell? ⟨a4, 2, none⟩ = some (.slice A0_2 l0_2.length c0_2) := (blk_cell a0.out 2).trans rfl
       have h9 := blk_frozen a0.out 0
       have h1 := blk_frozen a0.out 1
       have g6 := blk_frozen a0.out 2
       have b3 : 0 ≤ (a3 : Int) := of_decide_eq_true (by first | (with_reducible assumption) | assumption)
       have b2 : a3 < (l0_2.length : Int) := of_decide_eq_true (by first | (with_reducible assumption) | assumption)
       obtain ⟨b5, d9, a5, a7, a6⟩ := at_T51 b6.out a3 b3 b2
       cases d9
       replace a5 := (HB.out.cell (World.block_lt_of_cell? w _ a5)).trans a5
       replace a7 := (HB.out.cell (World.block_lt_of_cell? w _ a7)).trans a7
       replace a6 := (HB.out.cell (World.block_lt_of_cell? w _ a6)).trans a6
       replace b3 := eq_true b3
       replace b2 := eq_true b2
       have b7 : 0 ≤ (a3 : Int) := of_decide_eq_true (by first | (with_reducible assumption) | assumption)
       have b8 : a3 < (l0_2.length : Int) := of_decide_eq_true (by first | (with_reducible assumption) | assumption)
       obtain ⟨e1, e4, b0, a9, a8⟩ := at_T51 b6.out a3 b7 b8
       obtain rfl : b5 = e1 := (by injection e4)
       replace b0 := (HB.out.cell (World.block_lt_of_cell? w _ b0)).trans b0
       replace a9 := (HB.out.cell (World.block_lt_of_cell? w _ a9)).trans a9
       replace a8 := (HB.out.cell (World.block_lt_of_cell? w _ a8)).trans a8
       replace b7 := eq_true b7
       replace b8 := eq_true b8
       go_wp2
       go_roundg k1
       case measure => have := e0.out; omega
       case rel => exact ⟨(b4), (wrap64 (a3 + 1)), (by first | rfl | (simp; done) | (simp [*]; done)), H', ⟨by have := e0.out; omega⟩, ⟨by (with_reducible repeat (first | apply Kd.R_alloc | apply Kd.R_drewN | apply Kd.R_drew)); exact d3.out⟩, ⟨by (with_reducible repeat (first | refine blk_drewN ?_ _ | refine blk_drew ?_ | refine blk_alloc ?_ _)); exact a0.out⟩, ⟨by repeat (first | (with_reducible first | exact HB.out | apply below_alloc | apply pw_below_drewN | apply below_drew1 | refine below_set ?_ b1.out) | exact HB.out)⟩⟩
     ·rw [if_neg c9] at H
      have c9b0 : (((rd_T51 l0_2 a3).f0) == a1) = false := beq_eq_false_iff_ne.mpr c9
      have c9b1 : (((rd_T51 l0_2 a3).f0) != a1) = true := bne_iff_ne.mpr c9
      have H' := Aside0.mk H
      clear H
      have g1 : wr.cell? ⟨a4, 0, none⟩ = some (.int .i64 a0_0) := (blk_cell a0.out 0).trans rfl
      have g2 : wr.cell? ⟨a4, 1, none⟩ = some (.slice A0_1 l0_1.length c0_1) := (blk_cell a0.out 1).trans rfl
      have g9 : wr.cell? ⟨a4, 2, none⟩ = some (.slice A0_2 l0_2.length c0_2) := (blk_cell a0.out 2).trans rfl
      have g3 := blk_frozen a0.out 0
      have g8 := blk_frozen a0.out 1
      have i3 := blk_frozen a0.out 2
      have b3 : 0 ≤ (a3 : Int) := of_decide_eq_true (by first | (with_reducible assumption) | assumption)
      have b2 : a3 < (l0_2.length : Int) := of_decide_eq_true (by first | (with_reducible assumption) | assumption)
      obtain ⟨b5, d9, a5, a7, a6⟩ := at_T51 b6.out a3 b3 b2
      cases d9
      replace a5 := (HB.out.cell (World.block_lt_of_cell? w _ a5)).trans a5
      replace a7 := (HB.out.cell (World.block_lt_of_cell? w _ a7)).trans a7
      replace a6 := (HB.out.cell (World.block_lt_of_cell? w _ a6)).trans a6
      replace b3 := eq_true b3
      replace b2 := eq_true b2
      go_wp2
      go_roundg k1
      case measure => have := e0.out; omega
      case rel => exact ⟨(b4), (wrap64 (a3 + 1)), (by first | rfl | (simp; done) | (simp [*]; done)), H', ⟨by have := e0.out; omega⟩, ⟨by (with_reducible repeat (first | apply Kd.R_alloc | apply Kd.R_drewN | apply Kd.R_drew)); exact d3.out⟩, ⟨by (with_reducible repeat (first | refine blk_drewN ?_ _ | refine blk_drew ?_ | refine blk_alloc ?_ _)); exact a0.out⟩, ⟨by repeat (first | (with_reducible first | exact HB.out | apply below_alloc | apply pw_below_drewN | apply below_drew1 | refine below_set ?_ b1.out) | exact HB.out)⟩⟩
    ·rw [if_neg c8] at H
     exact absurd H (by simp)
   ·rw [if_neg c7] at H
    have c7b0 : decide (a3 < (l0_2.length : Int)) = false := decide_eq_false c7
    clear c7
    obtain rfl := Option.some.inj H
    have h4 : wr.cell? ⟨a4, 0, none⟩ = some (.int .i64 a0_0) := (blk_cell a0.out 0).trans rfl
    have g5 : wr.cell? ⟨a4, 1, none⟩ = some (.slice A0_1 l0_1.length c0_1) := (blk_cell a0.out 1).trans rfl
    have h7 : wr.cell? ⟨a4, 2, none⟩ = some (.slice A0_2 l0_2.length c0_2) := (blk_cell a0.out 2).trans rfl
    have h0 := blk_frozen a0.out 0
    have h2 := blk_frozen a0.out 1
    have h3 := blk_frozen a0.out 2
    go_wp2
    go_ret
    exact ⟨_, by first | rfl | (simp [errW_none, errW_some] <;> rfl) | (simp [*, errW_none, errW_some] <;> rfl), by (with_reducible repeat (first | apply Kd.R_alloc | apply Kd.R_drewN | apply Kd.R_drew)); exact d3.out, by repeat (first | (with_reducible first | exact HB.out | apply below_alloc | apply pw_below_drewN | apply below_drew1 | refine below_set ?_ b1.out) | exact HB.out)⟩
end Go.Proofs.Ythaaockbapbooaa.Pr
namespace Go.Proofs.Ythaaockbapbooaa.Pr
open Go.RowKit Go.Proofs.YthaaockbapbooaaW.PrintWords Go.Proofs.YthaaockbapbooaaW.PrintLast Go.Proofs.YthaaockbapbooaaW.PrintMore
attribute [local go_sem] max2_int min2_int max_two min_two max_three min_three max_four min_four
set_option linter.unusedVariables false
set_option linter.unusedSimpArgs false
mutual
def Pl26a.l0 : Nat → Int → Int → List Int → List Int → List (S51) → List Int → List (S51) → Bool → Int → Int → List ByteArray → List (S51) → Option (Bool)
 | 0, _, _, _, _, _, _, _, _, _, _, _, _ => none
 | k + 1, x1, x2, x7, x8, x9, x10, x11, x12, x13, x187000, x187001, x187002 => if x13 < (x187002.length : Int) then (if 0 ≤ x13 then (if ((rd_T51 x187002 x13).f2) = x1 then (Pl26a.j1 k x1 x2 x7 x8 x9 x10 x11 x12 x13 (((rd_T51 x187002 x13).f1) == x2) x187000 x187001 x187002 ((rd_T51 x187002 x13).f0) ((rd_T51 x187002 x13).f1) ((rd_T51 x187002 x13).f2)) else (Pl26a.j1 k x1 x2 x7 x8 x9 x10 x11 x12 x13 false x187000 x187001 x187002 ((rd_T51 x187002 x13).f0) ((rd_T51 x187002 x13).f1) ((rd_T51 x187002 x13).f2))) else (none)) else ((Pr26b.f k x187000 x187001 x187002 x1 x2).bind fun t230 => ((Pr01b.f k x7 t230).bind fun t233 => (if t233 = true then ((Pr01b.f k x8 x10).bind fun t234 => (if t234 = true then ((Pr26c.f k 0 ([] : List ByteArray) x9 0 ([] : List ByteArray) x11).bind fun t235 => (if t235 = true then ((Pxb.f k x187000 x187001 x187002).bind fun t236 => (if (t236 == x12) = true then ((Pl26b.f k).bind fun t237 => (some t237)) else (some false))) else (some false))) else (some false))) else (some false))))
def Pl26a.j1 : Nat → Int → Int → List Int → List Int → List (S51) → List Int → List (S51) → Bool → Int → Bool → Int → List ByteArray → List (S51) → Int → Int → Int → Option (Bool)
 | 0, _, _, _, _, _, _, _, _, _, _, _, _, _, _, _, _ => none
 | k + 1, x1, x2, x7, x8, x9, x10, x11, x12, x13, x77, x187000, x187001, x187002, x209000, x209001, x209002 => if x77 = true then (if x10.length < 17592186044416 then ((some (x10 ++ [x209000] : List Int)).bind fun y209 => (if x209000 = x1 then (if x11.length < 5864062014805 then ((some (x11 ++ [(⟨x209000, x209001, x209002⟩ : S51)] : List (S51))).bind fun y212 => (if x12 = true then ((Pr26b.f k x187000 x187001 x187002 x209000 x209001).bind fun t215 => (Pl26a.l0 k x1 x2 x7 x8 x9 y209 y212 ((t215.length : Int) == 1) (wrap64 (x13 + 1)) x187000 x187001 x187002)) else (Pl26a.l0 k x1 x2 x7 x8 x9 y209 y212 false (wrap64 (x13 + 1)) x187000 x187001 x187002))) else (none)) else (if x12 = true then ((Pr26b.f k x187000 x187001 x187002 x209000 x209001).bind fun t218 => (Pl26a.l0 k x1 x2 x7 x8 x9 y209 x11 ((t218.length : Int) == 1) (wrap64 (x13 + 1)) x187000 x187001 x187002)) else (Pl26a.l0 k x1 x2 x7 x8 x9 y209 x11 false (wrap64 (x13 + 1)) x187000 x187001 x187002)))) else (none)) else (if x209000 = x1 then (if x11.length < 5864062014805 then ((some (x11 ++ [(⟨x209000, x209001, x209002⟩ : S51)] : List (S51))).bind fun y221 => (if x12 = true then ((Pr26b.f k x187000 x187001 x187002 x209000 x209001).bind fun t224 => (Pl26a.l0 k x1 x2 x7 x8 x9 x10 y221 ((t224.length : Int) == 1) (wrap64 (x13 + 1)) x187000 x187001 x187002)) else (Pl26a.l0 k x1 x2 x7 x8 x9 x10 y221 false (wrap64 (x13 + 1)) x187000 x187001 x187002))) else (none)) else (if x12 = true then ((Pr26b.f k x187000 x187001 x187002 x209000 x209001).bind fun t227 => (Pl26a.l0 k x1 x2 x7 x8 x9 x10 x11 ((t227.length : Int) == 1) (wrap64 (x13 + 1)) x187000 x187001 x187002)) else (Pl26a.l0 k x1 x2 x7 x8 x9 x10 x11 false (wrap64 (x13 + 1)) x187000 x187001 x187002)))
end
def Pl26a.f (k : Nat) (a0_0 : Int) (l0_1 : List ByteArray) (l0_2 : List (S51)) (a1 : Int) (a2 : Int) : Option (Bool) := (Pr26a.f k a0_0 l0_1 l0_2).bind fun t187 => (if t187 = true then ((Pxf.f k a0_0 l0_1 l0_2 a1 a2).bind fun t189 => ((Pxe.f k a0_0 l0_1 l0_2 a1 a2).bind fun t192 => ((Pxg.f a0_0 l0_1 l0_2 a1).bind fun t195 => ((Pr26d.f a0_0 l0_1 l0_2).bind fun t198 => (if t198 = true then (Pl26a.l0 k a1 a2 t189 t192 t195 (([] : List Int)) (([] : List (S51))) true 0 a0_0 l0_1 l0_2) else (if (t189.length : Int) = 0 then (if (t192.length : Int) = 0 then (if (t195.length : Int) = 0 then ((Pxb.f k a0_0 l0_1 l0_2).bind fun t199 => (if t199 = true then (some false) else ((Pl26b.f k).bind fun t200 => (some t200)))) else (some false)) else (some false)) else (some false))))))) else ((Pl26b.f k).bind fun t188 => (some t188)))
theorem Pl26a.mono_l : ∀ k, (∀ y0 y1 y2 y3 y4 y5 y6 y7 y8 y9 y10 y11, LeO (Pl26a.l0 k y0 y1 y2 y3 y4 y5 y6 y7 y8 y9 y10 y11) (Pl26a.l0 (k + 1) y0 y1 y2 y3 y4 y5 y6 y7 y8 y9 y10 y11)) ∧ (∀ y0 y1 y2 y3 y4 y5 y6 y7 y8 y9 y10 y11 y12 y13 y14 y15, LeO (Pl26a.j1 k y0 y1 y2 y3 y4 y5 y6 y7 y8 y9 y10 y11 y12 y13 y14 y15) (Pl26a.j1 (k + 1) y0 y1 y2 y3 y4 y5 y6 y7 y8 y9 y10 y11 y12 y13 y14 y15))
 | 0 => ⟨fun _ _ _ _ _ _ _ _ _ _ _ _ r h => by simp [Pl26a.l0] at h, fun _ _ _ _ _ _ _ _ _ _ _ _ _ _ _ _ r h => by simp [Pl26a.j1] at h⟩
 | k + 1 => by
  obtain ⟨ih0, ih1⟩ := Pl26a.mono_l k
  refine ⟨?_, ?_⟩
  ·intro y0 y1 y2 y3 y4 y5 y6 y7 y8 y9 y10 y11
   unfold Pl26a.l0
   repeat' first
   | (with_reducible exact ih0 _ _ _ _ _ _ _ _ _ _ _ _)
   | (with_reducible exact ih1 _ _ _ _ _ _ _ _ _ _ _ _ _ _ _ _)
   | (with_reducible exact Pxe.mono _ _ _ _ _ _)
   | (with_reducible exact Pxb.mono _ _ _ _)
   | (with_reducible exact Pxf.mono _ _ _ _ _ _)
   | (with_reducible exact Pl26b.mono _)
   | (with_reducible exact Pr01b.mono _ _ _)
   | (with_reducible exact Pr26a.mono _ _ _ _)
   | (with_reducible exact Pr26c.mono _ _ _ _ _ _ _)
   | (with_reducible exact Pr26b.mono _ _ _ _ _ _)
   | (with_reducible exact LeO.refl _)
   | (with_reducible exact LeO.none _)
   | (with_reducible refine LeO.ite ?_ ?_)
   | (with_reducible refine LeO.bind ?_ (fun _ => ?_))
   | exact ih0 _ _ _ _ _ _ _ _ _ _ _ _
   | exact ih1 _ _ _ _ _ _ _ _ _ _ _ _ _ _ _ _
   | exact Pxe.mono _ _ _ _ _ _
   | exact Pxb.mono _ _ _ _
   | exact Pxf.mono _ _ _ _ _ _
   | exact Pl26b.mono _
   | exact Pr01b.mono _ _ _
   | exact Pr26a.mono _ _ _ _
   | exact Pr26c.mono _ _ _ _ _ _ _
   | exact Pr26b.mono _ _ _ _ _ _
   | exact LeO.none _
   | refine LeO.ite ?_ ?_
   | refine LeO.bind ?_ (fun _ => ?_)
  ·intro y0 y1 y2 y3 y4 y5 y6 y7 y8 y9 y10 y11 y12 y13 y14 y15
   unfold Pl26a.j1
   repeat' first
   | (with_reducible exact ih0 _ _ _ _ _ _ _ _ _ _ _ _)
   | (with_reducible exact ih1 _ _ _ _ _ _ _ _ _ _ _ _ _ _ _ _)
   | (with_reducible exact Pxe.mono _ _ _ _ _ _)
   | (with_reducible exact Pxb.mono _ _ _ _)
   | (with_reducible exact Pxf.mono _ _ _ _ _ _)
   | (with_reducible exact Pl26b.mono _)
   | (with_reducible exact Pr01b.mono _ _ _)
   | (with_reducible exact Pr26a.mono _ _ _ _)
   | (with_reducible exact Pr26c.mono _ _ _ _ _ _ _)
   | (with_reducible exact Pr26b.mono _ _ _ _ _ _)
   | (with_reducible exact LeO.refl _)
   | (with_reducible exact LeO.none _)
   | (with_reducible refine LeO.ite ?_ ?_)
   | (with_reducible refine LeO.bind ?_ (fun _ => ?_))
   | exact ih0 _ _ _ _ _ _ _ _ _ _ _ _
   | exact ih1 _ _ _ _ _ _ _ _ _ _ _ _ _ _ _ _
   | exact Pxe.mono _ _ _ _ _ _
   | exact Pxb.mono _ _ _ _
   | exact Pxf.mono _ _ _ _ _ _
   | exact Pl26b.mono _
   | exact Pr01b.mono _ _ _
   | exact Pr26a.mono _ _ _ _
   | exact Pr26c.mono _ _ _ _ _ _ _
   | exact Pr26b.mono _ _ _ _ _ _
   | exact LeO.none _
   | refine LeO.ite ?_ ?_
   | refine LeO.bind ?_ (fun _ => ?_)
theorem Pl26a.mono : ∀ a0 a1 a2 a3 a4 k, LeO (Pl26a.f k a0 a1 a2 a3 a4) (Pl26a.f (k + 1) a0 a1 a2 a3 a4) := by
 intro a0 a1 a2 a3 a4 k
 obtain ⟨ih0, ih1⟩ := Pl26a.mono_l k
 unfold Pl26a.f
 repeat' first
   | (with_reducible exact ih0 _ _ _ _ _ _ _ _ _ _ _ _)
   | (with_reducible exact ih1 _ _ _ _ _ _ _ _ _ _ _ _ _ _ _ _)
   | (with_reducible exact Pxe.mono _ _ _ _ _ _)
   | (with_reducible exact Pxb.mono _ _ _ _)
   | (with_reducible exact Pxf.mono _ _ _ _ _ _)
   | (with_reducible exact Pl26b.mono _)
   | (with_reducible exact Pr01b.mono _ _ _)
   | (with_reducible exact Pr26a.mono _ _ _ _)
   | (with_reducible exact Pr26c.mono _ _ _ _ _ _ _)
   | (with_reducible exact Pr26b.mono _ _ _ _ _ _)
   | (with_reducible exact LeO.refl _)
   | (with_reducible exact LeO.none _)
   | (with_reducible refine LeO.ite ?_ ?_)
   | (with_reducible refine LeO.bind ?_ (fun _ => ?_))
   | exact ih0 _ _ _ _ _ _ _ _ _ _ _ _
   | exact ih1 _ _ _ _ _ _ _ _ _ _ _ _ _ _ _ _
   | exact Pxe.mono _ _ _ _ _ _
   | exact Pxb.mono _ _ _ _
   | exact Pxf.mono _ _ _ _ _ _
   | exact Pl26b.mono _
   | exact Pr01b.mono _ _ _
   | exact Pr26a.mono _ _ _ _
   | exact Pr26c.mono _ _ _ _ _ _ _
   | exact Pr26b.mono _ _ _ _ _ _
   | exact LeO.none _
   | refine LeO.ite ?_ ?_
   | refine LeO.bind ?_ (fun _ => ?_)
def Pl26a.T3 : Bool × List (List Nat × List Nat) := (true, [([], []), ([], []), ([], []), ([0, 1, 2], [0, 1, 2]), ([], []), ([], []), ([], []), ([4, 5, 6, 3], [4, 5, 6]), ([], []), ([], []), ([8, 9, 7], [8, 9]), ([3, 10, 0, 1, 2, 3], [3]), ([7, 11, 0, 1, 2, 3, 4, 5, 6, 7, 11], [7]), ([10, 12, 0, 1, 2, 3, 4, 5, 6, 7, 8, 9, 10, 11, 12], [10])])
def Pl26a.B3 : List Nat := [0, 0, 0, 7, 0, 0, 0, 127, 0, 0, 1023, 2047, 4095, 8191]
theorem Pl26a.tab3 : rtab .any (opsOf Try.f7 3) = Pl26a.T3 := by kernel_rfl
theorem Pl26a.bits3 : waitsOk Pl26a.T3.2 Pl26a.B3 = true := by kernel_rfl
set_option maxHeartbeats 8000000 in
set_option maxRecDepth 100000 in
theorem Pl26a.calls (k : Nat) (a0_0 : Int) (A0_1 : Option Addr) (c0_1 : Nat) (l0_1 : List ByteArray) (A0_2 : Option Addr) (c0_2 : Nat) (l0_2 : List (S51)) (a1 : Int) (a2 : Int) (r : Bool) (w : World) (hr0_1 : Kd.C Kd.string w A0_1 l0_1.length l0_1) (hc0_1 : l0_1.length ≤ c0_1) (hr0_2 : Kd.C k51 w A0_2 l0_2.length l0_2) (hc0_2 : l0_2.length ≤ c0_2) (h : Pl26a.f k a0_0 l0_1 l0_2 a1 a2 = some r) (hr_ : Aside0 (r = true)) :
  Calls Try.prog 7 #[.agg #[.int .i64 a0_0, .slice A0_1 l0_1.length c0_1, .slice A0_2 l0_2.length c0_2], .int .i64 a1, .int .i64 a2] w fun e w' => e = .returned (.bool r) ∧ Below w.heap.size w w' := by
 have U2 := Try.underlying25
 have W0 := Try.underlying51
 have f5 := Aside0.mk hr0_1
 have f7 := Aside0.mk hc0_1
 clear hr0_1 hc0_1
 have f3 := Aside0.mk hr0_2
 have f6 := Aside0.mk hc0_2
 clear hr0_2 hc0_2
 have HB := Aside0.mk (Below.refl w.heap.size w)
 have H : ((Pr26a.f k a0_0 l0_1 l0_2).bind fun n0 => (if n0 = true then ((Pxf.f k a0_0 l0_1 l0_2 a1 a2).bind fun b9 => ((Pxe.f k a0_0 l0_1 l0_2 a1 a2).bind fun b8 => ((Pxg.f a0_0 l0_1 l0_2 a1).bind fun b6 => ((Pr26d.f a0_0 l0_1 l0_2).bind fun g8 => (if g8 = true then (Pl26a.l0 k a1 a2 b9 b8 b6 (([] : List Int)) (([] : List (S51))) true 0 a0_0 l0_1 l0_2) else (if (b9.length : Int) = 0 then (if (b8.length : Int) = 0 then (if (b6.length : Int) = 0 then ((Pxb.f k a0_0 l0_1 l0_2).bind fun g1 => (if g1 = true then (some false) else ((Pl26b.f k).bind fun f8 => (some f8)))) else (some false)) else (some false)) else (some false))))))) else ((Pl26b.f k).bind fun i0 => (some i0)))) = some r := h
 clear h
 replace H := Option.bind_eq_some_iff.mp H
 obtain ⟨n0, x3, H⟩ := H
 replace H : (if n0 = true then ((Pxf.f k a0_0 l0_1 l0_2 a1 a2).bind fun b9 => ((Pxe.f k a0_0 l0_1 l0_2 a1 a2).bind fun b8 => ((Pxg.f a0_0 l0_1 l0_2 a1).bind fun b6 => ((Pr26d.f a0_0 l0_1 l0_2).bind fun g8 => (if g8 = true then (Pl26a.l0 k a1 a2 b9 b8 b6 (([] : List Int)) (([] : List (S51))) true 0 a0_0 l0_1 l0_2) else (if (b9.length : Int) = 0 then (if (b8.length : Int) = 0 then (if (b6.length : Int) = 0 then ((Pxb.f k a0_0 l0_1 l0_2).bind fun g1 => (if g1 = true then (some false) else ((Pl26b.f k).bind fun f8 => (some f8)))) else (some false)) else (some false)) else (some false))))))) else ((Pl26b.f k).bind fun i0 => (some i0))) = some r := H
 have A4 := Aside0.mk x3
 clear x3
 by_cases c5 : n0 = true
 ·subst c5
  have H1 : ((Pxf.f k a0_0 l0_1 l0_2 a1 a2).bind fun b9 => ((Pxe.f k a0_0 l0_1 l0_2 a1 a2).bind fun b8 => ((Pxg.f a0_0 l0_1 l0_2 a1).bind fun b6 => ((Pr26d.f a0_0 l0_1 l0_2).bind fun g8 => (if g8 = true then (Pl26a.l0 k a1 a2 b9 b8 b6 (([] : List Int)) (([] : List (S51))) true 0 a0_0 l0_1 l0_2) else (if (b9.length : Int) = 0 then (if (b8.length : Int) = 0 then (if (b6.length : Int) = 0 then ((Pxb.f k a0_0 l0_1 l0_2).bind fun g1 => (if g1 = true then (some false) else ((Pl26b.f k).bind fun f8 => (some f8)))) else (some false)) else (some false)) else (some false))))))) = some r := by rw [if_pos rfl] at H; exact H
  clear H
  have H := H1
  clear H1
  replace H := Option.bind_eq_some_iff.mp H
  obtain ⟨b9, x4, H⟩ := H
  replace H : ((Pxe.f k a0_0 l0_1 l0_2 a1 a2).bind fun b8 => ((Pxg.f a0_0 l0_1 l0_2 a1).bind fun b6 => ((Pr26d.f a0_0 l0_1 l0_2).bind fun g8 => (if g8 = true then (Pl26a.l0 k a1 a2 b9 b8 b6 (([] : List Int)) (([] : List (S51))) true 0 a0_0 l0_1 l0_2) else (if (b9.length : Int) = 0 then (if (b8.length : Int) = 0 then (if (b6.length : Int) = 0 then ((Pxb.f k a0_0 l0_1 l0_2).bind fun g1 => (if g1 = true then (some false) else ((Pl26b.f k).bind fun f8 => (some f8)))) else (some false)) else (some false)) else (some false)))))) = some r := H
  have A6 := Aside0.mk x4
  clear x4
  replace H := Option.bind_eq_some_iff.mp H
  obtain ⟨b8, x0, H⟩ := H
  replace H : ((Pxg.f a0_0 l0_1 l0_2 a1).bind fun b6 => ((Pr26d.f a0_0 l0_1 l0_2).bind fun g8 => (if g8 = true then (Pl26a.l0 k a1 a2 b9 b8 b6 (([] : List Int)) (([] : List (S51))) true 0 a0_0 l0_1 l0_2) else (if (b9.length : Int) = 0 then (if (b8.length : Int) = 0 then (if (b6.length : Int) = 0 then ((Pxb.f k a0_0 l0_1 l0_2).bind fun g1 => (if g1 = true then (some false) else ((Pl26b.f k).bind fun f8 => (some f8)))) else (some false)) else (some false)) else (some false))))) = some r := H
  have A7 := Aside0.mk x0
  clear x0
  replace H := Option.bind_eq_some_iff.mp H
  obtain ⟨b6, x6, H⟩ := H
  replace H : ((Pr26d.f a0_0 l0_1 l0_2).bind fun g8 => (if g8 = true then (Pl26a.l0 k a1 a2 b9 b8 b6 (([] : List Int)) (([] : List (S51))) true 0 a0_0 l0_1 l0_2) else (if (b9.length : Int) = 0 then (if (b8.length : Int) = 0 then (if (b6.length : Int) = 0 then ((Pxb.f k a0_0 l0_1 l0_2).bind fun g1 => (if g1 = true then (some false) else ((Pl26b.f k).bind fun f8 => (some f8)))) else (some false)) else (some false)) else (some false)))) = some r := H
  have A8 := Aside0.mk x6
  clear x6
  replace H := Option.bind_eq_some_iff.mp H
  obtain ⟨g8, x2, H⟩ := H
  replace H : (if g8 = true then (Pl26a.l0 k a1 a2 b9 b8 b6 (([] : List Int)) (([] : List (S51))) true 0 a0_0 l0_1 l0_2) else (if (b9.length : Int) = 0 then (if (b8.length : Int) = 0 then (if (b6.length : Int) = 0 then ((Pxb.f k a0_0 l0_1 l0_2).bind fun g1 => (if g1 = true then (some false) else ((Pl26b.f k).bind fun f8 => (some f8)))) else (some false)) else (some false)) else (some false))) = some r := H
  have A9 := Aside0.mk x2
  clear x2
  by_cases c10 : g8 = true
  ·subst c10
   have H1 : (Pl26a.l0 k a1 a2 b9 b8 b6 (([] : List Int)) (([] : List (S51))) true 0 a0_0 l0_1 l0_2) = some r := by rw [if_pos rfl] at H; exact H
   clear H
   have H := H1
   clear H1
   obtain ⟨n4, j9⟩ : ∃ y_ : List Int, y_ = (([] : List Int)) := ⟨_, rfl⟩
   replace H : (Pl26a.l0 k a1 a2 b9 b8 b6 n4 (([] : List (S51))) true 0 a0_0 l0_1 l0_2) = some r := by first | (rw [j9]; with_reducible exact H) | (have g7 := (Option.bind_some _ _).symm.trans H; rw [j9]; with_reducible exact g7) | (have g7 := (Option.bind_some _ _).symm.trans H; with_reducible exact g7) | with_reducible exact H | (rw [j9]; exact H) | exact H
   have q0 := Aside0.mk j9
   clear j9
   obtain ⟨u1, j4⟩ : ∃ y_ : List (S51), y_ = (([] : List (S51))) := ⟨_, rfl⟩
   replace H : (Pl26a.l0 k a1 a2 b9 b8 b6 n4 u1 true 0 a0_0 l0_1 l0_2) = some r := by first | (rw [j4]; with_reducible exact H) | (have g7 := (Option.bind_some _ _).symm.trans H; rw [j4]; with_reducible exact g7) | (have g7 := (Option.bind_some _ _).symm.trans H; with_reducible exact g7) | with_reducible exact H | (rw [j4]; exact H) | exact H
   have o3 := Aside0.mk j4
   clear j4
   have H' := Aside0.mk H
   clear H
   go_enter Try.func7, Try.ntmps7
   try go_wp2_with (first | ((with_reducible refine gate_dst (N := 3) rfl ?_); (try (refine gate_guard (by rfl) ?_; dsimp only)); refine box_event ?hg (N := 3) ?hd (cs := #[.int .i64 a0_0, .slice A0_1 l0_1.length c0_1, .slice A0_2 l0_2.length c0_2]) (t := 25) ?hr ?_; (case hd => rfl); (case hg => rfl); (case hr => first | (go_simp; done) | (go_simp; rfl)); intro a6 hg u4 hbox hb; have a9 := Aside0.mk (below_step (by repeat (first | (with_reducible first | exact HB.out | apply below_alloc | apply pw_below_drewN | apply below_drew1) | exact HB.out)) hb); have b0 := Aside0.mk (hbox); have b4 := Aside0.mk ((by rw [hg]; exact (below_size (by repeat (first | (with_reducible first | exact HB.out | apply below_alloc | apply pw_below_drewN | apply below_drew1) | exact HB.out))) : w.heap.size ≤ a6)); have b7 := Aside0.mk ((by rw [hg]; exact (below_size (by repeat (first | (with_reducible first | exact HB.out | apply below_alloc | apply pw_below_drewN | apply below_drew1) | exact HB.out))) : w.heap.size ≤ a6)); clear HB; have HB := a9; have a3 := b0; have q5 := b4; have a7 := b7; clear a9 b0 b4 b7; clear hb hbox hg; have m1 : u4.cell? ⟨a6, 0, none⟩ = some (.int .i64 a0_0) := (blk_cell a3.out 0).trans rfl; have l4 : u4.cell? ⟨a6, 1, none⟩ = some (.slice A0_1 l0_1.length c0_1) := (blk_cell a3.out 1).trans rfl; have l6 : u4.cell? ⟨a6, 2, none⟩ = some (.slice A0_2 l0_2.length c0_2) := (blk_cell a3.out 2).trans rfl; have m0 := blk_frozen a3.out 0; have m5 := blk_frozen a3.out 1; have m6 := blk_frozen a3.out 2) | ((with_reducible refine gate_callee (f := 23) rfl ?_); refine goesL_ (some 16) rfl rfl Try.func23 (by kernel_rfl) rfl #[.agg #[.int .i64 a0_0, .slice A0_1 l0_1.length c0_1, .slice A0_2 l0_2.length c0_2]] rfl (by (try simp only [List.map_toArray, List.map_cons, List.map_nil]); first | done | rfl | (simp only [List.length_drop, List.length_take]; rfl)) ?_; (with_reducible refine (Pr26a.calls k a0_0 _ _ l0_1 _ _ l0_2 true _ ?e8 ?e7 ?e6 ?e9 A4.out).mono ?_); (case e8 => repeat (first | exact (Kd.C_below f5.out HB.out) | (with_reducible refine Kd.C_alloc ?_ _) | (with_reducible refine Kd.C_drewN ?_ _) | (with_reducible refine Kd.C_drew ?_))); (case e7 => exact f7.out); (case e6 => repeat (first | exact (Kd.C_below f3.out HB.out) | (with_reducible refine Kd.C_alloc ?_ _) | (with_reducible refine Kd.C_drewN ?_ _) | (with_reducible refine Kd.C_drew ?_))); (case e9 => exact f6.out); rintro e O3 ⟨rfl, hb⟩; refine ⟨_, rfl, ?_⟩; have a9 := Aside0.mk (blk_below (g := a6) (o := .cells #[.int .i64 a0_0, .slice A0_1 l0_1.length c0_1, .slice A0_2 l0_2.length c0_2] 25 (0, 0)) (by (with_reducible repeat (first | refine blk_drewN ?_ _ | refine blk_drew ?_ | refine blk_alloc ?_ _)); exact a3.out) hb); have b0 := Aside0.mk (below_step (by repeat (first | (with_reducible first | exact HB.out | apply below_alloc | apply pw_below_drewN | apply below_drew1 | refine below_set ?_ a7.out) | exact HB.out)) hb); clear a3; clear HB; have a3 := a9; have HB := b0; clear a9 b0; (try clear hb); (try clear g3); (try clear hk); (try clear hi)))
   have a9 := Aside0.mk (blk_drew a3.out)
   have b0 := Aside0.mk (below_drew1 HB.out)
   clear a3
   clear HB
   have a3 := a9
   have HB := b0
   clear a9 b0
   refine start_ (n := 14) (S := fun w' => w'.cell? ⟨a6, 0, none⟩ = some (.int .i64 a0_0) ∧ w'.cell? ⟨a6, 1, none⟩ = some (.slice A0_1 l0_1.length c0_1) ∧ w'.cell? ⟨a6, 2, none⟩ = some (.slice A0_2 l0_2.length c0_2)) (ds := []) #[false, false, false, false, false, false, false, false, false, false, false, false, false, false] (by kernel_rfl) rfl rfl ⟨(blk_cell a3.out 0).trans rfl, (blk_cell a3.out 1).trans rfl, (blk_cell a3.out 2).trans rfl⟩ (fun hHeld => ?_); refine with_tabW Pl26a.tab3 Pl26a.bits3 (fun HT_ HW_ => ?_)
   generalize O3.drew = w14 at a3 HB hHeld ⊢
   refine pure_ (i := 1) (N := some 20) (v := ?_) (a' := ?_) #[false, true, false, false, false, false, false, false, false, false, false, false, false, false] rfl rfl (any_of HT_.out (by kernel_rfl)) (fun _ _ _ h => h) (Or.inl ⟨by rfl, ?_⟩) ?_ ?_
   rotate_left
   ·intro w'
    go_simp
    with_reducible rfl
   rotate_left
   ·simp only [Act.put, List.setIfInBounds_toArray, List.set_cons_zero, List.set_cons_succ, i64_w, i32_w]
    rfl
   refine pure_ (i := 2) (N := some 21) (v := ?_) (a' := ?_) #[false, true, true, false, false, false, false, false, false, false, false, false, false, false] rfl rfl (any_of HT_.out (by kernel_rfl)) (fun _ _ _ h => h) (Or.inl ⟨by rfl, ?_⟩) ?_ ?_
   rotate_left
   ·intro w'
    go_simp
    with_reducible rfl
   rotate_left
   ·simp only [Act.put, List.setIfInBounds_toArray, List.set_cons_zero, List.set_cons_succ, i64_w, i32_w]
    rfl
   refine pure_ (i := 5) (N := some 24) (v := ?_) (a' := ?_) #[false, true, true, false, false, true, false, false, false, false, false, false, false, false] rfl rfl (any_of HT_.out (by kernel_rfl)) (fun _ _ _ h => h) (Or.inl ⟨by rfl, ?_⟩) ?_ ?_
   rotate_left
   ·intro w'
    go_simp
    with_reducible rfl
   rotate_left
   ·simp only [Act.put, List.setIfInBounds_toArray, List.set_cons_zero, List.set_cons_succ, i64_w, i32_w]
    rfl
   refine pure_ (i := 6) (N := some 25) (v := ?_) (a' := ?_) #[false, true, true, false, false, true, true, false, false, false, false, false, false, false] rfl rfl (any_of HT_.out (by kernel_rfl)) (fun _ _ _ h => h) (Or.inl ⟨by rfl, ?_⟩) ?_ ?_
   rotate_left
   ·intro w'
    go_simp
    with_reducible rfl
   rotate_left
   ·simp only [Act.put, List.setIfInBounds_toArray, List.set_cons_zero, List.set_cons_succ, i64_w, i32_w]
    rfl
   refine pure_ (i := 9) (N := some 28) (v := ?_) (a' := ?_) #[false, true, true, false, false, true, true, false, false, true, false, false, false, false] rfl rfl (any_of HT_.out (by kernel_rfl)) (fun _ _ _ h => h) (Or.inl ⟨by rfl, ?_⟩) ?_ ?_
   rotate_left
   ·intro w'
    go_simp
    with_reducible rfl
   rotate_left
   ·simp only [Act.put, List.setIfInBounds_toArray, List.set_cons_zero, List.set_cons_succ, i64_w, i32_w]
    rfl
   refine take_ (i := 0) (N := some 19) (v := ?_) (a' := ?_) #[true, true, true, false, false, true, true, false, false, true, false, false, false, false] rfl rfl (take_ofW HT_.out HW_.out (by kernel_rfl)) (fun _ _ _ h => h) (Or.inl ⟨by rfl, ?_⟩) hHeld ?_ ?_
   rotate_left
   ·rintro w' ⟨s0, s1, s2⟩
    go_simp
    with_reducible rfl
   rotate_left
   ·simp only [Act.put, List.setIfInBounds_toArray, List.set_cons_zero, List.set_cons_succ, i64_w, i32_w]
    rfl
   refine take_ (i := 4) (N := some 23) (v := ?_) (a' := ?_) #[true, true, true, false, true, true, true, false, false, true, false, false, false, false] rfl rfl (take_ofW HT_.out HW_.out (by kernel_rfl)) (fun _ _ _ h => h) (Or.inl ⟨by rfl, ?_⟩) hHeld ?_ ?_
   rotate_left
   ·rintro w' ⟨s0, s1, s2⟩
    go_simp
    with_reducible rfl
   rotate_left
   ·simp only [Act.put, List.setIfInBounds_toArray, List.set_cons_zero, List.set_cons_succ, i64_w, i32_w]
    rfl
   refine take_ (i := 8) (N := some 27) (v := ?_) (a' := ?_) #[true, true, true, false, true, true, true, false, true, true, false, false, false, false] rfl rfl (take_ofW HT_.out HW_.out (by kernel_rfl)) (fun _ _ _ h => h) (Or.inl ⟨by rfl, ?_⟩) hHeld ?_ ?_
   rotate_left
   ·rintro w' ⟨s0, s1, s2⟩
    go_simp
    with_reducible rfl
   rotate_left
   ·simp only [Act.put, List.setIfInBounds_toArray, List.set_cons_zero, List.set_cons_succ, i64_w, i32_w]
    rfl
   refine one_ (i := 3) (N := some 22) #[true, true, true, true, true, true, true, false, true, true, false, false, false, false] rfl rfl (one_of HT_.out (by kernel_rfl)) (by decide) (fun K hK => ?_)
   refine goes_ Try.func28 (by kernel_rfl) rfl #[.agg #[.int .i64 a0_0, .slice A0_1 l0_1.length c0_1, .slice A0_2 l0_2.length c0_2], .int .i64 a1, .int .i64 a2] (by rfl) rfl rfl (by (try simp only [List.map_toArray, List.map_cons, List.map_nil]); first | done | rfl | (simp only [List.length_drop, List.length_take]; rfl)) ?_
   with_reducible refine (Pxf.calls k a0_0 _ _ l0_1 _ _ l0_2 a1 a2 b9 _ ?e8 ?e7 ?e6 ?e9 A6.out).mono ?_
   (case e8 => repeat (first | exact (Kd.C_below f5.out HB.out) | (with_reducible refine Kd.C_alloc ?_ _) | (with_reducible refine Kd.C_drewN ?_ _) | (with_reducible refine Kd.C_drew ?_)))
   (case e7 => exact f7.out)
   (case e6 => repeat (first | exact (Kd.C_below f3.out HB.out) | (with_reducible refine Kd.C_alloc ?_ _) | (with_reducible refine Kd.C_drewN ?_ _) | (with_reducible refine Kd.C_drew ?_)))
   (case e9 => exact f6.out)
   rintro e X0 ⟨g6, rfl, e0, hb⟩
   refine ⟨_, rfl, ?_⟩
   have a9 := Aside0.mk (Kd.R_lower e0 (below_size (by repeat (first | (with_reducible first | exact HB.out | apply below_alloc | apply pw_below_drewN | apply below_drew1 | refine below_set ?_ a7.out) | exact HB.out))))
   have b0 := Aside0.mk (blk_below (g := a6) (o := .cells #[.int .i64 a0_0, .slice A0_1 l0_1.length c0_1, .slice A0_2 l0_2.length c0_2] 25 (0, 0)) (by (with_reducible repeat (first | refine blk_drewN ?_ _ | refine blk_drew ?_ | refine blk_alloc ?_ _)); exact a3.out) hb)
   have b4 := Aside0.mk (below_step (by repeat (first | (with_reducible first | exact HB.out | apply below_alloc | apply pw_below_drewN | apply below_drew1 | refine below_set ?_ a7.out) | exact HB.out)) hb)
   clear a3
   clear HB
   have d2 := a9
   have a3 := b0
   have HB := b4
   clear a9 b0 b4
   (try clear hb)
   (try clear g3)
   (try clear hk)
   (try clear hi)
   (try clear e0)
   refine hK.out _ _ ⟨(blk_cell a3.out 0).trans rfl, (blk_cell a3.out 1).trans rfl, (blk_cell a3.out 2).trans rfl⟩ (fun hHeld => ?_)
   clear hK K
   refine norm_ (a' := ?_) ?_ ?_
   rotate_left
   ·show Act.put _ (some 22) _ = _
    simp only [Act.put, List.setIfInBounds_toArray, List.set_cons_zero, List.set_cons_succ, i64_w, i32_w]
    rfl
   refine one_ (i := 7) (N := some 26) #[true, true, true, true, true, true, true, true, true, true, false, false, false, false] rfl rfl (one_of HT_.out (by kernel_rfl)) (by decide) (fun K hK => ?_)
   refine goes_ Try.func29 (by kernel_rfl) rfl #[.agg #[.int .i64 a0_0, .slice A0_1 l0_1.length c0_1, .slice A0_2 l0_2.length c0_2], .int .i64 a1, .int .i64 a2] (by rfl) rfl rfl (by (try simp only [List.map_toArray, List.map_cons, List.map_nil]); first | done | rfl | (simp only [List.length_drop, List.length_take]; rfl)) ?_
   with_reducible refine (Pxe.calls k a0_0 _ _ l0_1 _ _ l0_2 a1 a2 b8 _ ?e8 ?e7 ?e6 ?e9 A7.out).mono ?_
   (case e8 => repeat (first | exact (Kd.C_below f5.out HB.out) | (with_reducible refine Kd.C_alloc ?_ _) | (with_reducible refine Kd.C_drewN ?_ _) | (with_reducible refine Kd.C_drew ?_)))
   (case e7 => exact f7.out)
   (case e6 => repeat (first | exact (Kd.C_below f3.out HB.out) | (with_reducible refine Kd.C_alloc ?_ _) | (with_reducible refine Kd.C_drewN ?_ _) | (with_reducible refine Kd.C_drew ?_)))
   (case e9 => exact f6.out)
   rintro e W6 ⟨g5, rfl, e0, hb⟩
   refine ⟨_, rfl, ?_⟩
   have a9 := Aside0.mk (Kd.R_elder' (by (with_reducible repeat (first | apply Kd.R_alloc | apply Kd.R_drewN | apply Kd.R_drew)); exact d2.out) (Kd.R_base e0) hb)
   have b0 := Aside0.mk (Kd.R_lower (Kd.R_new' e0 (Kd.R_lt (by (with_reducible repeat (first | apply Kd.R_alloc | apply Kd.R_drewN | apply Kd.R_drew)); exact d2.out))) (below_size (by repeat (first | (with_reducible first | exact HB.out | apply below_alloc | apply pw_below_drewN | apply below_drew1 | refine below_set ?_ a7.out) | exact HB.out))))
   have b4 := Aside0.mk (blk_below (g := a6) (o := .cells #[.int .i64 a0_0, .slice A0_1 l0_1.length c0_1, .slice A0_2 l0_2.length c0_2] 25 (0, 0)) (by (with_reducible repeat (first | refine blk_drewN ?_ _ | refine blk_drew ?_ | refine blk_alloc ?_ _)); exact a3.out) hb)
   have b7 := Aside0.mk (below_step (by repeat (first | (with_reducible first | exact HB.out | apply below_alloc | apply pw_below_drewN | apply below_drew1 | refine below_set ?_ a7.out) | exact HB.out)) hb)
   clear d2
   clear a3
   clear HB
   have d2 := a9
   have e1 := b0
   have a3 := b4
   have HB := b7
   clear a9 b0 b4 b7
   (try clear hb)
   (try clear g3)
   (try clear hk)
   (try clear hi)
   (try clear e0)
   refine hK.out _ _ ⟨(blk_cell a3.out 0).trans rfl, (blk_cell a3.out 1).trans rfl, (blk_cell a3.out 2).trans rfl⟩ (fun hHeld => ?_)
   clear hK K
   refine norm_ (a' := ?_) ?_ ?_
   rotate_left
   ·show Act.put _ (some 26) _ = _
    simp only [Act.put, List.setIfInBounds_toArray, List.set_cons_zero, List.set_cons_succ, i64_w, i32_w]
    rfl
   refine one_ (i := 10) (N := some 29) #[true, true, true, true, true, true, true, true, true, true, true, false, false, false] rfl rfl (one_of HT_.out (by kernel_rfl)) (by decide) (fun K hK => ?_)
   refine goes_ Try.func30 (by kernel_rfl) rfl #[.agg #[.int .i64 a0_0, .slice A0_1 l0_1.length c0_1, .slice A0_2 l0_2.length c0_2], .int .i64 a1] (by rfl) rfl rfl (by (try simp only [List.map_toArray, List.map_cons, List.map_nil]); first | done | rfl | (simp only [List.length_drop, List.length_take]; rfl)) ?_
   with_reducible refine (Pxg.calls a0_0 _ _ l0_1 _ _ l0_2 a1 b6 _ ?e8 ?e7 ?e6 ?e9 A8.out).mono ?_
   (case e8 => repeat (first | exact (Kd.C_below f5.out HB.out) | (with_reducible refine Kd.C_alloc ?_ _) | (with_reducible refine Kd.C_drewN ?_ _) | (with_reducible refine Kd.C_drew ?_)))
   (case e7 => exact f7.out)
   (case e6 => repeat (first | exact (Kd.C_below f3.out HB.out) | (with_reducible refine Kd.C_alloc ?_ _) | (with_reducible refine Kd.C_drewN ?_ _) | (with_reducible refine Kd.C_drew ?_)))
   (case e9 => exact f6.out)
   rintro e u5 ⟨h6, rfl, e0, hb⟩
   refine ⟨_, rfl, ?_⟩
   have a9 := Aside0.mk (Kd.R_below (by (with_reducible repeat (first | apply Kd.R_alloc | apply Kd.R_drewN | apply Kd.R_drew)); exact d2.out) hb)
   have b0 := Aside0.mk (Kd.R_below (by (with_reducible repeat (first | apply Kd.R_alloc | apply Kd.R_drewN | apply Kd.R_drew)); exact e1.out) hb)
   have b4 := Aside0.mk (Kd.R_lower e0 (below_size (by repeat (first | (with_reducible first | exact HB.out | apply below_alloc | apply pw_below_drewN | apply below_drew1 | refine below_set ?_ a7.out) | exact HB.out))))
   have b7 := Aside0.mk (blk_below (g := a6) (o := .cells #[.int .i64 a0_0, .slice A0_1 l0_1.length c0_1, .slice A0_2 l0_2.length c0_2] 25 (0, 0)) (by (with_reducible repeat (first | refine blk_drewN ?_ _ | refine blk_drew ?_ | refine blk_alloc ?_ _)); exact a3.out) hb)
   have d0 := Aside0.mk (below_step (by repeat (first | (with_reducible first | exact HB.out | apply below_alloc | apply pw_below_drewN | apply below_drew1 | refine below_set ?_ a7.out) | exact HB.out)) hb)
   clear d2
   clear e1
   clear a3
   clear HB
   have d2 := a9
   have e1 := b0
   have e2 := b4
   have a3 := b7
   have HB := d0
   clear a9 b0 b4 b7 d0
   (try clear hb)
   (try clear g3)
   (try clear hk)
   (try clear hi)
   (try clear e0)
   refine hK.out _ _ ⟨(blk_cell a3.out 0).trans rfl, (blk_cell a3.out 1).trans rfl, (blk_cell a3.out 2).trans rfl⟩ (fun hHeld => ?_)
   clear hK K
   refine norm_ (a' := ?_) ?_ ?_
   rotate_left
   ·show Act.put _ (some 29) _ = _
    simp only [Act.put, List.setIfInBounds_toArray, List.set_cons_zero, List.set_cons_succ, i64_w, i32_w]
    rfl
   refine pure_ (i := 11) (N := some 7) (v := ?_) (a' := ?_) #[true, true, true, true, true, true, true, true, true, true, true, true, false, false] rfl rfl (any_of HT_.out (by kernel_rfl)) (fun _ _ _ h => h) (Or.inl ⟨by rfl, ?_⟩) ?_ ?_
   rotate_left
   ·intro w'
    go_simp
    with_reducible rfl
   rotate_left
   ·simp only [Act.put, List.setIfInBounds_toArray, List.set_cons_zero, List.set_cons_succ, i64_w, i32_w]
    rfl
   refine pure_ (i := 12) (N := some 8) (v := ?_) (a' := ?_) #[true, true, true, true, true, true, true, true, true, true, true, true, true, false] rfl rfl (any_of HT_.out (by kernel_rfl)) (fun _ _ _ h => h) (Or.inl ⟨by rfl, ?_⟩) ?_ ?_
   rotate_left
   ·intro w'
    go_simp
    with_reducible rfl
   rotate_left
   ·simp only [Act.put, List.setIfInBounds_toArray, List.set_cons_zero, List.set_cons_succ, i64_w, i32_w]
    rfl
   refine pure_ (i := 13) (N := some 9) (v := ?_) (a' := ?_) #[true, true, true, true, true, true, true, true, true, true, true, true, true, true] rfl rfl (any_of HT_.out (by kernel_rfl)) (fun _ _ _ h => h) (Or.inl ⟨by rfl, ?_⟩) ?_ ?_
   rotate_left
   ·intro w'
    go_simp
    with_reducible rfl
   rotate_left
   ·simp only [Act.put, List.setIfInBounds_toArray, List.set_cons_zero, List.set_cons_succ, i64_w, i32_w]
    rfl
   refine done_ (done_of HT_.out (by kernel_rfl)) ?_
   have k9 : u5.cell? ⟨a6, 0, none⟩ = some (.int .i64 a0_0) := (blk_cell a3.out 0).trans rfl
   have l3 : u5.cell? ⟨a6, 1, none⟩ = some (.slice A0_1 l0_1.length c0_1) := (blk_cell a3.out 1).trans rfl
   have m2 : u5.cell? ⟨a6, 2, none⟩ = some (.slice A0_2 l0_2.length c0_2) := (blk_cell a3.out 2).trans rfl
   have l8 := blk_frozen a3.out 0
   have m4 := blk_frozen a3.out 1
   have l7 := blk_frozen a3.out 2
   try go_wp2_with (first | ((with_reducible refine gate_callee (f := 15) rfl ?_); refine goesL_ (some 31) rfl rfl Try.func15 (by kernel_rfl) rfl #[.agg #[.int .i64 a0_0, .slice A0_1 l0_1.length c0_1, .slice A0_2 l0_2.length c0_2]] rfl (by (try simp only [List.map_toArray, List.map_cons, List.map_nil]); first | done | rfl | (simp only [List.length_drop, List.length_take]; rfl)) ?_; (with_reducible refine (Pr26d.calls a0_0 _ _ l0_1 _ _ l0_2 true _ ?e8 ?e7 ?e6 ?e9 A9.out).mono ?_); (case e8 => repeat (first | exact (Kd.C_below f5.out HB.out) | (with_reducible refine Kd.C_alloc ?_ _) | (with_reducible refine Kd.C_drewN ?_ _) | (with_reducible refine Kd.C_drew ?_))); (case e7 => exact f7.out); (case e6 => repeat (first | exact (Kd.C_below f3.out HB.out) | (with_reducible refine Kd.C_alloc ?_ _) | (with_reducible refine Kd.C_drewN ?_ _) | (with_reducible refine Kd.C_drew ?_))); (case e9 => exact f6.out); rintro e W9 ⟨rfl, hb⟩; refine ⟨_, rfl, ?_⟩; have a9 := Aside0.mk (Kd.R_below (by (with_reducible repeat (first | apply Kd.R_alloc | apply Kd.R_drewN | apply Kd.R_drew)); exact d2.out) hb); have b0 := Aside0.mk (Kd.R_below (by (with_reducible repeat (first | apply Kd.R_alloc | apply Kd.R_drewN | apply Kd.R_drew)); exact e1.out) hb); have b4 := Aside0.mk (Kd.R_below (by (with_reducible repeat (first | apply Kd.R_alloc | apply Kd.R_drewN | apply Kd.R_drew)); exact e2.out) hb); have b7 := Aside0.mk (blk_below (g := a6) (o := .cells #[.int .i64 a0_0, .slice A0_1 l0_1.length c0_1, .slice A0_2 l0_2.length c0_2] 25 (0, 0)) (by (with_reducible repeat (first | refine blk_drewN ?_ _ | refine blk_drew ?_ | refine blk_alloc ?_ _)); exact a3.out) hb); have d0 := Aside0.mk (below_step (by repeat (first | (with_reducible first | exact HB.out | apply below_alloc | apply pw_below_drewN | apply below_drew1 | refine below_set ?_ a7.out) | exact HB.out)) hb); clear d2; clear e1; clear e2; clear a3; clear HB; have d2 := a9; have e1 := b0; have e2 := b4; have a3 := b7; have HB := d0; clear a9 b0 b4 b7 d0; (try clear hb); (try clear g3); (try clear hk); (try clear hi)) | ((with_reducible refine gate_dst (N := 54) rfl ?_); (try (refine gate_guard (by rfl) ?_; dsimp only)); refine Kd.R_lit (Kd.int .i64) _ 3 ?hg (N := 54) ?hd (xs := ([] : List Int)) (inner := []) (ok := fun _ => True) (okp := fun _ => True) ?hr ?hp (fun _ hk => hk) trivial (Below.refl _ _) (Nat.le_refl _) (by simp) ?_; (case hd => rfl); (case hg => rfl); (case hr => first | (go_simp; done) | (go_simp; rfl)); (case hp => exact (Reps.none _ _)); intro T8 X5 i9 hb hg_ hnew_; clear hg_ hnew_; (first | rw [← q0.out] at i9 | (simp only [Int.reduceToNat] at i9; rw [← q0.out] at i9)); have a9 := Aside0.mk (Kd.R_elder' (by (with_reducible repeat (first | apply Kd.R_alloc | apply Kd.R_drewN | apply Kd.R_drew)); exact d2.out) (Kd.R_base i9) hb); have b0 := Aside0.mk (Kd.R_elder' (by (with_reducible repeat (first | apply Kd.R_alloc | apply Kd.R_drewN | apply Kd.R_drew)); exact e1.out) (Kd.R_base i9) hb); have b4 := Aside0.mk (Kd.R_below (by (with_reducible repeat (first | apply Kd.R_alloc | apply Kd.R_drewN | apply Kd.R_drew)); exact e2.out) hb); have b7 := Aside0.mk (Kd.R_lower (Kd.R_new' (Kd.R_new' i9 (Kd.R_lt (by (with_reducible repeat (first | apply Kd.R_alloc | apply Kd.R_drewN | apply Kd.R_drew)); exact d2.out))) (Kd.R_lt (by (with_reducible repeat (first | apply Kd.R_alloc | apply Kd.R_drewN | apply Kd.R_drew)); exact e1.out))) (below_size (by repeat (first | (with_reducible first | exact HB.out | apply below_alloc | apply pw_below_drewN | apply below_drew1 | refine below_set ?_ a7.out) | exact HB.out)))); have d0 := Aside0.mk (blk_below (g := a6) (o := .cells #[.int .i64 a0_0, .slice A0_1 l0_1.length c0_1, .slice A0_2 l0_2.length c0_2] 25 (0, 0)) (by (with_reducible repeat (first | refine blk_drewN ?_ _ | refine blk_drew ?_ | refine blk_alloc ?_ _)); exact a3.out) hb); have d4 := Aside0.mk (below_step (by repeat (first | (with_reducible first | exact HB.out | apply below_alloc | apply pw_below_drewN | apply below_drew1 | refine below_set ?_ a7.out) | exact HB.out)) hb); clear d2; clear e1; clear e2; clear a3; clear HB; have d2 := a9; have e1 := b0; have e2 := b4; have k4 := b7; have a3 := d0; have HB := d4; clear a9 b0 b4 b7 d0 d4; clear hb i9) | ((with_reducible refine gate_dst (N := 55) rfl ?_); (try (refine gate_guard (by rfl) ?_; dsimp only)); refine Kd.R_lit k51 _ 51 ?hg (N := 55) ?hd (xs := ([] : List (S51))) (inner := []) (ok := fun _ => True) (okp := fun _ => True) ?hr ?hp (fun _ hk => hk) trivial (Below.refl _ _) (Nat.le_refl _) (by simp) ?_; (case hd => rfl); (case hg => rfl); (case hr => first | (go_simp; done) | (go_simp; rfl)); (case hp => exact (Reps.none _ _)); intro T7 Y2 k0 hb hg_ hnew_; clear hg_ hnew_; (first | rw [← o3.out] at k0 | (simp only [Int.reduceToNat] at k0; rw [← o3.out] at k0)); have a9 := Aside0.mk (Kd.R_below (by (with_reducible repeat (first | apply Kd.R_alloc | apply Kd.R_drewN | apply Kd.R_drew)); exact d2.out) hb); have b0 := Aside0.mk (Kd.R_below (by (with_reducible repeat (first | apply Kd.R_alloc | apply Kd.R_drewN | apply Kd.R_drew)); exact e1.out) hb); have b4 := Aside0.mk (Kd.R_elder' (by (with_reducible repeat (first | apply Kd.R_alloc | apply Kd.R_drewN | apply Kd.R_drew)); exact e2.out) (Kd.R_base k0) hb); have b7 := Aside0.mk (Kd.R_below (by (with_reducible repeat (first | apply Kd.R_alloc | apply Kd.R_drewN | apply Kd.R_drew)); exact k4.out) hb); have d0 := Aside0.mk (Kd.R_lower (Kd.R_new' k0 (Kd.R_lt (by (with_reducible repeat (first | apply Kd.R_alloc | apply Kd.R_drewN | apply Kd.R_drew)); exact e2.out))) (below_size (by repeat (first | (with_reducible first | exact HB.out | apply below_alloc | apply pw_below_drewN | apply below_drew1 | refine below_set ?_ a7.out) | exact HB.out)))); have d4 := Aside0.mk (blk_below (g := a6) (o := .cells #[.int .i64 a0_0, .slice A0_1 l0_1.length c0_1, .slice A0_2 l0_2.length c0_2] 25 (0, 0)) (by (with_reducible repeat (first | refine blk_drewN ?_ _ | refine blk_drew ?_ | refine blk_alloc ?_ _)); exact a3.out) hb); have d8 := Aside0.mk (below_step (by repeat (first | (with_reducible first | exact HB.out | apply below_alloc | apply pw_below_drewN | apply below_drew1 | refine below_set ?_ a7.out) | exact HB.out)) hb); clear d2; clear e1; clear e2; clear k4; clear a3; clear HB; have d2 := a9; have e1 := b0; have e2 := b4; have k4 := b7; have w2 := d0; have a3 := d4; have HB := d8; clear a9 b0 b4 b7 d0 d4 d8; clear hb k0))
   go_loopg [10, 11, 12, 13] k (fun kq t3 x1 O1 O8 w' => ∃ (d5 : List Int) (d1 : List (S51)) (d6 : Bool) (a0 : Int), O1 = .bool d6 ∧ O8 = .int .i64 a0 ∧ Aside0 (Pl26a.l0 kq a1 a2 b9 b8 b6 d5 d1 d6 a0 a0_0 l0_1 l0_2 = some r) ∧ Aside0 (kq ≤ k) ∧ Aside0 (Kd.R (Kd.int .i64) 3 w' w.heap.size (fun k_ => some k_ ≠ (g5 : Value).ownBlock ∧ some k_ ≠ (t3 : Value).ownBlock) g6 b9) ∧ Aside0 (Kd.R (Kd.int .i64) 3 w' w.heap.size (fun k_ => some k_ ≠ (g6 : Value).ownBlock ∧ some k_ ≠ (t3 : Value).ownBlock) g5 b8) ∧ Aside0 (Kd.R k51 51 w' w.heap.size (fun k_ => some k_ ≠ (x1 : Value).ownBlock) h6 b6) ∧ Aside0 (Kd.R (Kd.int .i64) 3 w' w.heap.size (fun k_ => some k_ ≠ (g6 : Value).ownBlock ∧ some k_ ≠ (g5 : Value).ownBlock) t3 d5) ∧ Aside0 (Kd.R k51 51 w' w.heap.size (fun k_ => some k_ ≠ (h6 : Value).ownBlock) x1 d1) ∧ Aside0 (w'.heap[a6]? = some (.cells #[.int .i64 a0_0, (.slice A0_1 l0_1.length c0_1), (.slice A0_2 l0_2.length c0_2)] 25 (0, 0))) ∧ Aside0 (Below w.heap.size w w'))
   case atStart => exact ⟨(n4), (u1), (true), (0), (by first | rfl | (simp; done) | (simp [*]; done)), (by first | rfl | (simp; done) | (simp [*]; done)), H', ⟨Nat.le_refl _⟩, ⟨by (with_reducible repeat (first | apply Kd.R_alloc | apply Kd.R_drewN | apply Kd.R_drew)); exact Kd.R_mono d2.out (fun _ hk => ⟨hk.1.2, hk.2⟩)⟩, ⟨by (with_reducible repeat (first | apply Kd.R_alloc | apply Kd.R_drewN | apply Kd.R_drew)); exact Kd.R_mono e1.out (fun _ hk => ⟨hk.1.2, hk.2⟩)⟩, ⟨by (with_reducible repeat (first | apply Kd.R_alloc | apply Kd.R_drewN | apply Kd.R_drew)); exact Kd.R_mono e2.out (fun _ hk => hk.2)⟩, ⟨by (with_reducible repeat (first | apply Kd.R_alloc | apply Kd.R_drewN | apply Kd.R_drew)); exact Kd.R_mono k4.out (fun _ hk => ⟨hk.1.2, hk.2⟩)⟩, ⟨by (with_reducible repeat (first | apply Kd.R_alloc | apply Kd.R_drewN | apply Kd.R_drew)); exact Kd.R_mono w2.out (fun _ hk => hk.2)⟩, ⟨by (with_reducible repeat (first | refine blk_drewN ?_ _ | refine blk_drew ?_ | refine blk_alloc ?_ _)); exact a3.out⟩, ⟨by repeat (first | (with_reducible first | exact HB.out | apply below_alloc | apply pw_below_drewN | apply below_drew1 | refine below_set ?_ a7.out) | exact HB.out)⟩⟩
   case round =>
    clear H'
    try clear c1
    try clear c2
    try clear p2
    try clear c3
    try clear c5
    try clear c7
    try clear c10
    try clear P3
    try clear P4
    try clear m1
    try clear l4
    try clear l6
    try clear k9
    try clear l3
    try clear m2
    try clear m0
    try clear m5
    try clear m6
    try clear l8
    try clear m4
    try clear l7
    obtain ⟨d5, d1, d6, a0, rfl, rfl, HA, g9, b3, b2, b5, b1, a8, a3, HB⟩ := hrel
    cases gk with
    | zero => exact absurd HA.out (by simp [Pl26a.l0])
    | succ k1 =>
     have H := HA.out
     clear HA
     simp only [Pl26a.l0] at H
     by_cases k8 : a0 < (l0_2.length : Int)
     ·rw [if_pos k8] at H
      have c24b0 : decide (a0 < (l0_2.length : Int)) = true := decide_eq_true k8
      clear k8
      by_cases n3 : 0 ≤ a0
      ·rw [if_pos n3] at H
       have c25b0 : decide (0 ≤ a0) = true := decide_eq_true n3
       clear n3
       have o1 := Aside0.mk H
       clear H
       have t0 : wr.cell? ⟨a6, 0, none⟩ = some (.int .i64 a0_0) := (blk_cell a3.out 0).trans rfl
       have r6 : wr.cell? ⟨a6, 1, none⟩ = some (.slice A0_1 l0_1.length c0_1) := (blk_cell a3.out 1).trans rfl
       have q9 : wr.cell? ⟨a6, 2, none⟩ = some (.slice A0_2 l0_2.length c0_2) := (blk_cell a3.out 2).trans rfl
       have s8 := blk_frozen a3.out 0
       have r0 := blk_frozen a3.out 1
       have t2 := blk_frozen a3.out 2
       have m8 : 0 ≤ (a0 : Int) := of_decide_eq_true (by first | (with_reducible assumption) | assumption)
       have n1 : a0 < (l0_2.length : Int) := of_decide_eq_true (by first | (with_reducible assumption) | assumption)
       obtain ⟨e5, B7, i7, i5, i6⟩ := at_T51 f3.out a0 m8 n1
       cases B7
       replace i7 := (HB.out.cell (World.block_lt_of_cell? w _ i7)).trans i7
       replace i5 := (HB.out.cell (World.block_lt_of_cell? w _ i5)).trans i5
       replace i6 := (HB.out.cell (World.block_lt_of_cell? w _ i6)).trans i6
       replace m8 := eq_true m8
       replace n1 := eq_true n1
       go_upto_region 11 with (first | ((with_reducible refine gate_dst (N := 14) rfl ?_); (try (refine gate_guard (by rfl) ?_; dsimp only)); refine box_event ?hg (N := 14) ?hd (cs := #[.int .i64 0, .int .i64 0, .int .i64 0]) (t := 51) ?hr ?_; (case hd => rfl); (case hg => rfl); (case hr => first | (go_simp; done) | (go_simp; rfl)); intro a5 hg j7 hbox hb; have a9 := Aside0.mk (Kd.R_below (by (with_reducible repeat (first | apply Kd.R_alloc | apply Kd.R_drewN | apply Kd.R_drew)); exact b3.out) hb); have b0 := Aside0.mk (Kd.R_below (by (with_reducible repeat (first | apply Kd.R_alloc | apply Kd.R_drewN | apply Kd.R_drew)); exact b2.out) hb); have b4 := Aside0.mk (Kd.R_below (Kd.R_elderB (by (with_reducible repeat (first | apply Kd.R_alloc | apply Kd.R_drewN | apply Kd.R_drew)); exact b5.out) a5 (Nat.le_of_eq hg.symm)) hb); have b7 := Aside0.mk (Kd.R_below (by (with_reducible repeat (first | apply Kd.R_alloc | apply Kd.R_drewN | apply Kd.R_drew)); exact b1.out) hb); have d0 := Aside0.mk (Kd.R_below (Kd.R_elderB (by (with_reducible repeat (first | apply Kd.R_alloc | apply Kd.R_drewN | apply Kd.R_drew)); exact a8.out) a5 (Nat.le_of_eq hg.symm)) hb); have d4 := Aside0.mk (blk_below (g := a6) (o := .cells #[.int .i64 a0_0, .slice A0_1 l0_1.length c0_1, .slice (some e5) l0_2.length c0_2] 25 (0, 0)) (by (with_reducible repeat (first | refine blk_drewN ?_ _ | refine blk_drew ?_ | refine blk_alloc ?_ _)); exact a3.out) hb); have d8 := Aside0.mk (below_step (by repeat (first | (with_reducible first | exact HB.out | apply below_alloc | apply pw_below_drewN | apply below_drew1 | refine below_set ?_ a7.out) | exact HB.out)) hb); have d9 := Aside0.mk (hbox); have h4 := Aside0.mk ((by rw [hg]; exact (below_size (by repeat (first | (with_reducible first | exact HB.out | apply below_alloc | apply pw_below_drewN | apply below_drew1 | refine below_set ?_ a7.out) | exact HB.out))) : w.heap.size ≤ a5)); have x5 := Aside0.mk ((by rw [hg]; exact (below_size (by repeat (first | (with_reducible first | exact HB.out | apply below_alloc | apply pw_below_drewN | apply below_drew1 | refine below_set ?_ a7.out) | exact HB.out))) : w.heap.size ≤ a5)); have u6 := Aside0.mk ((by rw [hg]; exact Nat.ne_of_lt (blk_lt (g := a6) (o := .cells #[.int .i64 a0_0, .slice A0_1 l0_1.length c0_1, .slice (some e5) l0_2.length c0_2] 25 (0, 0)) (by (with_reducible repeat (first | refine blk_drewN ?_ _ | refine blk_drew ?_ | refine blk_alloc ?_ _)); exact a3.out)) : a6 ≠ a5)); have u3 := Aside0.mk ((by rw [hg]; exact Nat.ne_of_gt (blk_lt (g := a6) (o := .cells #[.int .i64 a0_0, .slice A0_1 l0_1.length c0_1, .slice (some e5) l0_2.length c0_2] 25 (0, 0)) (by (with_reducible repeat (first | refine blk_drewN ?_ _ | refine blk_drew ?_ | refine blk_alloc ?_ _)); exact a3.out)) : a5 ≠ a6)); clear b3; clear b2; clear b5; clear b1; clear a8; clear a3; clear HB; have b3 := a9; have b2 := b0; have b5 := b4; have b1 := b7; have a8 := d0; have a3 := d4; have HB := d8; have a4 := d9; have Q1 := h4; have d3 := x5; have d7 := u6; have e4 := u3; clear a9 b0 b4 b7 d0 d4 d8 d9 h4 x5 u6 u3; clear hb hbox hg; have S0 := e4.out; have Q6 := d7.out; have r5 : j7.cell? ⟨a5, 0, none⟩ = some (.int .i64 0) := (blk_cell a4.out 0).trans rfl; have r7 : j7.cell? ⟨a5, 1, none⟩ = some (.int .i64 0) := (blk_cell a4.out 1).trans rfl; have s9 : j7.cell? ⟨a5, 2, none⟩ = some (.int .i64 0) := (blk_cell a4.out 2).trans rfl; have q8 := blk_frozen a4.out 0; have r9 := blk_frozen a4.out 1; have q7 := blk_frozen a4.out 2))
       (try simp only [Act.put, List.setIfInBounds_toArray, List.set_cons_zero, List.set_cons_succ])
       go_cut [77] (fun O2 wc => ∃ (kq : Nat) (j3 : Bool), O2 = .bool j3 ∧ Aside0 (Pl26a.j1 kq a1 a2 b9 b8 b6 d5 d1 d6 a0 j3 a0_0 l0_1 l0_2 ((rd_T51 l0_2 a0).f0) ((rd_T51 l0_2 a0).f1) ((rd_T51 l0_2 a0).f2) = some r) ∧ Aside0 (kq ≤ k1) ∧ Aside0 (Kd.R (Kd.int .i64) 3 wc w.heap.size (fun k_ => some k_ ≠ (g5 : Value).ownBlock ∧ some k_ ≠ (u10 : Value).ownBlock) g6 b9) ∧ Aside0 (Kd.R (Kd.int .i64) 3 wc w.heap.size (fun k_ => some k_ ≠ (g6 : Value).ownBlock ∧ some k_ ≠ (u10 : Value).ownBlock) g5 b8) ∧ Aside0 (Kd.R k51 51 wc w.heap.size (fun k_ => some k_ ≠ (u11 : Value).ownBlock ∧ k_ ≠ a5) h6 b6) ∧ Aside0 (Kd.R (Kd.int .i64) 3 wc w.heap.size (fun k_ => some k_ ≠ (g6 : Value).ownBlock ∧ some k_ ≠ (g5 : Value).ownBlock) u10 d5) ∧ Aside0 (Kd.R k51 51 wc w.heap.size (fun k_ => some k_ ≠ (h6 : Value).ownBlock ∧ k_ ≠ a5) u11 d1) ∧ Aside0 (wc.heap[a6]? = some (.cells #[.int .i64 a0_0, (.slice A0_1 l0_1.length c0_1), (.slice (some e5) l0_2.length c0_2)] 25 (0, 0))) ∧ Aside0 (wc.heap[a5]? = some (.cells #[.int .i64 ((rd_T51 l0_2 a0).f0), .int .i64 ((rd_T51 l0_2 a0).f1), .int .i64 ((rd_T51 l0_2 a0).f2)] 51 (0, 0))) ∧ Aside0 (Below w.heap.size w wc))
       case first =>
        have H := o1.out
        clear o1
        by_cases k2 : ((rd_T51 l0_2 a0).f2) = a1
        ·rw [if_pos k2] at H
         have c31b0 : (((rd_T51 l0_2 a0).f2) == a1) = true := beq_iff_eq.mpr k2
         have c31b1 : (((rd_T51 l0_2 a0).f2) != a1) = false := bne_eq_false_iff_eq.mpr k2
         clear k2
         (first | rw [c31b0] | (simp only [i64_w, i32_w]; rw [c31b0]) | skip)
         have H' := Aside0.mk H
         clear H
         have S9 := e4.out
         have Q2 := d7.out
         have t1 : j7.cell? ⟨a5, 0, none⟩ = some (.int .i64 0) := (blk_cell a4.out 0).trans rfl
         have s7 : j7.cell? ⟨a5, 1, none⟩ = some (.int .i64 0) := (blk_cell a4.out 1).trans rfl
         have s3 : j7.cell? ⟨a5, 2, none⟩ = some (.int .i64 0) := (blk_cell a4.out 2).trans rfl
         have r3 := blk_frozen a4.out 0
         have s4 := blk_frozen a4.out 1
         have q6 := blk_frozen a4.out 2
         go_wp2
         go_meet
         case rel => exact ⟨_, ((((rd_T51 l0_2 a0).f1) == a2)), (by first | rfl | (simp; done) | (simp [*]; done)), H', ⟨by have := g9.out; first | omega | exact Nat.le_refl _⟩, ⟨by (with_reducible repeat (first | apply Kd.R_alloc | apply Kd.R_drewN | apply Kd.R_drew)); exact Kd.R_mono (Kd.R_far (p := ⟨a5, 2, none⟩) (Kd.R_far (p := ⟨a5, 1, none⟩) (Kd.R_far (p := ⟨a5, 0, none⟩) (Kd.R_types b3.out a4.out (by decide)) (fun _ hk => hk.2) (.int .i64 ((rd_T51 l0_2 a0).f0))) (fun _ hk => hk.2) (.int .i64 ((rd_T51 l0_2 a0).f1))) (fun _ hk => hk.2) (.int .i64 ((rd_T51 l0_2 a0).f2))) (fun _ hk => ⟨hk.1.1, hk.1.2⟩)⟩, ⟨by (with_reducible repeat (first | apply Kd.R_alloc | apply Kd.R_drewN | apply Kd.R_drew)); exact Kd.R_mono (Kd.R_far (p := ⟨a5, 2, none⟩) (Kd.R_far (p := ⟨a5, 1, none⟩) (Kd.R_far (p := ⟨a5, 0, none⟩) (Kd.R_types b2.out a4.out (by decide)) (fun _ hk => hk.2) (.int .i64 ((rd_T51 l0_2 a0).f0))) (fun _ hk => hk.2) (.int .i64 ((rd_T51 l0_2 a0).f1))) (fun _ hk => hk.2) (.int .i64 ((rd_T51 l0_2 a0).f2))) (fun _ hk => ⟨hk.1.1, hk.1.2⟩)⟩, ⟨by (with_reducible repeat (first | apply Kd.R_alloc | apply Kd.R_drewN | apply Kd.R_drew)); exact Kd.R_mono (Kd.R_far (p := ⟨a5, 2, none⟩) (Kd.R_far (p := ⟨a5, 1, none⟩) (Kd.R_far (p := ⟨a5, 0, none⟩) (Kd.R_mono b5.out (fun k_ hk => (⟨hk, hk.2⟩ : _ ∧ k_ ≠ a5))) (fun _ hk => hk.2) (.int .i64 ((rd_T51 l0_2 a0).f0))) (fun _ hk => hk.2) (.int .i64 ((rd_T51 l0_2 a0).f1))) (fun _ hk => hk.2) (.int .i64 ((rd_T51 l0_2 a0).f2))) (fun _ hk => ⟨hk.1.1, hk.1.2⟩)⟩, ⟨by (with_reducible repeat (first | apply Kd.R_alloc | apply Kd.R_drewN | apply Kd.R_drew)); exact Kd.R_mono (Kd.R_far (p := ⟨a5, 2, none⟩) (Kd.R_far (p := ⟨a5, 1, none⟩) (Kd.R_far (p := ⟨a5, 0, none⟩) (Kd.R_types b1.out a4.out (by decide)) (fun _ hk => hk.2) (.int .i64 ((rd_T51 l0_2 a0).f0))) (fun _ hk => hk.2) (.int .i64 ((rd_T51 l0_2 a0).f1))) (fun _ hk => hk.2) (.int .i64 ((rd_T51 l0_2 a0).f2))) (fun _ hk => ⟨hk.1.1, hk.1.2⟩)⟩, ⟨by (with_reducible repeat (first | apply Kd.R_alloc | apply Kd.R_drewN | apply Kd.R_drew)); exact Kd.R_mono (Kd.R_far (p := ⟨a5, 2, none⟩) (Kd.R_far (p := ⟨a5, 1, none⟩) (Kd.R_far (p := ⟨a5, 0, none⟩) (Kd.R_mono a8.out (fun k_ hk => (⟨hk, hk.2⟩ : _ ∧ k_ ≠ a5))) (fun _ hk => hk.2) (.int .i64 ((rd_T51 l0_2 a0).f0))) (fun _ hk => hk.2) (.int .i64 ((rd_T51 l0_2 a0).f1))) (fun _ hk => hk.2) (.int .i64 ((rd_T51 l0_2 a0).f2))) (fun _ hk => ⟨hk.1.1, hk.1.2⟩)⟩, ⟨by (with_reducible repeat (first | refine blk_drewN ?_ _ | refine blk_drew ?_ | refine blk_alloc ?_ _)); refine blk_far ?_ d7.out _; (with_reducible repeat (first | refine blk_drewN ?_ _ | refine blk_drew ?_ | refine blk_alloc ?_ _)); refine blk_far ?_ d7.out _; (with_reducible repeat (first | refine blk_drewN ?_ _ | refine blk_drew ?_ | refine blk_alloc ?_ _)); refine blk_far ?_ d7.out _; (with_reducible repeat (first | refine blk_drewN ?_ _ | refine blk_drew ?_ | refine blk_alloc ?_ _)); exact a3.out⟩, ⟨by (with_reducible repeat (first | refine blk_drewN ?_ _ | refine blk_drew ?_ | refine blk_alloc ?_ _)); refine blk_put (cs := #[.int .i64 ((rd_T51 l0_2 a0).f0), .int .i64 ((rd_T51 l0_2 a0).f1), .int .i64 0]) ?_ 2 _ rfl; (with_reducible repeat (first | refine blk_drewN ?_ _ | refine blk_drew ?_ | refine blk_alloc ?_ _)); refine blk_put (cs := #[.int .i64 ((rd_T51 l0_2 a0).f0), .int .i64 0, .int .i64 0]) ?_ 1 _ rfl; (with_reducible repeat (first | refine blk_drewN ?_ _ | refine blk_drew ?_ | refine blk_alloc ?_ _)); refine blk_put (cs := #[.int .i64 0, .int .i64 0, .int .i64 0]) ?_ 0 _ rfl; (with_reducible repeat (first | refine blk_drewN ?_ _ | refine blk_drew ?_ | refine blk_alloc ?_ _)); exact a4.out⟩, ⟨by repeat (first | (with_reducible first | exact HB.out | apply below_alloc | apply pw_below_drewN | apply below_drew1 | refine below_set ?_ a7.out | refine below_set ?_ d3.out) | exact HB.out)⟩⟩
        ·rw [if_neg k2] at H
         have c31b0 : (((rd_T51 l0_2 a0).f2) == a1) = false := beq_eq_false_iff_ne.mpr k2
         have c31b1 : (((rd_T51 l0_2 a0).f2) != a1) = true := bne_iff_ne.mpr k2
         (first | rw [c31b0] | (simp only [i64_w, i32_w]; rw [c31b0]) | skip)
         have H' := Aside0.mk H
         clear H
         have Q5 := e4.out
         have Q4 := d7.out
         have r2 : j7.cell? ⟨a5, 0, none⟩ = some (.int .i64 0) := (blk_cell a4.out 0).trans rfl
         have s6 : j7.cell? ⟨a5, 1, none⟩ = some (.int .i64 0) := (blk_cell a4.out 1).trans rfl
         have r4 : j7.cell? ⟨a5, 2, none⟩ = some (.int .i64 0) := (blk_cell a4.out 2).trans rfl
         have s5 := blk_frozen a4.out 0
         have r8 := blk_frozen a4.out 1
         have r1 := blk_frozen a4.out 2
         go_wp2
         go_meet
         case rel => exact ⟨_, (false), (by first | rfl | (simp; done) | (simp [*]; done)), H', ⟨by have := g9.out; first | omega | exact Nat.le_refl _⟩, ⟨by (with_reducible repeat (first | apply Kd.R_alloc | apply Kd.R_drewN | apply Kd.R_drew)); exact Kd.R_mono (Kd.R_far (p := ⟨a5, 2, none⟩) (Kd.R_far (p := ⟨a5, 1, none⟩) (Kd.R_far (p := ⟨a5, 0, none⟩) (Kd.R_types b3.out a4.out (by decide)) (fun _ hk => hk.2) (.int .i64 ((rd_T51 l0_2 a0).f0))) (fun _ hk => hk.2) (.int .i64 ((rd_T51 l0_2 a0).f1))) (fun _ hk => hk.2) (.int .i64 ((rd_T51 l0_2 a0).f2))) (fun _ hk => ⟨hk.1.1, hk.1.2⟩)⟩, ⟨by (with_reducible repeat (first | apply Kd.R_alloc | apply Kd.R_drewN | apply Kd.R_drew)); exact Kd.R_mono (Kd.R_far (p := ⟨a5, 2, none⟩) (Kd.R_far (p := ⟨a5, 1, none⟩) (Kd.R_far (p := ⟨a5, 0, none⟩) (Kd.R_types b2.out a4.out (by decide)) (fun _ hk => hk.2) (.int .i64 ((rd_T51 l0_2 a0).f0))) (fun _ hk => hk.2) (.int .i64 ((rd_T51 l0_2 a0).f1))) (fun _ hk => hk.2) (.int .i64 ((rd_T51 l0_2 a0).f2))) (fun _ hk => ⟨hk.1.1, hk.1.2⟩)⟩, ⟨by (with_reducible repeat (first | apply Kd.R_alloc | apply Kd.R_drewN | apply Kd.R_drew)); exact Kd.R_mono (Kd.R_far (p := ⟨a5, 2, none⟩) (Kd.R_far (p := ⟨a5, 1, none⟩) (Kd.R_far (p := ⟨a5, 0, none⟩) (Kd.R_mono b5.out (fun k_ hk => (⟨hk, hk.2⟩ : _ ∧ k_ ≠ a5))) (fun _ hk => hk.2) (.int .i64 ((rd_T51 l0_2 a0).f0))) (fun _ hk => hk.2) (.int .i64 ((rd_T51 l0_2 a0).f1))) (fun _ hk => hk.2) (.int .i64 ((rd_T51 l0_2 a0).f2))) (fun _ hk => ⟨hk.1.1, hk.1.2⟩)⟩, ⟨by (with_reducible repeat (first | apply Kd.R_alloc | apply Kd.R_drewN | apply Kd.R_drew)); exact Kd.R_mono (Kd.R_far (p := ⟨a5, 2, none⟩) (Kd.R_far (p := ⟨a5, 1, none⟩) (Kd.R_far (p := ⟨a5, 0, none⟩) (Kd.R_types b1.out a4.out (by decide)) (fun _ hk => hk.2) (.int .i64 ((rd_T51 l0_2 a0).f0))) (fun _ hk => hk.2) (.int .i64 ((rd_T51 l0_2 a0).f1))) (fun _ hk => hk.2) (.int .i64 ((rd_T51 l0_2 a0).f2))) (fun _ hk => ⟨hk.1.1, hk.1.2⟩)⟩, ⟨by (with_reducible repeat (first | apply Kd.R_alloc | apply Kd.R_drewN | apply Kd.R_drew)); exact Kd.R_mono (Kd.R_far (p := ⟨a5, 2, none⟩) (Kd.R_far (p := ⟨a5, 1, none⟩) (Kd.R_far (p := ⟨a5, 0, none⟩) (Kd.R_mono a8.out (fun k_ hk => (⟨hk, hk.2⟩ : _ ∧ k_ ≠ a5))) (fun _ hk => hk.2) (.int .i64 ((rd_T51 l0_2 a0).f0))) (fun _ hk => hk.2) (.int .i64 ((rd_T51 l0_2 a0).f1))) (fun _ hk => hk.2) (.int .i64 ((rd_T51 l0_2 a0).f2))) (fun _ hk => ⟨hk.1.1, hk.1.2⟩)⟩, ⟨by (with_reducible repeat (first | refine blk_drewN ?_ _ | refine blk_drew ?_ | refine blk_alloc ?_ _)); refine blk_far ?_ d7.out _; (with_reducible repeat (first | refine blk_drewN ?_ _ | refine blk_drew ?_ | refine blk_alloc ?_ _)); refine blk_far ?_ d7.out _; (with_reducible repeat (first | refine blk_drewN ?_ _ | refine blk_drew ?_ | refine blk_alloc ?_ _)); refine blk_far ?_ d7.out _; (with_reducible repeat (first | refine blk_drewN ?_ _ | refine blk_drew ?_ | refine blk_alloc ?_ _)); exact a3.out⟩, ⟨by (with_reducible repeat (first | refine blk_drewN ?_ _ | refine blk_drew ?_ | refine blk_alloc ?_ _)); refine blk_put (cs := #[.int .i64 ((rd_T51 l0_2 a0).f0), .int .i64 ((rd_T51 l0_2 a0).f1), .int .i64 0]) ?_ 2 _ rfl; (with_reducible repeat (first | refine blk_drewN ?_ _ | refine blk_drew ?_ | refine blk_alloc ?_ _)); refine blk_put (cs := #[.int .i64 ((rd_T51 l0_2 a0).f0), .int .i64 0, .int .i64 0]) ?_ 1 _ rfl; (with_reducible repeat (first | refine blk_drewN ?_ _ | refine blk_drew ?_ | refine blk_alloc ?_ _)); refine blk_put (cs := #[.int .i64 0, .int .i64 0, .int .i64 0]) ?_ 0 _ rfl; (with_reducible repeat (first | refine blk_drewN ?_ _ | refine blk_drew ?_ | refine blk_alloc ?_ _)); exact a4.out⟩, ⟨by repeat (first | (with_reducible first | exact HB.out | apply below_alloc | apply pw_below_drewN | apply below_drew1 | refine below_set ?_ a7.out | refine below_set ?_ d3.out) | exact HB.out)⟩⟩
       case rest =>
        clear o1
        try clear c1
        try clear c2
        try clear p2
        try clear q2
        try clear W4
        try clear c3
        try clear c5
        try clear c7
        try clear c10
        try clear P3
        try clear Y0
        try clear X2
        try clear U5
        try clear P4
        try clear k8
        try clear c24b0
        try clear n3
        try clear c25b0
        try clear X1
        try clear W8
        try clear X9
        try clear k2
        try clear c31b0
        try clear c31b1
        try clear X7
        try clear X4
        try clear m1
        try clear l4
        try clear l6
        try clear k9
        try clear l3
        try clear m2
        try clear t0
        try clear r6
        try clear q9
        try clear r5
        try clear r7
        try clear s9
        try clear t1
        try clear s7
        try clear s3
        try clear r2
        try clear s6
        try clear r4
        try clear m0
        try clear m5
        try clear m6
        try clear l8
        try clear m4
        try clear l7
        try clear s8
        try clear r0
        try clear t2
        try clear q8
        try clear r9
        try clear q7
        try clear r3
        try clear s4
        try clear q6
        try clear s5
        try clear r8
        try clear r1
        try clear i7
        try clear i5
        try clear i6
        try clear p2
        try clear m8
        try clear n1
        obtain ⟨kq, j3, rfl, HA, g2, b3, b2, b5, b1, a8, a3, a4, HB⟩ := hcut
        cases kq with
        | zero => exact absurd HA.out (by simp [Pl26a.j1])
        | succ kj25 =>
         have H := HA.out
         clear HA
         simp only [Pl26a.j1] at H
         by_cases o5 : j3 = true
         ·subst o5
          have H1 : (if d5.length < 17592186044416 then ((some (d5 ++ [((rd_T51 l0_2 a0).f0)] : List Int)).bind fun f9 => (if ((rd_T51 l0_2 a0).f0) = a1 then (if d1.length < 5864062014805 then ((some (d1 ++ [(⟨((rd_T51 l0_2 a0).f0), ((rd_T51 l0_2 a0).f1), ((rd_T51 l0_2 a0).f2)⟩ : S51)] : List (S51))).bind fun h0 => (if d6 = true then ((Pr26b.f kj25 a0_0 l0_1 l0_2 ((rd_T51 l0_2 a0).f0) ((rd_T51 l0_2 a0).f1)).bind fun h3 => (Pl26a.l0 kj25 a1 a2 b9 b8 b6 f9 h0 ((h3.length : Int) == 1) (wrap64 (a0 + 1)) a0_0 l0_1 l0_2)) else (Pl26a.l0 kj25 a1 a2 b9 b8 b6 f9 h0 false (wrap64 (a0 + 1)) a0_0 l0_1 l0_2))) else (none)) else (if d6 = true then ((Pr26b.f kj25 a0_0 l0_1 l0_2 ((rd_T51 l0_2 a0).f0) ((rd_T51 l0_2 a0).f1)).bind fun h7 => (Pl26a.l0 kj25 a1 a2 b9 b8 b6 f9 d1 ((h7.length : Int) == 1) (wrap64 (a0 + 1)) a0_0 l0_1 l0_2)) else (Pl26a.l0 kj25 a1 a2 b9 b8 b6 f9 d1 false (wrap64 (a0 + 1)) a0_0 l0_1 l0_2)))) else (none)) = some r := by rw [if_pos rfl] at H; exact H
          clear H
          have H := H1
          clear H1
          by_cases p7 : d5.length < 17592186044416
          ·rw [if_pos p7] at H
           have k5 := Aside0.mk p7
           clear p7
           obtain ⟨f9, j6⟩ : ∃ y_ : List Int, y_ = (d5 ++ [((rd_T51 l0_2 a0).f0)]) := ⟨_, rfl⟩
           replace H : (if ((rd_T51 l0_2 a0).f0) = a1 then (if d1.length < 5864062014805 then ((some (d1 ++ [(⟨((rd_T51 l0_2 a0).f0), ((rd_T51 l0_2 a0).f1), ((rd_T51 l0_2 a0).f2)⟩ : S51)] : List (S51))).bind fun h0 => (if d6 = true then ((Pr26b.f kj25 a0_0 l0_1 l0_2 ((rd_T51 l0_2 a0).f0) ((rd_T51 l0_2 a0).f1)).bind fun h3 => (Pl26a.l0 kj25 a1 a2 b9 b8 b6 f9 h0 ((h3.length : Int) == 1) (wrap64 (a0 + 1)) a0_0 l0_1 l0_2)) else (Pl26a.l0 kj25 a1 a2 b9 b8 b6 f9 h0 false (wrap64 (a0 + 1)) a0_0 l0_1 l0_2))) else (none)) else (if d6 = true then ((Pr26b.f kj25 a0_0 l0_1 l0_2 ((rd_T51 l0_2 a0).f0) ((rd_T51 l0_2 a0).f1)).bind fun h7 => (Pl26a.l0 kj25 a1 a2 b9 b8 b6 f9 d1 ((h7.length : Int) == 1) (wrap64 (a0 + 1)) a0_0 l0_1 l0_2)) else (Pl26a.l0 kj25 a1 a2 b9 b8 b6 f9 d1 false (wrap64 (a0 + 1)) a0_0 l0_1 l0_2))) = some r := by first | (rw [j6]; with_reducible exact H) | (have g7 := (Option.bind_some _ _).symm.trans H; rw [j6]; with_reducible exact g7) | (have g7 := (Option.bind_some _ _).symm.trans H; with_reducible exact g7) | with_reducible exact H | (rw [j6]; exact H) | exact H
           have k3 := Aside0.mk j6
           clear j6
           by_cases k6 : ((rd_T51 l0_2 a0).f0) = a1
           ·rw [if_pos k6] at H
            have c38b0 : (((rd_T51 l0_2 a0).f0) == a1) = true := beq_iff_eq.mpr k6
            have c38b1 : (((rd_T51 l0_2 a0).f0) != a1) = false := bne_eq_false_iff_eq.mpr k6
            clear k6
            by_cases q4 : d1.length < 5864062014805
            ·rw [if_pos q4] at H
             have o8 := Aside0.mk q4
             clear q4
             obtain ⟨h0, j8⟩ : ∃ y_ : List (S51), y_ = (d1 ++ [(⟨((rd_T51 l0_2 a0).f0), ((rd_T51 l0_2 a0).f1), ((rd_T51 l0_2 a0).f2)⟩ : S51)]) := ⟨_, rfl⟩
             replace H : (if d6 = true then ((Pr26b.f kj25 a0_0 l0_1 l0_2 ((rd_T51 l0_2 a0).f0) ((rd_T51 l0_2 a0).f1)).bind fun h3 => (Pl26a.l0 kj25 a1 a2 b9 b8 b6 f9 h0 ((h3.length : Int) == 1) (wrap64 (a0 + 1)) a0_0 l0_1 l0_2)) else (Pl26a.l0 kj25 a1 a2 b9 b8 b6 f9 h0 false (wrap64 (a0 + 1)) a0_0 l0_1 l0_2)) = some r := by first | (rw [j8]; with_reducible exact H) | (have g7 := (Option.bind_some _ _).symm.trans H; rw [j8]; with_reducible exact g7) | (have g7 := (Option.bind_some _ _).symm.trans H; with_reducible exact g7) | with_reducible exact H | (rw [j8]; exact H) | exact H
             have p3 := Aside0.mk j8
             clear j8
             by_cases p8 : d6 = true
             ·subst p8
              have H1 : ((Pr26b.f kj25 a0_0 l0_1 l0_2 ((rd_T51 l0_2 a0).f0) ((rd_T51 l0_2 a0).f1)).bind fun h3 => (Pl26a.l0 kj25 a1 a2 b9 b8 b6 f9 h0 ((h3.length : Int) == 1) (wrap64 (a0 + 1)) a0_0 l0_1 l0_2)) = some r := by rw [if_pos rfl] at H; exact H
              clear H
              have H := H1
              clear H1
              replace H := Option.bind_eq_some_iff.mp H
              obtain ⟨h3, u0, H⟩ := H
              replace H : (Pl26a.l0 kj25 a1 a2 b9 b8 b6 f9 h0 ((h3.length : Int) == 1) (wrap64 (a0 + 1)) a0_0 l0_1 l0_2) = some r := H
              have O4 := Aside0.mk u0
              clear u0
              have H' := Aside0.mk H
              clear H
              have R6 := e4.out
              have S6 := d7.out
              have F8 : wc.cell? ⟨a5, 0, none⟩ = some (.int .i64 ((rd_T51 l0_2 a0).f0)) := (blk_cell a4.out 0).trans rfl
              have K1 : wc.cell? ⟨a5, 1, none⟩ = some (.int .i64 ((rd_T51 l0_2 a0).f1)) := (blk_cell a4.out 1).trans rfl
              have N9 : wc.cell? ⟨a5, 2, none⟩ = some (.int .i64 ((rd_T51 l0_2 a0).f2)) := (blk_cell a4.out 2).trans rfl
              have N7 := blk_frozen a4.out 0
              have N6 := blk_frozen a4.out 1
              have L1 := blk_frozen a4.out 2
              go_wp2_with (first | ((with_reducible refine gate_builtin (b := .append) (xs := #[.tmp 78, .tmp 81]) rfl ?_); (try (refine gate_guard (by rfl) ?_; dsimp only)); at_builtin; refine Kd.R_append (Kd.int .i64) (w0 := w) w.heap.size rfl (.tmp 78) (.tmp 81) 47 3 (.int .i64 0) 8 rfl Try.underlying47 info3 rfl (by decide) (by omega) u10 d5 ((rd_T51 l0_2 a0).f0) [.int .i64 ((rd_T51 l0_2 a0).f0)] (fun k_ => some k_ ≠ (g6 : Value).ownBlock ∧ some k_ ≠ (g5 : Value).ownBlock) (fun _ => False) rfl rfl ?aP (fun _ hk => hk.elim) ?aF ?aO ?aB ?aS ?aL ?_; (case aP => exact rfl); (case aB => exact (by repeat (first | (with_reducible first | exact HB.out | apply below_alloc | apply pw_below_drewN | apply below_drew1 | refine below_set ?_ a7.out | refine below_set ?_ d3.out) | exact HB.out))); (case aF => exact (fun k_ hk => ⟨Kd.fresh' (Kd.R_lt (by (with_reducible repeat (first | apply Kd.R_alloc | apply Kd.R_drewN | apply Kd.R_drew)); exact b3.out)) k_ hk, Kd.fresh' (Kd.R_lt (by (with_reducible repeat (first | apply Kd.R_alloc | apply Kd.R_drewN | apply Kd.R_drew)); exact b2.out)) k_ hk⟩)); (case aO => exact (by (with_reducible repeat (first | apply Kd.R_alloc | apply Kd.R_drewN | apply Kd.R_drew)); exact b1.out)); (case aS => exact (below_size (by repeat (first | (with_reducible first | exact HB.out | apply below_alloc | apply pw_below_drewN | apply below_drew1 | refine below_set ?_ a7.out | refine below_set ?_ d3.out) | exact HB.out)))); (case aL => have := k5.out; omega); intro n9 t7 ho hb hg hat; rw [← k3.out] at ho; have a9 := Aside0.mk (Kd.R_after (ok := (fun k_ => some k_ ≠ (g5 : Value).ownBlock)) (by (with_reducible repeat (first | apply Kd.R_alloc | apply Kd.R_drewN | apply Kd.R_drew)); exact b3.out) hg hat); have b0 := Aside0.mk (Kd.R_after (ok := (fun k_ => some k_ ≠ (g6 : Value).ownBlock)) (by (with_reducible repeat (first | apply Kd.R_alloc | apply Kd.R_drewN | apply Kd.R_drew)); exact b2.out) hg hat); have b4 := Aside0.mk (Kd.R_over' (by (with_reducible repeat (first | apply Kd.R_alloc | apply Kd.R_drewN | apply Kd.R_drew)); exact b5.out) (Kd.R_typed (by (with_reducible repeat (first | apply Kd.R_alloc | apply Kd.R_drewN | apply Kd.R_drew)); exact b1.out)) (by decide) hg); have b7 := Aside0.mk (Kd.R_over' (by (with_reducible repeat (first | apply Kd.R_alloc | apply Kd.R_drewN | apply Kd.R_drew)); exact a8.out) (Kd.R_typed (by (with_reducible repeat (first | apply Kd.R_alloc | apply Kd.R_drewN | apply Kd.R_drew)); exact b1.out)) (by decide) hg); have d0 := Aside0.mk (blk_grown (g := a6) (o := .cells #[.int .i64 a0_0, .slice A0_1 l0_1.length c0_1, .slice (some e5) l0_2.length c0_2] 25 (0, 0)) (by (with_reducible repeat (first | refine blk_drewN ?_ _ | refine blk_drew ?_ | refine blk_alloc ?_ _)); exact a3.out) hg (Kd.R_ne b1.out a3.out (by decide))); have d4 := Aside0.mk (blk_grown (g := a5) (o := .cells #[.int .i64 ((rd_T51 l0_2 a0).f0), .int .i64 ((rd_T51 l0_2 a0).f1), .int .i64 ((rd_T51 l0_2 a0).f2)] 51 (0, 0)) (by (with_reducible repeat (first | refine blk_drewN ?_ _ | refine blk_drew ?_ | refine blk_alloc ?_ _)); exact a4.out) hg (Kd.R_ne b1.out a4.out (by decide))); have d8 := Aside0.mk (hb); have d9 := Aside0.mk (ho); clear b3; clear b2; clear b5; clear a8; clear a3; clear a4; clear HB; clear b1; have b3 := a9; have b2 := b0; have b5 := b4; have a8 := b7; have a3 := d0; have a4 := d4; have HB := d8; have e3 := d9; clear a9 b0 b4 b7 d0 d4 d8 d9; clear ho hb hg hat; have H3 : t7.cell? ⟨a5, 0, none⟩ = some (.int .i64 ((rd_T51 l0_2 a0).f0)) := (blk_cell a4.out 0).trans rfl; have J4 : t7.cell? ⟨a5, 1, none⟩ = some (.int .i64 ((rd_T51 l0_2 a0).f1)) := (blk_cell a4.out 1).trans rfl; have D2 : t7.cell? ⟨a5, 2, none⟩ = some (.int .i64 ((rd_T51 l0_2 a0).f2)) := (blk_cell a4.out 2).trans rfl; have H4 := blk_frozen a4.out 0; have F1 := blk_frozen a4.out 1; have N8 := blk_frozen a4.out 2) | ((with_reducible refine gate_builtin (b := .append) (xs := #[.tmp 87, .tmp 89]) rfl ?_); (try (refine gate_guard (by rfl) ?_; dsimp only)); at_builtin; refine Kd.R_append k51 (w0 := w) w.heap.size rfl (.tmp 87) (.tmp 89) 23 51 (.agg #[(.int .i64 0), (.int .i64 0), (.int .i64 0)]) 24 rfl Try.underlying23 info51 rfl (by decide) (by omega) u11 d1 (⟨((rd_T51 l0_2 a0).f0), ((rd_T51 l0_2 a0).f1), ((rd_T51 l0_2 a0).f2)⟩ : S51) [.int .i64 ((rd_T51 l0_2 a0).f0), .int .i64 ((rd_T51 l0_2 a0).f1), .int .i64 ((rd_T51 l0_2 a0).f2)] (fun k_ => some k_ ≠ (h6 : Value).ownBlock ∧ k_ ≠ a5) (fun _ => False) rfl rfl ?aP (fun _ hk => hk.elim) ?aF ?aO ?aB ?aS ?aL ?_; (case aP => exact k51_mkM _ _ _ (⟨((rd_T51 l0_2 a0).f0), ((rd_T51 l0_2 a0).f1), ((rd_T51 l0_2 a0).f2)⟩ : S51)); (case aB => exact (by repeat (first | (with_reducible first | exact HB.out | apply below_alloc | apply pw_below_drewN | apply below_drew1 | refine below_set ?_ a7.out | refine below_set ?_ d3.out) | exact HB.out))); (case aF => exact (fun k_ hk => ⟨Kd.fresh' (Kd.R_lt (by (with_reducible repeat (first | apply Kd.R_alloc | apply Kd.R_drewN | apply Kd.R_drew)); exact b5.out)) k_ hk, Kd.freshB (g := a5) (o := .cells #[.int .i64 ((rd_T51 l0_2 a0).f0), .int .i64 ((rd_T51 l0_2 a0).f1), .int .i64 ((rd_T51 l0_2 a0).f2)] 51 (0, 0)) (by (with_reducible repeat (first | refine blk_drewN ?_ _ | refine blk_drew ?_ | refine blk_alloc ?_ _)); exact a4.out) k_ hk⟩)); (case aO => exact (by (with_reducible repeat (first | apply Kd.R_alloc | apply Kd.R_drewN | apply Kd.R_drew)); exact a8.out)); (case aS => exact (below_size (by repeat (first | (with_reducible first | exact HB.out | apply below_alloc | apply pw_below_drewN | apply below_drew1 | refine below_set ?_ a7.out | refine below_set ?_ d3.out) | exact HB.out)))); (case aL => have := o8.out; omega); intro C9 m3 ho hb hg hat; rw [← p3.out] at ho; have a9 := Aside0.mk (Kd.R_over' (by (with_reducible repeat (first | apply Kd.R_alloc | apply Kd.R_drewN | apply Kd.R_drew)); exact b3.out) (Kd.R_typed (by (with_reducible repeat (first | apply Kd.R_alloc | apply Kd.R_drewN | apply Kd.R_drew)); exact a8.out)) (by decide) hg); have b0 := Aside0.mk (Kd.R_over' (by (with_reducible repeat (first | apply Kd.R_alloc | apply Kd.R_drewN | apply Kd.R_drew)); exact b2.out) (Kd.R_typed (by (with_reducible repeat (first | apply Kd.R_alloc | apply Kd.R_drewN | apply Kd.R_drew)); exact a8.out)) (by decide) hg); have b4 := Aside0.mk (Kd.R_after (ok := (fun k_ => k_ ≠ a5)) (by (with_reducible repeat (first | apply Kd.R_alloc | apply Kd.R_drewN | apply Kd.R_drew)); exact Kd.R_mono b5.out (fun _ hk => ⟨hk.2, hk.1⟩)) hg hat); have b7 := Aside0.mk (blk_grown (g := a6) (o := .cells #[.int .i64 a0_0, .slice A0_1 l0_1.length c0_1, .slice (some e5) l0_2.length c0_2] 25 (0, 0)) (by (with_reducible repeat (first | refine blk_drewN ?_ _ | refine blk_drew ?_ | refine blk_alloc ?_ _)); exact a3.out) hg (Kd.R_ne a8.out a3.out (by decide))); have d0 := Aside0.mk (blk_grown (g := a5) (o := .cells #[.int .i64 ((rd_T51 l0_2 a0).f0), .int .i64 ((rd_T51 l0_2 a0).f1), .int .i64 ((rd_T51 l0_2 a0).f2)] 51 (0, 0)) (by (with_reducible repeat (first | refine blk_drewN ?_ _ | refine blk_drew ?_ | refine blk_alloc ?_ _)); exact a4.out) hg (Kd.R_away a8.out (fun _ hk => hk.2))); have d4 := Aside0.mk (Kd.R_over' (by (with_reducible repeat (first | apply Kd.R_alloc | apply Kd.R_drewN | apply Kd.R_drew)); exact e3.out) (Kd.R_typed (by (with_reducible repeat (first | apply Kd.R_alloc | apply Kd.R_drewN | apply Kd.R_drew)); exact a8.out)) (by decide) hg); have d8 := Aside0.mk (hb); have d9 := Aside0.mk (ho); clear b3; clear b2; clear b5; clear a3; clear a4; clear e3; clear HB; clear a8; have b3 := a9; have b2 := b0; have b5 := b4; have a3 := b7; have a4 := d0; have e3 := d4; have HB := d8; have i8 := d9; clear a9 b0 b4 b7 d0 d4 d8 d9; clear ho hb hg hat; have N3 : m3.cell? ⟨a6, 0, none⟩ = some (.int .i64 a0_0) := (blk_cell a3.out 0).trans rfl; have J6 : m3.cell? ⟨a6, 1, none⟩ = some (.slice A0_1 l0_1.length c0_1) := (blk_cell a3.out 1).trans rfl; have L2 : m3.cell? ⟨a6, 2, none⟩ = some (.slice (some e5) l0_2.length c0_2) := (blk_cell a3.out 2).trans rfl; have J5 := blk_frozen a3.out 0; have M2 := blk_frozen a3.out 1; have E2 := blk_frozen a3.out 2; have N2 : m3.cell? ⟨a5, 0, none⟩ = some (.int .i64 ((rd_T51 l0_2 a0).f0)) := (blk_cell a4.out 0).trans rfl; have G8 : m3.cell? ⟨a5, 1, none⟩ = some (.int .i64 ((rd_T51 l0_2 a0).f1)) := (blk_cell a4.out 1).trans rfl; have K6 : m3.cell? ⟨a5, 2, none⟩ = some (.int .i64 ((rd_T51 l0_2 a0).f2)) := (blk_cell a4.out 2).trans rfl; have I5 := blk_frozen a4.out 0; have F5 := blk_frozen a4.out 1; have I3 := blk_frozen a4.out 2) | (go_at_call 32; (with_reducible refine (Pr26b.calls kj25 a0_0 _ _ l0_1 _ _ l0_2 ((rd_T51 l0_2 a0).f0) ((rd_T51 l0_2 a0).f1) h3 _ ?e8 ?e7 ?e6 ?e9 O4.out).mono ?_); (case e8 => repeat (first | exact (Kd.C_below f5.out HB.out) | (with_reducible refine Kd.C_alloc ?_ _) | (with_reducible refine Kd.C_drewN ?_ _) | (with_reducible refine Kd.C_drew ?_))); (case e7 => exact f7.out); (case e6 => repeat (first | exact (Kd.C_below f3.out HB.out) | (with_reducible refine Kd.C_alloc ?_ _) | (with_reducible refine Kd.C_drewN ?_ _) | (with_reducible refine Kd.C_drew ?_))); (case e9 => exact f6.out); rintro e W5 ⟨W3, rfl, e0, hb⟩; have a9 := Aside0.mk (Kd.R_elder' (by (with_reducible repeat (first | apply Kd.R_alloc | apply Kd.R_drewN | apply Kd.R_drew)); exact b3.out) (Kd.R_base e0) hb); have b0 := Aside0.mk (Kd.R_elder' (by (with_reducible repeat (first | apply Kd.R_alloc | apply Kd.R_drewN | apply Kd.R_drew)); exact b2.out) (Kd.R_base e0) hb); have b4 := Aside0.mk (Kd.R_below (by (with_reducible repeat (first | apply Kd.R_alloc | apply Kd.R_drewN | apply Kd.R_drew)); exact b5.out) hb); have b7 := Aside0.mk (Kd.R_elder' (by (with_reducible repeat (first | apply Kd.R_alloc | apply Kd.R_drewN | apply Kd.R_drew)); exact e3.out) (Kd.R_base e0) hb); have d0 := Aside0.mk (Kd.R_below (by (with_reducible repeat (first | apply Kd.R_alloc | apply Kd.R_drewN | apply Kd.R_drew)); exact i8.out) hb); have d4 := Aside0.mk (Kd.R_lower (Kd.R_new' (Kd.R_new' (Kd.R_new' e0 (Kd.R_lt (by (with_reducible repeat (first | apply Kd.R_alloc | apply Kd.R_drewN | apply Kd.R_drew)); exact b3.out))) (Kd.R_lt (by (with_reducible repeat (first | apply Kd.R_alloc | apply Kd.R_drewN | apply Kd.R_drew)); exact b2.out))) (Kd.R_lt (by (with_reducible repeat (first | apply Kd.R_alloc | apply Kd.R_drewN | apply Kd.R_drew)); exact e3.out))) (below_size (by repeat (first | (with_reducible first | exact HB.out | apply below_alloc | apply pw_below_drewN | apply below_drew1 | refine below_set ?_ a7.out | refine below_set ?_ d3.out) | exact HB.out)))); have d8 := Aside0.mk (blk_below (g := a6) (o := .cells #[.int .i64 a0_0, .slice A0_1 l0_1.length c0_1, .slice (some e5) l0_2.length c0_2] 25 (0, 0)) (by (with_reducible repeat (first | refine blk_drewN ?_ _ | refine blk_drew ?_ | refine blk_alloc ?_ _)); exact a3.out) hb); have d9 := Aside0.mk (blk_below (g := a5) (o := .cells #[.int .i64 ((rd_T51 l0_2 a0).f0), .int .i64 ((rd_T51 l0_2 a0).f1), .int .i64 ((rd_T51 l0_2 a0).f2)] 51 (0, 0)) (by (with_reducible repeat (first | refine blk_drewN ?_ _ | refine blk_drew ?_ | refine blk_alloc ?_ _)); exact a4.out) hb); have h4 := Aside0.mk (below_step (by repeat (first | (with_reducible first | exact HB.out | apply below_alloc | apply pw_below_drewN | apply below_drew1 | refine below_set ?_ a7.out | refine below_set ?_ d3.out) | exact HB.out)) hb); clear b3; clear b2; clear b5; clear e3; clear i8; clear a3; clear a4; clear HB; have b3 := a9; have b2 := b0; have b5 := b4; have e3 := b7; have i8 := d0; have v5 := d4; have a3 := d8; have a4 := d9; have HB := h4; clear a9 b0 b4 b7 d0 d4 d8 d9 h4; (try clear hb); (try clear g3); (try clear hk); (try clear hi); (try clear e0); obtain ⟨U6, V9, C6⟩ := Kd.R_slice v5.out; subst C6))
              go_roundg kj25
              case measure => have := g9.out; have := g2.out; omega
              case rel => exact ⟨(f9), (h0), (((h3.length : Int) == 1)), (wrap64 (a0 + 1)), (by first | rfl | (simp; done) | (simp [*]; done)), (by first | rfl | (simp; done) | (simp [*]; done)), H', ⟨by have := g9.out; have := g2.out; omega⟩, ⟨by (with_reducible repeat (first | apply Kd.R_alloc | apply Kd.R_drewN | apply Kd.R_drew)); exact Kd.R_mono b3.out (fun _ hk => ⟨hk.1.1, hk.1.2⟩)⟩, ⟨by (with_reducible repeat (first | apply Kd.R_alloc | apply Kd.R_drewN | apply Kd.R_drew)); exact Kd.R_mono b2.out (fun _ hk => ⟨hk.1.1, hk.1.2⟩)⟩, ⟨by (with_reducible repeat (first | apply Kd.R_alloc | apply Kd.R_drewN | apply Kd.R_drew)); exact Kd.R_mono b5.out (fun _ hk => hk.2)⟩, ⟨by (with_reducible repeat (first | apply Kd.R_alloc | apply Kd.R_drewN | apply Kd.R_drew)); exact Kd.R_mono e3.out (fun _ hk => ⟨hk.1.1, hk.1.2⟩)⟩, ⟨by (with_reducible repeat (first | apply Kd.R_alloc | apply Kd.R_drewN | apply Kd.R_drew)); exact Kd.R_mono i8.out (fun _ hk => hk.1)⟩, ⟨by (with_reducible repeat (first | refine blk_drewN ?_ _ | refine blk_drew ?_ | refine blk_alloc ?_ _)); exact a3.out⟩, ⟨by repeat (first | (with_reducible first | exact HB.out | apply below_alloc | apply pw_below_drewN | apply below_drew1 | refine below_set ?_ a7.out | refine below_set ?_ d3.out) | exact HB.out)⟩⟩
             ·replace p8 := Bool.eq_false_iff.mpr p8
              subst p8
              have H1 : (Pl26a.l0 kj25 a1 a2 b9 b8 b6 f9 h0 false (wrap64 (a0 + 1)) a0_0 l0_1 l0_2) = some r := by rw [if_neg (show ¬ (false = true) by decide)] at H; exact H
              clear H
              have H := H1
              clear H1
              have H' := Aside0.mk H
              clear H
              have P9 := e4.out
              have T2 := d7.out
              have G6 : wc.cell? ⟨a5, 0, none⟩ = some (.int .i64 ((rd_T51 l0_2 a0).f0)) := (blk_cell a4.out 0).trans rfl
              have E0 : wc.cell? ⟨a5, 1, none⟩ = some (.int .i64 ((rd_T51 l0_2 a0).f1)) := (blk_cell a4.out 1).trans rfl
              have G7 : wc.cell? ⟨a5, 2, none⟩ = some (.int .i64 ((rd_T51 l0_2 a0).f2)) := (blk_cell a4.out 2).trans rfl
              have E1 := blk_frozen a4.out 0
              have J2 := blk_frozen a4.out 1
              have M0 := blk_frozen a4.out 2
              go_wp2_with (first | ((with_reducible refine gate_builtin (b := .append) (xs := #[.tmp 78, .tmp 81]) rfl ?_); (try (refine gate_guard (by rfl) ?_; dsimp only)); at_builtin; refine Kd.R_append (Kd.int .i64) (w0 := w) w.heap.size rfl (.tmp 78) (.tmp 81) 47 3 (.int .i64 0) 8 rfl Try.underlying47 info3 rfl (by decide) (by omega) u10 d5 ((rd_T51 l0_2 a0).f0) [.int .i64 ((rd_T51 l0_2 a0).f0)] (fun k_ => some k_ ≠ (g6 : Value).ownBlock ∧ some k_ ≠ (g5 : Value).ownBlock) (fun _ => False) rfl rfl ?aP (fun _ hk => hk.elim) ?aF ?aO ?aB ?aS ?aL ?_; (case aP => exact rfl); (case aB => exact (by repeat (first | (with_reducible first | exact HB.out | apply below_alloc | apply pw_below_drewN | apply below_drew1 | refine below_set ?_ a7.out | refine below_set ?_ d3.out) | exact HB.out))); (case aF => exact (fun k_ hk => ⟨Kd.fresh' (Kd.R_lt (by (with_reducible repeat (first | apply Kd.R_alloc | apply Kd.R_drewN | apply Kd.R_drew)); exact b3.out)) k_ hk, Kd.fresh' (Kd.R_lt (by (with_reducible repeat (first | apply Kd.R_alloc | apply Kd.R_drewN | apply Kd.R_drew)); exact b2.out)) k_ hk⟩)); (case aO => exact (by (with_reducible repeat (first | apply Kd.R_alloc | apply Kd.R_drewN | apply Kd.R_drew)); exact b1.out)); (case aS => exact (below_size (by repeat (first | (with_reducible first | exact HB.out | apply below_alloc | apply pw_below_drewN | apply below_drew1 | refine below_set ?_ a7.out | refine below_set ?_ d3.out) | exact HB.out)))); (case aL => have := k5.out; omega); intro n9 u7 ho hb hg hat; rw [← k3.out] at ho; have a9 := Aside0.mk (Kd.R_after (ok := (fun k_ => some k_ ≠ (g5 : Value).ownBlock)) (by (with_reducible repeat (first | apply Kd.R_alloc | apply Kd.R_drewN | apply Kd.R_drew)); exact b3.out) hg hat); have b0 := Aside0.mk (Kd.R_after (ok := (fun k_ => some k_ ≠ (g6 : Value).ownBlock)) (by (with_reducible repeat (first | apply Kd.R_alloc | apply Kd.R_drewN | apply Kd.R_drew)); exact b2.out) hg hat); have b4 := Aside0.mk (Kd.R_over' (by (with_reducible repeat (first | apply Kd.R_alloc | apply Kd.R_drewN | apply Kd.R_drew)); exact b5.out) (Kd.R_typed (by (with_reducible repeat (first | apply Kd.R_alloc | apply Kd.R_drewN | apply Kd.R_drew)); exact b1.out)) (by decide) hg); have b7 := Aside0.mk (Kd.R_over' (by (with_reducible repeat (first | apply Kd.R_alloc | apply Kd.R_drewN | apply Kd.R_drew)); exact a8.out) (Kd.R_typed (by (with_reducible repeat (first | apply Kd.R_alloc | apply Kd.R_drewN | apply Kd.R_drew)); exact b1.out)) (by decide) hg); have d0 := Aside0.mk (blk_grown (g := a6) (o := .cells #[.int .i64 a0_0, .slice A0_1 l0_1.length c0_1, .slice (some e5) l0_2.length c0_2] 25 (0, 0)) (by (with_reducible repeat (first | refine blk_drewN ?_ _ | refine blk_drew ?_ | refine blk_alloc ?_ _)); exact a3.out) hg (Kd.R_ne b1.out a3.out (by decide))); have d4 := Aside0.mk (blk_grown (g := a5) (o := .cells #[.int .i64 ((rd_T51 l0_2 a0).f0), .int .i64 ((rd_T51 l0_2 a0).f1), .int .i64 ((rd_T51 l0_2 a0).f2)] 51 (0, 0)) (by (with_reducible repeat (first | refine blk_drewN ?_ _ | refine blk_drew ?_ | refine blk_alloc ?_ _)); exact a4.out) hg (Kd.R_ne b1.out a4.out (by decide))); have d8 := Aside0.mk (hb); have d9 := Aside0.mk (ho); clear b3; clear b2; clear b5; clear a8; clear a3; clear a4; clear HB; clear b1; have b3 := a9; have b2 := b0; have b5 := b4; have a8 := b7; have a3 := d0; have a4 := d4; have HB := d8; have e3 := d9; clear a9 b0 b4 b7 d0 d4 d8 d9; clear ho hb hg hat; have G1 : u7.cell? ⟨a5, 0, none⟩ = some (.int .i64 ((rd_T51 l0_2 a0).f0)) := (blk_cell a4.out 0).trans rfl; have D1 : u7.cell? ⟨a5, 1, none⟩ = some (.int .i64 ((rd_T51 l0_2 a0).f1)) := (blk_cell a4.out 1).trans rfl; have H8 : u7.cell? ⟨a5, 2, none⟩ = some (.int .i64 ((rd_T51 l0_2 a0).f2)) := (blk_cell a4.out 2).trans rfl; have M4 := blk_frozen a4.out 0; have M9 := blk_frozen a4.out 1; have F0 := blk_frozen a4.out 2) | ((with_reducible refine gate_builtin (b := .append) (xs := #[.tmp 87, .tmp 89]) rfl ?_); (try (refine gate_guard (by rfl) ?_; dsimp only)); at_builtin; refine Kd.R_append k51 (w0 := w) w.heap.size rfl (.tmp 87) (.tmp 89) 23 51 (.agg #[(.int .i64 0), (.int .i64 0), (.int .i64 0)]) 24 rfl Try.underlying23 info51 rfl (by decide) (by omega) u11 d1 (⟨((rd_T51 l0_2 a0).f0), ((rd_T51 l0_2 a0).f1), ((rd_T51 l0_2 a0).f2)⟩ : S51) [.int .i64 ((rd_T51 l0_2 a0).f0), .int .i64 ((rd_T51 l0_2 a0).f1), .int .i64 ((rd_T51 l0_2 a0).f2)] (fun k_ => some k_ ≠ (h6 : Value).ownBlock ∧ k_ ≠ a5) (fun _ => False) rfl rfl ?aP (fun _ hk => hk.elim) ?aF ?aO ?aB ?aS ?aL ?_; (case aP => exact k51_mkM _ _ _ (⟨((rd_T51 l0_2 a0).f0), ((rd_T51 l0_2 a0).f1), ((rd_T51 l0_2 a0).f2)⟩ : S51)); (case aB => exact (by repeat (first | (with_reducible first | exact HB.out | apply below_alloc | apply pw_below_drewN | apply below_drew1 | refine below_set ?_ a7.out | refine below_set ?_ d3.out) | exact HB.out))); (case aF => exact (fun k_ hk => ⟨Kd.fresh' (Kd.R_lt (by (with_reducible repeat (first | apply Kd.R_alloc | apply Kd.R_drewN | apply Kd.R_drew)); exact b5.out)) k_ hk, Kd.freshB (g := a5) (o := .cells #[.int .i64 ((rd_T51 l0_2 a0).f0), .int .i64 ((rd_T51 l0_2 a0).f1), .int .i64 ((rd_T51 l0_2 a0).f2)] 51 (0, 0)) (by (with_reducible repeat (first | refine blk_drewN ?_ _ | refine blk_drew ?_ | refine blk_alloc ?_ _)); exact a4.out) k_ hk⟩)); (case aO => exact (by (with_reducible repeat (first | apply Kd.R_alloc | apply Kd.R_drewN | apply Kd.R_drew)); exact a8.out)); (case aS => exact (below_size (by repeat (first | (with_reducible first | exact HB.out | apply below_alloc | apply pw_below_drewN | apply below_drew1 | refine below_set ?_ a7.out | refine below_set ?_ d3.out) | exact HB.out)))); (case aL => have := o8.out; omega); intro C9 X8 ho hb hg hat; rw [← p3.out] at ho; have a9 := Aside0.mk (Kd.R_over' (by (with_reducible repeat (first | apply Kd.R_alloc | apply Kd.R_drewN | apply Kd.R_drew)); exact b3.out) (Kd.R_typed (by (with_reducible repeat (first | apply Kd.R_alloc | apply Kd.R_drewN | apply Kd.R_drew)); exact a8.out)) (by decide) hg); have b0 := Aside0.mk (Kd.R_over' (by (with_reducible repeat (first | apply Kd.R_alloc | apply Kd.R_drewN | apply Kd.R_drew)); exact b2.out) (Kd.R_typed (by (with_reducible repeat (first | apply Kd.R_alloc | apply Kd.R_drewN | apply Kd.R_drew)); exact a8.out)) (by decide) hg); have b4 := Aside0.mk (Kd.R_after (ok := (fun k_ => k_ ≠ a5)) (by (with_reducible repeat (first | apply Kd.R_alloc | apply Kd.R_drewN | apply Kd.R_drew)); exact Kd.R_mono b5.out (fun _ hk => ⟨hk.2, hk.1⟩)) hg hat); have b7 := Aside0.mk (blk_grown (g := a6) (o := .cells #[.int .i64 a0_0, .slice A0_1 l0_1.length c0_1, .slice (some e5) l0_2.length c0_2] 25 (0, 0)) (by (with_reducible repeat (first | refine blk_drewN ?_ _ | refine blk_drew ?_ | refine blk_alloc ?_ _)); exact a3.out) hg (Kd.R_ne a8.out a3.out (by decide))); have d0 := Aside0.mk (blk_grown (g := a5) (o := .cells #[.int .i64 ((rd_T51 l0_2 a0).f0), .int .i64 ((rd_T51 l0_2 a0).f1), .int .i64 ((rd_T51 l0_2 a0).f2)] 51 (0, 0)) (by (with_reducible repeat (first | refine blk_drewN ?_ _ | refine blk_drew ?_ | refine blk_alloc ?_ _)); exact a4.out) hg (Kd.R_away a8.out (fun _ hk => hk.2))); have d4 := Aside0.mk (Kd.R_over' (by (with_reducible repeat (first | apply Kd.R_alloc | apply Kd.R_drewN | apply Kd.R_drew)); exact e3.out) (Kd.R_typed (by (with_reducible repeat (first | apply Kd.R_alloc | apply Kd.R_drewN | apply Kd.R_drew)); exact a8.out)) (by decide) hg); have d8 := Aside0.mk (hb); have d9 := Aside0.mk (ho); clear b3; clear b2; clear b5; clear a3; clear a4; clear e3; clear HB; clear a8; have b3 := a9; have b2 := b0; have b5 := b4; have a3 := b7; have a4 := d0; have e3 := d4; have HB := d8; have i8 := d9; clear a9 b0 b4 b7 d0 d4 d8 d9; clear ho hb hg hat))
              go_roundg kj25
              case measure => have := g9.out; have := g2.out; omega
              case rel => exact ⟨(f9), (h0), (false), (wrap64 (a0 + 1)), (by first | rfl | (simp; done) | (simp [*]; done)), (by first | rfl | (simp; done) | (simp [*]; done)), H', ⟨by have := g9.out; have := g2.out; omega⟩, ⟨by (with_reducible repeat (first | apply Kd.R_alloc | apply Kd.R_drewN | apply Kd.R_drew)); exact b3.out⟩, ⟨by (with_reducible repeat (first | apply Kd.R_alloc | apply Kd.R_drewN | apply Kd.R_drew)); exact b2.out⟩, ⟨by (with_reducible repeat (first | apply Kd.R_alloc | apply Kd.R_drewN | apply Kd.R_drew)); exact Kd.R_mono b5.out (fun _ hk => hk.2)⟩, ⟨by (with_reducible repeat (first | apply Kd.R_alloc | apply Kd.R_drewN | apply Kd.R_drew)); exact e3.out⟩, ⟨by (with_reducible repeat (first | apply Kd.R_alloc | apply Kd.R_drewN | apply Kd.R_drew)); exact Kd.R_mono i8.out (fun _ hk => hk.1)⟩, ⟨by (with_reducible repeat (first | refine blk_drewN ?_ _ | refine blk_drew ?_ | refine blk_alloc ?_ _)); exact a3.out⟩, ⟨by repeat (first | (with_reducible first | exact HB.out | apply below_alloc | apply pw_below_drewN | apply below_drew1 | refine below_set ?_ a7.out | refine below_set ?_ d3.out) | exact HB.out)⟩⟩
            ·rw [if_neg q4] at H
             exact absurd H (by simp)
           ·rw [if_neg k6] at H
            have c38b0 : (((rd_T51 l0_2 a0).f0) == a1) = false := beq_eq_false_iff_ne.mpr k6
            have c38b1 : (((rd_T51 l0_2 a0).f0) != a1) = true := bne_iff_ne.mpr k6
            by_cases p1 : d6 = true
            ·subst p1
             have H1 : ((Pr26b.f kj25 a0_0 l0_1 l0_2 ((rd_T51 l0_2 a0).f0) ((rd_T51 l0_2 a0).f1)).bind fun h7 => (Pl26a.l0 kj25 a1 a2 b9 b8 b6 f9 d1 ((h7.length : Int) == 1) (wrap64 (a0 + 1)) a0_0 l0_1 l0_2)) = some r := by rw [if_pos rfl] at H; exact H
             clear H
             have H := H1
             clear H1
             replace H := Option.bind_eq_some_iff.mp H
             obtain ⟨h7, u9, H⟩ := H
             replace H : (Pl26a.l0 kj25 a1 a2 b9 b8 b6 f9 d1 ((h7.length : Int) == 1) (wrap64 (a0 + 1)) a0_0 l0_1 l0_2) = some r := H
             have O5 := Aside0.mk u9
             clear u9
             have H' := Aside0.mk H
             clear H
             have S3 := e4.out
             have R0 := d7.out
             have F9 : wc.cell? ⟨a5, 0, none⟩ = some (.int .i64 ((rd_T51 l0_2 a0).f0)) := (blk_cell a4.out 0).trans rfl
             have E4 : wc.cell? ⟨a5, 1, none⟩ = some (.int .i64 ((rd_T51 l0_2 a0).f1)) := (blk_cell a4.out 1).trans rfl
             have M5 : wc.cell? ⟨a5, 2, none⟩ = some (.int .i64 ((rd_T51 l0_2 a0).f2)) := (blk_cell a4.out 2).trans rfl
             have M3 := blk_frozen a4.out 0
             have D6 := blk_frozen a4.out 1
             have L7 := blk_frozen a4.out 2
             go_wp2_with (first | ((with_reducible refine gate_builtin (b := .append) (xs := #[.tmp 78, .tmp 81]) rfl ?_); (try (refine gate_guard (by rfl) ?_; dsimp only)); at_builtin; refine Kd.R_append (Kd.int .i64) (w0 := w) w.heap.size rfl (.tmp 78) (.tmp 81) 47 3 (.int .i64 0) 8 rfl Try.underlying47 info3 rfl (by decide) (by omega) u10 d5 ((rd_T51 l0_2 a0).f0) [.int .i64 ((rd_T51 l0_2 a0).f0)] (fun k_ => some k_ ≠ (g6 : Value).ownBlock ∧ some k_ ≠ (g5 : Value).ownBlock) (fun _ => False) rfl rfl ?aP (fun _ hk => hk.elim) ?aF ?aO ?aB ?aS ?aL ?_; (case aP => exact rfl); (case aB => exact (by repeat (first | (with_reducible first | exact HB.out | apply below_alloc | apply pw_below_drewN | apply below_drew1 | refine below_set ?_ a7.out | refine below_set ?_ d3.out) | exact HB.out))); (case aF => exact (fun k_ hk => ⟨Kd.fresh' (Kd.R_lt (by (with_reducible repeat (first | apply Kd.R_alloc | apply Kd.R_drewN | apply Kd.R_drew)); exact b3.out)) k_ hk, Kd.fresh' (Kd.R_lt (by (with_reducible repeat (first | apply Kd.R_alloc | apply Kd.R_drewN | apply Kd.R_drew)); exact b2.out)) k_ hk⟩)); (case aO => exact (by (with_reducible repeat (first | apply Kd.R_alloc | apply Kd.R_drewN | apply Kd.R_drew)); exact b1.out)); (case aS => exact (below_size (by repeat (first | (with_reducible first | exact HB.out | apply below_alloc | apply pw_below_drewN | apply below_drew1 | refine below_set ?_ a7.out | refine below_set ?_ d3.out) | exact HB.out)))); (case aL => have := k5.out; omega); intro n9 l5 ho hb hg hat; rw [← k3.out] at ho; have a9 := Aside0.mk (Kd.R_after (ok := (fun k_ => some k_ ≠ (g5 : Value).ownBlock)) (by (with_reducible repeat (first | apply Kd.R_alloc | apply Kd.R_drewN | apply Kd.R_drew)); exact b3.out) hg hat); have b0 := Aside0.mk (Kd.R_after (ok := (fun k_ => some k_ ≠ (g6 : Value).ownBlock)) (by (with_reducible repeat (first | apply Kd.R_alloc | apply Kd.R_drewN | apply Kd.R_drew)); exact b2.out) hg hat); have b4 := Aside0.mk (Kd.R_over' (by (with_reducible repeat (first | apply Kd.R_alloc | apply Kd.R_drewN | apply Kd.R_drew)); exact b5.out) (Kd.R_typed (by (with_reducible repeat (first | apply Kd.R_alloc | apply Kd.R_drewN | apply Kd.R_drew)); exact b1.out)) (by decide) hg); have b7 := Aside0.mk (Kd.R_over' (by (with_reducible repeat (first | apply Kd.R_alloc | apply Kd.R_drewN | apply Kd.R_drew)); exact a8.out) (Kd.R_typed (by (with_reducible repeat (first | apply Kd.R_alloc | apply Kd.R_drewN | apply Kd.R_drew)); exact b1.out)) (by decide) hg); have d0 := Aside0.mk (blk_grown (g := a6) (o := .cells #[.int .i64 a0_0, .slice A0_1 l0_1.length c0_1, .slice (some e5) l0_2.length c0_2] 25 (0, 0)) (by (with_reducible repeat (first | refine blk_drewN ?_ _ | refine blk_drew ?_ | refine blk_alloc ?_ _)); exact a3.out) hg (Kd.R_ne b1.out a3.out (by decide))); have d4 := Aside0.mk (blk_grown (g := a5) (o := .cells #[.int .i64 ((rd_T51 l0_2 a0).f0), .int .i64 ((rd_T51 l0_2 a0).f1), .int .i64 ((rd_T51 l0_2 a0).f2)] 51 (0, 0)) (by (with_reducible repeat (first | refine blk_drewN ?_ _ | refine blk_drew ?_ | refine blk_alloc ?_ _)); exact a4.out) hg (Kd.R_ne b1.out a4.out (by decide))); have d8 := Aside0.mk (hb); have d9 := Aside0.mk (ho); clear b3; clear b2; clear b5; clear a8; clear a3; clear a4; clear HB; clear b1; have b3 := a9; have b2 := b0; have b5 := b4; have a8 := b7; have a3 := d0; have a4 := d4; have HB := d8; have e3 := d9; clear a9 b0 b4 b7 d0 d4 d8 d9; clear ho hb hg hat; have E9 : l5.cell? ⟨a5, 0, none⟩ = some (.int .i64 ((rd_T51 l0_2 a0).f0)) := (blk_cell a4.out 0).trans rfl; have I4 : l5.cell? ⟨a5, 1, none⟩ = some (.int .i64 ((rd_T51 l0_2 a0).f1)) := (blk_cell a4.out 1).trans rfl; have L6 : l5.cell? ⟨a5, 2, none⟩ = some (.int .i64 ((rd_T51 l0_2 a0).f2)) := (blk_cell a4.out 2).trans rfl; have H9 := blk_frozen a4.out 0; have K4 := blk_frozen a4.out 1; have K3 := blk_frozen a4.out 2; have F2 : l5.cell? ⟨a6, 0, none⟩ = some (.int .i64 a0_0) := (blk_cell a3.out 0).trans rfl; have J7 : l5.cell? ⟨a6, 1, none⟩ = some (.slice A0_1 l0_1.length c0_1) := (blk_cell a3.out 1).trans rfl; have F7 : l5.cell? ⟨a6, 2, none⟩ = some (.slice (some e5) l0_2.length c0_2) := (blk_cell a3.out 2).trans rfl; have K5 := blk_frozen a3.out 0; have G2 := blk_frozen a3.out 1; have L9 := blk_frozen a3.out 2) | (go_at_call 32; (with_reducible refine (Pr26b.calls kj25 a0_0 _ _ l0_1 _ _ l0_2 ((rd_T51 l0_2 a0).f0) ((rd_T51 l0_2 a0).f1) h7 _ ?e8 ?e7 ?e6 ?e9 O5.out).mono ?_); (case e8 => repeat (first | exact (Kd.C_below f5.out HB.out) | (with_reducible refine Kd.C_alloc ?_ _) | (with_reducible refine Kd.C_drewN ?_ _) | (with_reducible refine Kd.C_drew ?_))); (case e7 => exact f7.out); (case e6 => repeat (first | exact (Kd.C_below f3.out HB.out) | (with_reducible refine Kd.C_alloc ?_ _) | (with_reducible refine Kd.C_drewN ?_ _) | (with_reducible refine Kd.C_drew ?_))); (case e9 => exact f6.out); rintro e X6 ⟨U8, rfl, e0, hb⟩; have a9 := Aside0.mk (Kd.R_elder' (by (with_reducible repeat (first | apply Kd.R_alloc | apply Kd.R_drewN | apply Kd.R_drew)); exact b3.out) (Kd.R_base e0) hb); have b0 := Aside0.mk (Kd.R_elder' (by (with_reducible repeat (first | apply Kd.R_alloc | apply Kd.R_drewN | apply Kd.R_drew)); exact b2.out) (Kd.R_base e0) hb); have b4 := Aside0.mk (Kd.R_below (by (with_reducible repeat (first | apply Kd.R_alloc | apply Kd.R_drewN | apply Kd.R_drew)); exact b5.out) hb); have b7 := Aside0.mk (Kd.R_below (by (with_reducible repeat (first | apply Kd.R_alloc | apply Kd.R_drewN | apply Kd.R_drew)); exact a8.out) hb); have d0 := Aside0.mk (Kd.R_elder' (by (with_reducible repeat (first | apply Kd.R_alloc | apply Kd.R_drewN | apply Kd.R_drew)); exact e3.out) (Kd.R_base e0) hb); have d4 := Aside0.mk (Kd.R_lower (Kd.R_new' (Kd.R_new' (Kd.R_new' e0 (Kd.R_lt (by (with_reducible repeat (first | apply Kd.R_alloc | apply Kd.R_drewN | apply Kd.R_drew)); exact b3.out))) (Kd.R_lt (by (with_reducible repeat (first | apply Kd.R_alloc | apply Kd.R_drewN | apply Kd.R_drew)); exact b2.out))) (Kd.R_lt (by (with_reducible repeat (first | apply Kd.R_alloc | apply Kd.R_drewN | apply Kd.R_drew)); exact e3.out))) (below_size (by repeat (first | (with_reducible first | exact HB.out | apply below_alloc | apply pw_below_drewN | apply below_drew1 | refine below_set ?_ a7.out | refine below_set ?_ d3.out) | exact HB.out)))); have d8 := Aside0.mk (blk_below (g := a6) (o := .cells #[.int .i64 a0_0, .slice A0_1 l0_1.length c0_1, .slice (some e5) l0_2.length c0_2] 25 (0, 0)) (by (with_reducible repeat (first | refine blk_drewN ?_ _ | refine blk_drew ?_ | refine blk_alloc ?_ _)); exact a3.out) hb); have d9 := Aside0.mk (blk_below (g := a5) (o := .cells #[.int .i64 ((rd_T51 l0_2 a0).f0), .int .i64 ((rd_T51 l0_2 a0).f1), .int .i64 ((rd_T51 l0_2 a0).f2)] 51 (0, 0)) (by (with_reducible repeat (first | refine blk_drewN ?_ _ | refine blk_drew ?_ | refine blk_alloc ?_ _)); exact a4.out) hb); have h4 := Aside0.mk (below_step (by repeat (first | (with_reducible first | exact HB.out | apply below_alloc | apply pw_below_drewN | apply below_drew1 | refine below_set ?_ a7.out | refine below_set ?_ d3.out) | exact HB.out)) hb); clear b3; clear b2; clear b5; clear a8; clear e3; clear a3; clear a4; clear HB; have b3 := a9; have b2 := b0; have b5 := b4; have a8 := b7; have e3 := d0; have v2 := d4; have a3 := d8; have a4 := d9; have HB := h4; clear a9 b0 b4 b7 d0 d4 d8 d9 h4; (try clear hb); (try clear g3); (try clear hk); (try clear hi); (try clear e0); obtain ⟨U1, W2, x9⟩ := Kd.R_slice v2.out; subst x9))
             go_roundg kj25
             case measure => have := g9.out; have := g2.out; omega
             case rel => exact ⟨(f9), (d1), (((h7.length : Int) == 1)), (wrap64 (a0 + 1)), (by first | rfl | (simp; done) | (simp [*]; done)), (by first | rfl | (simp; done) | (simp [*]; done)), H', ⟨by have := g9.out; have := g2.out; omega⟩, ⟨by (with_reducible repeat (first | apply Kd.R_alloc | apply Kd.R_drewN | apply Kd.R_drew)); exact Kd.R_mono b3.out (fun _ hk => ⟨hk.1.1, hk.1.2⟩)⟩, ⟨by (with_reducible repeat (first | apply Kd.R_alloc | apply Kd.R_drewN | apply Kd.R_drew)); exact Kd.R_mono b2.out (fun _ hk => ⟨hk.1.1, hk.1.2⟩)⟩, ⟨by (with_reducible repeat (first | apply Kd.R_alloc | apply Kd.R_drewN | apply Kd.R_drew)); exact Kd.R_mono b5.out (fun _ hk => hk.1)⟩, ⟨by (with_reducible repeat (first | apply Kd.R_alloc | apply Kd.R_drewN | apply Kd.R_drew)); exact Kd.R_mono e3.out (fun _ hk => ⟨hk.1.1, hk.1.2⟩)⟩, ⟨by (with_reducible repeat (first | apply Kd.R_alloc | apply Kd.R_drewN | apply Kd.R_drew)); exact Kd.R_mono a8.out (fun _ hk => hk.1)⟩, ⟨by (with_reducible repeat (first | refine blk_drewN ?_ _ | refine blk_drew ?_ | refine blk_alloc ?_ _)); exact a3.out⟩, ⟨by repeat (first | (with_reducible first | exact HB.out | apply below_alloc | apply pw_below_drewN | apply below_drew1 | refine below_set ?_ a7.out | refine below_set ?_ d3.out) | exact HB.out)⟩⟩
            ·replace p1 := Bool.eq_false_iff.mpr p1
             subst p1
             have H1 : (Pl26a.l0 kj25 a1 a2 b9 b8 b6 f9 d1 false (wrap64 (a0 + 1)) a0_0 l0_1 l0_2) = some r := by rw [if_neg (show ¬ (false = true) by decide)] at H; exact H
             clear H
             have H := H1
             clear H1
             have H' := Aside0.mk H
             clear H
             have Q0 := e4.out
             have S1 := d7.out
             have J3 : wc.cell? ⟨a5, 0, none⟩ = some (.int .i64 ((rd_T51 l0_2 a0).f0)) := (blk_cell a4.out 0).trans rfl
             have G5 : wc.cell? ⟨a5, 1, none⟩ = some (.int .i64 ((rd_T51 l0_2 a0).f1)) := (blk_cell a4.out 1).trans rfl
             have N4 : wc.cell? ⟨a5, 2, none⟩ = some (.int .i64 ((rd_T51 l0_2 a0).f2)) := (blk_cell a4.out 2).trans rfl
             have H0 := blk_frozen a4.out 0
             have L5 := blk_frozen a4.out 1
             have D8 := blk_frozen a4.out 2
             go_wp2_with (first | ((with_reducible refine gate_builtin (b := .append) (xs := #[.tmp 78, .tmp 81]) rfl ?_); (try (refine gate_guard (by rfl) ?_; dsimp only)); at_builtin; refine Kd.R_append (Kd.int .i64) (w0 := w) w.heap.size rfl (.tmp 78) (.tmp 81) 47 3 (.int .i64 0) 8 rfl Try.underlying47 info3 rfl (by decide) (by omega) u10 d5 ((rd_T51 l0_2 a0).f0) [.int .i64 ((rd_T51 l0_2 a0).f0)] (fun k_ => some k_ ≠ (g6 : Value).ownBlock ∧ some k_ ≠ (g5 : Value).ownBlock) (fun _ => False) rfl rfl ?aP (fun _ hk => hk.elim) ?aF ?aO ?aB ?aS ?aL ?_; (case aP => exact rfl); (case aB => exact (by repeat (first | (with_reducible first | exact HB.out | apply below_alloc | apply pw_below_drewN | apply below_drew1 | refine below_set ?_ a7.out | refine below_set ?_ d3.out) | exact HB.out))); (case aF => exact (fun k_ hk => ⟨Kd.fresh' (Kd.R_lt (by (with_reducible repeat (first | apply Kd.R_alloc | apply Kd.R_drewN | apply Kd.R_drew)); exact b3.out)) k_ hk, Kd.fresh' (Kd.R_lt (by (with_reducible repeat (first | apply Kd.R_alloc | apply Kd.R_drewN | apply Kd.R_drew)); exact b2.out)) k_ hk⟩)); (case aO => exact (by (with_reducible repeat (first | apply Kd.R_alloc | apply Kd.R_drewN | apply Kd.R_drew)); exact b1.out)); (case aS => exact (below_size (by repeat (first | (with_reducible first | exact HB.out | apply below_alloc | apply pw_below_drewN | apply below_drew1 | refine below_set ?_ a7.out | refine below_set ?_ d3.out) | exact HB.out)))); (case aL => have := k5.out; omega); intro n9 t9 ho hb hg hat; rw [← k3.out] at ho; have a9 := Aside0.mk (Kd.R_after (ok := (fun k_ => some k_ ≠ (g5 : Value).ownBlock)) (by (with_reducible repeat (first | apply Kd.R_alloc | apply Kd.R_drewN | apply Kd.R_drew)); exact b3.out) hg hat); have b0 := Aside0.mk (Kd.R_after (ok := (fun k_ => some k_ ≠ (g6 : Value).ownBlock)) (by (with_reducible repeat (first | apply Kd.R_alloc | apply Kd.R_drewN | apply Kd.R_drew)); exact b2.out) hg hat); have b4 := Aside0.mk (Kd.R_over' (by (with_reducible repeat (first | apply Kd.R_alloc | apply Kd.R_drewN | apply Kd.R_drew)); exact b5.out) (Kd.R_typed (by (with_reducible repeat (first | apply Kd.R_alloc | apply Kd.R_drewN | apply Kd.R_drew)); exact b1.out)) (by decide) hg); have b7 := Aside0.mk (Kd.R_over' (by (with_reducible repeat (first | apply Kd.R_alloc | apply Kd.R_drewN | apply Kd.R_drew)); exact a8.out) (Kd.R_typed (by (with_reducible repeat (first | apply Kd.R_alloc | apply Kd.R_drewN | apply Kd.R_drew)); exact b1.out)) (by decide) hg); have d0 := Aside0.mk (blk_grown (g := a6) (o := .cells #[.int .i64 a0_0, .slice A0_1 l0_1.length c0_1, .slice (some e5) l0_2.length c0_2] 25 (0, 0)) (by (with_reducible repeat (first | refine blk_drewN ?_ _ | refine blk_drew ?_ | refine blk_alloc ?_ _)); exact a3.out) hg (Kd.R_ne b1.out a3.out (by decide))); have d4 := Aside0.mk (blk_grown (g := a5) (o := .cells #[.int .i64 ((rd_T51 l0_2 a0).f0), .int .i64 ((rd_T51 l0_2 a0).f1), .int .i64 ((rd_T51 l0_2 a0).f2)] 51 (0, 0)) (by (with_reducible repeat (first | refine blk_drewN ?_ _ | refine blk_drew ?_ | refine blk_alloc ?_ _)); exact a4.out) hg (Kd.R_ne b1.out a4.out (by decide))); have d8 := Aside0.mk (hb); have d9 := Aside0.mk (ho); clear b3; clear b2; clear b5; clear a8; clear a3; clear a4; clear HB; clear b1; have b3 := a9; have b2 := b0; have b5 := b4; have a8 := b7; have a3 := d0; have a4 := d4; have HB := d8; have e3 := d9; clear a9 b0 b4 b7 d0 d4 d8 d9; clear ho hb hg hat; have G0 : t9.cell? ⟨a5, 0, none⟩ = some (.int .i64 ((rd_T51 l0_2 a0).f0)) := (blk_cell a4.out 0).trans rfl; have L3 : t9.cell? ⟨a5, 1, none⟩ = some (.int .i64 ((rd_T51 l0_2 a0).f1)) := (blk_cell a4.out 1).trans rfl; have I9 : t9.cell? ⟨a5, 2, none⟩ = some (.int .i64 ((rd_T51 l0_2 a0).f2)) := (blk_cell a4.out 2).trans rfl; have L8 := blk_frozen a4.out 0; have J8 := blk_frozen a4.out 1; have F4 := blk_frozen a4.out 2))
             go_roundg kj25
             case measure => have := g9.out; have := g2.out; omega
             case rel => exact ⟨(f9), (d1), (false), (wrap64 (a0 + 1)), (by first | rfl | (simp; done) | (simp [*]; done)), (by first | rfl | (simp; done) | (simp [*]; done)), H', ⟨by have := g9.out; have := g2.out; omega⟩, ⟨by (with_reducible repeat (first | apply Kd.R_alloc | apply Kd.R_drewN | apply Kd.R_drew)); exact b3.out⟩, ⟨by (with_reducible repeat (first | apply Kd.R_alloc | apply Kd.R_drewN | apply Kd.R_drew)); exact b2.out⟩, ⟨by (with_reducible repeat (first | apply Kd.R_alloc | apply Kd.R_drewN | apply Kd.R_drew)); exact Kd.R_mono b5.out (fun _ hk => hk.1)⟩, ⟨by (with_reducible repeat (first | apply Kd.R_alloc | apply Kd.R_drewN | apply Kd.R_drew)); exact e3.out⟩, ⟨by (with_reducible repeat (first | apply Kd.R_alloc | apply Kd.R_drewN | apply Kd.R_drew)); exact Kd.R_mono a8.out (fun _ hk => hk.1)⟩, ⟨by (with_reducible repeat (first | refine blk_drewN ?_ _ | refine blk_drew ?_ | refine blk_alloc ?_ _)); exact a3.out⟩, ⟨by repeat (first | (with_reducible first | exact HB.out | apply below_alloc | apply pw_below_drewN | apply below_drew1 | refine below_set ?_ a7.out | refine below_set ?_ d3.out) | exact HB.out)⟩⟩
          ·rw [if_neg p7] at H
           exact absurd H (by simp)
         ·replace o5 := Bool.eq_false_iff.mpr o5
          subst o5
          have H1 : (if ((rd_T51 l0_2 a0).f0) = a1 then (if d1.length < 5864062014805 then ((some (d1 ++ [(⟨((rd_T51 l0_2 a0).f0), ((rd_T51 l0_2 a0).f1), ((rd_T51 l0_2 a0).f2)⟩ : S51)] : List (S51))).bind fun h5 => (if d6 = true then ((Pr26b.f kj25 a0_0 l0_1 l0_2 ((rd_T51 l0_2 a0).f0) ((rd_T51 l0_2 a0).f1)).bind fun h8 => (Pl26a.l0 kj25 a1 a2 b9 b8 b6 d5 h5 ((h8.length : Int) == 1) (wrap64 (a0 + 1)) a0_0 l0_1 l0_2)) else (Pl26a.l0 kj25 a1 a2 b9 b8 b6 d5 h5 false (wrap64 (a0 + 1)) a0_0 l0_1 l0_2))) else (none)) else (if d6 = true then ((Pr26b.f kj25 a0_0 l0_1 l0_2 ((rd_T51 l0_2 a0).f0) ((rd_T51 l0_2 a0).f1)).bind fun j2 => (Pl26a.l0 kj25 a1 a2 b9 b8 b6 d5 d1 ((j2.length : Int) == 1) (wrap64 (a0 + 1)) a0_0 l0_1 l0_2)) else (Pl26a.l0 kj25 a1 a2 b9 b8 b6 d5 d1 false (wrap64 (a0 + 1)) a0_0 l0_1 l0_2))) = some r := by rw [if_neg (show ¬ (false = true) by decide)] at H; exact H
          clear H
          have H := H1
          clear H1
          by_cases k7 : ((rd_T51 l0_2 a0).f0) = a1
          ·rw [if_pos k7] at H
           have c69b0 : (((rd_T51 l0_2 a0).f0) == a1) = true := beq_iff_eq.mpr k7
           have c69b1 : (((rd_T51 l0_2 a0).f0) != a1) = false := bne_eq_false_iff_eq.mpr k7
           clear k7
           by_cases p6 : d1.length < 5864062014805
           ·rw [if_pos p6] at H
            have o6 := Aside0.mk p6
            clear p6
            obtain ⟨h5, j5⟩ : ∃ y_ : List (S51), y_ = (d1 ++ [(⟨((rd_T51 l0_2 a0).f0), ((rd_T51 l0_2 a0).f1), ((rd_T51 l0_2 a0).f2)⟩ : S51)]) := ⟨_, rfl⟩
            replace H : (if d6 = true then ((Pr26b.f kj25 a0_0 l0_1 l0_2 ((rd_T51 l0_2 a0).f0) ((rd_T51 l0_2 a0).f1)).bind fun h8 => (Pl26a.l0 kj25 a1 a2 b9 b8 b6 d5 h5 ((h8.length : Int) == 1) (wrap64 (a0 + 1)) a0_0 l0_1 l0_2)) else (Pl26a.l0 kj25 a1 a2 b9 b8 b6 d5 h5 false (wrap64 (a0 + 1)) a0_0 l0_1 l0_2)) = some r := by first | (rw [j5]; with_reducible exact H) | (have g7 := (Option.bind_some _ _).symm.trans H; rw [j5]; with_reducible exact g7) | (have g7 := (Option.bind_some _ _).symm.trans H; with_reducible exact g7) | with_reducible exact H | (rw [j5]; exact H) | exact H
            have o7 := Aside0.mk j5
            clear j5
            by_cases p5 : d6 = true
            ·subst p5
             have H1 : ((Pr26b.f kj25 a0_0 l0_1 l0_2 ((rd_T51 l0_2 a0).f0) ((rd_T51 l0_2 a0).f1)).bind fun h8 => (Pl26a.l0 kj25 a1 a2 b9 b8 b6 d5 h5 ((h8.length : Int) == 1) (wrap64 (a0 + 1)) a0_0 l0_1 l0_2)) = some r := by rw [if_pos rfl] at H; exact H
             clear H
             have H := H1
             clear H1
             replace H := Option.bind_eq_some_iff.mp H
             obtain ⟨h8, v0, H⟩ := H
             replace H : (Pl26a.l0 kj25 a1 a2 b9 b8 b6 d5 h5 ((h8.length : Int) == 1) (wrap64 (a0 + 1)) a0_0 l0_1 l0_2) = some r := H
             have P0 := Aside0.mk v0
             clear v0
             have H' := Aside0.mk H
             clear H
             have S7 := e4.out
             have P5 := d7.out
             have J1 : wc.cell? ⟨a5, 0, none⟩ = some (.int .i64 ((rd_T51 l0_2 a0).f0)) := (blk_cell a4.out 0).trans rfl
             have L4 : wc.cell? ⟨a5, 1, none⟩ = some (.int .i64 ((rd_T51 l0_2 a0).f1)) := (blk_cell a4.out 1).trans rfl
             have H5 : wc.cell? ⟨a5, 2, none⟩ = some (.int .i64 ((rd_T51 l0_2 a0).f2)) := (blk_cell a4.out 2).trans rfl
             have M1 := blk_frozen a4.out 0
             have E8 := blk_frozen a4.out 1
             have F3 := blk_frozen a4.out 2
             go_wp2_with (first | ((with_reducible refine gate_builtin (b := .append) (xs := #[.tmp 87, .tmp 89]) rfl ?_); (try (refine gate_guard (by rfl) ?_; dsimp only)); at_builtin; refine Kd.R_append k51 (w0 := w) w.heap.size rfl (.tmp 87) (.tmp 89) 23 51 (.agg #[(.int .i64 0), (.int .i64 0), (.int .i64 0)]) 24 rfl Try.underlying23 info51 rfl (by decide) (by omega) u11 d1 (⟨((rd_T51 l0_2 a0).f0), ((rd_T51 l0_2 a0).f1), ((rd_T51 l0_2 a0).f2)⟩ : S51) [.int .i64 ((rd_T51 l0_2 a0).f0), .int .i64 ((rd_T51 l0_2 a0).f1), .int .i64 ((rd_T51 l0_2 a0).f2)] (fun k_ => some k_ ≠ (h6 : Value).ownBlock ∧ k_ ≠ a5) (fun _ => False) rfl rfl ?aP (fun _ hk => hk.elim) ?aF ?aO ?aB ?aS ?aL ?_; (case aP => exact k51_mkM _ _ _ (⟨((rd_T51 l0_2 a0).f0), ((rd_T51 l0_2 a0).f1), ((rd_T51 l0_2 a0).f2)⟩ : S51)); (case aB => exact (by repeat (first | (with_reducible first | exact HB.out | apply below_alloc | apply pw_below_drewN | apply below_drew1 | refine below_set ?_ a7.out | refine below_set ?_ d3.out) | exact HB.out))); (case aF => exact (fun k_ hk => ⟨Kd.fresh' (Kd.R_lt (by (with_reducible repeat (first | apply Kd.R_alloc | apply Kd.R_drewN | apply Kd.R_drew)); exact b5.out)) k_ hk, Kd.freshB (g := a5) (o := .cells #[.int .i64 ((rd_T51 l0_2 a0).f0), .int .i64 ((rd_T51 l0_2 a0).f1), .int .i64 ((rd_T51 l0_2 a0).f2)] 51 (0, 0)) (by (with_reducible repeat (first | refine blk_drewN ?_ _ | refine blk_drew ?_ | refine blk_alloc ?_ _)); exact a4.out) k_ hk⟩)); (case aO => exact (by (with_reducible repeat (first | apply Kd.R_alloc | apply Kd.R_drewN | apply Kd.R_drew)); exact a8.out)); (case aS => exact (below_size (by repeat (first | (with_reducible first | exact HB.out | apply below_alloc | apply pw_below_drewN | apply below_drew1 | refine below_set ?_ a7.out | refine below_set ?_ d3.out) | exact HB.out)))); (case aL => have := o6.out; omega); intro A1 l9 ho hb hg hat; rw [← o7.out] at ho; have a9 := Aside0.mk (Kd.R_over' (by (with_reducible repeat (first | apply Kd.R_alloc | apply Kd.R_drewN | apply Kd.R_drew)); exact b3.out) (Kd.R_typed (by (with_reducible repeat (first | apply Kd.R_alloc | apply Kd.R_drewN | apply Kd.R_drew)); exact a8.out)) (by decide) hg); have b0 := Aside0.mk (Kd.R_over' (by (with_reducible repeat (first | apply Kd.R_alloc | apply Kd.R_drewN | apply Kd.R_drew)); exact b2.out) (Kd.R_typed (by (with_reducible repeat (first | apply Kd.R_alloc | apply Kd.R_drewN | apply Kd.R_drew)); exact a8.out)) (by decide) hg); have b4 := Aside0.mk (Kd.R_after (ok := (fun k_ => k_ ≠ a5)) (by (with_reducible repeat (first | apply Kd.R_alloc | apply Kd.R_drewN | apply Kd.R_drew)); exact Kd.R_mono b5.out (fun _ hk => ⟨hk.2, hk.1⟩)) hg hat); have b7 := Aside0.mk (Kd.R_over' (by (with_reducible repeat (first | apply Kd.R_alloc | apply Kd.R_drewN | apply Kd.R_drew)); exact b1.out) (Kd.R_typed (by (with_reducible repeat (first | apply Kd.R_alloc | apply Kd.R_drewN | apply Kd.R_drew)); exact a8.out)) (by decide) hg); have d0 := Aside0.mk (blk_grown (g := a6) (o := .cells #[.int .i64 a0_0, .slice A0_1 l0_1.length c0_1, .slice (some e5) l0_2.length c0_2] 25 (0, 0)) (by (with_reducible repeat (first | refine blk_drewN ?_ _ | refine blk_drew ?_ | refine blk_alloc ?_ _)); exact a3.out) hg (Kd.R_ne a8.out a3.out (by decide))); have d4 := Aside0.mk (blk_grown (g := a5) (o := .cells #[.int .i64 ((rd_T51 l0_2 a0).f0), .int .i64 ((rd_T51 l0_2 a0).f1), .int .i64 ((rd_T51 l0_2 a0).f2)] 51 (0, 0)) (by (with_reducible repeat (first | refine blk_drewN ?_ _ | refine blk_drew ?_ | refine blk_alloc ?_ _)); exact a4.out) hg (Kd.R_away a8.out (fun _ hk => hk.2))); have d8 := Aside0.mk (hb); have d9 := Aside0.mk (ho); clear b3; clear b2; clear b5; clear b1; clear a3; clear a4; clear HB; clear a8; have b3 := a9; have b2 := b0; have b5 := b4; have b1 := b7; have a3 := d0; have a4 := d4; have HB := d8; have i4 := d9; clear a9 b0 b4 b7 d0 d4 d8 d9; clear ho hb hg hat; have D4 : l9.cell? ⟨a6, 0, none⟩ = some (.int .i64 a0_0) := (blk_cell a3.out 0).trans rfl; have E6 : l9.cell? ⟨a6, 1, none⟩ = some (.slice A0_1 l0_1.length c0_1) := (blk_cell a3.out 1).trans rfl; have E5 : l9.cell? ⟨a6, 2, none⟩ = some (.slice (some e5) l0_2.length c0_2) := (blk_cell a3.out 2).trans rfl; have H2 := blk_frozen a3.out 0; have E3 := blk_frozen a3.out 1; have F6 := blk_frozen a3.out 2; have I0 : l9.cell? ⟨a5, 0, none⟩ = some (.int .i64 ((rd_T51 l0_2 a0).f0)) := (blk_cell a4.out 0).trans rfl; have D9 : l9.cell? ⟨a5, 1, none⟩ = some (.int .i64 ((rd_T51 l0_2 a0).f1)) := (blk_cell a4.out 1).trans rfl; have J0 : l9.cell? ⟨a5, 2, none⟩ = some (.int .i64 ((rd_T51 l0_2 a0).f2)) := (blk_cell a4.out 2).trans rfl; have G3 := blk_frozen a4.out 0; have N5 := blk_frozen a4.out 1; have H7 := blk_frozen a4.out 2) | (go_at_call 32; (with_reducible refine (Pr26b.calls kj25 a0_0 _ _ l0_1 _ _ l0_2 ((rd_T51 l0_2 a0).f0) ((rd_T51 l0_2 a0).f1) h8 _ ?e8 ?e7 ?e6 ?e9 P0.out).mono ?_); (case e8 => repeat (first | exact (Kd.C_below f5.out HB.out) | (with_reducible refine Kd.C_alloc ?_ _) | (with_reducible refine Kd.C_drewN ?_ _) | (with_reducible refine Kd.C_drew ?_))); (case e7 => exact f7.out); (case e6 => repeat (first | exact (Kd.C_below f3.out HB.out) | (with_reducible refine Kd.C_alloc ?_ _) | (with_reducible refine Kd.C_drewN ?_ _) | (with_reducible refine Kd.C_drew ?_))); (case e9 => exact f6.out); rintro e X3 ⟨V5, rfl, e0, hb⟩; have a9 := Aside0.mk (Kd.R_elder' (by (with_reducible repeat (first | apply Kd.R_alloc | apply Kd.R_drewN | apply Kd.R_drew)); exact b3.out) (Kd.R_base e0) hb); have b0 := Aside0.mk (Kd.R_elder' (by (with_reducible repeat (first | apply Kd.R_alloc | apply Kd.R_drewN | apply Kd.R_drew)); exact b2.out) (Kd.R_base e0) hb); have b4 := Aside0.mk (Kd.R_below (by (with_reducible repeat (first | apply Kd.R_alloc | apply Kd.R_drewN | apply Kd.R_drew)); exact b5.out) hb); have b7 := Aside0.mk (Kd.R_elder' (by (with_reducible repeat (first | apply Kd.R_alloc | apply Kd.R_drewN | apply Kd.R_drew)); exact b1.out) (Kd.R_base e0) hb); have d0 := Aside0.mk (Kd.R_below (by (with_reducible repeat (first | apply Kd.R_alloc | apply Kd.R_drewN | apply Kd.R_drew)); exact i4.out) hb); have d4 := Aside0.mk (Kd.R_lower (Kd.R_new' (Kd.R_new' (Kd.R_new' e0 (Kd.R_lt (by (with_reducible repeat (first | apply Kd.R_alloc | apply Kd.R_drewN | apply Kd.R_drew)); exact b3.out))) (Kd.R_lt (by (with_reducible repeat (first | apply Kd.R_alloc | apply Kd.R_drewN | apply Kd.R_drew)); exact b2.out))) (Kd.R_lt (by (with_reducible repeat (first | apply Kd.R_alloc | apply Kd.R_drewN | apply Kd.R_drew)); exact b1.out))) (below_size (by repeat (first | (with_reducible first | exact HB.out | apply below_alloc | apply pw_below_drewN | apply below_drew1 | refine below_set ?_ a7.out | refine below_set ?_ d3.out) | exact HB.out)))); have d8 := Aside0.mk (blk_below (g := a6) (o := .cells #[.int .i64 a0_0, .slice A0_1 l0_1.length c0_1, .slice (some e5) l0_2.length c0_2] 25 (0, 0)) (by (with_reducible repeat (first | refine blk_drewN ?_ _ | refine blk_drew ?_ | refine blk_alloc ?_ _)); exact a3.out) hb); have d9 := Aside0.mk (blk_below (g := a5) (o := .cells #[.int .i64 ((rd_T51 l0_2 a0).f0), .int .i64 ((rd_T51 l0_2 a0).f1), .int .i64 ((rd_T51 l0_2 a0).f2)] 51 (0, 0)) (by (with_reducible repeat (first | refine blk_drewN ?_ _ | refine blk_drew ?_ | refine blk_alloc ?_ _)); exact a4.out) hb); have h4 := Aside0.mk (below_step (by repeat (first | (with_reducible first | exact HB.out | apply below_alloc | apply pw_below_drewN | apply below_drew1 | refine below_set ?_ a7.out | refine below_set ?_ d3.out) | exact HB.out)) hb); clear b3; clear b2; clear b5; clear b1; clear i4; clear a3; clear a4; clear HB; have b3 := a9; have b2 := b0; have b5 := b4; have b1 := b7; have i4 := d0; have v6 := d4; have a3 := d8; have a4 := d9; have HB := h4; clear a9 b0 b4 b7 d0 d4 d8 d9 h4; (try clear hb); (try clear g3); (try clear hk); (try clear hi); (try clear e0); obtain ⟨U4, V4, z3⟩ := Kd.R_slice v6.out; subst z3))
             go_roundg kj25
             case measure => have := g9.out; have := g2.out; omega
             case rel => exact ⟨(d5), (h5), (((h8.length : Int) == 1)), (wrap64 (a0 + 1)), (by first | rfl | (simp; done) | (simp [*]; done)), (by first | rfl | (simp; done) | (simp [*]; done)), H', ⟨by have := g9.out; have := g2.out; omega⟩, ⟨by (with_reducible repeat (first | apply Kd.R_alloc | apply Kd.R_drewN | apply Kd.R_drew)); exact Kd.R_mono b3.out (fun _ hk => ⟨hk.1.1, hk.1.2⟩)⟩, ⟨by (with_reducible repeat (first | apply Kd.R_alloc | apply Kd.R_drewN | apply Kd.R_drew)); exact Kd.R_mono b2.out (fun _ hk => ⟨hk.1.1, hk.1.2⟩)⟩, ⟨by (with_reducible repeat (first | apply Kd.R_alloc | apply Kd.R_drewN | apply Kd.R_drew)); exact Kd.R_mono b5.out (fun _ hk => hk.2)⟩, ⟨by (with_reducible repeat (first | apply Kd.R_alloc | apply Kd.R_drewN | apply Kd.R_drew)); exact Kd.R_mono b1.out (fun _ hk => ⟨hk.1.1, hk.1.2⟩)⟩, ⟨by (with_reducible repeat (first | apply Kd.R_alloc | apply Kd.R_drewN | apply Kd.R_drew)); exact Kd.R_mono i4.out (fun _ hk => hk.1)⟩, ⟨by (with_reducible repeat (first | refine blk_drewN ?_ _ | refine blk_drew ?_ | refine blk_alloc ?_ _)); exact a3.out⟩, ⟨by repeat (first | (with_reducible first | exact HB.out | apply below_alloc | apply pw_below_drewN | apply below_drew1 | refine below_set ?_ a7.out | refine below_set ?_ d3.out) | exact HB.out)⟩⟩
            ·replace p5 := Bool.eq_false_iff.mpr p5
             subst p5
             have H1 : (Pl26a.l0 kj25 a1 a2 b9 b8 b6 d5 h5 false (wrap64 (a0 + 1)) a0_0 l0_1 l0_2) = some r := by rw [if_neg (show ¬ (false = true) by decide)] at H; exact H
             clear H
             have H := H1
             clear H1
             have H' := Aside0.mk H
             clear H
             have T0 := e4.out
             have T4 := d7.out
             have L0 : wc.cell? ⟨a5, 0, none⟩ = some (.int .i64 ((rd_T51 l0_2 a0).f0)) := (blk_cell a4.out 0).trans rfl
             have I8 : wc.cell? ⟨a5, 1, none⟩ = some (.int .i64 ((rd_T51 l0_2 a0).f1)) := (blk_cell a4.out 1).trans rfl
             have D7 : wc.cell? ⟨a5, 2, none⟩ = some (.int .i64 ((rd_T51 l0_2 a0).f2)) := (blk_cell a4.out 2).trans rfl
             have M7 := blk_frozen a4.out 0
             have G4 := blk_frozen a4.out 1
             have K8 := blk_frozen a4.out 2
             go_wp2_with (first | ((with_reducible refine gate_builtin (b := .append) (xs := #[.tmp 87, .tmp 89]) rfl ?_); (try (refine gate_guard (by rfl) ?_; dsimp only)); at_builtin; refine Kd.R_append k51 (w0 := w) w.heap.size rfl (.tmp 87) (.tmp 89) 23 51 (.agg #[(.int .i64 0), (.int .i64 0), (.int .i64 0)]) 24 rfl Try.underlying23 info51 rfl (by decide) (by omega) u11 d1 (⟨((rd_T51 l0_2 a0).f0), ((rd_T51 l0_2 a0).f1), ((rd_T51 l0_2 a0).f2)⟩ : S51) [.int .i64 ((rd_T51 l0_2 a0).f0), .int .i64 ((rd_T51 l0_2 a0).f1), .int .i64 ((rd_T51 l0_2 a0).f2)] (fun k_ => some k_ ≠ (h6 : Value).ownBlock ∧ k_ ≠ a5) (fun _ => False) rfl rfl ?aP (fun _ hk => hk.elim) ?aF ?aO ?aB ?aS ?aL ?_; (case aP => exact k51_mkM _ _ _ (⟨((rd_T51 l0_2 a0).f0), ((rd_T51 l0_2 a0).f1), ((rd_T51 l0_2 a0).f2)⟩ : S51)); (case aB => exact (by repeat (first | (with_reducible first | exact HB.out | apply below_alloc | apply pw_below_drewN | apply below_drew1 | refine below_set ?_ a7.out | refine below_set ?_ d3.out) | exact HB.out))); (case aF => exact (fun k_ hk => ⟨Kd.fresh' (Kd.R_lt (by (with_reducible repeat (first | apply Kd.R_alloc | apply Kd.R_drewN | apply Kd.R_drew)); exact b5.out)) k_ hk, Kd.freshB (g := a5) (o := .cells #[.int .i64 ((rd_T51 l0_2 a0).f0), .int .i64 ((rd_T51 l0_2 a0).f1), .int .i64 ((rd_T51 l0_2 a0).f2)] 51 (0, 0)) (by (with_reducible repeat (first | refine blk_drewN ?_ _ | refine blk_drew ?_ | refine blk_alloc ?_ _)); exact a4.out) k_ hk⟩)); (case aO => exact (by (with_reducible repeat (first | apply Kd.R_alloc | apply Kd.R_drewN | apply Kd.R_drew)); exact a8.out)); (case aS => exact (below_size (by repeat (first | (with_reducible first | exact HB.out | apply below_alloc | apply pw_below_drewN | apply below_drew1 | refine below_set ?_ a7.out | refine below_set ?_ d3.out) | exact HB.out)))); (case aL => have := o6.out; omega); intro A1 Y1 ho hb hg hat; rw [← o7.out] at ho; have a9 := Aside0.mk (Kd.R_over' (by (with_reducible repeat (first | apply Kd.R_alloc | apply Kd.R_drewN | apply Kd.R_drew)); exact b3.out) (Kd.R_typed (by (with_reducible repeat (first | apply Kd.R_alloc | apply Kd.R_drewN | apply Kd.R_drew)); exact a8.out)) (by decide) hg); have b0 := Aside0.mk (Kd.R_over' (by (with_reducible repeat (first | apply Kd.R_alloc | apply Kd.R_drewN | apply Kd.R_drew)); exact b2.out) (Kd.R_typed (by (with_reducible repeat (first | apply Kd.R_alloc | apply Kd.R_drewN | apply Kd.R_drew)); exact a8.out)) (by decide) hg); have b4 := Aside0.mk (Kd.R_after (ok := (fun k_ => k_ ≠ a5)) (by (with_reducible repeat (first | apply Kd.R_alloc | apply Kd.R_drewN | apply Kd.R_drew)); exact Kd.R_mono b5.out (fun _ hk => ⟨hk.2, hk.1⟩)) hg hat); have b7 := Aside0.mk (Kd.R_over' (by (with_reducible repeat (first | apply Kd.R_alloc | apply Kd.R_drewN | apply Kd.R_drew)); exact b1.out) (Kd.R_typed (by (with_reducible repeat (first | apply Kd.R_alloc | apply Kd.R_drewN | apply Kd.R_drew)); exact a8.out)) (by decide) hg); have d0 := Aside0.mk (blk_grown (g := a6) (o := .cells #[.int .i64 a0_0, .slice A0_1 l0_1.length c0_1, .slice (some e5) l0_2.length c0_2] 25 (0, 0)) (by (with_reducible repeat (first | refine blk_drewN ?_ _ | refine blk_drew ?_ | refine blk_alloc ?_ _)); exact a3.out) hg (Kd.R_ne a8.out a3.out (by decide))); have d4 := Aside0.mk (blk_grown (g := a5) (o := .cells #[.int .i64 ((rd_T51 l0_2 a0).f0), .int .i64 ((rd_T51 l0_2 a0).f1), .int .i64 ((rd_T51 l0_2 a0).f2)] 51 (0, 0)) (by (with_reducible repeat (first | refine blk_drewN ?_ _ | refine blk_drew ?_ | refine blk_alloc ?_ _)); exact a4.out) hg (Kd.R_away a8.out (fun _ hk => hk.2))); have d8 := Aside0.mk (hb); have d9 := Aside0.mk (ho); clear b3; clear b2; clear b5; clear b1; clear a3; clear a4; clear HB; clear a8; have b3 := a9; have b2 := b0; have b5 := b4; have b1 := b7; have a3 := d0; have a4 := d4; have HB := d8; have i4 := d9; clear a9 b0 b4 b7 d0 d4 d8 d9; clear ho hb hg hat))
             go_roundg kj25
             case measure => have := g9.out; have := g2.out; omega
             case rel => exact ⟨(d5), (h5), (false), (wrap64 (a0 + 1)), (by first | rfl | (simp; done) | (simp [*]; done)), (by first | rfl | (simp; done) | (simp [*]; done)), H', ⟨by have := g9.out; have := g2.out; omega⟩, ⟨by (with_reducible repeat (first | apply Kd.R_alloc | apply Kd.R_drewN | apply Kd.R_drew)); exact b3.out⟩, ⟨by (with_reducible repeat (first | apply Kd.R_alloc | apply Kd.R_drewN | apply Kd.R_drew)); exact b2.out⟩, ⟨by (with_reducible repeat (first | apply Kd.R_alloc | apply Kd.R_drewN | apply Kd.R_drew)); exact Kd.R_mono b5.out (fun _ hk => hk.2)⟩, ⟨by (with_reducible repeat (first | apply Kd.R_alloc | apply Kd.R_drewN | apply Kd.R_drew)); exact b1.out⟩, ⟨by (with_reducible repeat (first | apply Kd.R_alloc | apply Kd.R_drewN | apply Kd.R_drew)); exact Kd.R_mono i4.out (fun _ hk => hk.1)⟩, ⟨by (with_reducible repeat (first | refine blk_drewN ?_ _ | refine blk_drew ?_ | refine blk_alloc ?_ _)); exact a3.out⟩, ⟨by repeat (first | (with_reducible first | exact HB.out | apply below_alloc | apply pw_below_drewN | apply below_drew1 | refine below_set ?_ a7.out | refine below_set ?_ d3.out) | exact HB.out)⟩⟩
           ·rw [if_neg p6] at H
            exact absurd H (by simp)
          ·rw [if_neg k7] at H
           have c69b0 : (((rd_T51 l0_2 a0).f0) == a1) = false := beq_eq_false_iff_ne.mpr k7
           have c69b1 : (((rd_T51 l0_2 a0).f0) != a1) = true := bne_iff_ne.mpr k7
           by_cases o2 : d6 = true
           ·subst o2
            have H1 : ((Pr26b.f kj25 a0_0 l0_1 l0_2 ((rd_T51 l0_2 a0).f0) ((rd_T51 l0_2 a0).f1)).bind fun j2 => (Pl26a.l0 kj25 a1 a2 b9 b8 b6 d5 d1 ((j2.length : Int) == 1) (wrap64 (a0 + 1)) a0_0 l0_1 l0_2)) = some r := by rw [if_pos rfl] at H; exact H
            clear H
            have H := H1
            clear H1
            replace H := Option.bind_eq_some_iff.mp H
            obtain ⟨j2, t5, H⟩ := H
            replace H : (Pl26a.l0 kj25 a1 a2 b9 b8 b6 d5 d1 ((j2.length : Int) == 1) (wrap64 (a0 + 1)) a0_0 l0_1 l0_2) = some r := H
            have P1 := Aside0.mk t5
            clear t5
            have H' := Aside0.mk H
            clear H
            have S8 := e4.out
            have R2 := d7.out
            have K0 : wc.cell? ⟨a5, 0, none⟩ = some (.int .i64 ((rd_T51 l0_2 a0).f0)) := (blk_cell a4.out 0).trans rfl
            have K7 : wc.cell? ⟨a5, 1, none⟩ = some (.int .i64 ((rd_T51 l0_2 a0).f1)) := (blk_cell a4.out 1).trans rfl
            have I7 : wc.cell? ⟨a5, 2, none⟩ = some (.int .i64 ((rd_T51 l0_2 a0).f2)) := (blk_cell a4.out 2).trans rfl
            have N0 := blk_frozen a4.out 0
            have J9 := blk_frozen a4.out 1
            have I1 := blk_frozen a4.out 2
            have H6 : wc.cell? ⟨a6, 0, none⟩ = some (.int .i64 a0_0) := (blk_cell a3.out 0).trans rfl
            have G9 : wc.cell? ⟨a6, 1, none⟩ = some (.slice A0_1 l0_1.length c0_1) := (blk_cell a3.out 1).trans rfl
            have I6 : wc.cell? ⟨a6, 2, none⟩ = some (.slice (some e5) l0_2.length c0_2) := (blk_cell a3.out 2).trans rfl
            have N1 := blk_frozen a3.out 0
            have M8 := blk_frozen a3.out 1
            have M6 := blk_frozen a3.out 2
            go_wp2_with (first | (go_at_call 32; (with_reducible refine (Pr26b.calls kj25 a0_0 _ _ l0_1 _ _ l0_2 ((rd_T51 l0_2 a0).f0) ((rd_T51 l0_2 a0).f1) j2 _ ?e8 ?e7 ?e6 ?e9 P1.out).mono ?_); (case e8 => repeat (first | exact (Kd.C_below f5.out HB.out) | (with_reducible refine Kd.C_alloc ?_ _) | (with_reducible refine Kd.C_drewN ?_ _) | (with_reducible refine Kd.C_drew ?_))); (case e7 => exact f7.out); (case e6 => repeat (first | exact (Kd.C_below f3.out HB.out) | (with_reducible refine Kd.C_alloc ?_ _) | (with_reducible refine Kd.C_drewN ?_ _) | (with_reducible refine Kd.C_drew ?_))); (case e9 => exact f6.out); rintro e W7 ⟨V0, rfl, e0, hb⟩; have a9 := Aside0.mk (Kd.R_elder' (by (with_reducible repeat (first | apply Kd.R_alloc | apply Kd.R_drewN | apply Kd.R_drew)); exact b3.out) (Kd.R_base e0) hb); have b0 := Aside0.mk (Kd.R_elder' (by (with_reducible repeat (first | apply Kd.R_alloc | apply Kd.R_drewN | apply Kd.R_drew)); exact b2.out) (Kd.R_base e0) hb); have b4 := Aside0.mk (Kd.R_below (by (with_reducible repeat (first | apply Kd.R_alloc | apply Kd.R_drewN | apply Kd.R_drew)); exact b5.out) hb); have b7 := Aside0.mk (Kd.R_elder' (by (with_reducible repeat (first | apply Kd.R_alloc | apply Kd.R_drewN | apply Kd.R_drew)); exact b1.out) (Kd.R_base e0) hb); have d0 := Aside0.mk (Kd.R_below (by (with_reducible repeat (first | apply Kd.R_alloc | apply Kd.R_drewN | apply Kd.R_drew)); exact a8.out) hb); have d4 := Aside0.mk (Kd.R_lower (Kd.R_new' (Kd.R_new' (Kd.R_new' e0 (Kd.R_lt (by (with_reducible repeat (first | apply Kd.R_alloc | apply Kd.R_drewN | apply Kd.R_drew)); exact b3.out))) (Kd.R_lt (by (with_reducible repeat (first | apply Kd.R_alloc | apply Kd.R_drewN | apply Kd.R_drew)); exact b2.out))) (Kd.R_lt (by (with_reducible repeat (first | apply Kd.R_alloc | apply Kd.R_drewN | apply Kd.R_drew)); exact b1.out))) (below_size (by repeat (first | (with_reducible first | exact HB.out | apply below_alloc | apply pw_below_drewN | apply below_drew1 | refine below_set ?_ a7.out | refine below_set ?_ d3.out) | exact HB.out)))); have d8 := Aside0.mk (blk_below (g := a6) (o := .cells #[.int .i64 a0_0, .slice A0_1 l0_1.length c0_1, .slice (some e5) l0_2.length c0_2] 25 (0, 0)) (by (with_reducible repeat (first | refine blk_drewN ?_ _ | refine blk_drew ?_ | refine blk_alloc ?_ _)); exact a3.out) hb); have d9 := Aside0.mk (blk_below (g := a5) (o := .cells #[.int .i64 ((rd_T51 l0_2 a0).f0), .int .i64 ((rd_T51 l0_2 a0).f1), .int .i64 ((rd_T51 l0_2 a0).f2)] 51 (0, 0)) (by (with_reducible repeat (first | refine blk_drewN ?_ _ | refine blk_drew ?_ | refine blk_alloc ?_ _)); exact a4.out) hb); have h4 := Aside0.mk (below_step (by repeat (first | (with_reducible first | exact HB.out | apply below_alloc | apply pw_below_drewN | apply below_drew1 | refine below_set ?_ a7.out | refine below_set ?_ d3.out) | exact HB.out)) hb); clear b3; clear b2; clear b5; clear b1; clear a8; clear a3; clear a4; clear HB; have b3 := a9; have b2 := b0; have b5 := b4; have b1 := b7; have a8 := d0; have v3 := d4; have a3 := d8; have a4 := d9; have HB := h4; clear a9 b0 b4 b7 d0 d4 d8 d9 h4; (try clear hb); (try clear g3); (try clear hk); (try clear hi); (try clear e0); obtain ⟨V7, U0, C0⟩ := Kd.R_slice v3.out; subst C0))
            go_roundg kj25
            case measure => have := g9.out; have := g2.out; omega
            case rel => exact ⟨(d5), (d1), (((j2.length : Int) == 1)), (wrap64 (a0 + 1)), (by first | rfl | (simp; done) | (simp [*]; done)), (by first | rfl | (simp; done) | (simp [*]; done)), H', ⟨by have := g9.out; have := g2.out; omega⟩, ⟨by (with_reducible repeat (first | apply Kd.R_alloc | apply Kd.R_drewN | apply Kd.R_drew)); exact Kd.R_mono b3.out (fun _ hk => ⟨hk.1.1, hk.1.2⟩)⟩, ⟨by (with_reducible repeat (first | apply Kd.R_alloc | apply Kd.R_drewN | apply Kd.R_drew)); exact Kd.R_mono b2.out (fun _ hk => ⟨hk.1.1, hk.1.2⟩)⟩, ⟨by (with_reducible repeat (first | apply Kd.R_alloc | apply Kd.R_drewN | apply Kd.R_drew)); exact Kd.R_mono b5.out (fun _ hk => hk.1)⟩, ⟨by (with_reducible repeat (first | apply Kd.R_alloc | apply Kd.R_drewN | apply Kd.R_drew)); exact Kd.R_mono b1.out (fun _ hk => ⟨hk.1.1, hk.1.2⟩)⟩, ⟨by (with_reducible repeat (first | apply Kd.R_alloc | apply Kd.R_drewN | apply Kd.R_drew)); exact Kd.R_mono a8.out (fun _ hk => hk.1)⟩, ⟨by (with_reducible repeat (first | refine blk_drewN ?_ _ | refine blk_drew ?_ | refine blk_alloc ?_ _)); exact a3.out⟩, ⟨by repeat (first | (with_reducible first | exact HB.out | apply below_alloc | apply pw_below_drewN | apply below_drew1 | refine below_set ?_ a7.out | refine below_set ?_ d3.out) | exact HB.out)⟩⟩
           ·replace o2 := Bool.eq_false_iff.mpr o2
            subst o2
            have H1 : (Pl26a.l0 kj25 a1 a2 b9 b8 b6 d5 d1 false (wrap64 (a0 + 1)) a0_0 l0_1 l0_2) = some r := by rw [if_neg (show ¬ (false = true) by decide)] at H; exact H
            clear H
            have H := H1
            clear H1
            have H' := Aside0.mk H
            clear H
            have R4 := e4.out
            have S5 := d7.out
            have I2 : wc.cell? ⟨a5, 0, none⟩ = some (.int .i64 ((rd_T51 l0_2 a0).f0)) := (blk_cell a4.out 0).trans rfl
            have D5 : wc.cell? ⟨a5, 1, none⟩ = some (.int .i64 ((rd_T51 l0_2 a0).f1)) := (blk_cell a4.out 1).trans rfl
            have D3 : wc.cell? ⟨a5, 2, none⟩ = some (.int .i64 ((rd_T51 l0_2 a0).f2)) := (blk_cell a4.out 2).trans rfl
            have E7 := blk_frozen a4.out 0
            have K2 := blk_frozen a4.out 1
            have K9 := blk_frozen a4.out 2
            go_wp2
            go_roundg kj25
            case measure => have := g9.out; have := g2.out; omega
            case rel => exact ⟨(d5), (d1), (false), (wrap64 (a0 + 1)), (by first | rfl | (simp; done) | (simp [*]; done)), (by first | rfl | (simp; done) | (simp [*]; done)), H', ⟨by have := g9.out; have := g2.out; omega⟩, ⟨by (with_reducible repeat (first | apply Kd.R_alloc | apply Kd.R_drewN | apply Kd.R_drew)); exact b3.out⟩, ⟨by (with_reducible repeat (first | apply Kd.R_alloc | apply Kd.R_drewN | apply Kd.R_drew)); exact b2.out⟩, ⟨by (with_reducible repeat (first | apply Kd.R_alloc | apply Kd.R_drewN | apply Kd.R_drew)); exact Kd.R_mono b5.out (fun _ hk => hk.1)⟩, ⟨by (with_reducible repeat (first | apply Kd.R_alloc | apply Kd.R_drewN | apply Kd.R_drew)); exact b1.out⟩, ⟨by (with_reducible repeat (first | apply Kd.R_alloc | apply Kd.R_drewN | apply Kd.R_drew)); exact Kd.R_mono a8.out (fun _ hk => hk.1)⟩, ⟨by (with_reducible repeat (first | refine blk_drewN ?_ _ | refine blk_drew ?_ | refine blk_alloc ?_ _)); exact a3.out⟩, ⟨by repeat (first | (with_reducible first | exact HB.out | apply below_alloc | apply pw_below_drewN | apply below_drew1 | refine below_set ?_ a7.out | refine below_set ?_ d3.out) | exact HB.out)⟩⟩
      ·rw [if_neg n3] at H
       exact absurd H (by simp)
     ·rw [if_neg k8] at H
      have c24b0 : decide (a0 < (l0_2.length : Int)) = false := decide_eq_false k8
      clear k8
      replace H := Option.bind_eq_some_iff.mp H
      obtain ⟨m7, t8, H⟩ := H
      replace H : ((Pr01b.f k1 b9 m7).bind fun n2 => (if n2 = true then ((Pr01b.f k1 b8 d5).bind fun i1 => (if i1 = true then ((Pr26c.f k1 0 ([] : List ByteArray) b6 0 ([] : List ByteArray) d1).bind fun h1 => (if h1 = true then ((Pxb.f k1 a0_0 l0_1 l0_2).bind fun f4 => (if (f4 == d6) = true then ((Pl26b.f k1).bind fun g0 => (some g0)) else (some false))) else (some false))) else (some false))) else (some false))) = some r := H
      have O0 := Aside0.mk t8
      clear t8
      replace H := Option.bind_eq_some_iff.mp H
      obtain ⟨n2, t6, H⟩ := H
      replace H : (if n2 = true then ((Pr01b.f k1 b8 d5).bind fun i1 => (if i1 = true then ((Pr26c.f k1 0 ([] : List ByteArray) b6 0 ([] : List ByteArray) d1).bind fun h1 => (if h1 = true then ((Pxb.f k1 a0_0 l0_1 l0_2).bind fun f4 => (if (f4 == d6) = true then ((Pl26b.f k1).bind fun g0 => (some g0)) else (some false))) else (some false))) else (some false))) else (some false)) = some r := H
      have O9 := Aside0.mk t6
      clear t6
      by_cases p0 : n2 = true
      ·subst p0
       have H1 : ((Pr01b.f k1 b8 d5).bind fun i1 => (if i1 = true then ((Pr26c.f k1 0 ([] : List ByteArray) b6 0 ([] : List ByteArray) d1).bind fun h1 => (if h1 = true then ((Pxb.f k1 a0_0 l0_1 l0_2).bind fun f4 => (if (f4 == d6) = true then ((Pl26b.f k1).bind fun g0 => (some g0)) else (some false))) else (some false))) else (some false))) = some r := by rw [if_pos rfl] at H; exact H
       clear H
       have H := H1
       clear H1
       replace H := Option.bind_eq_some_iff.mp H
       obtain ⟨i1, u2, H⟩ := H
       replace H : (if i1 = true then ((Pr26c.f k1 0 ([] : List ByteArray) b6 0 ([] : List ByteArray) d1).bind fun h1 => (if h1 = true then ((Pxb.f k1 a0_0 l0_1 l0_2).bind fun f4 => (if (f4 == d6) = true then ((Pl26b.f k1).bind fun g0 => (some g0)) else (some false))) else (some false))) else (some false)) = some r := H
       have O7 := Aside0.mk u2
       clear u2
       by_cases o4 : i1 = true
       ·subst o4
        have H1 : ((Pr26c.f k1 0 ([] : List ByteArray) b6 0 ([] : List ByteArray) d1).bind fun h1 => (if h1 = true then ((Pxb.f k1 a0_0 l0_1 l0_2).bind fun f4 => (if (f4 == d6) = true then ((Pl26b.f k1).bind fun g0 => (some g0)) else (some false))) else (some false))) = some r := by rw [if_pos rfl] at H; exact H
        clear H
        have H := H1
        clear H1
        replace H := Option.bind_eq_some_iff.mp H
        obtain ⟨h1, u8, H⟩ := H
        replace H : (if h1 = true then ((Pxb.f k1 a0_0 l0_1 l0_2).bind fun f4 => (if (f4 == d6) = true then ((Pl26b.f k1).bind fun g0 => (some g0)) else (some false))) else (some false)) = some r := H
        have O6 := Aside0.mk u8
        clear u8
        by_cases q3 : h1 = true
        ·subst q3
         have H1 : ((Pxb.f k1 a0_0 l0_1 l0_2).bind fun f4 => (if (f4 == d6) = true then ((Pl26b.f k1).bind fun g0 => (some g0)) else (some false))) = some r := by rw [if_pos rfl] at H; exact H
         clear H
         have H := H1
         clear H1
         replace H := Option.bind_eq_some_iff.mp H
         obtain ⟨f4, t4, H⟩ := H
         replace H : (if (f4 == d6) = true then ((Pl26b.f k1).bind fun g0 => (some g0)) else (some false)) = some r := H
         have P2 := Aside0.mk t4
         clear t4
         by_cases h2 : (f4 == d6) = true
         ·rw [if_pos h2] at H
          have c100b0 : (f4 == d6) = true := h2
          (try (have c100b1 : decide (f4 = d6) = true := by simpa using h2))
          (try (have c100b2 : (f4 == d6) = true := by simpa using h2))
          clear h2
          replace H := Option.bind_eq_some_iff.mp H
          obtain ⟨g0, o9, H⟩ := H
          replace H : (some g0) = some r := H
          have y5 := Aside0.mk o9
          clear o9
          obtain rfl := Option.some.inj H
          have C7 : wr.cell? ⟨a6, 0, none⟩ = some (.int .i64 a0_0) := (blk_cell a3.out 0).trans rfl
          have A0 : wr.cell? ⟨a6, 1, none⟩ = some (.slice A0_1 l0_1.length c0_1) := (blk_cell a3.out 1).trans rfl
          have B5 : wr.cell? ⟨a6, 2, none⟩ = some (.slice A0_2 l0_2.length c0_2) := (blk_cell a3.out 2).trans rfl
          have z6 := blk_frozen a3.out 0
          have B2 := blk_frozen a3.out 1
          have B6 := blk_frozen a3.out 2
          go_wp2_with (first | ((with_reducible refine gate_callee (f := 32) rfl ?_); refine goesL_ (some 106) rfl rfl Try.func32 (by kernel_rfl) rfl #[.agg #[.int .i64 a0_0, .slice A0_1 l0_1.length c0_1, .slice A0_2 l0_2.length c0_2], .int .i64 a1, .int .i64 a2] rfl (by (try simp only [List.map_toArray, List.map_cons, List.map_nil]); first | done | rfl | (simp only [List.length_drop, List.length_take]; rfl)) ?_; (with_reducible refine (Pr26b.calls k1 a0_0 _ _ l0_1 _ _ l0_2 a1 a2 m7 _ ?e8 ?e7 ?e6 ?e9 O0.out).mono ?_); (case e8 => repeat (first | exact (Kd.C_below f5.out HB.out) | (with_reducible refine Kd.C_alloc ?_ _) | (with_reducible refine Kd.C_drewN ?_ _) | (with_reducible refine Kd.C_drew ?_))); (case e7 => exact f7.out); (case e6 => repeat (first | exact (Kd.C_below f3.out HB.out) | (with_reducible refine Kd.C_alloc ?_ _) | (with_reducible refine Kd.C_drewN ?_ _) | (with_reducible refine Kd.C_drew ?_))); (case e9 => exact f6.out); rintro e V1 ⟨V8, rfl, e0, hb⟩; refine ⟨_, rfl, ?_⟩; have a9 := Aside0.mk (Kd.R_elder' (by (with_reducible repeat (first | apply Kd.R_alloc | apply Kd.R_drewN | apply Kd.R_drew)); exact b3.out) (Kd.R_base e0) hb); have b0 := Aside0.mk (Kd.R_elder' (by (with_reducible repeat (first | apply Kd.R_alloc | apply Kd.R_drewN | apply Kd.R_drew)); exact b2.out) (Kd.R_base e0) hb); have b4 := Aside0.mk (Kd.R_below (by (with_reducible repeat (first | apply Kd.R_alloc | apply Kd.R_drewN | apply Kd.R_drew)); exact b5.out) hb); have b7 := Aside0.mk (Kd.R_elder' (by (with_reducible repeat (first | apply Kd.R_alloc | apply Kd.R_drewN | apply Kd.R_drew)); exact b1.out) (Kd.R_base e0) hb); have d0 := Aside0.mk (Kd.R_below (by (with_reducible repeat (first | apply Kd.R_alloc | apply Kd.R_drewN | apply Kd.R_drew)); exact a8.out) hb); have d4 := Aside0.mk (Kd.R_lower (Kd.R_new' (Kd.R_new' (Kd.R_new' e0 (Kd.R_lt (by (with_reducible repeat (first | apply Kd.R_alloc | apply Kd.R_drewN | apply Kd.R_drew)); exact b3.out))) (Kd.R_lt (by (with_reducible repeat (first | apply Kd.R_alloc | apply Kd.R_drewN | apply Kd.R_drew)); exact b2.out))) (Kd.R_lt (by (with_reducible repeat (first | apply Kd.R_alloc | apply Kd.R_drewN | apply Kd.R_drew)); exact b1.out))) (below_size (by repeat (first | (with_reducible first | exact HB.out | apply below_alloc | apply pw_below_drewN | apply below_drew1 | refine below_set ?_ a7.out) | exact HB.out)))); have d8 := Aside0.mk (blk_below (g := a6) (o := .cells #[.int .i64 a0_0, .slice A0_1 l0_1.length c0_1, .slice A0_2 l0_2.length c0_2] 25 (0, 0)) (by (with_reducible repeat (first | refine blk_drewN ?_ _ | refine blk_drew ?_ | refine blk_alloc ?_ _)); exact a3.out) hb); have d9 := Aside0.mk (below_step (by repeat (first | (with_reducible first | exact HB.out | apply below_alloc | apply pw_below_drewN | apply below_drew1 | refine below_set ?_ a7.out) | exact HB.out)) hb); clear b3; clear b2; clear b5; clear b1; clear a8; clear a3; clear HB; have b3 := a9; have b2 := b0; have b5 := b4; have b1 := b7; have a8 := d0; have g4 := d4; have a3 := d8; have HB := d9; clear a9 b0 b4 b7 d0 d4 d8 d9; (try clear hb); (try clear g3); (try clear hk); (try clear hi); (try clear e0); obtain ⟨v4, v9, v7⟩ := Kd.R_slice b3.out; subst v7; obtain ⟨v1, w3, w4⟩ := Kd.R_slice g4.out; subst w4) | ((with_reducible refine gate_callee (f := 33) rfl ?_); refine goesL_ (some 107) rfl rfl Try.func33 (by kernel_rfl) rfl #[.slice v4 b9.length v9, .slice v1 m7.length w3] rfl (by (try simp only [List.map_toArray, List.map_cons, List.map_nil]); first | done | rfl | (simp only [List.length_drop, List.length_take]; rfl)) ?_; (with_reducible refine (Pr01b.calls k1 _ _ b9 _ _ m7 true _ ?e8 ?e7 ?e6 ?e9 O9.out).mono ?_); (case e8 => repeat (first | exact (Kd.R_reads' b3.out).2.2 | (with_reducible refine Kd.C_alloc ?_ _) | (with_reducible refine Kd.C_drewN ?_ _) | (with_reducible refine Kd.C_drew ?_))); (case e7 => exact (Kd.R_reads' b3.out).2.1); (case e6 => repeat (first | exact (Kd.R_reads' g4.out).2.2 | (with_reducible refine Kd.C_alloc ?_ _) | (with_reducible refine Kd.C_drewN ?_ _) | (with_reducible refine Kd.C_drew ?_))); (case e9 => exact (Kd.R_reads' g4.out).2.1); rintro e w' ⟨rfl, ⟨nd, rfl⟩⟩; refine ⟨_, rfl, ?_⟩; obtain ⟨R3, T5, v8⟩ := Kd.R_slice b2.out; subst v8; obtain ⟨Q3, Q9, w6⟩ := Kd.R_slice b1.out; subst w6) | (go_at_call 33; (with_reducible refine (Pr01b.calls k1 _ _ b8 _ _ d5 true _ ?e8 ?e7 ?e6 ?e9 O7.out).mono ?_); (case e8 => repeat (first | exact (Kd.R_reads' b2.out).2.2 | (with_reducible refine Kd.C_alloc ?_ _) | (with_reducible refine Kd.C_drewN ?_ _) | (with_reducible refine Kd.C_drew ?_))); (case e7 => exact (Kd.R_reads' b2.out).2.1); (case e6 => repeat (first | exact (Kd.R_reads' b1.out).2.2 | (with_reducible refine Kd.C_alloc ?_ _) | (with_reducible refine Kd.C_drewN ?_ _) | (with_reducible refine Kd.C_drew ?_))); (case e9 => exact (Kd.R_reads' b1.out).2.1); rintro e w' ⟨rfl, ⟨nd, rfl⟩⟩; obtain ⟨R9, Q8, w8⟩ := Kd.R_slice b5.out; subst w8; obtain ⟨R8, S4, w9⟩ := Kd.R_slice a8.out; subst w9) | (go_at_call 16; (refine (Pr26c.calls k1 0 _ _ ([] : List ByteArray) _ _ b6 0 _ _ ([] : List ByteArray) _ _ d1 true _ ?e8 ?e7 ?e6 ?e9 ?S2 ?P8 ?Q7 ?P7 O6.out).mono ?_); (case e8 => exact Kd.C_nil _ _); (case e7 => exact Nat.le_refl _); (case e6 => repeat (first | exact (Kd.R_reads' b5.out).2.2 | (with_reducible refine Kd.C_alloc ?_ _) | (with_reducible refine Kd.C_drewN ?_ _) | (with_reducible refine Kd.C_drew ?_))); (case e9 => exact (Kd.R_reads' b5.out).2.1); (case S2 => exact Kd.C_nil _ _); (case P8 => exact Nat.le_refl _); (case Q7 => repeat (first | exact (Kd.R_reads' a8.out).2.2 | (with_reducible refine Kd.C_alloc ?_ _) | (with_reducible refine Kd.C_drewN ?_ _) | (with_reducible refine Kd.C_drew ?_))); (case P7 => exact (Kd.R_reads' a8.out).2.1); rintro e n7 ⟨rfl, hb⟩; have a9 := Aside0.mk (Kd.R_below (by (with_reducible repeat (first | apply Kd.R_alloc | apply Kd.R_drewN | apply Kd.R_drew)); exact b3.out) hb); have b0 := Aside0.mk (Kd.R_below (by (with_reducible repeat (first | apply Kd.R_alloc | apply Kd.R_drewN | apply Kd.R_drew)); exact b2.out) hb); have b4 := Aside0.mk (Kd.R_below (by (with_reducible repeat (first | apply Kd.R_alloc | apply Kd.R_drewN | apply Kd.R_drew)); exact b5.out) hb); have b7 := Aside0.mk (Kd.R_below (by (with_reducible repeat (first | apply Kd.R_alloc | apply Kd.R_drewN | apply Kd.R_drew)); exact b1.out) hb); have d0 := Aside0.mk (Kd.R_below (by (with_reducible repeat (first | apply Kd.R_alloc | apply Kd.R_drewN | apply Kd.R_drew)); exact a8.out) hb); have d4 := Aside0.mk (Kd.R_below (by (with_reducible repeat (first | apply Kd.R_alloc | apply Kd.R_drewN | apply Kd.R_drew)); exact g4.out) hb); have d8 := Aside0.mk (blk_below (g := a6) (o := .cells #[.int .i64 a0_0, .slice A0_1 l0_1.length c0_1, .slice A0_2 l0_2.length c0_2] 25 (0, 0)) (by (with_reducible repeat (first | refine blk_drewN ?_ _ | refine blk_drew ?_ | refine blk_alloc ?_ _)); exact a3.out) hb); have d9 := Aside0.mk (below_step (by repeat (first | (with_reducible first | exact HB.out | apply below_alloc | apply pw_below_drewN | apply below_drew1 | refine below_set ?_ a7.out) | exact HB.out)) hb); clear b3; clear b2; clear b5; clear b1; clear a8; clear g4; clear a3; clear HB; have b3 := a9; have b2 := b0; have b5 := b4; have b1 := b7; have a8 := d0; have g4 := d4; have a3 := d8; have HB := d9; clear a9 b0 b4 b7 d0 d4 d8 d9; (try clear hb); (try clear g3); (try clear hk); (try clear hi); have A3 : n7.cell? ⟨a6, 0, none⟩ = some (.int .i64 a0_0) := (blk_cell a3.out 0).trans rfl; have z5 : n7.cell? ⟨a6, 1, none⟩ = some (.slice A0_1 l0_1.length c0_1) := (blk_cell a3.out 1).trans rfl; have C2 : n7.cell? ⟨a6, 2, none⟩ = some (.slice A0_2 l0_2.length c0_2) := (blk_cell a3.out 2).trans rfl; have D0 := blk_frozen a3.out 0; have y9 := blk_frozen a3.out 1; have C8 := blk_frozen a3.out 2) | (go_at_call 31; (with_reducible refine (Pxb.calls k1 a0_0 _ _ l0_1 _ _ l0_2 f4 _ ?e8 ?e7 ?e6 ?e9 P2.out).mono ?_); (case e8 => repeat (first | exact (Kd.C_below f5.out HB.out) | (with_reducible refine Kd.C_alloc ?_ _) | (with_reducible refine Kd.C_drewN ?_ _) | (with_reducible refine Kd.C_drew ?_))); (case e7 => exact f7.out); (case e6 => repeat (first | exact (Kd.C_below f3.out HB.out) | (with_reducible refine Kd.C_alloc ?_ _) | (with_reducible refine Kd.C_drewN ?_ _) | (with_reducible refine Kd.C_drew ?_))); (case e9 => exact f6.out); rintro e W1 ⟨rfl, hb⟩; have a9 := Aside0.mk (Kd.R_below (by (with_reducible repeat (first | apply Kd.R_alloc | apply Kd.R_drewN | apply Kd.R_drew)); exact b3.out) hb); have b0 := Aside0.mk (Kd.R_below (by (with_reducible repeat (first | apply Kd.R_alloc | apply Kd.R_drewN | apply Kd.R_drew)); exact b2.out) hb); have b4 := Aside0.mk (Kd.R_below (by (with_reducible repeat (first | apply Kd.R_alloc | apply Kd.R_drewN | apply Kd.R_drew)); exact b5.out) hb); have b7 := Aside0.mk (Kd.R_below (by (with_reducible repeat (first | apply Kd.R_alloc | apply Kd.R_drewN | apply Kd.R_drew)); exact b1.out) hb); have d0 := Aside0.mk (Kd.R_below (by (with_reducible repeat (first | apply Kd.R_alloc | apply Kd.R_drewN | apply Kd.R_drew)); exact a8.out) hb); have d4 := Aside0.mk (Kd.R_below (by (with_reducible repeat (first | apply Kd.R_alloc | apply Kd.R_drewN | apply Kd.R_drew)); exact g4.out) hb); have d8 := Aside0.mk (blk_below (g := a6) (o := .cells #[.int .i64 a0_0, .slice A0_1 l0_1.length c0_1, .slice A0_2 l0_2.length c0_2] 25 (0, 0)) (by (with_reducible repeat (first | refine blk_drewN ?_ _ | refine blk_drew ?_ | refine blk_alloc ?_ _)); exact a3.out) hb); have d9 := Aside0.mk (below_step (by repeat (first | (with_reducible first | exact HB.out | apply below_alloc | apply pw_below_drewN | apply below_drew1 | refine below_set ?_ a7.out) | exact HB.out)) hb); clear b3; clear b2; clear b5; clear b1; clear a8; clear g4; clear a3; clear HB; have b3 := a9; have b2 := b0; have b5 := b4; have b1 := b7; have a8 := d0; have g4 := d4; have a3 := d8; have HB := d9; clear a9 b0 b4 b7 d0 d4 d8 d9; (try clear hb); (try clear g3); (try clear hk); (try clear hi)) | (go_at_call 24; (with_reducible refine (Pl26b.calls k1  g0 _ y5.out hr_).mono ?_); rintro e V6 ⟨rfl, hb⟩; have a9 := Aside0.mk (Kd.R_below (by (with_reducible repeat (first | apply Kd.R_alloc | apply Kd.R_drewN | apply Kd.R_drew)); exact b3.out) hb); have b0 := Aside0.mk (Kd.R_below (by (with_reducible repeat (first | apply Kd.R_alloc | apply Kd.R_drewN | apply Kd.R_drew)); exact b2.out) hb); have b4 := Aside0.mk (Kd.R_below (by (with_reducible repeat (first | apply Kd.R_alloc | apply Kd.R_drewN | apply Kd.R_drew)); exact b5.out) hb); have b7 := Aside0.mk (Kd.R_below (by (with_reducible repeat (first | apply Kd.R_alloc | apply Kd.R_drewN | apply Kd.R_drew)); exact b1.out) hb); have d0 := Aside0.mk (Kd.R_below (by (with_reducible repeat (first | apply Kd.R_alloc | apply Kd.R_drewN | apply Kd.R_drew)); exact a8.out) hb); have d4 := Aside0.mk (Kd.R_below (by (with_reducible repeat (first | apply Kd.R_alloc | apply Kd.R_drewN | apply Kd.R_drew)); exact g4.out) hb); have d8 := Aside0.mk (blk_below (g := a6) (o := .cells #[.int .i64 a0_0, .slice A0_1 l0_1.length c0_1, .slice A0_2 l0_2.length c0_2] 25 (0, 0)) (by (with_reducible repeat (first | refine blk_drewN ?_ _ | refine blk_drew ?_ | refine blk_alloc ?_ _)); exact a3.out) hb); have d9 := Aside0.mk (below_step (by repeat (first | (with_reducible first | exact HB.out | apply below_alloc | apply pw_below_drewN | apply below_drew1 | refine below_set ?_ a7.out) | exact HB.out)) hb); clear b3; clear b2; clear b5; clear b1; clear a8; clear g4; clear a3; clear HB; have b3 := a9; have b2 := b0; have b5 := b4; have b1 := b7; have a8 := d0; have g4 := d4; have a3 := d8; have HB := d9; clear a9 b0 b4 b7 d0 d4 d8 d9; (try clear hb); (try clear g3); (try clear hk); (try clear hi)))
          go_ret
          exact ⟨by first | rfl | (simp [errW_none, errW_some] <;> rfl) | (simp [*, errW_none, errW_some] <;> rfl), by repeat (first | (with_reducible first | exact HB.out | apply below_alloc | apply pw_below_drewN | apply below_drew1 | refine below_set ?_ a7.out) | exact HB.out)⟩
         ·rw [if_neg h2] at H
          have c100b0 : (f4 == d6) = false := by simpa using h2
          (try (have c100b1 : decide (f4 = d6) = false := by simpa using h2))
          (try (have c100b2 : (f4 == d6) = false := by simpa using h2))
          (try (have c100b3 : ¬ (f4 = d6) := by simpa using h2))
          clear h2
          obtain rfl := Option.some.inj H
          exact absurd hr_.out (by decide)
        ·replace q3 := Bool.eq_false_iff.mpr q3
         subst q3
         have H1 : (some false) = some r := by rw [if_neg (show ¬ (false = true) by decide)] at H; exact H
         clear H
         have H := H1
         clear H1
         obtain rfl := Option.some.inj H
         exact absurd hr_.out (by decide)
       ·replace o4 := Bool.eq_false_iff.mpr o4
        subst o4
        have H1 : (some false) = some r := by rw [if_neg (show ¬ (false = true) by decide)] at H; exact H
        clear H
        have H := H1
        clear H1
        obtain rfl := Option.some.inj H
        exact absurd hr_.out (by decide)
      ·replace p0 := Bool.eq_false_iff.mpr p0
       subst p0
       have H1 : (some false) = some r := by rw [if_neg (show ¬ (false = true) by decide)] at H; exact H
       clear H
       have H := H1
       clear H1
       obtain rfl := Option.some.inj H
       exact absurd hr_.out (by decide)
  ·replace c10 := Bool.eq_false_iff.mpr c10
   subst c10
   have H1 : (if (b9.length : Int) = 0 then (if (b8.length : Int) = 0 then (if (b6.length : Int) = 0 then ((Pxb.f k a0_0 l0_1 l0_2).bind fun g1 => (if g1 = true then (some false) else ((Pl26b.f k).bind fun f8 => (some f8)))) else (some false)) else (some false)) else (some false)) = some r := by rw [if_neg (show ¬ (false = true) by decide)] at H; exact H
   clear H
   have H := H1
   clear H1
   by_cases h9 : (b9.length : Int) = 0
   ·rw [if_pos h9] at H
    have c144b0 : ((b9.length : Int) == 0) = true := beq_iff_eq.mpr h9
    have c144b1 : ((b9.length : Int) != 0) = false := bne_eq_false_iff_eq.mpr h9
    clear h9
    by_cases i3 : (b8.length : Int) = 0
    ·rw [if_pos i3] at H
     have c145b0 : ((b8.length : Int) == 0) = true := beq_iff_eq.mpr i3
     have c145b1 : ((b8.length : Int) != 0) = false := bne_eq_false_iff_eq.mpr i3
     clear i3
     by_cases i2 : (b6.length : Int) = 0
     ·rw [if_pos i2] at H
      have c146b0 : ((b6.length : Int) == 0) = true := beq_iff_eq.mpr i2
      have c146b1 : ((b6.length : Int) != 0) = false := bne_eq_false_iff_eq.mpr i2
      clear i2
      replace H := Option.bind_eq_some_iff.mp H
      obtain ⟨g1, p4, H⟩ := H
      replace H : (if g1 = true then (some false) else ((Pl26b.f k).bind fun f8 => (some f8))) = some r := H
      have B1 := Aside0.mk p4
      clear p4
      by_cases m9 : g1 = true
      ·subst m9
       have H1 : (some false) = some r := by rw [if_pos rfl] at H; exact H
       clear H
       have H := H1
       clear H1
       obtain rfl := Option.some.inj H
       exact absurd hr_.out (by decide)
      ·replace m9 := Bool.eq_false_iff.mpr m9
       subst m9
       have H1 : ((Pl26b.f k).bind fun f8 => (some f8)) = some r := by rw [if_neg (show ¬ (false = true) by decide)] at H; exact H
       clear H
       have H := H1
       clear H1
       replace H := Option.bind_eq_some_iff.mp H
       obtain ⟨f8, p9, H⟩ := H
       replace H : (some f8) = some r := H
       have z4 := Aside0.mk p9
       clear p9
       obtain rfl := Option.some.inj H
       go_enter Try.func7, Try.ntmps7
       try go_wp2_with (first | ((with_reducible refine gate_dst (N := 3) rfl ?_); (try (refine gate_guard (by rfl) ?_; dsimp only)); refine box_event ?hg (N := 3) ?hd (cs := #[.int .i64 a0_0, .slice A0_1 l0_1.length c0_1, .slice A0_2 l0_2.length c0_2]) (t := 25) ?hr ?_; (case hd => rfl); (case hg => rfl); (case hr => first | (go_simp; done) | (go_simp; rfl)); intro a6 hg n6 hbox hb; have a9 := Aside0.mk (below_step (by repeat (first | (with_reducible first | exact HB.out | apply below_alloc | apply pw_below_drewN | apply below_drew1) | exact HB.out)) hb); have b0 := Aside0.mk (hbox); have b4 := Aside0.mk ((by rw [hg]; exact (below_size (by repeat (first | (with_reducible first | exact HB.out | apply below_alloc | apply pw_below_drewN | apply below_drew1) | exact HB.out))) : w.heap.size ≤ a6)); have b7 := Aside0.mk ((by rw [hg]; exact (below_size (by repeat (first | (with_reducible first | exact HB.out | apply below_alloc | apply pw_below_drewN | apply below_drew1) | exact HB.out))) : w.heap.size ≤ a6)); clear HB; have HB := a9; have a3 := b0; have q5 := b4; have a7 := b7; clear a9 b0 b4 b7; clear hb hbox hg; have y4 : n6.cell? ⟨a6, 0, none⟩ = some (.int .i64 a0_0) := (blk_cell a3.out 0).trans rfl; have A2 : n6.cell? ⟨a6, 1, none⟩ = some (.slice A0_1 l0_1.length c0_1) := (blk_cell a3.out 1).trans rfl; have y6 : n6.cell? ⟨a6, 2, none⟩ = some (.slice A0_2 l0_2.length c0_2) := (blk_cell a3.out 2).trans rfl; have y8 := blk_frozen a3.out 0; have z9 := blk_frozen a3.out 1; have z8 := blk_frozen a3.out 2) | ((with_reducible refine gate_callee (f := 23) rfl ?_); refine goesL_ (some 16) rfl rfl Try.func23 (by kernel_rfl) rfl #[.agg #[.int .i64 a0_0, .slice A0_1 l0_1.length c0_1, .slice A0_2 l0_2.length c0_2]] rfl (by (try simp only [List.map_toArray, List.map_cons, List.map_nil]); first | done | rfl | (simp only [List.length_drop, List.length_take]; rfl)) ?_; (with_reducible refine (Pr26a.calls k a0_0 _ _ l0_1 _ _ l0_2 true _ ?e8 ?e7 ?e6 ?e9 A4.out).mono ?_); (case e8 => repeat (first | exact (Kd.C_below f5.out HB.out) | (with_reducible refine Kd.C_alloc ?_ _) | (with_reducible refine Kd.C_drewN ?_ _) | (with_reducible refine Kd.C_drew ?_))); (case e7 => exact f7.out); (case e6 => repeat (first | exact (Kd.C_below f3.out HB.out) | (with_reducible refine Kd.C_alloc ?_ _) | (with_reducible refine Kd.C_drewN ?_ _) | (with_reducible refine Kd.C_drew ?_))); (case e9 => exact f6.out); rintro e x7 ⟨rfl, hb⟩; refine ⟨_, rfl, ?_⟩; have a9 := Aside0.mk (blk_below (g := a6) (o := .cells #[.int .i64 a0_0, .slice A0_1 l0_1.length c0_1, .slice A0_2 l0_2.length c0_2] 25 (0, 0)) (by (with_reducible repeat (first | refine blk_drewN ?_ _ | refine blk_drew ?_ | refine blk_alloc ?_ _)); exact a3.out) hb); have b0 := Aside0.mk (below_step (by repeat (first | (with_reducible first | exact HB.out | apply below_alloc | apply pw_below_drewN | apply below_drew1 | refine below_set ?_ a7.out) | exact HB.out)) hb); clear a3; clear HB; have a3 := a9; have HB := b0; clear a9 b0; (try clear hb); (try clear g3); (try clear hk); (try clear hi)))
       have a9 := Aside0.mk (blk_drew a3.out)
       have b0 := Aside0.mk (below_drew1 HB.out)
       clear a3
       clear HB
       have a3 := a9
       have HB := b0
       clear a9 b0
       refine start_ (n := 14) (S := fun w' => w'.cell? ⟨a6, 0, none⟩ = some (.int .i64 a0_0) ∧ w'.cell? ⟨a6, 1, none⟩ = some (.slice A0_1 l0_1.length c0_1) ∧ w'.cell? ⟨a6, 2, none⟩ = some (.slice A0_2 l0_2.length c0_2)) (ds := []) #[false, false, false, false, false, false, false, false, false, false, false, false, false, false] (by kernel_rfl) rfl rfl ⟨(blk_cell a3.out 0).trans rfl, (blk_cell a3.out 1).trans rfl, (blk_cell a3.out 2).trans rfl⟩ (fun hHeld => ?_); refine with_tabW Pl26a.tab3 Pl26a.bits3 (fun HT_ HW_ => ?_)
       generalize x7.drew = w167 at a3 HB hHeld ⊢
       refine pure_ (i := 1) (N := some 20) (v := ?_) (a' := ?_) #[false, true, false, false, false, false, false, false, false, false, false, false, false, false] rfl rfl (any_of HT_.out (by kernel_rfl)) (fun _ _ _ h => h) (Or.inl ⟨by rfl, ?_⟩) ?_ ?_
       rotate_left
       ·intro w'
        go_simp
        with_reducible rfl
       rotate_left
       ·simp only [Act.put, List.setIfInBounds_toArray, List.set_cons_zero, List.set_cons_succ, i64_w, i32_w]
        rfl
       refine pure_ (i := 2) (N := some 21) (v := ?_) (a' := ?_) #[false, true, true, false, false, false, false, false, false, false, false, false, false, false] rfl rfl (any_of HT_.out (by kernel_rfl)) (fun _ _ _ h => h) (Or.inl ⟨by rfl, ?_⟩) ?_ ?_
       rotate_left
       ·intro w'
        go_simp
        with_reducible rfl
       rotate_left
       ·simp only [Act.put, List.setIfInBounds_toArray, List.set_cons_zero, List.set_cons_succ, i64_w, i32_w]
        rfl
       refine pure_ (i := 5) (N := some 24) (v := ?_) (a' := ?_) #[false, true, true, false, false, true, false, false, false, false, false, false, false, false] rfl rfl (any_of HT_.out (by kernel_rfl)) (fun _ _ _ h => h) (Or.inl ⟨by rfl, ?_⟩) ?_ ?_
       rotate_left
       ·intro w'
        go_simp
        with_reducible rfl
       rotate_left
       ·simp only [Act.put, List.setIfInBounds_toArray, List.set_cons_zero, List.set_cons_succ, i64_w, i32_w]
        rfl
       refine pure_ (i := 6) (N := some 25) (v := ?_) (a' := ?_) #[false, true, true, false, false, true, true, false, false, false, false, false, false, false] rfl rfl (any_of HT_.out (by kernel_rfl)) (fun _ _ _ h => h) (Or.inl ⟨by rfl, ?_⟩) ?_ ?_
       rotate_left
       ·intro w'
        go_simp
        with_reducible rfl
       rotate_left
       ·simp only [Act.put, List.setIfInBounds_toArray, List.set_cons_zero, List.set_cons_succ, i64_w, i32_w]
        rfl
       refine pure_ (i := 9) (N := some 28) (v := ?_) (a' := ?_) #[false, true, true, false, false, true, true, false, false, true, false, false, false, false] rfl rfl (any_of HT_.out (by kernel_rfl)) (fun _ _ _ h => h) (Or.inl ⟨by rfl, ?_⟩) ?_ ?_
       rotate_left
       ·intro w'
        go_simp
        with_reducible rfl
       rotate_left
       ·simp only [Act.put, List.setIfInBounds_toArray, List.set_cons_zero, List.set_cons_succ, i64_w, i32_w]
        rfl
       refine take_ (i := 0) (N := some 19) (v := ?_) (a' := ?_) #[true, true, true, false, false, true, true, false, false, true, false, false, false, false] rfl rfl (take_ofW HT_.out HW_.out (by kernel_rfl)) (fun _ _ _ h => h) (Or.inl ⟨by rfl, ?_⟩) hHeld ?_ ?_
       rotate_left
       ·rintro w' ⟨s0, s1, s2⟩
        go_simp
        with_reducible rfl
       rotate_left
       ·simp only [Act.put, List.setIfInBounds_toArray, List.set_cons_zero, List.set_cons_succ, i64_w, i32_w]
        rfl
       refine take_ (i := 4) (N := some 23) (v := ?_) (a' := ?_) #[true, true, true, false, true, true, true, false, false, true, false, false, false, false] rfl rfl (take_ofW HT_.out HW_.out (by kernel_rfl)) (fun _ _ _ h => h) (Or.inl ⟨by rfl, ?_⟩) hHeld ?_ ?_
       rotate_left
       ·rintro w' ⟨s0, s1, s2⟩
        go_simp
        with_reducible rfl
       rotate_left
       ·simp only [Act.put, List.setIfInBounds_toArray, List.set_cons_zero, List.set_cons_succ, i64_w, i32_w]
        rfl
       refine take_ (i := 8) (N := some 27) (v := ?_) (a' := ?_) #[true, true, true, false, true, true, true, false, true, true, false, false, false, false] rfl rfl (take_ofW HT_.out HW_.out (by kernel_rfl)) (fun _ _ _ h => h) (Or.inl ⟨by rfl, ?_⟩) hHeld ?_ ?_
       rotate_left
       ·rintro w' ⟨s0, s1, s2⟩
        go_simp
        with_reducible rfl
       rotate_left
       ·simp only [Act.put, List.setIfInBounds_toArray, List.set_cons_zero, List.set_cons_succ, i64_w, i32_w]
        rfl
       refine one_ (i := 3) (N := some 22) #[true, true, true, true, true, true, true, false, true, true, false, false, false, false] rfl rfl (one_of HT_.out (by kernel_rfl)) (by decide) (fun K hK => ?_)
       refine goes_ Try.func28 (by kernel_rfl) rfl #[.agg #[.int .i64 a0_0, .slice A0_1 l0_1.length c0_1, .slice A0_2 l0_2.length c0_2], .int .i64 a1, .int .i64 a2] (by rfl) rfl rfl (by (try simp only [List.map_toArray, List.map_cons, List.map_nil]); first | done | rfl | (simp only [List.length_drop, List.length_take]; rfl)) ?_
       with_reducible refine (Pxf.calls k a0_0 _ _ l0_1 _ _ l0_2 a1 a2 b9 _ ?e8 ?e7 ?e6 ?e9 A6.out).mono ?_
       (case e8 => repeat (first | exact (Kd.C_below f5.out HB.out) | (with_reducible refine Kd.C_alloc ?_ _) | (with_reducible refine Kd.C_drewN ?_ _) | (with_reducible refine Kd.C_drew ?_)))
       (case e7 => exact f7.out)
       (case e6 => repeat (first | exact (Kd.C_below f3.out HB.out) | (with_reducible refine Kd.C_alloc ?_ _) | (with_reducible refine Kd.C_drewN ?_ _) | (with_reducible refine Kd.C_drew ?_)))
       (case e9 => exact f6.out)
       rintro e T9 ⟨g6, rfl, e0, hb⟩
       refine ⟨_, rfl, ?_⟩
       have a9 := Aside0.mk (Kd.R_lower e0 (below_size (by repeat (first | (with_reducible first | exact HB.out | apply below_alloc | apply pw_below_drewN | apply below_drew1 | refine below_set ?_ a7.out) | exact HB.out))))
       have b0 := Aside0.mk (blk_below (g := a6) (o := .cells #[.int .i64 a0_0, .slice A0_1 l0_1.length c0_1, .slice A0_2 l0_2.length c0_2] 25 (0, 0)) (by (with_reducible repeat (first | refine blk_drewN ?_ _ | refine blk_drew ?_ | refine blk_alloc ?_ _)); exact a3.out) hb)
       have b4 := Aside0.mk (below_step (by repeat (first | (with_reducible first | exact HB.out | apply below_alloc | apply pw_below_drewN | apply below_drew1 | refine below_set ?_ a7.out) | exact HB.out)) hb)
       clear a3
       clear HB
       have d2 := a9
       have a3 := b0
       have HB := b4
       clear a9 b0 b4
       (try clear hb)
       (try clear g3)
       (try clear hk)
       (try clear hi)
       (try clear e0)
       refine hK.out _ _ ⟨(blk_cell a3.out 0).trans rfl, (blk_cell a3.out 1).trans rfl, (blk_cell a3.out 2).trans rfl⟩ (fun hHeld => ?_)
       clear hK K
       refine norm_ (a' := ?_) ?_ ?_
       rotate_left
       ·show Act.put _ (some 22) _ = _
        simp only [Act.put, List.setIfInBounds_toArray, List.set_cons_zero, List.set_cons_succ, i64_w, i32_w]
        rfl
       refine one_ (i := 7) (N := some 26) #[true, true, true, true, true, true, true, true, true, true, false, false, false, false] rfl rfl (one_of HT_.out (by kernel_rfl)) (by decide) (fun K hK => ?_)
       refine goes_ Try.func29 (by kernel_rfl) rfl #[.agg #[.int .i64 a0_0, .slice A0_1 l0_1.length c0_1, .slice A0_2 l0_2.length c0_2], .int .i64 a1, .int .i64 a2] (by rfl) rfl rfl (by (try simp only [List.map_toArray, List.map_cons, List.map_nil]); first | done | rfl | (simp only [List.length_drop, List.length_take]; rfl)) ?_
       with_reducible refine (Pxe.calls k a0_0 _ _ l0_1 _ _ l0_2 a1 a2 b8 _ ?e8 ?e7 ?e6 ?e9 A7.out).mono ?_
       (case e8 => repeat (first | exact (Kd.C_below f5.out HB.out) | (with_reducible refine Kd.C_alloc ?_ _) | (with_reducible refine Kd.C_drewN ?_ _) | (with_reducible refine Kd.C_drew ?_)))
       (case e7 => exact f7.out)
       (case e6 => repeat (first | exact (Kd.C_below f3.out HB.out) | (with_reducible refine Kd.C_alloc ?_ _) | (with_reducible refine Kd.C_drewN ?_ _) | (with_reducible refine Kd.C_drew ?_)))
       (case e9 => exact f6.out)
       rintro e V2 ⟨g5, rfl, e0, hb⟩
       refine ⟨_, rfl, ?_⟩
       have a9 := Aside0.mk (Kd.R_elder' (by (with_reducible repeat (first | apply Kd.R_alloc | apply Kd.R_drewN | apply Kd.R_drew)); exact d2.out) (Kd.R_base e0) hb)
       have b0 := Aside0.mk (Kd.R_lower (Kd.R_new' e0 (Kd.R_lt (by (with_reducible repeat (first | apply Kd.R_alloc | apply Kd.R_drewN | apply Kd.R_drew)); exact d2.out))) (below_size (by repeat (first | (with_reducible first | exact HB.out | apply below_alloc | apply pw_below_drewN | apply below_drew1 | refine below_set ?_ a7.out) | exact HB.out))))
       have b4 := Aside0.mk (blk_below (g := a6) (o := .cells #[.int .i64 a0_0, .slice A0_1 l0_1.length c0_1, .slice A0_2 l0_2.length c0_2] 25 (0, 0)) (by (with_reducible repeat (first | refine blk_drewN ?_ _ | refine blk_drew ?_ | refine blk_alloc ?_ _)); exact a3.out) hb)
       have b7 := Aside0.mk (below_step (by repeat (first | (with_reducible first | exact HB.out | apply below_alloc | apply pw_below_drewN | apply below_drew1 | refine below_set ?_ a7.out) | exact HB.out)) hb)
       clear d2
       clear a3
       clear HB
       have d2 := a9
       have e1 := b0
       have a3 := b4
       have HB := b7
       clear a9 b0 b4 b7
       (try clear hb)
       (try clear g3)
       (try clear hk)
       (try clear hi)
       (try clear e0)
       refine hK.out _ _ ⟨(blk_cell a3.out 0).trans rfl, (blk_cell a3.out 1).trans rfl, (blk_cell a3.out 2).trans rfl⟩ (fun hHeld => ?_)
       clear hK K
       refine norm_ (a' := ?_) ?_ ?_
       rotate_left
       ·show Act.put _ (some 26) _ = _
        simp only [Act.put, List.setIfInBounds_toArray, List.set_cons_zero, List.set_cons_succ, i64_w, i32_w]
        rfl
       refine one_ (i := 10) (N := some 29) #[true, true, true, true, true, true, true, true, true, true, true, false, false, false] rfl rfl (one_of HT_.out (by kernel_rfl)) (by decide) (fun K hK => ?_)
       refine goes_ Try.func30 (by kernel_rfl) rfl #[.agg #[.int .i64 a0_0, .slice A0_1 l0_1.length c0_1, .slice A0_2 l0_2.length c0_2], .int .i64 a1] (by rfl) rfl rfl (by (try simp only [List.map_toArray, List.map_cons, List.map_nil]); first | done | rfl | (simp only [List.length_drop, List.length_take]; rfl)) ?_
       with_reducible refine (Pxg.calls a0_0 _ _ l0_1 _ _ l0_2 a1 b6 _ ?e8 ?e7 ?e6 ?e9 A8.out).mono ?_
       (case e8 => repeat (first | exact (Kd.C_below f5.out HB.out) | (with_reducible refine Kd.C_alloc ?_ _) | (with_reducible refine Kd.C_drewN ?_ _) | (with_reducible refine Kd.C_drew ?_)))
       (case e7 => exact f7.out)
       (case e6 => repeat (first | exact (Kd.C_below f3.out HB.out) | (with_reducible refine Kd.C_alloc ?_ _) | (with_reducible refine Kd.C_drewN ?_ _) | (with_reducible refine Kd.C_drew ?_)))
       (case e9 => exact f6.out)
       rintro e n8 ⟨h6, rfl, e0, hb⟩
       refine ⟨_, rfl, ?_⟩
       have a9 := Aside0.mk (Kd.R_below (by (with_reducible repeat (first | apply Kd.R_alloc | apply Kd.R_drewN | apply Kd.R_drew)); exact d2.out) hb)
       have b0 := Aside0.mk (Kd.R_below (by (with_reducible repeat (first | apply Kd.R_alloc | apply Kd.R_drewN | apply Kd.R_drew)); exact e1.out) hb)
       have b4 := Aside0.mk (Kd.R_lower e0 (below_size (by repeat (first | (with_reducible first | exact HB.out | apply below_alloc | apply pw_below_drewN | apply below_drew1 | refine below_set ?_ a7.out) | exact HB.out))))
       have b7 := Aside0.mk (blk_below (g := a6) (o := .cells #[.int .i64 a0_0, .slice A0_1 l0_1.length c0_1, .slice A0_2 l0_2.length c0_2] 25 (0, 0)) (by (with_reducible repeat (first | refine blk_drewN ?_ _ | refine blk_drew ?_ | refine blk_alloc ?_ _)); exact a3.out) hb)
       have d0 := Aside0.mk (below_step (by repeat (first | (with_reducible first | exact HB.out | apply below_alloc | apply pw_below_drewN | apply below_drew1 | refine below_set ?_ a7.out) | exact HB.out)) hb)
       clear d2
       clear e1
       clear a3
       clear HB
       have d2 := a9
       have e1 := b0
       have e2 := b4
       have a3 := b7
       have HB := d0
       clear a9 b0 b4 b7 d0
       (try clear hb)
       (try clear g3)
       (try clear hk)
       (try clear hi)
       (try clear e0)
       refine hK.out _ _ ⟨(blk_cell a3.out 0).trans rfl, (blk_cell a3.out 1).trans rfl, (blk_cell a3.out 2).trans rfl⟩ (fun hHeld => ?_)
       clear hK K
       refine norm_ (a' := ?_) ?_ ?_
       rotate_left
       ·show Act.put _ (some 29) _ = _
        simp only [Act.put, List.setIfInBounds_toArray, List.set_cons_zero, List.set_cons_succ, i64_w, i32_w]
        rfl
       refine pure_ (i := 11) (N := some 7) (v := ?_) (a' := ?_) #[true, true, true, true, true, true, true, true, true, true, true, true, false, false] rfl rfl (any_of HT_.out (by kernel_rfl)) (fun _ _ _ h => h) (Or.inl ⟨by rfl, ?_⟩) ?_ ?_
       rotate_left
       ·intro w'
        go_simp
        with_reducible rfl
       rotate_left
       ·simp only [Act.put, List.setIfInBounds_toArray, List.set_cons_zero, List.set_cons_succ, i64_w, i32_w]
        rfl
       refine pure_ (i := 12) (N := some 8) (v := ?_) (a' := ?_) #[true, true, true, true, true, true, true, true, true, true, true, true, true, false] rfl rfl (any_of HT_.out (by kernel_rfl)) (fun _ _ _ h => h) (Or.inl ⟨by rfl, ?_⟩) ?_ ?_
       rotate_left
       ·intro w'
        go_simp
        with_reducible rfl
       rotate_left
       ·simp only [Act.put, List.setIfInBounds_toArray, List.set_cons_zero, List.set_cons_succ, i64_w, i32_w]
        rfl
       refine pure_ (i := 13) (N := some 9) (v := ?_) (a' := ?_) #[true, true, true, true, true, true, true, true, true, true, true, true, true, true] rfl rfl (any_of HT_.out (by kernel_rfl)) (fun _ _ _ h => h) (Or.inl ⟨by rfl, ?_⟩) ?_ ?_
       rotate_left
       ·intro w'
        go_simp
        with_reducible rfl
       rotate_left
       ·simp only [Act.put, List.setIfInBounds_toArray, List.set_cons_zero, List.set_cons_succ, i64_w, i32_w]
        rfl
       refine done_ (done_of HT_.out (by kernel_rfl)) ?_
       have B8 : n8.cell? ⟨a6, 0, none⟩ = some (.int .i64 a0_0) := (blk_cell a3.out 0).trans rfl
       have B9 : n8.cell? ⟨a6, 1, none⟩ = some (.slice A0_1 l0_1.length c0_1) := (blk_cell a3.out 1).trans rfl
       have C5 : n8.cell? ⟨a6, 2, none⟩ = some (.slice A0_2 l0_2.length c0_2) := (blk_cell a3.out 2).trans rfl
       have z1 := blk_frozen a3.out 0
       have y1 := blk_frozen a3.out 1
       have B4 := blk_frozen a3.out 2
       try go_wp2_with (first | ((with_reducible refine gate_callee (f := 15) rfl ?_); refine goesL_ (some 31) rfl rfl Try.func15 (by kernel_rfl) rfl #[.agg #[.int .i64 a0_0, .slice A0_1 l0_1.length c0_1, .slice A0_2 l0_2.length c0_2]] rfl (by (try simp only [List.map_toArray, List.map_cons, List.map_nil]); first | done | rfl | (simp only [List.length_drop, List.length_take]; rfl)) ?_; (with_reducible refine (Pr26d.calls a0_0 _ _ l0_1 _ _ l0_2 false _ ?e8 ?e7 ?e6 ?e9 A9.out).mono ?_); (case e8 => repeat (first | exact (Kd.C_below f5.out HB.out) | (with_reducible refine Kd.C_alloc ?_ _) | (with_reducible refine Kd.C_drewN ?_ _) | (with_reducible refine Kd.C_drew ?_))); (case e7 => exact f7.out); (case e6 => repeat (first | exact (Kd.C_below f3.out HB.out) | (with_reducible refine Kd.C_alloc ?_ _) | (with_reducible refine Kd.C_drewN ?_ _) | (with_reducible refine Kd.C_drew ?_))); (case e9 => exact f6.out); rintro e o0 ⟨rfl, hb⟩; refine ⟨_, rfl, ?_⟩; have a9 := Aside0.mk (Kd.R_below (by (with_reducible repeat (first | apply Kd.R_alloc | apply Kd.R_drewN | apply Kd.R_drew)); exact d2.out) hb); have b0 := Aside0.mk (Kd.R_below (by (with_reducible repeat (first | apply Kd.R_alloc | apply Kd.R_drewN | apply Kd.R_drew)); exact e1.out) hb); have b4 := Aside0.mk (Kd.R_below (by (with_reducible repeat (first | apply Kd.R_alloc | apply Kd.R_drewN | apply Kd.R_drew)); exact e2.out) hb); have b7 := Aside0.mk (blk_below (g := a6) (o := .cells #[.int .i64 a0_0, .slice A0_1 l0_1.length c0_1, .slice A0_2 l0_2.length c0_2] 25 (0, 0)) (by (with_reducible repeat (first | refine blk_drewN ?_ _ | refine blk_drew ?_ | refine blk_alloc ?_ _)); exact a3.out) hb); have d0 := Aside0.mk (below_step (by repeat (first | (with_reducible first | exact HB.out | apply below_alloc | apply pw_below_drewN | apply below_drew1 | refine below_set ?_ a7.out) | exact HB.out)) hb); clear d2; clear e1; clear e2; clear a3; clear HB; have d2 := a9; have e1 := b0; have e2 := b4; have a3 := b7; have HB := d0; clear a9 b0 b4 b7 d0; (try clear hb); (try clear g3); (try clear hk); (try clear hi); obtain ⟨T1, R1, w7⟩ := Kd.R_slice d2.out; subst w7; obtain ⟨P6, R5, w1⟩ := Kd.R_slice e1.out; subst w1; obtain ⟨R7, T6, w5⟩ := Kd.R_slice e2.out; subst w5; have x8 : o0.cell? ⟨a6, 0, none⟩ = some (.int .i64 a0_0) := (blk_cell a3.out 0).trans rfl; have z0 : o0.cell? ⟨a6, 1, none⟩ = some (.slice A0_1 l0_1.length c0_1) := (blk_cell a3.out 1).trans rfl; have z2 : o0.cell? ⟨a6, 2, none⟩ = some (.slice A0_2 l0_2.length c0_2) := (blk_cell a3.out 2).trans rfl; have y3 := blk_frozen a3.out 0; have C4 := blk_frozen a3.out 1; have y7 := blk_frozen a3.out 2) | (go_at_call 31; (with_reducible refine (Pxb.calls k a0_0 _ _ l0_1 _ _ l0_2 false _ ?e8 ?e7 ?e6 ?e9 B1.out).mono ?_); (case e8 => repeat (first | exact (Kd.C_below f5.out HB.out) | (with_reducible refine Kd.C_alloc ?_ _) | (with_reducible refine Kd.C_drewN ?_ _) | (with_reducible refine Kd.C_drew ?_))); (case e7 => exact f7.out); (case e6 => repeat (first | exact (Kd.C_below f3.out HB.out) | (with_reducible refine Kd.C_alloc ?_ _) | (with_reducible refine Kd.C_drewN ?_ _) | (with_reducible refine Kd.C_drew ?_))); (case e9 => exact f6.out); rintro e V3 ⟨rfl, hb⟩; have a9 := Aside0.mk (Kd.R_below (by (with_reducible repeat (first | apply Kd.R_alloc | apply Kd.R_drewN | apply Kd.R_drew)); exact d2.out) hb); have b0 := Aside0.mk (Kd.R_below (by (with_reducible repeat (first | apply Kd.R_alloc | apply Kd.R_drewN | apply Kd.R_drew)); exact e1.out) hb); have b4 := Aside0.mk (Kd.R_below (by (with_reducible repeat (first | apply Kd.R_alloc | apply Kd.R_drewN | apply Kd.R_drew)); exact e2.out) hb); have b7 := Aside0.mk (blk_below (g := a6) (o := .cells #[.int .i64 a0_0, .slice A0_1 l0_1.length c0_1, .slice A0_2 l0_2.length c0_2] 25 (0, 0)) (by (with_reducible repeat (first | refine blk_drewN ?_ _ | refine blk_drew ?_ | refine blk_alloc ?_ _)); exact a3.out) hb); have d0 := Aside0.mk (below_step (by repeat (first | (with_reducible first | exact HB.out | apply below_alloc | apply pw_below_drewN | apply below_drew1 | refine below_set ?_ a7.out) | exact HB.out)) hb); clear d2; clear e1; clear e2; clear a3; clear HB; have d2 := a9; have e1 := b0; have e2 := b4; have a3 := b7; have HB := d0; clear a9 b0 b4 b7 d0; (try clear hb); (try clear g3); (try clear hk); (try clear hi)) | (go_at_call 24; (with_reducible refine (Pl26b.calls k  f8 _ z4.out hr_).mono ?_); rintro e U7 ⟨rfl, hb⟩; have a9 := Aside0.mk (Kd.R_below (by (with_reducible repeat (first | apply Kd.R_alloc | apply Kd.R_drewN | apply Kd.R_drew)); exact d2.out) hb); have b0 := Aside0.mk (Kd.R_below (by (with_reducible repeat (first | apply Kd.R_alloc | apply Kd.R_drewN | apply Kd.R_drew)); exact e1.out) hb); have b4 := Aside0.mk (Kd.R_below (by (with_reducible repeat (first | apply Kd.R_alloc | apply Kd.R_drewN | apply Kd.R_drew)); exact e2.out) hb); have b7 := Aside0.mk (blk_below (g := a6) (o := .cells #[.int .i64 a0_0, .slice A0_1 l0_1.length c0_1, .slice A0_2 l0_2.length c0_2] 25 (0, 0)) (by (with_reducible repeat (first | refine blk_drewN ?_ _ | refine blk_drew ?_ | refine blk_alloc ?_ _)); exact a3.out) hb); have d0 := Aside0.mk (below_step (by repeat (first | (with_reducible first | exact HB.out | apply below_alloc | apply pw_below_drewN | apply below_drew1 | refine below_set ?_ a7.out) | exact HB.out)) hb); clear d2; clear e1; clear e2; clear a3; clear HB; have d2 := a9; have e1 := b0; have e2 := b4; have a3 := b7; have HB := d0; clear a9 b0 b4 b7 d0; (try clear hb); (try clear g3); (try clear hk); (try clear hi)))
       go_ret
       exact ⟨by first | rfl | (simp [errW_none, errW_some] <;> rfl) | (simp [*, errW_none, errW_some] <;> rfl), by repeat (first | (with_reducible first | exact HB.out | apply below_alloc | apply pw_below_drewN | apply below_drew1 | refine below_set ?_ a7.out) | exact HB.out)⟩
     ·rw [if_neg i2] at H
      have c146b0 : ((b6.length : Int) == 0) = false := beq_eq_false_iff_ne.mpr i2
      have c146b1 : ((b6.length : Int) != 0) = true := bne_iff_ne.mpr i2
      have c146b2 : ¬ (b6 = []) := fun h_ => i2 (by rw [h_]; rfl)
      obtain rfl := Option.some.inj H
      exact absurd hr_.out (by decide)
    ·rw [if_neg i3] at H
     have c145b0 : ((b8.length : Int) == 0) = false := beq_eq_false_iff_ne.mpr i3
     have c145b1 : ((b8.length : Int) != 0) = true := bne_iff_ne.mpr i3
     have c145b2 : ¬ (b8 = []) := fun h_ => i3 (by rw [h_]; rfl)
     obtain rfl := Option.some.inj H
     exact absurd hr_.out (by decide)
   ·rw [if_neg h9] at H
    have c144b0 : ((b9.length : Int) == 0) = false := beq_eq_false_iff_ne.mpr h9
    have c144b1 : ((b9.length : Int) != 0) = true := bne_iff_ne.mpr h9
    have c144b2 : ¬ (b9 = []) := fun h_ => h9 (by rw [h_]; rfl)
    obtain rfl := Option.some.inj H
    exact absurd hr_.out (by decide)
 ·replace c5 := Bool.eq_false_iff.mpr c5
  subst c5
  have H1 : ((Pl26b.f k).bind fun i0 => (some i0)) = some r := by rw [if_neg (show ¬ (false = true) by decide)] at H; exact H
  clear H
  have H := H1
  clear H1
  replace H := Option.bind_eq_some_iff.mp H
  obtain ⟨i0, q1, H⟩ := H
  replace H : (some i0) = some r := H
  have C3 := Aside0.mk q1
  clear q1
  obtain rfl := Option.some.inj H
  go_enter Try.func7, Try.ntmps7
  go_wp2_with (first | ((with_reducible refine gate_dst (N := 3) rfl ?_); (try (refine gate_guard (by rfl) ?_; dsimp only)); refine box_event ?hg (N := 3) ?hd (cs := #[.int .i64 a0_0, .slice A0_1 l0_1.length c0_1, .slice A0_2 l0_2.length c0_2]) (t := 25) ?hr ?_; (case hd => rfl); (case hg => rfl); (case hr => first | (go_simp; done) | (go_simp; rfl)); intro a6 hg n5 hbox hb; have a9 := Aside0.mk (below_step (by repeat (first | (with_reducible first | exact HB.out | apply below_alloc | apply pw_below_drewN | apply below_drew1) | exact HB.out)) hb); have b0 := Aside0.mk (hbox); have b4 := Aside0.mk ((by rw [hg]; exact (below_size (by repeat (first | (with_reducible first | exact HB.out | apply below_alloc | apply pw_below_drewN | apply below_drew1) | exact HB.out))) : w.heap.size ≤ a6)); have b7 := Aside0.mk ((by rw [hg]; exact (below_size (by repeat (first | (with_reducible first | exact HB.out | apply below_alloc | apply pw_below_drewN | apply below_drew1) | exact HB.out))) : w.heap.size ≤ a6)); clear HB; have HB := a9; have a3 := b0; have q5 := b4; have a7 := b7; clear a9 b0 b4 b7; clear hb hbox hg; have C1 : n5.cell? ⟨a6, 0, none⟩ = some (.int .i64 a0_0) := (blk_cell a3.out 0).trans rfl; have B0 : n5.cell? ⟨a6, 1, none⟩ = some (.slice A0_1 l0_1.length c0_1) := (blk_cell a3.out 1).trans rfl; have A5 : n5.cell? ⟨a6, 2, none⟩ = some (.slice A0_2 l0_2.length c0_2) := (blk_cell a3.out 2).trans rfl; have y0 := blk_frozen a3.out 0; have z7 := blk_frozen a3.out 1; have y2 := blk_frozen a3.out 2) | ((with_reducible refine gate_callee (f := 23) rfl ?_); refine goesL_ (some 16) rfl rfl Try.func23 (by kernel_rfl) rfl #[.agg #[.int .i64 a0_0, .slice A0_1 l0_1.length c0_1, .slice A0_2 l0_2.length c0_2]] rfl (by (try simp only [List.map_toArray, List.map_cons, List.map_nil]); first | done | rfl | (simp only [List.length_drop, List.length_take]; rfl)) ?_; (with_reducible refine (Pr26a.calls k a0_0 _ _ l0_1 _ _ l0_2 false _ ?e8 ?e7 ?e6 ?e9 A4.out).mono ?_); (case e8 => repeat (first | exact (Kd.C_below f5.out HB.out) | (with_reducible refine Kd.C_alloc ?_ _) | (with_reducible refine Kd.C_drewN ?_ _) | (with_reducible refine Kd.C_drew ?_))); (case e7 => exact f7.out); (case e6 => repeat (first | exact (Kd.C_below f3.out HB.out) | (with_reducible refine Kd.C_alloc ?_ _) | (with_reducible refine Kd.C_drewN ?_ _) | (with_reducible refine Kd.C_drew ?_))); (case e9 => exact f6.out); rintro e U9 ⟨rfl, hb⟩; refine ⟨_, rfl, ?_⟩; have a9 := Aside0.mk (blk_below (g := a6) (o := .cells #[.int .i64 a0_0, .slice A0_1 l0_1.length c0_1, .slice A0_2 l0_2.length c0_2] 25 (0, 0)) (by (with_reducible repeat (first | refine blk_drewN ?_ _ | refine blk_drew ?_ | refine blk_alloc ?_ _)); exact a3.out) hb); have b0 := Aside0.mk (below_step (by repeat (first | (with_reducible first | exact HB.out | apply below_alloc | apply pw_below_drewN | apply below_drew1 | refine below_set ?_ a7.out) | exact HB.out)) hb); clear a3; clear HB; have a3 := a9; have HB := b0; clear a9 b0; (try clear hb); (try clear g3); (try clear hk); (try clear hi)) | ((with_reducible refine gate_callee (f := 24) rfl ?_); refine goesL_ (some 18) rfl rfl Try.func24 (by kernel_rfl) rfl #[] rfl (by (try simp only [List.map_toArray, List.map_cons, List.map_nil]); first | done | rfl | (simp only [List.length_drop, List.length_take]; rfl)) ?_; (with_reducible refine (Pl26b.calls k  i0 _ C3.out hr_).mono ?_); rintro e U3 ⟨rfl, hb⟩; refine ⟨_, rfl, ?_⟩; have a9 := Aside0.mk (blk_below (g := a6) (o := .cells #[.int .i64 a0_0, .slice A0_1 l0_1.length c0_1, .slice A0_2 l0_2.length c0_2] 25 (0, 0)) (by (with_reducible repeat (first | refine blk_drewN ?_ _ | refine blk_drew ?_ | refine blk_alloc ?_ _)); exact a3.out) hb); have b0 := Aside0.mk (below_step (by repeat (first | (with_reducible first | exact HB.out | apply below_alloc | apply pw_below_drewN | apply below_drew1 | refine below_set ?_ a7.out) | exact HB.out)) hb); clear a3; clear HB; have a3 := a9; have HB := b0; clear a9 b0; (try clear hb); (try clear g3); (try clear hk); (try clear hi)))
  go_ret
  exact ⟨by first | rfl | (simp [errW_none, errW_some] <;> rfl) | (simp [*, errW_none, errW_some] <;> rfl), by repeat (first | (with_reducible first | exact HB.out | apply below_alloc | apply pw_below_drewN | apply below_drew1 | refine below_set ?_ a7.out) | exact HB.out)⟩
end Go.Proofs.Ythaaockbapbooaa.Pr
set_option linter.unusedVariables false
set_option linter.unusedSimpArgs false
namespace Go.Proofs.Ythaaockbapbooaa.H
open Go.RowKit Go.Proofs.Ythaaockbapbooaa.Pr Go.Proofs.YthaaockbapbooaaW.PrintWords Go.Proofs.Ythaaockbapbooaa.Sem
theorem Ev.pos {α : Type} {c : Prop} [Decidable c] {a b : Nat → Option α} {r : α} (h : c) (e : Ev a r) : Ev (fun k => if c then a k else b k) r := by
 simp only [if_pos h]
 exact e
theorem Ev.neg {α : Type} {c : Prop} [Decidable c] {a b : Nat → Option α} {r : α} (h : ¬ c) (e : Ev b r) : Ev (fun k => if c then a k else b k) r := by
 simp only [if_neg h]
 exact e
theorem Ev.bindS {α β : Type} {g : Option α} {f : Nat → α → Option β} {a : α} {r : β} (h : g = some a) (k : Ev (fun n => f n a) r) : Ev (fun n => g.bind (f n)) r := by
 subst h
 simpa using k
theorem Ev.last {α : Type} {g : Nat → Option α} {r : α} (h : Ev g r) : Ev (fun n => (g n).bind fun t => some t) r := by
 obtain ⟨K, h⟩ := h
 exact ⟨K, fun k hk => by simp [h k hk]⟩
theorem w1n {k : Nat} (h1 : (k : Int) < 4611686018427387904) : wrap64 ((k : Int) + 1) = ((k + 1 : Nat) : Int) := by unfold wrap64; omega
theorem rd51 (es : List Ed) (i : Nat) : rd_T51 es (i : Int) = es.getD i z51 := rfl
end Go.Proofs.Ythaaockbapbooaa.H
set_option linter.unusedVariables false
set_option linter.unusedSimpArgs false
namespace Go.Proofs.Ythaaockbapbooaa.H
open Go.RowKit Go.Proofs.Ythaaockbapbooaa.Pr Go.Proofs.YthaaockbapbooaaW.PrintWords Go.Proofs.Ythaaockbapbooaa.Sem
def SmallL (n : Int) (ls : List ByteArray) (es : List Ed) : Prop := (n ≤ 60 ∨ 2048 < n) ∧ es.length ≤ 200 ∧ ls.length < 70
theorem light26_end (n : Int) (ls : List ByteArray) (es : List Ed) (i : Int) : ∃ b, Ev (fun k => Pr26a.j1 k i false n ls es) b ∧ (b = true → SmallL n ls es) := by
 by_cases h1 : (ls.length : Int) < 70
 ·by_cases h2 : (es.length : Int) ≤ 200
  ·by_cases h3 : n ≤ 60
   ·exact ⟨true, Ev.step (fun k => Pr26a.j1.eq_2 ..) (Ev.neg (by simp) (Ev.pos h1 (Ev.pos h2 (Ev.pos h3 (Ev.now _))))), fun _ => ⟨.inl h3, by omega, by omega⟩⟩
   ·exact ⟨decide (n > 2048), Ev.step (fun k => Pr26a.j1.eq_2 ..) (Ev.neg (by simp) (Ev.pos h1 (Ev.pos h2 (Ev.neg h3 (Ev.now _))))), fun h => ⟨.inr (of_decide_eq_true h), by omega, by omega⟩⟩
  ·exact ⟨false, Ev.step (fun k => Pr26a.j1.eq_2 ..) (Ev.neg (by simp) (Ev.pos h1 (Ev.neg h2 (Ev.now _)))), fun h => by cases h⟩
 ·exact ⟨false, Ev.step (fun k => Pr26a.j1.eq_2 ..) (Ev.neg (by simp) (Ev.neg h1 (Ev.now _))), fun h => by cases h⟩
theorem light26_ev (n : Int) (ls : List ByteArray) (es : List Ed) : ∀ d i : Nat, i + d = 70 → ∃ b, Ev (fun k => Pr26a.l0 k (i : Int) n ls es) b ∧ (b = true → SmallL n ls es)
 | 0, i, h => by
  obtain ⟨b, e, hb⟩ := light26_end n ls es (i : Int)
  refine ⟨b, Ev.step (fun k => Pr26a.l0.eq_2 ..) ?_, hb⟩
  rw [decide_eq_false (show ¬ (i : Int) < 70 by omega)]
  simp only [ite_self]
  exact e
 | d + 1, i, h => by
  by_cases hl : (i : Int) < (ls.length : Int)
  ·by_cases hs : ((rdOf ByteArray.empty ls (i : Int)).size : Int) > 300
   ·refine ⟨false, Ev.step (fun k => Pr26a.l0.eq_2 ..) (Ev.pos hl ?_), fun h => by cases h⟩
    rw [decide_eq_true (show (i : Int) < 70 by omega)]
    exact Ev.step (fun k => Pr26a.j1.eq_2 ..) (Ev.pos rfl (Ev.pos (by omega) (Ev.pos hl (Ev.pos hs (Ev.now _)))))
   ·obtain ⟨b, e, hb⟩ := light26_ev n ls es d (i + 1) (by omega)
    refine ⟨b, Ev.step (fun k => Pr26a.l0.eq_2 ..) (Ev.pos hl ?_), hb⟩
    rw [decide_eq_true (show (i : Int) < 70 by omega)]
    refine Ev.step (fun k => Pr26a.j1.eq_2 ..) (Ev.pos rfl (Ev.pos (by omega) (Ev.pos hl (Ev.neg hs ?_))))
    rw [w1n (by omega)]
    exact e
  ·obtain ⟨b, e, hb⟩ := light26_end n ls es (i : Int)
   exact ⟨b, Ev.step (fun k => Pr26a.l0.eq_2 ..) (Ev.neg hl e), hb⟩
theorem light_ev (n : Int) (ls : List ByteArray) (es : List Ed) : ∃ b, Ev (fun k => Pr26a.f k n ls es) b ∧ (b = true → SmallL n ls es) := light26_ev n ls es 70 0 rfl
theorem awake26 : Ev (fun k => Pl26b.f k) true := Ev.of Pl26b.mono (k := 20) (by kernel_rfl)
end Go.Proofs.Ythaaockbapbooaa.H
