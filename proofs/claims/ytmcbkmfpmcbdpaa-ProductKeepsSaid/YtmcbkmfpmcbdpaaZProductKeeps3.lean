/-
  Parts of the proof of ProductKeeps (joined by wip/tools/bundle.py), part 3: plain words and walks of the functions that the law reaches.
-/
import Derived.Test.YtmcbkmfpmcbdpaaZProductKeeps2
namespace Go.Proofs.Ytmcbkmfpmcbdpaa.Pr
open Go.RowKit Go.Proofs.YtmcbkmfpmcbdpaaW.PrintWords Go.Proofs.YtmcbkmfpmcbdpaaW.PrintLast Go.Proofs.YtmcbkmfpmcbdpaaW.PrintMore
attribute [local go_sem] max2_int min2_int max_two min_two max_three min_three max_four min_four
set_option linter.unusedVariables false
set_option linter.unusedSimpArgs false
def Pl50b.f (k : Nat)  : Option (Bool) := (some (([(⟨#[97]⟩ : ByteArray)] : List ByteArray) : List ByteArray)).bind fun y170 => ((some (([(⟨0, 0, 0⟩ : S80)] : List (S80)) : List (S80))).bind fun y173 => ((some (([(⟨#[97]⟩ : ByteArray), (⟨#[98]⟩ : ByteArray)] : List ByteArray) : List ByteArray)).bind fun y177 => ((some (([(⟨0, 1, 1⟩ : S80), (⟨1, 0, 0⟩ : S80)] : List (S80)) : List (S80))).bind fun y180 => ((Pxg.f k 1 y170 y173 2 y177 y180).bind fun bt184 => ((Pxd.f 1 y170 y173 2 y177 y180 1).bind fun bt193 => (if bt184.2.2.2 = 0 then (if bt184.1 = 2 then ((Pr26a.f k bt184.1 bt184.2.1 bt184.2.2.1 2 y177 y180).bind fun t195 => (if t195 = true then (if bt193.1 = 0 then (some (bt193.2 == 1)) else (some false)) else (some false))) else (some false)) else (some false)))))))
theorem Pl50b.mono : ∀ k, LeO (Pl50b.f k ) (Pl50b.f (k + 1) ) := by
 intro  k
 unfold Pl50b.f
 repeat' first
   | (with_reducible exact Pxg.mono _ _ _ _ _ _ _)
   | (with_reducible exact Pr26a.mono _ _ _ _ _ _ _)
   | (with_reducible exact LeO.refl _)
   | (with_reducible exact LeO.none _)
   | (with_reducible refine LeO.ite ?_ ?_)
   | (with_reducible refine LeO.bind ?_ (fun _ => ?_))
   | exact Pxg.mono _ _ _ _ _ _ _
   | exact Pr26a.mono _ _ _ _ _ _ _
   | exact LeO.none _
   | refine LeO.ite ?_ ?_
   | refine LeO.bind ?_ (fun _ => ?_)
set_option maxHeartbeats 8000000 in
set_option maxRecDepth 100000 in
theorem Pl50b.calls (k : Nat)  (r : Bool) (w : World) (h : Pl50b.f k  = some r) (hr_ : Aside0 (r = true)) :
  Calls Try.prog 55 #[] w fun e w' => e = .returned (.bool r) ∧ Below w.heap.size w w' := by
 have r3 := Try.underlying80;have r2 := Try.underlying25;have HB := Aside0.mk (Below.refl w.heap.size w);have H : ((some (([(⟨#[97]⟩ : ByteArray)] : List ByteArray) : List ByteArray)).bind fun b1 => ((some (([(⟨0, 0, 0⟩ : S80)] : List (S80)) : List (S80))).bind fun b2 => ((some (([(⟨#[97]⟩ : ByteArray), (⟨#[98]⟩ : ByteArray)] : List ByteArray) : List ByteArray)).bind fun a4 => ((some (([(⟨0, 1, 1⟩ : S80), (⟨1, 0, 0⟩ : S80)] : List (S80)) : List (S80))).bind fun a5 => ((Pxg.f k 1 b1 b2 2 a4 a5).bind fun a9 => ((Pxd.f 1 b1 b2 2 a4 a5 1).bind fun d0 => (if a9.2.2.2 = 0 then (if a9.1 = 2 then ((Pr26a.f k a9.1 a9.2.1 a9.2.2.1 2 a4 a5).bind fun e2 => (if e2 = true then (if d0.1 = 0 then (some (d0.2 == 1)) else (some false)) else (some false))) else (some false)) else (some false)))))))) = some r := h;clear h;obtain ⟨b1, f7⟩ : ∃ y_ : List ByteArray, y_ = (([(⟨#[97]⟩ : ByteArray)] : List ByteArray)) := ⟨_, rfl⟩
 replace H : ((some (([(⟨0, 0, 0⟩ : S80)] : List (S80)) : List (S80))).bind fun b2 => ((some (([(⟨#[97]⟩ : ByteArray), (⟨#[98]⟩ : ByteArray)] : List ByteArray) : List ByteArray)).bind fun a4 => ((some (([(⟨0, 1, 1⟩ : S80), (⟨1, 0, 0⟩ : S80)] : List (S80)) : List (S80))).bind fun a5 => ((Pxg.f k 1 b1 b2 2 a4 a5).bind fun a9 => ((Pxd.f 1 b1 b2 2 a4 a5 1).bind fun d0 => (if a9.2.2.2 = 0 then (if a9.1 = 2 then ((Pr26a.f k a9.1 a9.2.1 a9.2.2.1 2 a4 a5).bind fun e2 => (if e2 = true then (if d0.1 = 0 then (some (d0.2 == 1)) else (some false)) else (some false))) else (some false)) else (some false))))))) = some r := by first | (rw [f7]; with_reducible exact H) | (have f0 := (Option.bind_some _ _).symm.trans H; rw [f7]; with_reducible exact f0) | (have f0 := (Option.bind_some _ _).symm.trans H; with_reducible exact f0) | with_reducible exact H | (rw [f7]; exact H) | exact H
 have h6 := Aside0.mk f7;clear f7;obtain ⟨b2, f8⟩ : ∃ y_ : List (S80), y_ = (([(⟨0, 0, 0⟩ : S80)] : List (S80))) := ⟨_, rfl⟩
 replace H : ((some (([(⟨#[97]⟩ : ByteArray), (⟨#[98]⟩ : ByteArray)] : List ByteArray) : List ByteArray)).bind fun a4 => ((some (([(⟨0, 1, 1⟩ : S80), (⟨1, 0, 0⟩ : S80)] : List (S80)) : List (S80))).bind fun a5 => ((Pxg.f k 1 b1 b2 2 a4 a5).bind fun a9 => ((Pxd.f 1 b1 b2 2 a4 a5 1).bind fun d0 => (if a9.2.2.2 = 0 then (if a9.1 = 2 then ((Pr26a.f k a9.1 a9.2.1 a9.2.2.1 2 a4 a5).bind fun e2 => (if e2 = true then (if d0.1 = 0 then (some (d0.2 == 1)) else (some false)) else (some false))) else (some false)) else (some false)))))) = some r := by first | (rw [f8]; with_reducible exact H) | (have f0 := (Option.bind_some _ _).symm.trans H; rw [f8]; with_reducible exact f0) | (have f0 := (Option.bind_some _ _).symm.trans H; with_reducible exact f0) | with_reducible exact H | (rw [f8]; exact H) | exact H
 have h7 := Aside0.mk f8;clear f8;obtain ⟨a4, f9⟩ : ∃ y_ : List ByteArray, y_ = (([(⟨#[97]⟩ : ByteArray), (⟨#[98]⟩ : ByteArray)] : List ByteArray)) := ⟨_, rfl⟩
 replace H : ((some (([(⟨0, 1, 1⟩ : S80), (⟨1, 0, 0⟩ : S80)] : List (S80)) : List (S80))).bind fun a5 => ((Pxg.f k 1 b1 b2 2 a4 a5).bind fun a9 => ((Pxd.f 1 b1 b2 2 a4 a5 1).bind fun d0 => (if a9.2.2.2 = 0 then (if a9.1 = 2 then ((Pr26a.f k a9.1 a9.2.1 a9.2.2.1 2 a4 a5).bind fun e2 => (if e2 = true then (if d0.1 = 0 then (some (d0.2 == 1)) else (some false)) else (some false))) else (some false)) else (some false))))) = some r := by first | (rw [f9]; with_reducible exact H) | (have f0 := (Option.bind_some _ _).symm.trans H; rw [f9]; with_reducible exact f0) | (have f0 := (Option.bind_some _ _).symm.trans H; with_reducible exact f0) | with_reducible exact H | (rw [f9]; exact H) | exact H
 have h8 := Aside0.mk f9;clear f9;obtain ⟨a5, g0⟩ : ∃ y_ : List (S80), y_ = (([(⟨0, 1, 1⟩ : S80), (⟨1, 0, 0⟩ : S80)] : List (S80))) := ⟨_, rfl⟩
 replace H : ((Pxg.f k 1 b1 b2 2 a4 a5).bind fun a9 => ((Pxd.f 1 b1 b2 2 a4 a5 1).bind fun d0 => (if a9.2.2.2 = 0 then (if a9.1 = 2 then ((Pr26a.f k a9.1 a9.2.1 a9.2.2.1 2 a4 a5).bind fun e2 => (if e2 = true then (if d0.1 = 0 then (some (d0.2 == 1)) else (some false)) else (some false))) else (some false)) else (some false)))) = some r := by first | (rw [g0]; with_reducible exact H) | (have f0 := (Option.bind_some _ _).symm.trans H; rw [g0]; with_reducible exact f0) | (have f0 := (Option.bind_some _ _).symm.trans H; with_reducible exact f0) | with_reducible exact H | (rw [g0]; exact H) | exact H
 have h9 := Aside0.mk g0;clear g0;replace H := Option.bind_eq_some_iff.mp H;obtain ⟨⟨b6, d5, d7, f6⟩, j9, H⟩ := H;replace H : ((Pxd.f 1 b1 b2 2 a4 a5 1).bind fun d0 => (if f6 = 0 then (if b6 = 2 then ((Pr26a.f k b6 d5 d7 2 a4 a5).bind fun e2 => (if e2 = true then (if d0.1 = 0 then (some (d0.2 == 1)) else (some false)) else (some false))) else (some false)) else (some false))) = some r := H;have A1 := Aside0.mk j9;clear j9;replace H := Option.bind_eq_some_iff.mp H;obtain ⟨⟨f4, h1⟩, k0, H⟩ := H;replace H : (if f6 = 0 then (if b6 = 2 then ((Pr26a.f k b6 d5 d7 2 a4 a5).bind fun e2 => (if e2 = true then (if f4 = 0 then (some (h1 == 1)) else (some false)) else (some false))) else (some false)) else (some false)) = some r := H;have A2 := Aside0.mk k0;clear k0;by_cases c3 : f6 = 0
 ·rw [if_pos c3] at H;have c3b0 : (f6 == 0) = true := beq_iff_eq.mpr c3;have c3b1 : (f6 != 0) = false := bne_eq_false_iff_eq.mpr c3;clear c3;by_cases c4 : b6 = 2
  ·rw [if_pos c4] at H;have c4b0 : (b6 == 2) = true := beq_iff_eq.mpr c4;have c4b1 : (b6 != 2) = false := bne_eq_false_iff_eq.mpr c4;clear c4;replace H := Option.bind_eq_some_iff.mp H;obtain ⟨e2, k1, H⟩ := H;replace H : (if e2 = true then (if f4 = 0 then (some (h1 == 1)) else (some false)) else (some false)) = some r := H;have A5 := Aside0.mk k1;clear k1;by_cases c6 : e2 = true
   ·subst c6;have H1 : (if f4 = 0 then (some (h1 == 1)) else (some false)) = some r := by rw [if_pos rfl] at H; exact H
    clear H;have H := H1;clear H1;by_cases c7 : f4 = 0
    ·rw [if_pos c7] at H;have c7b0 : (f4 == 0) = true := beq_iff_eq.mpr c7;have c7b1 : (f4 != 0) = false := bne_eq_false_iff_eq.mpr c7;clear c7;obtain rfl := Option.some.inj H;go_enter Try.func55, Try.ntmps55
     go_wp2_with (first | ((with_reducible refine gate_dst (N := 7) rfl ?_); refine Kd.R_lit Kd.string _ 9 ?hg (N := 7) ?hd (xs := ([(⟨#[97]⟩ : ByteArray)] : List ByteArray)) (inner := [.string (⟨#[97]⟩ : ByteArray)]) (ok := fun _ => True) (okp := fun _ => True) ?hr ?hp (fun _ hk => hk) trivial (Below.refl _ _) (Nat.le_refl _) (by simp) ?_; (case hd => rfl); (case hg => rfl); (case hr => first | (go_simp; done) | (go_simp; rfl)); (case hp => exact (Reps.one (show Kd.M Kd.string _ _ _ (⟨#[97]⟩ : ByteArray) [.string (⟨#[97]⟩ : ByteArray)] from rfl) (Reps.none _ _))); intro r4 w8 h5 hb hg_ hnew_; clear hg_ hnew_; (first | rw [← h6.out] at h5 | (simp only [Int.reduceToNat] at h5; rw [← h6.out] at h5)); have d1 := Aside0.mk (Kd.R_lower h5 (below_size (wz HB.out))); have d2 := Aside0.mk (below_step (wz HB.out) hb); clear HB; have a6 := d1; have HB := d2; clear d1 d2; clear hb h5) | ((with_reducible refine gate_dst (N := 9) rfl ?_); refine Kd.R_lit k80 _ 80 ?hg (N := 9) ?hd (xs := ([(⟨0, 0, 0⟩ : S80)] : List (S80))) (inner := [.int .i64 0, .int .i64 0, .int .i64 0]) (ok := fun _ => True) (okp := fun _ => True) ?hr ?hp (fun _ hk => hk) trivial (Below.refl _ _) (Nat.le_refl _) (by simp) ?_; (case hd => rfl); (case hg => rfl); (case hr => first | (go_simp; done) | (go_simp; rfl)); (case hp => exact (Reps.c3 (show Kd.M k80 _ _ _ (⟨0, 0, 0⟩ : S80) [.int .i64 0, .int .i64 0, .int .i64 0] from (k80_mkM _ _ _ (⟨0, 0, 0⟩ : S80) )) (Reps.none _ _))); intro r5 s0 g7 hb hg_ hnew_; clear hg_ hnew_; (first | rw [← h7.out] at g7 | (simp only [Int.reduceToNat] at g7; rw [← h7.out] at g7)); have d1 := Aside0.mk (Kd.R_below (rz a6.out) hb); have d2 := Aside0.mk (Kd.R_lower g7 (below_size (wz HB.out))); have d3 := Aside0.mk (below_step (wz HB.out) hb); clear a6; clear HB; have a6 := d1; have a7 := d2; have HB := d3; clear d1 d2 d3; clear hb g7; obtain ⟨e1, d6, k3⟩ := Kd.R_slice a7.out; subst k3; obtain ⟨d8, d4, k4⟩ := Kd.R_slice a6.out; subst k4) | ((with_reducible refine gate_dst (N := 1) rfl ?_); refine box_event ?hg (N := 1) ?hd (cs := #[.int .i64 0, .slice none 0 0, .slice none 0 0]) (t := 25) ?hr ?_; (case hd => rfl); (case hg => rfl); (case hr => first | (go_simp; done) | (go_simp; rfl)); intro a8 hg j8 hbox hb; have d1 := Aside0.mk (Kd.R_below (rz a6.out) hb); have d2 := Aside0.mk (Kd.R_below (rz a7.out) hb); have d3 := Aside0.mk (below_step (wz HB.out) hb); have d9 := Aside0.mk (hbox); have e0 := Aside0.mk ((by rw [hg]; exact (below_size (wz HB.out)) : w.heap.size ≤ a8)); have e7 := Aside0.mk ((by rw [hg]; exact (below_size (wz HB.out)) : w.heap.size ≤ a8)); clear a6; clear a7; clear HB; have a6 := d1; have a7 := d2; have HB := d3; have a1 := d9; have q3 := e0; have q0 := e7; clear d1 d2 d3 d9 e0 e7; clear hb hbox hg; have k9 : j8.cell? ⟨a8, 0, none⟩ = some (.int .i64 0) := bcz a1 0 rfl; have l3 : j8.cell? ⟨a8, 1, none⟩ = some (.slice none 0 0) := bcz a1 1 rfl; have l4 : j8.cell? ⟨a8, 2, none⟩ = some (.slice none 0 0) := bcz a1 2 rfl; have n6 := blk_frozen a1.out 0; have n7 := blk_frozen a1.out 1; have n8 := blk_frozen a1.out 2) | ((with_reducible refine gate_dst (N := 11) rfl ?_); refine Kd.R_lit Kd.string _ 9 ?hg (N := 11) ?hd (xs := ([(⟨#[97]⟩ : ByteArray), (⟨#[98]⟩ : ByteArray)] : List ByteArray)) (inner := [.string (⟨#[97]⟩ : ByteArray), .string (⟨#[98]⟩ : ByteArray)]) (ok := fun _ => True) (okp := fun _ => True) ?hr ?hp (fun _ hk => hk) trivial (Below.refl _ _) (Nat.le_refl _) (by simp) ?_; (case hd => rfl); (case hg => rfl); (case hr => first | (go_simp; done) | (go_simp; rfl)); (case hp => exact (Reps.one (show Kd.M Kd.string _ _ _ (⟨#[97]⟩ : ByteArray) [.string (⟨#[97]⟩ : ByteArray)] from rfl) (Reps.one (show Kd.M Kd.string _ _ _ (⟨#[98]⟩ : ByteArray) [.string (⟨#[98]⟩ : ByteArray)] from rfl) (Reps.none _ _)))); intro r6 s1 g2 hb hg_ hnew_; clear hg_ hnew_; (first | rw [← h8.out] at g2 | (simp only [Int.reduceToNat] at g2; rw [← h8.out] at g2)); have d1 := Aside0.mk (Kd.R_elder' (rz (Kd.R_mono (Kd.R_far (p := ⟨a8, 2, none⟩) (Kd.R_far (p := ⟨a8, 1, none⟩) (Kd.R_far (p := ⟨a8, 0, none⟩) (Kd.R_types a6.out a1.out (by decide)) (fun _ hk => hk.2) (.int .i64 1)) (fun _ hk => hk.2) (.slice d8 b1.length d4)) (fun _ hk => hk.2) (.slice e1 b2.length d6)) (fun _ h_ => h_.1))) (Kd.R_base g2) hb); have d2 := Aside0.mk (Kd.R_below (rz (Kd.R_mono (Kd.R_far (p := ⟨a8, 2, none⟩) (Kd.R_far (p := ⟨a8, 1, none⟩) (Kd.R_far (p := ⟨a8, 0, none⟩) (Kd.R_types a7.out a1.out (by decide)) (fun _ hk => hk.2) (.int .i64 1)) (fun _ hk => hk.2) (.slice d8 b1.length d4)) (fun _ hk => hk.2) (.slice e1 b2.length d6)) (fun _ h_ => h_.1))) hb); have d3 := Aside0.mk (Kd.R_lower (Kd.R_new' g2 (Kd.R_lt (rz (Kd.R_mono (Kd.R_far (p := ⟨a8, 2, none⟩) (Kd.R_far (p := ⟨a8, 1, none⟩) (Kd.R_far (p := ⟨a8, 0, none⟩) (Kd.R_types a6.out a1.out (by decide)) (fun _ hk => hk.2) (.int .i64 1)) (fun _ hk => hk.2) (.slice d8 b1.length d4)) (fun _ hk => hk.2) (.slice e1 b2.length d6)) (fun _ h_ => h_.1))))) (below_size (wz HB.out))); have d9 := Aside0.mk (blk_below (g := a8) (o := .cells #[.int .i64 1, .slice d8 b1.length d4, .slice e1 b2.length d6] 25 (0, 0)) (by (with_reducible repeat (first | refine blk_drewN ?_ _ | refine blk_drew ?_ | refine blk_alloc ?_ _)); refine blk_put (cs := #[.int .i64 1, .slice d8 b1.length d4, .slice none 0 0]) ?_ 2 _ rfl; (with_reducible repeat (first | refine blk_drewN ?_ _ | refine blk_drew ?_ | refine blk_alloc ?_ _)); refine blk_put (cs := #[.int .i64 1, .slice none 0 0, .slice none 0 0]) ?_ 1 _ rfl; (with_reducible repeat (first | refine blk_drewN ?_ _ | refine blk_drew ?_ | refine blk_alloc ?_ _)); refine blk_put (cs := #[.int .i64 0, .slice none 0 0, .slice none 0 0]) ?_ 0 _ rfl; (with_reducible repeat (first | refine blk_drewN ?_ _ | refine blk_drew ?_ | refine blk_alloc ?_ _)); exact a1.out) hb); have e0 := Aside0.mk (below_step (wz HB.out) hb); clear a6; clear a7; clear a1; clear HB; have a6 := d1; have a7 := d2; have b3 := d3; have a1 := d9; have HB := e0; clear d1 d2 d3 d9 e0; clear hb g2) | ((with_reducible refine gate_dst (N := 14) rfl ?_); refine Kd.R_lit k80 _ 80 ?hg (N := 14) ?hd (xs := ([(⟨0, 1, 1⟩ : S80), (⟨1, 0, 0⟩ : S80)] : List (S80))) (inner := [.int .i64 0, .int .i64 1, .int .i64 1, .int .i64 1, .int .i64 0, .int .i64 0]) (ok := fun _ => True) (okp := fun _ => True) ?hr ?hp (fun _ hk => hk) trivial (Below.refl _ _) (Nat.le_refl _) (by simp) ?_; (case hd => rfl); (case hg => rfl); (case hr => first | (go_simp; done) | (go_simp; rfl)); (case hp => exact (Reps.c3 (show Kd.M k80 _ _ _ (⟨0, 1, 1⟩ : S80) [.int .i64 0, .int .i64 1, .int .i64 1] from (k80_mkM _ _ _ (⟨0, 1, 1⟩ : S80) )) (Reps.c3 (show Kd.M k80 _ _ _ (⟨1, 0, 0⟩ : S80) [.int .i64 1, .int .i64 0, .int .i64 0] from (k80_mkM _ _ _ (⟨1, 0, 0⟩ : S80) )) (Reps.none _ _)))); intro r7 s2 g3 hb hg_ hnew_; clear hg_ hnew_; (first | rw [← h9.out] at g3 | (simp only [Int.reduceToNat] at g3; rw [← h9.out] at g3)); have d1 := Aside0.mk (Kd.R_below (rz a6.out) hb); have d2 := Aside0.mk (Kd.R_elder' (rz a7.out) (Kd.R_base g3) hb); have d3 := Aside0.mk (Kd.R_below (rz b3.out) hb); have d9 := Aside0.mk (Kd.R_lower (Kd.R_new' g3 (Kd.R_lt (rz a7.out))) (below_size (wz HB.out))); have e0 := Aside0.mk (blk_below (bz a1.out) hb); have e7 := Aside0.mk (below_step (wz HB.out) hb); clear a6; clear a7; clear b3; clear a1; clear HB; have a6 := d1; have a7 := d2; have b3 := d3; have b4 := d9; have a1 := e0; have HB := e7; clear d1 d2 d3 d9 e0 e7; clear hb g3; obtain ⟨b9, b7, k5⟩ := Kd.R_slice b4.out; subst k5; obtain ⟨b8, b5, k6⟩ := Kd.R_slice b3.out; subst k6) | ((with_reducible refine gate_dst (N := 2) rfl ?_); refine box_event ?hg (N := 2) ?hd (cs := #[.int .i64 0, .slice none 0 0, .slice none 0 0]) (t := 25) ?hr ?_; (case hd => rfl); (case hg => rfl); (case hr => first | (go_simp; done) | (go_simp; rfl)); intro a0 hg g9 hbox hb; have d1 := Aside0.mk (Kd.R_below (rz a6.out) hb); have d2 := Aside0.mk (Kd.R_below (rz a7.out) hb); have d3 := Aside0.mk (Kd.R_below (rz b3.out) hb); have d9 := Aside0.mk (Kd.R_below (rz b4.out) hb); have e0 := Aside0.mk (blk_below (bz a1.out) hb); have e7 := Aside0.mk (below_step (wz HB.out) hb); have f1 := Aside0.mk (hbox); have f2 := Aside0.mk ((by rw [hg]; exact (below_size (wz HB.out)) : w.heap.size ≤ a0)); have f3 := Aside0.mk ((by rw [hg]; exact (below_size (wz HB.out)) : w.heap.size ≤ a0)); have f5 := Aside0.mk ((by rw [hg]; exact Nat.ne_of_lt (blk_lt (g := a8) (o := .cells #[.int .i64 1, .slice d8 b1.length d4, .slice e1 b2.length d6] 25 (0, 0)) (bz a1.out)) : a8 ≠ a0)); have g8 := Aside0.mk ((by rw [hg]; exact Nat.ne_of_gt (blk_lt (g := a8) (o := .cells #[.int .i64 1, .slice d8 b1.length d4, .slice e1 b2.length d6] 25 (0, 0)) (bz a1.out)) : a0 ≠ a8)); clear a6; clear a7; clear b3; clear b4; clear a1; clear HB; have a6 := d1; have a7 := d2; have b3 := d3; have b4 := d9; have a1 := e0; have HB := e7; have a2 := f1; have q4 := f2; have q1 := f3; have g4 := f5; have h2 := g8; clear d1 d2 d3 d9 e0 e7 f1 f2 f3 f5 g8; clear hb hbox hg; have q6 := h2.out; have q9 := g4.out; have l5 : g9.cell? ⟨a0, 0, none⟩ = some (.int .i64 0) := bcz a2 0 rfl; have l6 : g9.cell? ⟨a0, 1, none⟩ = some (.slice none 0 0) := bcz a2 1 rfl; have l7 : g9.cell? ⟨a0, 2, none⟩ = some (.slice none 0 0) := bcz a2 2 rfl; have n9 := blk_frozen a2.out 0; have o0 := blk_frozen a2.out 1; have o1 := blk_frozen a2.out 2; have l8 : g9.cell? ⟨a8, 0, none⟩ = some (.int .i64 1) := bcz a1 0 rfl; have l9 : g9.cell? ⟨a8, 1, none⟩ = some (.slice d8 b1.length d4) := bcz a1 1 rfl; have m0 : g9.cell? ⟨a8, 2, none⟩ = some (.slice e1 b2.length d6) := bcz a1 2 rfl; have o2 := blk_frozen a1.out 0; have o3 := blk_frozen a1.out 1; have o4 := blk_frozen a1.out 2) | ((with_reducible refine gate_callee (f := 56) rfl ?_); refine goesL_ (some 19) rfl rfl Try.func56 (by kernel_rfl) rfl #[.agg #[.int .i64 1, .slice d8 b1.length d4, .slice e1 b2.length d6], .agg #[.int .i64 2, .slice b8 a4.length b5, .slice b9 a5.length b7]] rfl (by (try simp only [List.map_toArray, List.map_cons, List.map_nil]); first | done | rfl | (simp only [List.length_drop, List.length_take]; rfl)) ?_; (with_reducible refine (Pxg.calls k 1 _ _ b1 _ _ b2 2 _ _ a4 _ _ a5 b6 d5 d7 f6 _ ?i2 ?i3 ?i4 ?i5 ?i7 ?i8 ?i9 ?j2 A1.out).mono ?_); (case i2 => refine (Kd.R_reads' (e := 9) (base := w.heap.size) (ok := fun k_ => (True ∧ some k_ ≠ (.slice b8 a4.length b5 : Value).ownBlock)) (n := b1.length) (c := d4) ?_).2.2; exact (rz (Kd.R_mono (Kd.R_far (p := ⟨a0, 2, none⟩) (Kd.R_far (p := ⟨a0, 1, none⟩) (Kd.R_far (p := ⟨a0, 0, none⟩) (Kd.R_types a6.out a2.out (by decide)) (fun _ hk => hk.2) (.int .i64 2)) (fun _ hk => hk.2) (.slice b8 a4.length b5)) (fun _ hk => hk.2) (.slice b9 a5.length b7)) (fun _ h_ => h_.1)))); (case i3 => exact (Kd.R_reads' a6.out).2.1); (case i4 => refine (Kd.R_reads' (e := 80) (base := w.heap.size) (ok := fun k_ => (True ∧ some k_ ≠ (.slice b9 a5.length b7 : Value).ownBlock)) (n := b2.length) (c := d6) ?_).2.2; exact (rz (Kd.R_mono (Kd.R_far (p := ⟨a0, 2, none⟩) (Kd.R_far (p := ⟨a0, 1, none⟩) (Kd.R_far (p := ⟨a0, 0, none⟩) (Kd.R_types a7.out a2.out (by decide)) (fun _ hk => hk.2) (.int .i64 2)) (fun _ hk => hk.2) (.slice b8 a4.length b5)) (fun _ hk => hk.2) (.slice b9 a5.length b7)) (fun _ h_ => h_.1)))); (case i5 => exact (Kd.R_reads' a7.out).2.1); (case i7 => refine (Kd.R_reads' (e := 9) (base := w.heap.size) (ok := fun k_ => (True ∧ some k_ ≠ (.slice d8 b1.length d4 : Value).ownBlock)) (n := a4.length) (c := b5) ?_).2.2; exact (rz (Kd.R_mono (Kd.R_far (p := ⟨a0, 2, none⟩) (Kd.R_far (p := ⟨a0, 1, none⟩) (Kd.R_far (p := ⟨a0, 0, none⟩) (Kd.R_types b3.out a2.out (by decide)) (fun _ hk => hk.2) (.int .i64 2)) (fun _ hk => hk.2) (.slice b8 a4.length b5)) (fun _ hk => hk.2) (.slice b9 a5.length b7)) (fun _ h_ => h_.1)))); (case i8 => exact (Kd.R_reads' b3.out).2.1); (case i9 => refine (Kd.R_reads' (e := 80) (base := w.heap.size) (ok := fun k_ => (True ∧ some k_ ≠ (.slice e1 b2.length d6 : Value).ownBlock)) (n := a5.length) (c := b7) ?_).2.2; exact (rz (Kd.R_mono (Kd.R_far (p := ⟨a0, 2, none⟩) (Kd.R_far (p := ⟨a0, 1, none⟩) (Kd.R_far (p := ⟨a0, 0, none⟩) (Kd.R_types b4.out a2.out (by decide)) (fun _ hk => hk.2) (.int .i64 2)) (fun _ hk => hk.2) (.slice b8 a4.length b5)) (fun _ hk => hk.2) (.slice b9 a5.length b7)) (fun _ h_ => h_.1)))); (case j2 => exact (Kd.R_reads' b4.out).2.1); rintro e s3 ⟨r8, r9, rfl, i0, i1, hb⟩; refine ⟨_, rfl, ?_⟩; have d1 := Aside0.mk (Kd.R_elder' (rz (Kd.R_mono (Kd.R_far (p := ⟨a0, 2, none⟩) (Kd.R_far (p := ⟨a0, 1, none⟩) (Kd.R_far (p := ⟨a0, 0, none⟩) (Kd.R_types a6.out a2.out (by decide)) (fun _ hk => hk.2) (.int .i64 2)) (fun _ hk => hk.2) (.slice b8 a4.length b5)) (fun _ hk => hk.2) (.slice b9 a5.length b7)) (fun _ h_ => h_.1))) (Kd.R_base i0) hb); have d2 := Aside0.mk (Kd.R_elder' (rz (Kd.R_mono (Kd.R_far (p := ⟨a0, 2, none⟩) (Kd.R_far (p := ⟨a0, 1, none⟩) (Kd.R_far (p := ⟨a0, 0, none⟩) (Kd.R_types a7.out a2.out (by decide)) (fun _ hk => hk.2) (.int .i64 2)) (fun _ hk => hk.2) (.slice b8 a4.length b5)) (fun _ hk => hk.2) (.slice b9 a5.length b7)) (fun _ h_ => h_.1))) (Kd.R_base i1) hb); have d3 := Aside0.mk (Kd.R_elder' (rz (Kd.R_mono (Kd.R_far (p := ⟨a0, 2, none⟩) (Kd.R_far (p := ⟨a0, 1, none⟩) (Kd.R_far (p := ⟨a0, 0, none⟩) (Kd.R_types b3.out a2.out (by decide)) (fun _ hk => hk.2) (.int .i64 2)) (fun _ hk => hk.2) (.slice b8 a4.length b5)) (fun _ hk => hk.2) (.slice b9 a5.length b7)) (fun _ h_ => h_.1))) (Kd.R_base i0) hb); have d9 := Aside0.mk (Kd.R_elder' (rz (Kd.R_mono (Kd.R_far (p := ⟨a0, 2, none⟩) (Kd.R_far (p := ⟨a0, 1, none⟩) (Kd.R_far (p := ⟨a0, 0, none⟩) (Kd.R_types b4.out a2.out (by decide)) (fun _ hk => hk.2) (.int .i64 2)) (fun _ hk => hk.2) (.slice b8 a4.length b5)) (fun _ hk => hk.2) (.slice b9 a5.length b7)) (fun _ h_ => h_.1))) (Kd.R_base i1) hb); have e0 := Aside0.mk (Kd.R_lower (Kd.R_new' (Kd.R_new' i0 (Kd.R_lt (rz (Kd.R_mono (Kd.R_far (p := ⟨a0, 2, none⟩) (Kd.R_far (p := ⟨a0, 1, none⟩) (Kd.R_far (p := ⟨a0, 0, none⟩) (Kd.R_types a6.out a2.out (by decide)) (fun _ hk => hk.2) (.int .i64 2)) (fun _ hk => hk.2) (.slice b8 a4.length b5)) (fun _ hk => hk.2) (.slice b9 a5.length b7)) (fun _ h_ => h_.1))))) (Kd.R_lt (rz (Kd.R_mono (Kd.R_far (p := ⟨a0, 2, none⟩) (Kd.R_far (p := ⟨a0, 1, none⟩) (Kd.R_far (p := ⟨a0, 0, none⟩) (Kd.R_types b3.out a2.out (by decide)) (fun _ hk => hk.2) (.int .i64 2)) (fun _ hk => hk.2) (.slice b8 a4.length b5)) (fun _ hk => hk.2) (.slice b9 a5.length b7)) (fun _ h_ => h_.1))))) (below_size (wz HB.out))); have e7 := Aside0.mk (Kd.R_lower (Kd.R_new' (Kd.R_new' i1 (Kd.R_lt (rz (Kd.R_mono (Kd.R_far (p := ⟨a0, 2, none⟩) (Kd.R_far (p := ⟨a0, 1, none⟩) (Kd.R_far (p := ⟨a0, 0, none⟩) (Kd.R_types a7.out a2.out (by decide)) (fun _ hk => hk.2) (.int .i64 2)) (fun _ hk => hk.2) (.slice b8 a4.length b5)) (fun _ hk => hk.2) (.slice b9 a5.length b7)) (fun _ h_ => h_.1))))) (Kd.R_lt (rz (Kd.R_mono (Kd.R_far (p := ⟨a0, 2, none⟩) (Kd.R_far (p := ⟨a0, 1, none⟩) (Kd.R_far (p := ⟨a0, 0, none⟩) (Kd.R_types b4.out a2.out (by decide)) (fun _ hk => hk.2) (.int .i64 2)) (fun _ hk => hk.2) (.slice b8 a4.length b5)) (fun _ hk => hk.2) (.slice b9 a5.length b7)) (fun _ h_ => h_.1))))) (below_size (wz HB.out))); have f1 := Aside0.mk (blk_below (g := a8) (o := .cells #[.int .i64 1, .slice d8 b1.length d4, .slice e1 b2.length d6] 25 (0, 0)) (fz a1.out g4.out) hb); have f2 := Aside0.mk (blk_below (g := a0) (o := .cells #[.int .i64 2, .slice b8 a4.length b5, .slice b9 a5.length b7] 25 (0, 0)) (by (with_reducible repeat (first | refine blk_drewN ?_ _ | refine blk_drew ?_ | refine blk_alloc ?_ _)); refine blk_put (cs := #[.int .i64 2, .slice b8 a4.length b5, .slice none 0 0]) ?_ 2 _ rfl; (with_reducible repeat (first | refine blk_drewN ?_ _ | refine blk_drew ?_ | refine blk_alloc ?_ _)); refine blk_put (cs := #[.int .i64 2, .slice none 0 0, .slice none 0 0]) ?_ 1 _ rfl; (with_reducible repeat (first | refine blk_drewN ?_ _ | refine blk_drew ?_ | refine blk_alloc ?_ _)); refine blk_put (cs := #[.int .i64 0, .slice none 0 0, .slice none 0 0]) ?_ 0 _ rfl; (with_reducible repeat (first | refine blk_drewN ?_ _ | refine blk_drew ?_ | refine blk_alloc ?_ _)); exact a2.out) hb); have f3 := Aside0.mk (below_step (wz HB.out) hb); clear a6; clear a7; clear b3; clear b4; clear a1; clear a2; clear HB; have a6 := d1; have a7 := d2; have b3 := d3; have b4 := d9; have e3 := e0; have e4 := e7; have a1 := f1; have a2 := f2; have HB := f3; clear d1 d2 d3 d9 e0 e7 f1 f2 f3; (try clear hb); (try clear k2); (try clear hk); (try clear hi); (try clear i0); (try clear i1)) | ((with_reducible refine gate_dst (N := 3) rfl ?_); refine box_event ?hg (N := 3) ?hd (cs := #[.int .i64 0, .slice none 0 0, .slice none 0 0]) (t := 25) ?hr ?_; (case hd => rfl); (case hg => rfl); (case hr => first | (go_simp; done) | (go_simp; rfl)); intro a3 hg g1 hbox hb; have d1 := Aside0.mk (Kd.R_below (rz a6.out) hb); have d2 := Aside0.mk (Kd.R_below (rz a7.out) hb); have d3 := Aside0.mk (Kd.R_below (rz b3.out) hb); have d9 := Aside0.mk (Kd.R_below (rz b4.out) hb); have e0 := Aside0.mk (Kd.R_below (rz e3.out) hb); have e7 := Aside0.mk (Kd.R_below (rz e4.out) hb); have f1 := Aside0.mk (blk_below (bz a1.out) hb); have f2 := Aside0.mk (blk_below (bz a2.out) hb); have f3 := Aside0.mk (below_step (wz HB.out) hb); have f5 := Aside0.mk (hbox); have g8 := Aside0.mk ((by rw [hg]; exact (below_size (wz HB.out)) : w.heap.size ≤ a3)); have j3 := Aside0.mk ((by rw [hg]; exact (below_size (wz HB.out)) : w.heap.size ≤ a3)); have j4 := Aside0.mk ((by rw [hg]; exact Nat.ne_of_lt (blk_lt (g := a8) (o := .cells #[.int .i64 1, .slice d8 b1.length d4, .slice e1 b2.length d6] 25 (0, 0)) (bz a1.out)) : a8 ≠ a3)); have j5 := Aside0.mk ((by rw [hg]; exact Nat.ne_of_gt (blk_lt (g := a8) (o := .cells #[.int .i64 1, .slice d8 b1.length d4, .slice e1 b2.length d6] 25 (0, 0)) (bz a1.out)) : a3 ≠ a8)); have j6 := Aside0.mk ((by rw [hg]; exact Nat.ne_of_lt (blk_lt (g := a0) (o := .cells #[.int .i64 2, .slice b8 a4.length b5, .slice b9 a5.length b7] 25 (0, 0)) (bz a2.out)) : a0 ≠ a3)); have j7 := Aside0.mk ((by rw [hg]; exact Nat.ne_of_gt (blk_lt (g := a0) (o := .cells #[.int .i64 2, .slice b8 a4.length b5, .slice b9 a5.length b7] 25 (0, 0)) (bz a2.out)) : a3 ≠ a0)); clear a6; clear a7; clear b3; clear b4; clear e3; clear e4; clear a1; clear a2; clear HB; have a6 := d1; have a7 := d2; have b3 := d3; have b4 := d9; have e3 := e0; have e4 := e7; have a1 := f1; have a2 := f2; have HB := f3; have b0 := f5; have q5 := g8; have q2 := j3; have g5 := j4; have h3 := j5; have g6 := j6; have h4 := j7; clear d1 d2 d3 d9 e0 e7 f1 f2 f3 f5 g8 j3 j4 j5 j6 j7; clear hb hbox hg; have q7 := h3.out; have r0 := g5.out; have q8 := h4.out; have r1 := g6.out; have m1 : g1.cell? ⟨a3, 0, none⟩ = some (.int .i64 0) := bcz b0 0 rfl; have m2 : g1.cell? ⟨a3, 1, none⟩ = some (.slice none 0 0) := bcz b0 1 rfl; have m3 : g1.cell? ⟨a3, 2, none⟩ = some (.slice none 0 0) := bcz b0 2 rfl; have o5 := blk_frozen b0.out 0; have o6 := blk_frozen b0.out 1; have o7 := blk_frozen b0.out 2; obtain ⟨e5, e6, k7⟩ := Kd.R_slice e3.out; subst k7; obtain ⟨e8, e9, k8⟩ := Kd.R_slice e4.out; subst k8; have m4 : g1.cell? ⟨a8, 0, none⟩ = some (.int .i64 1) := bcz a1 0 rfl; have m5 : g1.cell? ⟨a8, 1, none⟩ = some (.slice d8 b1.length d4) := bcz a1 1 rfl; have m6 : g1.cell? ⟨a8, 2, none⟩ = some (.slice e1 b2.length d6) := bcz a1 2 rfl; have o8 := blk_frozen a1.out 0; have o9 := blk_frozen a1.out 1; have p0 := blk_frozen a1.out 2; have m7 : g1.cell? ⟨a0, 0, none⟩ = some (.int .i64 2) := bcz a2 0 rfl; have m8 : g1.cell? ⟨a0, 1, none⟩ = some (.slice b8 a4.length b5) := bcz a2 1 rfl; have m9 : g1.cell? ⟨a0, 2, none⟩ = some (.slice b9 a5.length b7) := bcz a2 2 rfl; have p1 := blk_frozen a2.out 0; have p2 := blk_frozen a2.out 1; have p3 := blk_frozen a2.out 2) | ((with_reducible refine gate_callee (f := 107) rfl ?_); refine goesL_ (some 25) rfl rfl Try.func107 (by kernel_rfl) rfl #[.agg #[.int .i64 1, .slice d8 b1.length d4, .slice e1 b2.length d6], .agg #[.int .i64 2, .slice b8 a4.length b5, .slice b9 a5.length b7], .int .i64 1] rfl (by (try simp only [List.map_toArray, List.map_cons, List.map_nil]); first | done | rfl | (simp only [List.length_drop, List.length_take]; rfl)) ?_; (with_reducible refine (Pxd.calls 1 _ _ b1 _ _ b2 2 _ _ a4 _ _ a5 1 f4 h1 _ ?i2 ?i3 ?i4 ?i5 ?i7 ?i8 ?i9 ?j2 A2.out).mono ?_); (case i2 => refine (Kd.R_reads' (e := 9) (base := w.heap.size) (ok := fun k_ => ((True ∧ some k_ ≠ (.slice b8 a4.length b5 : Value).ownBlock) ∧ some k_ ≠ (.slice e5 d5.length e6 : Value).ownBlock)) (n := b1.length) (c := d4) ?_).2.2; exact (rz (Kd.R_mono (Kd.R_far (p := ⟨a3, 2, none⟩) (Kd.R_far (p := ⟨a3, 1, none⟩) (Kd.R_far (p := ⟨a3, 0, none⟩) (Kd.R_types a6.out b0.out (by decide)) (fun _ hk => hk.2) (.int .i64 b6)) (fun _ hk => hk.2) (.slice e5 d5.length e6)) (fun _ hk => hk.2) (.slice e8 d7.length e9)) (fun _ h_ => h_.1)))); (case i3 => exact (Kd.R_reads' a6.out).2.1); (case i4 => refine (Kd.R_reads' (e := 80) (base := w.heap.size) (ok := fun k_ => ((True ∧ some k_ ≠ (.slice b9 a5.length b7 : Value).ownBlock) ∧ some k_ ≠ (.slice e8 d7.length e9 : Value).ownBlock)) (n := b2.length) (c := d6) ?_).2.2; exact (rz (Kd.R_mono (Kd.R_far (p := ⟨a3, 2, none⟩) (Kd.R_far (p := ⟨a3, 1, none⟩) (Kd.R_far (p := ⟨a3, 0, none⟩) (Kd.R_types a7.out b0.out (by decide)) (fun _ hk => hk.2) (.int .i64 b6)) (fun _ hk => hk.2) (.slice e5 d5.length e6)) (fun _ hk => hk.2) (.slice e8 d7.length e9)) (fun _ h_ => h_.1)))); (case i5 => exact (Kd.R_reads' a7.out).2.1); (case i7 => refine (Kd.R_reads' (e := 9) (base := w.heap.size) (ok := fun k_ => ((True ∧ some k_ ≠ (.slice d8 b1.length d4 : Value).ownBlock) ∧ some k_ ≠ (.slice e5 d5.length e6 : Value).ownBlock)) (n := a4.length) (c := b5) ?_).2.2; exact (rz (Kd.R_mono (Kd.R_far (p := ⟨a3, 2, none⟩) (Kd.R_far (p := ⟨a3, 1, none⟩) (Kd.R_far (p := ⟨a3, 0, none⟩) (Kd.R_types b3.out b0.out (by decide)) (fun _ hk => hk.2) (.int .i64 b6)) (fun _ hk => hk.2) (.slice e5 d5.length e6)) (fun _ hk => hk.2) (.slice e8 d7.length e9)) (fun _ h_ => h_.1)))); (case i8 => exact (Kd.R_reads' b3.out).2.1); (case i9 => refine (Kd.R_reads' (e := 80) (base := w.heap.size) (ok := fun k_ => ((True ∧ some k_ ≠ (.slice e1 b2.length d6 : Value).ownBlock) ∧ some k_ ≠ (.slice e8 d7.length e9 : Value).ownBlock)) (n := a5.length) (c := b7) ?_).2.2; exact (rz (Kd.R_mono (Kd.R_far (p := ⟨a3, 2, none⟩) (Kd.R_far (p := ⟨a3, 1, none⟩) (Kd.R_far (p := ⟨a3, 0, none⟩) (Kd.R_types b4.out b0.out (by decide)) (fun _ hk => hk.2) (.int .i64 b6)) (fun _ hk => hk.2) (.slice e5 d5.length e6)) (fun _ hk => hk.2) (.slice e8 d7.length e9)) (fun _ h_ => h_.1)))); (case j2 => exact (Kd.R_reads' b4.out).2.1); rintro e h0 ⟨rfl, hb⟩; refine ⟨_, rfl, ?_⟩; have d1 := Aside0.mk (Kd.R_below (rz (Kd.R_mono (Kd.R_far (p := ⟨a3, 2, none⟩) (Kd.R_far (p := ⟨a3, 1, none⟩) (Kd.R_far (p := ⟨a3, 0, none⟩) (Kd.R_types a6.out b0.out (by decide)) (fun _ hk => hk.2) (.int .i64 b6)) (fun _ hk => hk.2) (.slice e5 d5.length e6)) (fun _ hk => hk.2) (.slice e8 d7.length e9)) (fun _ h_ => h_.1))) hb); have d2 := Aside0.mk (Kd.R_below (rz (Kd.R_mono (Kd.R_far (p := ⟨a3, 2, none⟩) (Kd.R_far (p := ⟨a3, 1, none⟩) (Kd.R_far (p := ⟨a3, 0, none⟩) (Kd.R_types a7.out b0.out (by decide)) (fun _ hk => hk.2) (.int .i64 b6)) (fun _ hk => hk.2) (.slice e5 d5.length e6)) (fun _ hk => hk.2) (.slice e8 d7.length e9)) (fun _ h_ => h_.1))) hb); have d3 := Aside0.mk (Kd.R_below (rz (Kd.R_mono (Kd.R_far (p := ⟨a3, 2, none⟩) (Kd.R_far (p := ⟨a3, 1, none⟩) (Kd.R_far (p := ⟨a3, 0, none⟩) (Kd.R_types b3.out b0.out (by decide)) (fun _ hk => hk.2) (.int .i64 b6)) (fun _ hk => hk.2) (.slice e5 d5.length e6)) (fun _ hk => hk.2) (.slice e8 d7.length e9)) (fun _ h_ => h_.1))) hb); have d9 := Aside0.mk (Kd.R_below (rz (Kd.R_mono (Kd.R_far (p := ⟨a3, 2, none⟩) (Kd.R_far (p := ⟨a3, 1, none⟩) (Kd.R_far (p := ⟨a3, 0, none⟩) (Kd.R_types b4.out b0.out (by decide)) (fun _ hk => hk.2) (.int .i64 b6)) (fun _ hk => hk.2) (.slice e5 d5.length e6)) (fun _ hk => hk.2) (.slice e8 d7.length e9)) (fun _ h_ => h_.1))) hb); have e0 := Aside0.mk (Kd.R_below (rz (Kd.R_mono (Kd.R_far (p := ⟨a3, 2, none⟩) (Kd.R_far (p := ⟨a3, 1, none⟩) (Kd.R_far (p := ⟨a3, 0, none⟩) (Kd.R_types e3.out b0.out (by decide)) (fun _ hk => hk.2) (.int .i64 b6)) (fun _ hk => hk.2) (.slice e5 d5.length e6)) (fun _ hk => hk.2) (.slice e8 d7.length e9)) (fun _ h_ => h_.1))) hb); have e7 := Aside0.mk (Kd.R_below (rz (Kd.R_mono (Kd.R_far (p := ⟨a3, 2, none⟩) (Kd.R_far (p := ⟨a3, 1, none⟩) (Kd.R_far (p := ⟨a3, 0, none⟩) (Kd.R_types e4.out b0.out (by decide)) (fun _ hk => hk.2) (.int .i64 b6)) (fun _ hk => hk.2) (.slice e5 d5.length e6)) (fun _ hk => hk.2) (.slice e8 d7.length e9)) (fun _ h_ => h_.1))) hb); have f1 := Aside0.mk (blk_below (g := a8) (o := .cells #[.int .i64 1, .slice d8 b1.length d4, .slice e1 b2.length d6] 25 (0, 0)) (fz a1.out g5.out) hb); have f2 := Aside0.mk (blk_below (g := a0) (o := .cells #[.int .i64 2, .slice b8 a4.length b5, .slice b9 a5.length b7] 25 (0, 0)) (fz a2.out g6.out) hb); have f3 := Aside0.mk (blk_below (g := a3) (o := .cells #[.int .i64 b6, .slice e5 d5.length e6, .slice e8 d7.length e9] 25 (0, 0)) (by (with_reducible repeat (first | refine blk_drewN ?_ _ | refine blk_drew ?_ | refine blk_alloc ?_ _)); refine blk_put (cs := #[.int .i64 b6, .slice e5 d5.length e6, .slice none 0 0]) ?_ 2 _ rfl; (with_reducible repeat (first | refine blk_drewN ?_ _ | refine blk_drew ?_ | refine blk_alloc ?_ _)); refine blk_put (cs := #[.int .i64 b6, .slice none 0 0, .slice none 0 0]) ?_ 1 _ rfl; (with_reducible repeat (first | refine blk_drewN ?_ _ | refine blk_drew ?_ | refine blk_alloc ?_ _)); refine blk_put (cs := #[.int .i64 0, .slice none 0 0, .slice none 0 0]) ?_ 0 _ rfl; (with_reducible repeat (first | refine blk_drewN ?_ _ | refine blk_drew ?_ | refine blk_alloc ?_ _)); exact b0.out) hb); have f5 := Aside0.mk (below_step (wz HB.out) hb); clear a6; clear a7; clear b3; clear b4; clear e3; clear e4; clear a1; clear a2; clear b0; clear HB; have a6 := d1; have a7 := d2; have b3 := d3; have b4 := d9; have e3 := e0; have e4 := e7; have a1 := f1; have a2 := f2; have b0 := f3; have HB := f5; clear d1 d2 d3 d9 e0 e7 f1 f2 f3 f5; (try clear hb); (try clear k2); (try clear hk); (try clear hi); have n0 : h0.cell? ⟨a3, 0, none⟩ = some (.int .i64 b6) := bcz b0 0 rfl; have n1 : h0.cell? ⟨a3, 1, none⟩ = some (.slice e5 d5.length e6) := bcz b0 1 rfl; have n2 : h0.cell? ⟨a3, 2, none⟩ = some (.slice e8 d7.length e9) := bcz b0 2 rfl; have p4 := blk_frozen b0.out 0; have p5 := blk_frozen b0.out 1; have p6 := blk_frozen b0.out 2; have n3 : h0.cell? ⟨a0, 0, none⟩ = some (.int .i64 2) := bcz a2 0 rfl; have n4 : h0.cell? ⟨a0, 1, none⟩ = some (.slice b8 a4.length b5) := bcz a2 1 rfl; have n5 : h0.cell? ⟨a0, 2, none⟩ = some (.slice b9 a5.length b7) := bcz a2 2 rfl; have p7 := blk_frozen a2.out 0; have p8 := blk_frozen a2.out 1; have p9 := blk_frozen a2.out 2) | (go_at_call 44; (with_reducible refine (Pr26a.calls k b6 _ _ d5 _ _ d7 2 _ _ a4 _ _ a5 true _ ?i2 ?i3 ?i4 ?i5 ?i7 ?i8 ?i9 ?j2 A5.out).mono ?_); (case i2 => repeat (first | exact (Kd.R_reads' e3.out).2.2 | (with_reducible refine Kd.C_alloc ?_ _) | (with_reducible refine Kd.C_drewN ?_ _) | (with_reducible refine Kd.C_drew ?_))); (case i3 => exact (Kd.R_reads' e3.out).2.1); (case i4 => repeat (first | exact (Kd.R_reads' e4.out).2.2 | (with_reducible refine Kd.C_alloc ?_ _) | (with_reducible refine Kd.C_drewN ?_ _) | (with_reducible refine Kd.C_drew ?_))); (case i5 => exact (Kd.R_reads' e4.out).2.1); (case i7 => repeat (first | exact (Kd.R_reads' b3.out).2.2 | (with_reducible refine Kd.C_alloc ?_ _) | (with_reducible refine Kd.C_drewN ?_ _) | (with_reducible refine Kd.C_drew ?_))); (case i8 => exact (Kd.R_reads' b3.out).2.1); (case i9 => repeat (first | exact (Kd.R_reads' b4.out).2.2 | (with_reducible refine Kd.C_alloc ?_ _) | (with_reducible refine Kd.C_drewN ?_ _) | (with_reducible refine Kd.C_drew ?_))); (case j2 => exact (Kd.R_reads' b4.out).2.1); rintro e s4 ⟨rfl, hb⟩; have d1 := Aside0.mk (Kd.R_below (rz a6.out) hb); have d2 := Aside0.mk (Kd.R_below (rz a7.out) hb); have d3 := Aside0.mk (Kd.R_below (rz b3.out) hb); have d9 := Aside0.mk (Kd.R_below (rz b4.out) hb); have e0 := Aside0.mk (Kd.R_below (rz e3.out) hb); have e7 := Aside0.mk (Kd.R_below (rz e4.out) hb); have f1 := Aside0.mk (blk_below (bz a1.out) hb); have f2 := Aside0.mk (blk_below (bz a2.out) hb); have f3 := Aside0.mk (blk_below (bz b0.out) hb); have f5 := Aside0.mk (below_step (wz HB.out) hb); clear a6; clear a7; clear b3; clear b4; clear e3; clear e4; clear a1; clear a2; clear b0; clear HB; have a6 := d1; have a7 := d2; have b3 := d3; have b4 := d9; have e3 := e0; have e4 := e7; have a1 := f1; have a2 := f2; have b0 := f3; have HB := f5; clear d1 d2 d3 d9 e0 e7 f1 f2 f3 f5; (try clear hb); (try clear k2); (try clear hk); (try clear hi)))
     go_ret
     exact ⟨by first | rfl | (simp [errW_none, errW_some] <;> rfl) | (simp [*, errW_none, errW_some] <;> rfl), wz HB.out⟩
    ·rw [if_neg c7] at H;have c7b0 : (f4 == 0) = false := beq_eq_false_iff_ne.mpr c7;have c7b1 : (f4 != 0) = true := bne_iff_ne.mpr c7;obtain rfl := Option.some.inj H;exact absurd hr_.out (by decide)
   ·replace c6 := Bool.eq_false_iff.mpr c6;subst c6;have H1 : (some false) = some r := by rw [if_neg (show ¬ (false = true) by decide)] at H; exact H
    clear H;have H := H1;clear H1;obtain rfl := Option.some.inj H;exact absurd hr_.out (by decide)
  ·rw [if_neg c4] at H;have c4b0 : (b6 == 2) = false := beq_eq_false_iff_ne.mpr c4;have c4b1 : (b6 != 2) = true := bne_iff_ne.mpr c4;obtain rfl := Option.some.inj H;exact absurd hr_.out (by decide)
 ·rw [if_neg c3] at H;have c3b0 : (f6 == 0) = false := beq_eq_false_iff_ne.mpr c3;have c3b1 : (f6 != 0) = true := bne_iff_ne.mpr c3;obtain rfl := Option.some.inj H;exact absurd hr_.out (by decide)
end Go.Proofs.Ytmcbkmfpmcbdpaa.Pr
set_option linter.unusedVariables false
set_option linter.unusedSimpArgs false
set_option linter.unusedSectionVars false
namespace Go.Proofs.Ytmcbkmfpmcbdpaa.H
open Go.RowKit Go.Proofs.Ytmcbkmfpmcbdpaa.Pr Go.Proofs.YtmcbkmfpmcbdpaaW.PrintWords Go.Proofs.Ytmcbkmfpmcbdpaa.Sem
open Go.Maps (Keyed)
structure KB {α : Type} (P : Program) (k : TypeId) (mk : α → Value) (lt : α → Lit) (ok : α → Prop) : Prop where
  K : Keyed P k
  key : ∀ a, ok a → keyOf P k (mk a) = some (lt a)
  inv : ∀ v kl, keyOf P k v = some kl → ∃ a, ok a ∧ v = mk a ∧ kl = lt a
  inj : ∀ a b, mk a = mk b → a = b
def hR (v : Value) : Option (DataW Value × List MemPlace) := some (.held v, [])
section
variable {α : Type} [DecidableEq α] {P : Program} {k : TypeId} {mk : α → Value} {lt : α → Lit} {ok : α → Prop}
theorem KB.ltInj (B : KB P k mk lt ok) {a b : α} (ha : ok a) (hb : ok b) (h : lt a = lt b) : a = b := by
 have h1 := B.key a ha
 rw [h] at h1
 exact B.inj _ _ (B.K.inj h1 (B.key b hb))
theorem KB.same (B : KB P k mk lt ok) {a b : α} (ha : ok a) (hb : ok b) : (lt a).sameKey (lt b) = decide (a = b) := by
 by_cases e : a = b
 ·subst e
  rw [WideAt.sameKey_self (B.K.key (B.key a ha))]
  simp
 ·rw [Maps.sameKey_ne (fun h => e (B.ltInj ha hb h))]
  simp [e]
def Holds (lt : α → Lit) (ok : α → Prop) (D : DataW Value) (f : α → Option Value) : Prop := ∀ a, ok a → Maps.has D (lt a) = (f a).isSome ∧ ∀ z, D.atKey (lt a) (.held z) = .held ((f a).getD z)
def GM (P : Program) (k : TypeId) (lt : α → Lit) (ok : α → Prop) (w : World) (m : Nat) (f : α → Option Value) (c : Nat) : Prop :=
 ∃ D : DataW Value, w.ownsMap P k hR m c D ∧ Maps.size D = c ∧ Holds lt ok D f
theorem ownsMap_tight {w : World} {R : Value → Option (DataW Value × List MemPlace)} {m n : Nat} {D : DataW Value} (h : w.ownsMap P k R m n D) : w.ownsMap P k R m (Maps.size D) D := by
 obtain ⟨es, clock, hb, F, hs, rfl⟩ := h
 exact ⟨es, clock, hb, F, by simp [Maps.size, length_sorted], rfl⟩
def GR (P : Program) (k : TypeId) (lt : α → Lit) (ok : α → Prop) (w : World) (m r : Nat) (f : α → Option Value) (left : α → Bool) (cnt : Nat) : Prop :=
 ∃ (D : DataW Value) (lf : Lit → Bool), w.ranges P k hR m r (Maps.size D) D lf cnt ∧ Holds lt ok D f ∧ ∀ a, ok a → left a = lf (lt a)
def putM (f : α → Option Value) (a : α) (v : Value) : α → Option Value := fun x => if x = a then some v else f x
def delM (f : α → Option Value) (a : α) : α → Option Value := fun x => if x = a then none else f x
variable {w w1 : World} {m c r cnt : Nat} {f : α → Option Value} {left : α → Bool}
theorem GM.lt_ (h : GM P k lt ok w m f c) : m < w.heap.size := by obtain ⟨D, h, _⟩ := h; exact h.lt
theorem GM.blk (h : GM P k lt ok w m f c) : ∃ es c, w.heap[m]? = some (.map es c) := by obtain ⟨D, ⟨es, c, hb, _⟩, _⟩ := h; exact ⟨es, c, hb⟩
theorem GM.same (h : GM P k lt ok w m f c) (hb : w1.heap[m]? = w.heap[m]?) : GM P k lt ok w1 m f c := by
 obtain ⟨D, ⟨es, c, hbl, r⟩, h2⟩ := h
 exact ⟨D, ⟨es, c, hb.trans hbl, r⟩, h2⟩
theorem GM.congr (h : GM P k lt ok w m f c) {g : α → Option Value} (e : ∀ a, ok a → g a = f a) : GM P k lt ok w m g c := by
 obtain ⟨D, h1, h2, h3⟩ := h
 exact ⟨D, h1, h2, fun a ha => by rw [e a ha]; exact h3 a ha⟩
theorem GM.below (h : GM P k lt ok w m f c) (hb : Below w.heap.size w w1) : GM P k lt ok w1 m f c := h.same (hb.block m h.lt_)
theorem GM.grown (h : GM P k lt ok w m f c) {row : Option Nat} (hr : row ≠ some m) (hg : w.grownBy w1 row) : GM P k lt ok w1 m f c := h.same (hg.block m h.lt_ (fun e => hr e.symm))
theorem GM.made (P : Program) (k : TypeId) (lt : α → Lit) (ok : α → Prop) (w : World) : GM P k lt ok (w.alloc (.map #[] 0)) w.heap.size (fun _ => none) 0 :=
 ⟨.map [], World.ownsMap_made _ _ _ _, rfl, fun a _ => ⟨rfl, fun z => rfl⟩⟩
theorem GM.look (B : KB P k mk lt ok) (h : GM P k lt ok w m f c) {a : α} (ha : ok a) {t e : TypeId} (ht : P.underlying t = some (.map k e)) {z : Value} (hz : (zeroValue e).run P w = .ok z w) : (Instr.lookup t (.map (some m)) (mk a) true).run P w = .ok (.tuple #[(f a).getD z, .bool (f a).isSome]) w := by
 obtain ⟨D, h1, _, h2⟩ := h
 obtain ⟨v, ps, hrun, hv⟩ := h1.look_ok B.K ht hz (zd := .held z) (zp := []) rfl (B.key a ha)
 rw [(h2 a ha).2] at hv
 cases hv
 rw [hrun, (h2 a ha).1]
theorem GM.get (B : KB P k mk lt ok) (h : GM P k lt ok w m f c) {a : α} (ha : ok a) {t e : TypeId} (ht : P.underlying t = some (.map k e)) {z : Value} (hz : (zeroValue e).run P w = .ok z w) : (Instr.lookup t (.map (some m)) (mk a) false).run P w = .ok ((f a).getD z) w := by
 obtain ⟨D, h1, _, h2⟩ := h
 obtain ⟨v, ps, hrun, hv⟩ := h1.lookup B.K ht hz (zd := .held z) (zp := []) rfl (B.key a ha)
 rw [(h2 a ha).2] at hv
 cases hv
 exact hrun
theorem GM.len (h : GM P k lt ok w m f c) {t e : TypeId} (ht : P.underlying t = some (.map k e)) (ty : TypeId) : (Builtin.len_ #[t] ty #[.map (some m)]).run P w = .ok (.int .i64 (c : Int)) w := by
 obtain ⟨D, h1, hs, _⟩ := h
 rw [← hs]
 exact h1.len ht ty
theorem GM.put (B : KB P k mk lt ok) (h : GM P k lt ok w m f c) {a : α} (ha : ok a) {v : Value} (hn : c < maxLen) {t e : TypeId} (ht : P.underlying t = some (.map k e)) : ∃ w1, (Instr.mapUpdate t (.map (some m)) (mk a) v).run P w = .ok () w1 ∧ GM P k lt ok w1 m (putM f a v) (if (f a).isSome then c else c + 1) ∧ w.grownBy w1 (some m) ∧ w1.heap.size = w.heap.size := by
 obtain ⟨D, h1, hs, h2⟩ := h
 obtain ⟨w1, hrun, ho, hg⟩ := h1.store B.K ht hn (B.key a ha) (val := v) (d := .held v) (ps := []) rfl
 have hsz : Maps.size (D.put (lt a) (.held v)) = if (f a).isSome then c else c + 1 := by
  rw [Maps.size_put (h1.tidy B.K), (h2 a ha).1, hs]
 refine ⟨w1, hrun, ⟨_, hsz ▸ ownsMap_tight ho, hsz, fun x hx => ?_⟩, hg.grown, ?_⟩
 ·unfold putM
  by_cases e : x = a
  ·subst e
   rw [if_pos rfl, Maps.has_put_same h1.isMap (B.K.key (B.key x ha))]
   exact ⟨rfl, fun z => by rw [Maps.atKey_put_same h1.isMap (B.K.key (B.key x ha))]; rfl⟩
  ·have hne : lt x ≠ lt a := fun h => e (B.ltInj hx ha h)
   rw [if_neg e, Maps.has_put_other hne]
   exact ⟨(h2 x hx).1, fun z => by rw [Maps.atKey_put_other hne]; exact (h2 x hx).2 z⟩
 ·obtain ⟨es, clock, es', clock', hb, rfl⟩ := hg
  simp [ChangeMaps.setBlock]
theorem Holds.del (B : KB P k mk lt ok) {D : DataW Value} (h2 : Holds lt ok D f) {a : α} (ha : ok a) : Holds lt ok (D.del (lt a)) (delM f a) := by
 intro x hx
 unfold delM
 by_cases e : x = a
 ·subst e
  rw [if_pos rfl]
  exact ⟨by rw [Maps.has_del_same]; rfl, fun z => by rw [Maps.atKey_del_same]; rfl⟩
 ·have hne : lt x ≠ lt a := fun h => e (B.ltInj hx ha h)
  rw [if_neg e]
  exact ⟨by rw [Maps.has_del_other hne]; exact (h2 x hx).1, fun z => by rw [Maps.atKey_del_other hne]; exact (h2 x hx).2 z⟩
theorem GM.del (B : KB P k mk lt ok) (h : GM P k lt ok w m f c) {a : α} (ha : ok a) {t e : TypeId} (ht : P.underlying t = some (.map k e)) (ty : TypeId) : ∃ w1, (Builtin.delete_ #[t, k] ty #[.map (some m), mk a]).run P w = .ok (.tuple #[]) w1 ∧ (∃ c', c' ≤ c ∧ GM P k lt ok w1 m (delM f a) c') ∧ w.grownBy w1 (some m) ∧ w1.heap.size = w.heap.size := by
 obtain ⟨D, h1, hs, h2⟩ := h
 obtain ⟨w1, hrun, ho, hg⟩ := h1.drop B.K ht (B.key a ha) ty
 have hle : Maps.size (D.del (lt a)) ≤ c := by
  rw [← hs]
  have := Maps.size_del (h1.tidy B.K) (k := lt a)
  omega
 refine ⟨w1, hrun, ⟨_, hle, _, ownsMap_tight ho, rfl, Holds.del B h2 ha⟩, hg.grown, ?_⟩
 obtain ⟨es, clock, es', clock', hb, rfl⟩ := hg
 simp [ChangeMaps.setBlock]
theorem GM.empty (B : KB P k mk lt ok) (h : GM P k lt ok w m f c) : c = 0 ↔ ∀ a, ok a → f a = none := by
 obtain ⟨D, h1, hs, h2⟩ := h
 obtain ⟨es, rfl, _, hk⟩ := h1.entries B.K
 constructor
 ·intro h0 a ha
  have : es = [] := List.eq_nil_of_length_eq_zero (by rw [← hs] at h0; exact h0)
  subst this
  have h3 := (h2 a ha).1
  cases hf : f a
  ·rfl
  ·rw [hf] at h3; cases h3
 ·intro h0
  rw [← hs]
  cases es with
  | nil => rfl
  | cons p es =>
   obtain ⟨es0, clock, _, F, _, hD⟩ := h1
   have hp : p ∈ (es0.toList.map (WideElems.rg P k hR)).foldr DataW.insert [] := by
    have := DataW.map.inj hD
    rw [← this]; exact List.mem_cons_self ..
   obtain ⟨x, hx, rfl⟩ := List.mem_map.1 (mem_sorted.1 hp)
   obtain ⟨y, hy⟩ := F.reads x hx
   have hkey := WideElems.rd_key hy
   obtain ⟨a, ha, _, e2⟩ := B.inv _ _ hkey
   have h4 := (h2 a ha).1
   rw [h0 a ha] at h4
   have h5 : Maps.has (DataW.map (WideElems.rg P k hR x :: es)) (lt a) = true := by
    refine List.any_eq_true.2 ⟨_, List.mem_cons_self .., ?_⟩
    rw [WideElems.rg_of hy, e2]
    exact WideAt.sameKey_self (B.K.key (B.key a ha))
   rw [h5] at h4
   cases h4
theorem GM.count_le (B : KB P k mk lt ok) (h : GM P k lt ok w m f c) (L : List α) (hL : ∀ a, ok a → (f a).isSome = true → a ∈ L) : c ≤ L.length := by
 obtain ⟨D, h1, hs, h2⟩ := h;obtain ⟨es, rfl, hne, hk⟩ := h1.entries B.K;obtain ⟨es0, clock, _, F, _, hD⟩ := h1
 have hget : ∀ p ∈ es, ∃ a, ok a ∧ p.1 = lt a := by
  intro p hp
  have hp : p ∈ (es0.toList.map (WideElems.rg P k hR)).foldr DataW.insert [] := by
   have := DataW.map.inj hD;rw [← this]; exact hp
  obtain ⟨x, hx, rfl⟩ := List.mem_map.1 (mem_sorted.1 hp);obtain ⟨y, hy⟩ := F.reads x hx;obtain ⟨a, ha, _, e2⟩ := B.inv _ _ (WideElems.rd_key hy);exact ⟨a, ha, by rw [WideElems.rg_of hy]; exact e2⟩
 have hall : ∀ p ∈ es, ∃ a ∈ L, ok a ∧ p.1 = lt a := by
  intro p hp;obtain ⟨a, ha, e⟩ := hget p hp;refine ⟨a, hL a ha ?_, ha, e⟩;rw [← (h2 a ha).1];exact List.any_eq_true.2 ⟨p, hp, by rw [e]; exact WideAt.sameKey_self (B.K.key (B.key a ha))⟩
 rw [← hs];show es.length ≤ L.length;clear hs h2 hk F hD hget hL
 induction es generalizing L with
 | nil => simp
 | cons p r ih =>
  obtain ⟨a, haL, ha, e⟩ := hall p (List.mem_cons_self ..)
  have h3 := ih (L := L.erase a) (List.pairwise_cons.1 hne).2 fun q hq => by
   obtain ⟨b, hbL, hb, e2⟩ := hall q (List.mem_cons_of_mem _ hq);refine ⟨b, (List.mem_erase_of_ne ?_).2 hbL, hb, e2⟩;rintro rfl;exact (List.pairwise_cons.1 hne).1 q hq (e.trans e2.symm)
  rw [List.length_erase_of_mem haL] at h3;have := List.length_pos_of_mem haL;simp only [List.length_cons];omega
theorem GR.map (h : GR P k lt ok w m r f left cnt) : ∃ c, GM P k lt ok w m f c := by
 obtain ⟨D, lf, h1, h2, _⟩ := h
 exact ⟨_, D, h1.owns, rfl, h2⟩
theorem GR.left_eq (h : GR P k lt ok w m r f left cnt) : w.rangeLeft m r = cnt := by
 obtain ⟨D, lf, h1, _⟩ := h
 exact h1.left_eq
theorem GR.lt_ (h : GR P k lt ok w m r f left cnt) : r < w.heap.size := by
 obtain ⟨D, lf, h1, _⟩ := h
 exact h1.lt
theorem GR.mlt (h : GR P k lt ok w m r f left cnt) : m < w.heap.size := by
 obtain ⟨c, h⟩ := h.map
 exact h.lt_
theorem GR.ne (h : GR P k lt ok w m r f left cnt) : r ≠ m := by
 obtain ⟨D, lf, h1, _⟩ := h
 exact h1.ne
theorem GR.iter (h : GR P k lt ok w m r f left cnt) : ∃ b s x c, w.heap[r]? = some (.mapIter b s x c) := by
 obtain ⟨D, lf, ⟨es, clock, since, seen, c0, _, _, _, _, hr, _⟩, _⟩ := h
 exact ⟨_, _, _, _, hr⟩
theorem GR.same (h : GR P k lt ok w m r f left cnt) (hb : w1.heap[m]? = w.heap[m]?) (hr : w1.heap[r]? = w.heap[r]?) : GR P k lt ok w1 m r f left cnt := by
 obtain ⟨D, lf, ⟨es, clock, since, seen, c0, h1, h2, h3, h4, h5, h6⟩, h7⟩ := h
 exact ⟨D, lf, ⟨es, clock, since, seen, c0, hb.trans h1, h2, h3, h4, hr.trans h5, h6⟩, h7⟩
theorem GM.range (h : GM P k lt ok w m f c) (B : KB P k mk lt ok) {t e : TypeId} (ht : P.underlying t = some (.map k e)) :
  ∃ w', (Instr.range t (.map (some m))).run P w = .ok (.pointer (some ⟨w.heap.size, 0, none⟩)) w' ∧ GR P k lt ok w' m w.heap.size f (fun a => (f a).isSome) c ∧ w.grownBy w' none ∧ w'.heap.size = w.heap.size + 1 := by
 obtain ⟨D, h1, hs, h2⟩ := h
 obtain ⟨w', hrun, hr, hg, hz⟩ := h1.range B.K ht
 subst hs
 exact ⟨w', hrun, ⟨D, _, hr, h2, fun a ha => (h2 a ha).1.symm⟩, hg, hz⟩
theorem GR.next (h : GR P k lt ok w m r f left cnt) (B : KB P k mk lt ok) (ty : TypeId) :
  (cnt = 0 ∧ (∀ a, ok a → left a = false) ∧ (Instr.next (.pointer (some ⟨r, 0, none⟩)) false ty).run P w = .ok (.tuple #[.bool false]) w) ∨
  ∃ a v w' cnt', ok a ∧ left a = true ∧ f a = some v ∧ (Instr.next (.pointer (some ⟨r, 0, none⟩)) false ty).run P w = .ok (.tuple #[.bool true, mk a, v]) w' ∧
   GR P k lt ok w' m r f (fun x => left x && !decide (x = a)) cnt' ∧ cnt' < cnt ∧ w.grownBy w' (some r) ∧ w'.heap.size = w.heap.size ∧ (Instr.entry (.pointer (some ⟨r, 0, none⟩))).run P w' = .ok (.tuple #[mk a, v]) w' := by
 obtain ⟨D, lf, h1, h2, h3⟩ := h;rcases h1.next B.K ty with ⟨h0, hl, hrun⟩ | ⟨key, v, kl, y, w', cnt', hkey, hlk, hv, hat, hrun, hrg, hlt, hgr, hsz, hen⟩
 ·exact .inl ⟨h0, fun a ha => by rw [h3 a ha]; exact hl _, hrun⟩
 ·obtain ⟨a, ha, rfl, rfl⟩ := B.inv key kl hkey
  cases hv
  have hfa : f a = some v := by
   cases hf : f a with
   | none =>
    have e1 := (h2 a ha).2 (.bool true);have e2 := (h2 a ha).2 (.bool false);rw [hat, hf] at e1 e2;simp only [Option.getD_none, DataW.held.injEq] at e1 e2;rw [e1] at e2
    cases e2
   | some u =>
    have e1 := (h2 a ha).2 (.bool true);rw [hat, hf] at e1;simp only [Option.getD_some, DataW.held.injEq] at e1;rw [e1]
  refine .inr ⟨a, v, w', cnt', ha, by rw [h3 a ha]; exact hlk, hfa, hrun, ⟨D, _, hrg, h2, fun x hx => ?_⟩, hlt, hgr, hsz, hen⟩;show (left x && !decide (x = a)) = (lf (lt x) && !(lt x).sameKey (lt a));rw [h3 x hx, B.same hx ha]
end
section
variable {α : Type} [DecidableEq α] {P : Program} {k : TypeId} {mk : α → Value} {lt : α → Lit} {ok : α → Prop} (w : World) {ops : Array Oper} {rest : List Oper} {o : Oper} {a : Act} {Q : Exit → Act → World → Prop}
theorem wpList_grange (B : KB P k mk lt ok) (hg : o.guard = none) (x : Operand) (t : TypeId) (hop : o.op = Op.range t x) (e : TypeId) (ht : P.underlying t = some (.map k e)) (m c : Nat) (f : α → Option Value) (hm : a.eval x = .map (some m)) (h : GM P k lt ok w m f c)
  (hK : ∀ w', GR P k lt ok w' m w.heap.size f (fun a => (f a).isSome) c → w.grownBy w' none → w'.heap.size = w.heap.size + 1 → wpList P ops Q rest (a.put o.dst (.pointer (some ⟨w.heap.size, 0, none⟩))) w') :
  wpList P ops Q (o :: rest) a w := by
 refine wpList_plain hg fun K' hK' => ?_
 obtain ⟨w', hrun, r1, r2, r3⟩ := h.range B ht
 unfold Oper.wp
 simp [execOp, hop, hm, hrun, Result.andThen]
 exact hK' _ _ (hK w' r1 r2 r3)
theorem wpList_gnext (B : KB P k mk lt ok) (hg : o.guard = none) (x : Operand) (hop : o.op = Op.next x false) (m r : Nat) (f : α → Option Value) (left : α → Bool) (cnt : Nat) (hit : a.eval x = .pointer (some ⟨r, 0, none⟩)) (h : GR P k lt ok w m r f left cnt)
  (hDone : cnt = 0 → (∀ a, ok a → left a = false) → wpList P ops Q rest (a.put o.dst (.tuple #[.bool false])) w)
  (hMore : ∀ (y : α) (v : Value) (w' : World) (cnt' : Nat), ok y → left y = true → f y = some v → GR P k lt ok w' m r f (fun x => left x && !decide (x = y)) cnt' → cnt' < cnt → w.grownBy w' (some r) → w'.heap.size = w.heap.size →
   (Instr.entry (.pointer (some ⟨r, 0, none⟩))).run P w' = .ok (.tuple #[mk y, v]) w' → wpList P ops Q rest (a.put o.dst (.tuple #[.bool true, mk y, v])) w') :
  wpList P ops Q (o :: rest) a w := by
 refine wpList_plain hg fun K' hK' => ?_
 unfold Oper.wp
 rcases h.next B o.type with ⟨h0, hl, hrun⟩ | ⟨y, v, w', cnt', hy, hl, hf, hrun, hgr, hlt, hg2, hsz, hen⟩
 ·simp [execOp, hop, hit, hrun, Result.andThen]
  exact hK' _ _ (hDone h0 hl)
 ·simp [execOp, hop, hit, hrun, Result.andThen]
  exact hK' _ _ (hMore y v w' cnt' hy hl hf hgr hlt hg2 hsz hen)
theorem wpList_gput (B : KB P k mk lt ok) (hg : o.guard = none) (x y z : Operand) (t : TypeId) (hop : o.op = Op.mapUpdate t x y z) (e : TypeId) (ht : P.underlying t = some (.map k e)) (m c : Nat) (f : α → Option Value) (hm : a.eval x = .map (some m)) (h : GM P k lt ok w m f c) (hn : c < maxLen) (b : α) (hb : ok b) (v : Value) (hy : a.eval y = mk b) (hz : a.eval z = v)
  (hK : ∀ w', GM P k lt ok w' m (putM f b v) (if (f b).isSome then c else c + 1) → w.grownBy w' (some m) → w'.heap.size = w.heap.size → wpList P ops Q rest (a.put o.dst undef) w') :
  wpList P ops Q (o :: rest) a w := by
 refine wpList_plain hg fun K' hK' => ?_
 obtain ⟨w', hrun, r1, r2, r3⟩ := h.put B hb (v := v) hn ht
 unfold Oper.wp
 simp [execOp, hop, hm, hy, hz, hrun, Result.andThen]
 exact hK' _ _ (hK w' r1 r2 r3)
end
def ik (a : Int) : Lit := .int .i64 a
def i64in (a : Int) : Prop := -9223372036854775808 ≤ a ∧ a ≤ 9223372036854775807
theorem ik_wf {a : Int} (h : i64in a) : (Lit.int .i64 a).wf = true := by
 unfold i64in at h
 exact WalkArith.wf_i64 (by omega)
theorem wf_in {a : Int} (h : (Lit.int .i64 a).wf = true) : i64in a := by
 have h1 : IntKind.i64.min = -9223372036854775808 := by kernel_rfl
 have h2 : IntKind.i64.max = 9223372036854775807 := by kernel_rfl
 simp [Lit.wf, h1, h2] at h
 exact h
theorem intKB : KB Try.prog 3 (Value.int .i64) ik i64in where
 K := Maps.int_keyed Try.underlying3
 key := fun a ha => Maps.keyOf_int_mk Try.underlying3 (ik_wf ha)
 inv := fun v kl h => by
  obtain ⟨x, h1, h2, h3⟩ := Maps.keyOf_int_inv Try.underlying3 h
  exact ⟨x, wf_in h3, h1, h2⟩
 inj := fun a b h => by injection h
end Go.Proofs.Ytmcbkmfpmcbdpaa.H
namespace Go.Proofs.Ytmcbkmfpmcbdpaa.PL
theorem rind {α : Type} {P : List α → Prop} (h0 : P []) (h1 : ∀ l a, P l → P (l ++ [a])) (l : List α) : P l := by
 have : ∀ m : List α, P m.reverse := by
  intro m
  induction m with
  | nil => exact h0
  | cons a r ih => rw [List.reverse_cons]; exact h1 _ _ ih
 have := this l.reverse
 rwa [List.reverse_reverse] at this
section
variable {κ : Type} [DecidableEq κ]
def addK (acc : List κ) (k : κ) : List κ := if k ∈ acc then acc else acc ++ [k]
def fstK (ks : List κ) : List κ := ks.foldl addK []
def numK (ks : List κ) : List Int := ks.map fun k => ((fstK ks).idxOf k : Int)
theorem fstK_snoc (ks : List κ) (k : κ) : fstK (ks ++ [k]) = addK (fstK ks) k := by simp [fstK, List.foldl_append]
theorem addK_mem {acc : List κ} {k x : κ} : x ∈ addK acc k ↔ x ∈ acc ∨ x = k := by
 unfold addK
 split
 ·rename_i h
  constructor
  ·exact .inl
  ·rintro (h' | rfl)
   ·exact h'
   ·exact h
 ·simp
theorem addK_nodup {acc : List κ} {k : κ} (h : acc.Nodup) : (addK acc k).Nodup := by
 unfold addK
 split
 ·exact h
 ·rename_i q
  rw [List.nodup_append]
  refine ⟨h, by simp, fun a ha b hb => ?_⟩
  have : b = k := by simpa using hb
  subst this
  intro e
  exact q (e ▸ ha)
theorem fstK_mem (ks : List κ) : ∀ x, x ∈ fstK ks ↔ x ∈ ks := by
 induction ks using rind with
 | h0 => intro x; simp [fstK]
 | h1 l a ih => intro x; rw [fstK_snoc, addK_mem, ih]; simp
theorem fstK_nodup (ks : List κ) : (fstK ks).Nodup := by
 induction ks using rind with
 | h0 => simp [fstK]
 | h1 l a ih => rw [fstK_snoc]; exact addK_nodup ih
theorem fstK_prefix (ks rs : List κ) : fstK ks <+: fstK (ks ++ rs) := by
 induction rs using rind with
 | h0 => simp
 | h1 l a ih =>
  rw [← List.append_assoc, fstK_snoc]
  refine ih.trans ?_
  unfold addK
  split
  ·exact List.prefix_refl _
  ·exact List.prefix_append _ _
theorem idxOf_prefix {a b : List κ} (h : a <+: b) {k : κ} (hk : k ∈ a) : b.idxOf k = a.idxOf k := by
 obtain ⟨r, rfl⟩ := h
 rw [List.idxOf_append, if_pos hk]
theorem idxOf_addK_new {acc : List κ} {k : κ} (h : k ∉ acc) : (addK acc k).idxOf k = acc.length := by
 unfold addK
 rw [if_neg h, List.idxOf_append, if_neg h]
 simp
theorem fstK_length_le (ks : List κ) : (fstK ks).length ≤ ks.length := by
 induction ks using rind with
 | h0 => simp [fstK]
 | h1 l a ih =>
  rw [fstK_snoc]
  unfold addK
  split
  ·simp; omega
  ·simp; omega
theorem numK_length (ks : List κ) : (numK ks).length = ks.length := by simp [numK]
theorem numK_snoc (ks : List κ) (k : κ) : numK (ks ++ [k]) = numK ks ++ [((addK (fstK ks) k).idxOf k : Int)] := by
 unfold numK
 rw [List.map_append, fstK_snoc]
 congr 1
 refine List.map_congr_left fun x hx => ?_
 have hp : fstK ks <+: addK (fstK ks) k := by rw [← fstK_snoc]; exact fstK_prefix ks [k]
 rw [idxOf_prefix hp ((fstK_mem ks x).2 hx)]
theorem idxOf_inj {l : List κ} {a b : κ} (ha : a ∈ l) (hb : b ∈ l) (h : l.idxOf a = l.idxOf b) : a = b := by
 have h1 := List.idxOf_lt_length_of_mem ha
 have h2 := List.idxOf_lt_length_of_mem hb
 have e1 := List.getElem_idxOf h1
 have e2 := List.getElem_idxOf h2
 rw [← e1, ← e2]
 congr 1
theorem numK_eq (ks : List κ) {i j : Nat} (hi : i < ks.length) (hj : j < ks.length) : (numK ks).getD i 0 = (numK ks).getD j 0 ↔ ks[i] = ks[j] := by
 simp only [numK, List.getD_eq_getElem?_getD, List.getElem?_map, List.getElem?_eq_getElem hi, List.getElem?_eq_getElem hj, Option.map_some, Option.getD_some]
 constructor
 ·intro h
  exact idxOf_inj ((fstK_mem ks _).2 (List.getElem_mem hi)) ((fstK_mem ks _).2 (List.getElem_mem hj)) (by omega)
 ·intro h; rw [h]
theorem numK_at (ks : List κ) {i : Nat} (hi : i < ks.length) : (numK ks).getD i 0 = ((fstK ks).idxOf ks[i] : Int) := by
 simp only [numK, List.getD_eq_getElem?_getD, List.getElem?_map, List.getElem?_eq_getElem hi, Option.map_some, Option.getD_some]
end
def Ker {κ τ : Type} (ks : List κ) (ts : List τ) : Prop := ks.length = ts.length ∧ ∀ (i j : Nat) (hi : i < ks.length) (hj : j < ks.length) (hi' : i < ts.length) (hj' : j < ts.length), ks[i] = ks[j] ↔ ts[i] = ts[j]
theorem Ker.symm {κ τ : Type} {ks : List κ} {ts : List τ} (h : Ker ks ts) : Ker ts ks := ⟨h.1.symm, fun i j a b c d => (h.2 i j c d a b).symm⟩
theorem Ker.refl {κ : Type} (ks : List κ) : Ker ks ks := ⟨rfl, fun _ _ _ _ _ _ => Iff.rfl⟩
theorem Ker.trans {κ τ υ : Type} {ks : List κ} {ts : List τ} {us : List υ} (h : Ker ks ts) (g : Ker ts us) : Ker ks us :=
 ⟨h.1.trans g.1, fun i j a b c d => (h.2 i j a b (by rw [← h.1]; exact a) (by rw [← h.1]; exact b)).trans (g.2 i j (by rw [← h.1]; exact a) (by rw [← h.1]; exact b) c d)⟩
theorem Ker.init {κ τ : Type} {ks : List κ} {ts : List τ} {a : κ} {b : τ} (h : Ker (ks ++ [a]) (ts ++ [b])) : Ker ks ts ∧ ∀ (i : Nat) (hi : i < ks.length) (hi' : i < ts.length), ks[i] = a ↔ ts[i] = b := by
 have hl : ks.length = ts.length := by have := h.1; simp at this; exact this
 refine ⟨⟨hl, fun i j hi hj hi' hj' => ?_⟩, fun i hi hi' => ?_⟩
 ·have := h.2 i j (by simp; omega) (by simp; omega) (by simp; omega) (by simp; omega)
  rwa [List.getElem_append_left hi, List.getElem_append_left hj, List.getElem_append_left hi', List.getElem_append_left hj'] at this
 ·have := h.2 i ks.length (by simp; omega) (by simp) (by simp; omega) (by simp; omega)
  rw [List.getElem_append_left hi, List.getElem_append_left hi'] at this
  simpa [hl] using this
theorem rcases_snoc {α : Type} (l : List α) : l = [] ∨ ∃ r a, l = r ++ [a] := by
 induction l using rind with
 | h0 => exact .inl rfl
 | h1 l a ih => exact .inr ⟨l, a, rfl⟩
section
variable {κ τ : Type} [DecidableEq κ] [DecidableEq τ]
theorem numK_ker : ∀ (ks : List κ) (ts : List τ), Ker ks ts → numK ks = numK ts ∧ (fstK ks).length = (fstK ts).length := by
 intro ks
 induction ks using rind with
 | h0 =>
  intro ts h;have : ts = [] := by have := h.1; simpa using this.symm
  subst this;exact ⟨rfl, rfl⟩
 | h1 l a ih =>
  intro ts h;rcases rcases_snoc ts with rfl | ⟨r, b, rfl⟩
  ·have := h.1; simp at this
  ·have hi := h.init;have hk := ih r hi.1;have hl : l.length = r.length := hi.1.1;rw [numK_snoc, numK_snoc, fstK_snoc, fstK_snoc, hk.1];by_cases q : a ∈ l
   ·obtain ⟨i, hil, hia⟩ := List.getElem_of_mem q;have hb := (hi.2 i hil (by omega)).1 hia;have hb' : b ∈ r := hb ▸ List.getElem_mem (show i < r.length by omega);have e1 : addK (fstK l) a = fstK l := by unfold addK; rw [if_pos ((fstK_mem l a).2 q)]
    have e2 : addK (fstK r) b = fstK r := by unfold addK; rw [if_pos ((fstK_mem r b).2 hb')]
    rw [e1, e2];refine ⟨?_, hk.2⟩;have x1 := numK_at l hil;have x2 := numK_at r (i := i) (by omega);rw [hia] at x1;rw [hb] at x2;rw [← x1, ← x2, hk.1]
   ·have hb' : b ∉ r := by
     intro hb;obtain ⟨i, hil, hib⟩ := List.getElem_of_mem hb;exact q ((hi.2 i (by omega) hil).2 hib ▸ List.getElem_mem (show i < l.length by omega))
    have q1 : a ∉ fstK l := fun h => q ((fstK_mem l a).1 h)
    have q2 : b ∉ fstK r := fun h => hb' ((fstK_mem r b).1 h)
    rw [idxOf_addK_new q1, idxOf_addK_new q2, hk.2];refine ⟨rfl, ?_⟩;unfold addK;rw [if_neg q1, if_neg q2];simp [hk.2]
end
section
variable {κ : Type} [DecidableEq κ]
end
end Go.Proofs.Ytmcbkmfpmcbdpaa.PL
namespace Go.Proofs.Ytmcbkmfpmcbdpaa.H
open Go.RowKit Go.Proofs.Ytmcbkmfpmcbdpaa.Pr Go.Proofs.YtmcbkmfpmcbdpaaW.PrintWords Go.Proofs.Ytmcbkmfpmcbdpaa.Sem Go.Proofs.YtmcbkmfpmcbdpaaW.PrintLast Go.Proofs.Ytmcbkmfpmcbdpaa.PL
theorem infoIj : (Try.prog.info? 3).map (fun i => (i.zero, i.size, i.bytes)) = some (some (.int .i64 0), 1, 8) := by kernel_rfl
theorem zeroIj (w : World) : (zeroValue 3).run Try.prog w = .ok (.int .i64 0) w := by kernel_rfl
theorem take_snocJ {α : Type} (d : α) {xs : List α} {k : Nat} (hk : k < xs.length) : xs.take (k + 1) = xs.take k ++ [xs.getD k d] := by
 rw [List.getD_eq_getElem?_getD, List.getElem?_eq_getElem hk, Option.getD_some, List.take_succ_eq_append_getElem hk]
def NumF (ks : List Int) (f : Int → Option Value) : Prop := ∀ a, i64in a → f a = if a ∈ fstK ks then some (.int .i64 ((fstK ks).idxOf a : Int)) else none
set_option maxHeartbeats 8000000 in
set_option maxRecDepth 100000 in
theorem number_any (ks : List Int) (A : Option Addr) (c0 : Nat) (w : World) (hC : Kd.C (Kd.int .i64) w A ks.length ks) (hks : ∀ x ∈ ks, i64in x) (hl : ks.length ≤ 1000000000) :
    Calls Try.prog 118 #[.slice A ks.length c0] w fun e w' => ∃ v, e = .returned v ∧ Kd.R (Kd.int .i64) 3 w' w.heap.size (fun _ => True) v (numK ks) ∧ Below w.heap.size w w' := by
  have hmm := @run_makeMap Try.prog;have HC := Aside0.mk hC;have HK := Aside0.mk hks;clear hC hks;go_enter Try.func118, Try.ntmps118
  go_wp2
  clear hmm;have a2 := Aside0.mk (GM.made Try.prog 3 ik i64in w);have a5 := Aside0.mk (below_alloc (Below.refl w.heap.size w) (Obj.map #[] 0));obtain ⟨M, hM⟩ : ∃ M, M = w.heap.size := ⟨_, rfl⟩
  rw [← hM] at a2 ⊢;have HM := Aside0.mk hM;clear hM;go_loopw [4, 12] (fun v i wr => ∃ (k : Nat) (f : Int → Option Value), k ≤ ks.length ∧ i = .int .i64 k ∧ Aside0 (GM Try.prog 3 ik i64in wr M f (fstK (ks.take k)).length) ∧ Aside0 (NumF (ks.take k) f) ∧ Aside0 (Kd.R (Kd.int .i64) 3 wr w.heap.size (fun q => q ≠ M) v (numK (ks.take k))) ∧ Aside0 (Below w.heap.size w wr)) (fun _ i _ => ks.length - (intOf i).toNat)
  case atStart => exact ⟨0, _, Nat.zero_le _, rfl, a2, ⟨fun a ha => rfl⟩, ⟨Kd.R_nil _ _ _ _ _⟩, a5⟩
  case round =>
    clear a2 a5;obtain ⟨k, f, hk, rfl, HG, HF, HR, HB⟩ := hrel;by_cases hlt : k < ks.length
    · obtain ⟨ad, hA, hc⟩ := atI HC.out k hlt
      subst hA;replace hc := later HB.out hc;have a0 := HK.out (ks.getD k 0) (by simp [List.getD_eq_getElem?_getD, List.getElem?_eq_getElem hlt]);obtain ⟨x, hx⟩ : ∃ x, x = ks.getD k 0 := ⟨_, rfl⟩
      rw [← hx] at hc a0;have HT := Aside0.mk (show ks.take (k + 1) = ks.take k ++ [x] by rw [take_snocJ (0 : Int) hlt, hx]);have hlook := HG.out.look intKB a0 Try.underlying88 (zeroIj _);rw [HF.out x a0] at hlook;have hfl := fstK_length_le (ks.take k);rw [List.length_take] at hfl;have hnl : (numK (ks.take k)).length = k := by rw [numK_length, List.length_take]; omega
      obtain ⟨m, hm⟩ : ∃ m, m = (fstK (ks.take k)).length := ⟨_, rfl⟩
      rw [← hm] at hfl;have HX := Aside0.mk a0;have Hm := Aside0.mk hm;have HNl := Aside0.mk hnl;clear hx a0 hm hnl;by_cases hmem : x ∈ fstK (ks.take k)
      · rw [if_pos hmem] at hlook
        obtain ⟨z, hz⟩ : ∃ z : Nat, z = (fstK (ks.take k)).idxOf x := ⟨_, rfl⟩
        rw [← hz] at hlook;have HZ := Aside0.mk hz;have HMem := Aside0.mk hmem;clear hz hmem;go_wp2_with (at_builtin; refine Kd.R_append (Kd.int .i64) (w0 := w) w.heap.size rfl (.tmp 29) (.tmp 31) 28 3 (.int .i64 0) 8 rfl Try.underlying28 infoIj rfl (by decide) (by omega) _ (numK (ks.take k)) (z : Int) [.int .i64 (z : Int)] (fun q => q ≠ M) (fun _ => False) rfl rfl rfl (fun _ hk => hk.elim) (fun q hq e => by have := HG.out.lt_; omega) HR.out HB.out HB.out.size (by rw [HNl.out]; omega) ?_; intro v9 w9 ho hb hg hat; have a4 := Aside0.mk ho; have a1 := Aside0.mk hb; have a3 := Aside0.mk (HG.out.grown (fun e => HR.out.1 M e rfl) hg); clear ho hb hg hat)
        go_roundw
        case rel =>
          have hadd : addK (fstK (ks.take k)) x = fstK (ks.take k) := by unfold addK; rw [if_pos HMem.out]
          refine ⟨k + 1, f, by omega, by go_num, ⟨?_⟩, ⟨?_⟩, ⟨?_⟩, a1⟩
          · rw [HT.out, fstK_snoc, hadd]; exact a3.out
          · rw [HT.out]
            intro a ha;rw [fstK_snoc, hadd];exact HF.out a ha
          · rw [HT.out, numK_snoc, hadd, ← HZ.out]; exact a4.out
        case measure => simp [intOf]; omega
      · rw [if_neg hmem] at hlook
        have HMem := Aside0.mk hmem;have hlen := HG.out.len Try.underlying88 3;rw [← Hm.out] at hlen;clear hmem
        go_wp2_with (first
          | (refine wpList_gput _ intKB rfl _ _ _ 88 rfl 3 Try.underlying88 M _ f rfl HG.out (by rw [← Hm.out]; unfold maxLen; omega) x HX.out (.int .i64 (m : Int)) rfl rfl ?_
             intro w8 hgm hgg hsz;have a7 := Aside0.mk hgm;have a8 := Aside0.mk (Kd.R_grown HR.out hgg fun q hq e => by cases e; exact hq rfl);have a6 := Aside0.mk (HB.out.grown hgg HB.out.size fun q e => by cases e; rw [HM.out]; exact Nat.le_refl _);clear hgm hgg hsz hlen)
          | (at_builtin
             refine Kd.R_append (Kd.int .i64) (w0 := w) w.heap.size rfl (.tmp 29) (.tmp 31) 28 3 (.int .i64 0) 8 rfl Try.underlying28 infoIj rfl (by decide) (by omega) _ (numK (ks.take k)) (m : Int) [.int .i64 (m : Int)] (fun q => q ≠ M) (fun _ => False) rfl rfl rfl (fun _ hk => hk.elim) (fun q hq e => by have := a7.out.lt_; omega) a8.out a6.out a6.out.size (by rw [HNl.out]; omega) ?_;intro v9 w9 ho hb hg hat;have a4 := Aside0.mk ho;have a1 := Aside0.mk hb;have a3 := Aside0.mk (a7.out.grown (fun e => a8.out.1 M e rfl) hg);clear ho hb hg hat))
        go_roundw
        case rel =>
          have hadd : addK (fstK (ks.take k)) x = fstK (ks.take k) ++ [x] := by unfold addK; rw [if_neg HMem.out]
          have hnone : (f x).isSome = false := by rw [HF.out x HX.out, if_neg HMem.out]; rfl
          have a9 := a3.out;rw [hnone, if_neg (by simp)] at a9;refine ⟨k + 1, putM f x (.int .i64 (m : Int)), by omega, by go_num, ⟨?_⟩, ⟨?_⟩, ⟨?_⟩, a1⟩
          · rw [HT.out, fstK_snoc, hadd, List.length_append]; exact a9
          · rw [HT.out]
            intro a ha;rw [fstK_snoc, hadd];unfold putM;by_cases e : a = x
            · rw [if_pos e, if_pos (by simp [e]), e, List.idxOf_append, if_neg HMem.out, Hm.out]
              simp
            · rw [if_neg e, HF.out a ha]
              by_cases hq : a ∈ fstK (ks.take k)
              · rw [if_pos hq, if_pos (List.mem_append_left _ hq), List.idxOf_append, if_pos hq]
              · rw [if_neg hq, if_neg (by simp [hq, e])]
          · rw [HT.out, numK_snoc, idxOf_addK_new HMem.out, ← Hm.out]; exact a4.out
        case measure => simp [intOf]; omega
    · have ek : ks.take k = ks := List.take_of_length_le (by omega)
      rw [ek] at HR;go_wp2
      go_ret
      exact ⟨_, rfl, Kd.R_mono HR.out fun _ _ => trivial, HB.out⟩
set_option maxHeartbeats 8000000 in
theorem plain_any (ks : List Int) (A : Option Addr) (c0 : Nat) (w : World) (hC : Kd.C (Kd.int .i64) w A ks.length ks) (hks : ∀ x ∈ ks, i64in x) (hl : ks.length ≤ 1000000000) :
  Calls Try.prog 69 #[.slice A ks.length c0] w fun e w' => ∃ v, e = .returned v ∧ Kd.R (Kd.int .i64) 3 w' w.heap.size (fun _ => True) v (numK ks) ∧ Below w.heap.size w w' := by
 go_enter Try.func69, Try.ntmps69
 go_wp2_with (go_at_call 118; refine (number_any ks A c0 w hC hks hl).mono ?_; rintro e w1 ⟨v1, rfl, hR, hB⟩)
 go_ret
 exact ⟨v1, rfl, hR, hB⟩
end Go.Proofs.Ytmcbkmfpmcbdpaa.H
namespace Go.Proofs.Ytmcbkmfpmcbdpaa.H
open Go.RowKit Go.Proofs.Ytmcbkmfpmcbdpaa.Pr Go.Proofs.YtmcbkmfpmcbdpaaW.PrintWords Go.Proofs.Ytmcbkmfpmcbdpaa.Sem
theorem pair_eq {x y : Pair} : x = y ↔ x.f0 = y.f0 ∧ x.f1 = y.f1 := by
 obtain ⟨a, b⟩ := x
 obtain ⟨c, d⟩ := y
 simp
instance : DecidableEq Pair := fun x y => decidable_of_iff _ (pair_eq (x := x) (y := y)).symm
end Go.Proofs.Ytmcbkmfpmcbdpaa.H
namespace Go.Proofs.Ytmcbkmfpmcbdpaa.H
open Go.RowKit Go.Proofs.Ytmcbkmfpmcbdpaa.Pr Go.Proofs.YtmcbkmfpmcbdpaaW.PrintWords Go.Proofs.Ytmcbkmfpmcbdpaa.Sem Go.Proofs.YtmcbkmfpmcbdpaaW.PrintLast
def pairsTo (n k : Nat) : List Pair := (List.range k).flatMap fun s : Nat => (List.range n).map fun t : Nat => (⟨(s : Int), (t : Int)⟩ : Pair)
theorem pairsTo_succ (n k : Nat) : pairsTo n (k + 1) = pairsTo n k ++ (List.range n).map fun t : Nat => (⟨(k : Int), (t : Int)⟩ : Pair) := by
 unfold pairsTo
 rw [List.range_succ, List.flatMap_append]
 simp
theorem pairsTo_length (n k : Nat) : (pairsTo n k).length = k * n := by
 induction k with
 | zero => simp [pairsTo]
 | succ k ih => rw [pairsTo_succ, List.length_append, ih]; simp [Nat.succ_mul]
def bothB (es : List Ed) (S : Int → Int → Bool) (p : Pair) : Bool := followsB es S false p.f0 p.f1 && followsB es S true p.f0 p.f1
def passK (es : List Ed) : List Pair → (Int → Int → Bool) → List Pair
 | [], _ => []
 | p :: r, S => if bothB es S p then p :: passK es r S else passK es r (lessP S p.f0 p.f1)
def passS (es : List Ed) : List Pair → (Int → Int → Bool) → (Int → Int → Bool)
 | [], S => S
 | p :: r, S => if bothB es S p then passS es r S else passS es r (lessP S p.f0 p.f1)
theorem passK_sub (es : List Ed) : ∀ (r : List Pair) (S : Int → Int → Bool), List.Sublist (passK es r S) r
 | [], S => List.Sublist.refl _
 | x :: r, S => by
  unfold passK
  split
  ·exact (passK_sub es r S).cons_cons x
  ·exact (passK_sub es r _).cons x
def rounds (es : List Ed) : Nat → List Pair → (Int → Int → Bool) → List Pair
 | 0, rel, _ => rel
 | f + 1, rel, S => if (passK es rel S).length = rel.length then passK es rel S else rounds es f (passK es rel S) (passS es rel S)
def greatL (n : Nat) (es : List Ed) : List Pair := rounds es (n * n + 1) (pairsTo n n) (relS (pairsTo n n))
theorem step_delete {P : Program} {ops : Array Oper} {o : Oper} {a : Act} {Q : Exit → Act → World → Prop} {K : Act → World → Prop} {W w1 : World} (hw : Region.wanted o (yielded ops a.tmps) = true) (m x : Operand) (t k : TypeId)
  (hop : o.op = Op.call { callee := Callee.builtin Builtin.delete, args := #[m, x], argTypes := #[t, k] }) {b : Nat} {key : Value} (hm : a.eval m = .map (some b)) (hx : a.eval x = key)
  (hrun : (Builtin.delete_ #[t, k] o.type #[.map (some b), key]).run P W = .ok (.tuple #[]) w1) (h : K (a.put o.dst (.tuple #[])) w1) :
  if Region.wanted o (yielded ops a.tmps) = true then Oper.wp P o a W K Q else K (a.put o.dst undef) W := by
 rw [if_pos hw]
 unfold Oper.wp
 simp [execOp, hop, resolve, invoke, builtin, hm, hx, hrun, Result.andThen]
 exact h
end Go.Proofs.Ytmcbkmfpmcbdpaa.H
namespace Go.Proofs.Ytmcbkmfpmcbdpaa.H
open Go.RowKit Go.Proofs.Ytmcbkmfpmcbdpaa.Pr Go.Proofs.YtmcbkmfpmcbdpaaW.PrintWords Go.Proofs.Ytmcbkmfpmcbdpaa.Sem
def Post (es : List Ed) (S : Int → Int → Bool) : Prop := ∀ a b, S a b = true → followsB es S false a b = true ∧ followsB es S true a b = true
theorem fol_iff (es : List Ed) (S : Int → Int → Bool) (a b : Int) : followsB es S false a b = true ↔ ∀ e ∈ es, e.f0 = a → ∃ f ∈ es, f.f0 = b ∧ e.f1 = f.f1 ∧ S e.f2 f.f2 = true := by
 unfold followsB outE answers
 simp only [Bool.false_eq_true, if_false, List.all_eq_true, List.any_eq_true, List.mem_filter, decide_eq_true_eq, Bool.and_eq_true, beq_iff_eq]
 constructor
 ·intro h e he hea
  obtain ⟨f, ⟨h1, h2⟩, h3, h4⟩ := h e ⟨he, hea⟩
  exact ⟨f, h1, h2, h3, h4⟩
 ·rintro h e ⟨he, hea⟩
  obtain ⟨f, h1, h2, h3, h4⟩ := h e he hea
  exact ⟨f, ⟨h1, h2⟩, h3, h4⟩
theorem folT_iff (es : List Ed) (S : Int → Int → Bool) (a b : Int) : followsB es S true a b = true ↔ ∀ e ∈ es, e.f0 = b → ∃ f ∈ es, f.f0 = a ∧ e.f1 = f.f1 ∧ S f.f2 e.f2 = true := by
 unfold followsB outE answers
 simp only [if_true, List.all_eq_true, List.any_eq_true, List.mem_filter, decide_eq_true_eq, Bool.and_eq_true, beq_iff_eq]
 constructor
 ·intro h e he hea
  obtain ⟨f, ⟨h1, h2⟩, h3, h4⟩ := h e ⟨he, hea⟩
  exact ⟨f, h1, h2, h3, h4⟩
 ·rintro h e ⟨he, hea⟩
  obtain ⟨f, h1, h2, h3, h4⟩ := h e he hea
  exact ⟨f, ⟨h1, h2⟩, h3, h4⟩
theorem fol_mono {es : List Ed} {S S' : Int → Int → Bool} (h : ∀ x y, S x y = true → S' x y = true) (t : Bool) (a b : Int) (hf : followsB es S t a b = true) : followsB es S' t a b = true := by
 cases t with
 | false =>
  rw [fol_iff] at hf ⊢
  intro e he hea
  obtain ⟨f, h1, h2, h3, h4⟩ := hf e he hea
  exact ⟨f, h1, h2, h3, h _ _ h4⟩
 | true =>
  rw [folT_iff] at hf ⊢
  intro e he hea
  obtain ⟨f, h1, h2, h3, h4⟩ := hf e he hea
  exact ⟨f, h1, h2, h3, h _ _ h4⟩
theorem both_iff (es : List Ed) (S : Int → Int → Bool) (p : Pair) : bothB es S p = true ↔ followsB es S false p.f0 p.f1 = true ∧ followsB es S true p.f0 p.f1 = true := by
 unfold bothB
 rw [Bool.and_eq_true]
theorem relS_iff (rel : List Pair) (a b : Int) : relS rel a b = true ↔ (⟨a, b⟩ : Pair) ∈ rel := by
 unfold relS
 rw [List.any_eq_true]
 constructor
 ·rintro ⟨p, hp, h⟩
  simp only [Bool.and_eq_true, decide_eq_true_eq] at h
  have : p = ⟨a, b⟩ := pair_eq.2 h
  rwa [← this]
 ·intro h
  exact ⟨_, h, by simp⟩
theorem pass_keep {es : List Ed} {R : Int → Int → Bool} (hR : Post es R) : ∀ (rel : List Pair) (S : Int → Int → Bool), (∀ x y, R x y = true → S x y = true) → ∀ x y, R x y = true → passS es rel S x y = true
 | [], S, h => h
 | p :: r, S, h => by
  cases hb : bothB es S p with
  | false =>
   have hnp : R p.f0 p.f1 = false := by
    rw [Bool.eq_false_iff]
    intro hp
    have := hR _ _ hp
    have h2 := (both_iff es S p).2 ⟨fol_mono h false _ _ this.1, fol_mono h true _ _ this.2⟩
    rw [hb] at h2
    cases h2
   have h' : ∀ x y, R x y = true → lessP S p.f0 p.f1 x y = true := by
    intro x y hxy
    unfold lessP
    rw [h x y hxy]
    have : ¬ (x = p.f0 ∧ y = p.f1) := by
     rintro ⟨rfl, rfl⟩
     rw [hnp] at hxy
     cases hxy
    have e : (decide (x = p.f0) && decide (y = p.f1)) = false := by simpa using this
    rw [e]
    rfl
   have := pass_keep hR r _ h'
   simpa [passS, hb] using this
  | true =>
   have := pass_keep hR r S h
   simpa [passS, hb] using this
theorem pass_stable (es : List Ed) : ∀ (rel : List Pair) (S : Int → Int → Bool), (passK es rel S).length = rel.length → passK es rel S = rel ∧ ∀ p ∈ rel, bothB es S p = true
 | [], S, _ => ⟨rfl, by simp⟩
 | p :: r, S, h => by
  cases hb : bothB es S p with
  | false =>
   simp [passK, hb] at h
   have := (passK_sub es r (lessP S p.f0 p.f1)).length_le
   omega
  | true =>
   simp [passK, hb] at h
   obtain ⟨a, c⟩ := pass_stable es r S h
   refine ⟨by simp [passK, hb, a], fun q hq => ?_⟩
   rcases List.mem_cons.1 hq with rfl | hq
   ·exact hb
   ·exact c q hq
theorem relS_less {pre r : List Pair} {p : Pair} (h : (pre ++ p :: r).Nodup) : lessP (relS (pre ++ p :: r)) p.f0 p.f1 = relS (pre ++ r) := by
 have hp1 : p ∉ pre := fun hm => by
  have := (List.nodup_append.1 h).2.2 p hm p (List.mem_cons_self ..)
  exact this rfl
 have hp2 : p ∉ r := (List.nodup_cons.1 (List.nodup_append.1 h).2.1).1
 funext a b
 rw [Bool.eq_iff_iff]
 unfold lessP
 rw [Bool.and_eq_true, relS_iff, relS_iff]
 simp only [List.mem_append, List.mem_cons, Bool.not_eq_true', Bool.and_eq_false_iff, decide_eq_false_iff_not]
 constructor
 ·rintro ⟨h1 | h1 | h1, h2⟩
  ·exact .inl h1
  ·rcases pair_eq.1 h1 with ⟨h3, h4⟩
   simp only at h3 h4
   rcases h2 with h2 | h2
   ·exact absurd h3 h2
   ·exact absurd h4 h2
  ·exact .inr h1
 ·intro h1
  refine ⟨?_, ?_⟩
  ·rcases h1 with h1 | h1
   ·exact .inl h1
   ·exact .inr (.inr h1)
  ·by_cases h2 : a = p.f0
   ·by_cases h3 : b = p.f1
    ·have e : (⟨a, b⟩ : Pair) = p := pair_eq.2 ⟨h2, h3⟩
     rw [e] at h1
     rcases h1 with h1 | h1
     ·exact absurd h1 hp1
     ·exact absurd h1 hp2
    ·exact .inr h3
   ·exact .inl h2
theorem pass_rel (es : List Ed) : ∀ (rel pre : List Pair), (pre ++ rel).Nodup → passS es rel (relS (pre ++ rel)) = relS (pre ++ passK es rel (relS (pre ++ rel)))
 | [], pre, _ => by simp [passS, passK]
 | p :: r, pre, h => by
  cases hb : bothB es (relS (pre ++ p :: r)) p with
  | false =>
   have e := relS_less h
   have h2 : (pre ++ r).Nodup := by
    refine h.sublist ?_
    exact List.Sublist.append (List.Sublist.refl _) (List.sublist_cons_self _ _)
   have := pass_rel es r pre h2
   simpa [passS, passK, hb, e] using this
  | true =>
   have := pass_rel es r (pre ++ [p]) (by simpa using h)
   simpa [passS, passK, hb] using this
theorem rounds_spec (es : List Ed) : ∀ (f : Nat) (rel : List Pair), rel.length < f → rel.Nodup → List.Sublist (rounds es f rel (relS rel)) rel ∧ (∀ p ∈ rounds es f rel (relS rel), bothB es (relS (rounds es f rel (relS rel))) p = true) ∧
  ∀ R, Post es R → (∀ x y, R x y = true → relS rel x y = true) → ∀ x y, R x y = true → relS (rounds es f rel (relS rel)) x y = true
 | 0, rel, h, _ => by omega
 | f + 1, rel, h, hn => by
  unfold rounds
  by_cases hl : (passK es rel (relS rel)).length = rel.length
  ·rw [if_pos hl]
   obtain ⟨a, c⟩ := pass_stable es rel (relS rel) hl
   rw [a]
   exact ⟨List.Sublist.refl _, c, fun R _ h => h⟩
  ·rw [if_neg hl]
   have hsub := passK_sub es rel (relS rel)
   have hS : passS es rel (relS rel) = relS (passK es rel (relS rel)) := by
    have := pass_rel es rel [] (by simpa using hn)
    simpa using this
   have hlt := hsub.length_le
   obtain ⟨g1, g2, g3⟩ := rounds_spec es f (passK es rel (relS rel)) (by omega) (hn.sublist hsub)
   rw [hS]
   refine ⟨g1.trans hsub, g2, fun R hR h2 => g3 R hR fun x y hxy => ?_⟩
   have := pass_keep hR rel (relS rel) h2 x y hxy
   rwa [hS] at this
theorem pairsTo_map (n : Nat) : ∀ k, pairsTo n k = (List.range (k * n)).map fun i : Nat => (⟨((i / n : Nat) : Int), ((i % n : Nat) : Int)⟩ : Pair)
 | 0 => by simp [pairsTo]
 | k + 1 => by
  rw [pairsTo_succ, pairsTo_map n k, Nat.succ_mul, List.range_add, List.map_append, List.map_map]
  congr 1
  refine List.map_congr_left fun j hj => ?_
  have hj' := List.mem_range.1 hj
  have e1 : (k * n + j) / n = k := by
   rw [Nat.mul_comm, Nat.mul_add_div (by omega), Nat.div_eq_of_lt hj']
   rfl
  have e2 : (k * n + j) % n = j := by rw [Nat.mul_comm, Nat.mul_add_mod, Nat.mod_eq_of_lt hj']
  simp only [Function.comp, e1, e2]
theorem pairsTo_mem {n : Nat} {p : Pair} : p ∈ pairsTo n n ↔ (0 ≤ p.f0 ∧ p.f0 < n) ∧ (0 ≤ p.f1 ∧ p.f1 < n) := by
 unfold pairsTo
 constructor
 ·intro h
  obtain ⟨s, hs, hp⟩ := List.mem_flatMap.1 h
  obtain ⟨t, ht, rfl⟩ := List.mem_map.1 hp
  have h1 := List.mem_range.1 hs
  have h2 := List.mem_range.1 ht
  simp only
  omega
 ·rintro ⟨⟨h0, h1⟩, h2, h3⟩
  obtain ⟨a, b⟩ := p
  simp only at h0 h1 h2 h3
  obtain ⟨i, rfl⟩ := Int.eq_ofNat_of_zero_le h0
  obtain ⟨j, rfl⟩ := Int.eq_ofNat_of_zero_le h2
  exact List.mem_flatMap.2 ⟨i, List.mem_range.2 (by omega), List.mem_map.2 ⟨j, List.mem_range.2 (by omega), rfl⟩⟩
theorem pairsTo_nodup (n : Nat) : (pairsTo n n).Nodup := by
 rw [pairsTo_map]
 unfold List.Nodup
 rw [List.pairwise_map]
 refine List.Pairwise.imp_of_mem ?_ (List.nodup_range (n := n * n))
 intro a b ha hb hab e
 rcases pair_eq.1 e with ⟨h1, h2⟩
 simp only at h1 h2
 have e1 : a / n = b / n := by omega
 have e2 : a % n = b % n := by omega
 apply hab
 rw [← Nat.div_add_mod a n, ← Nat.div_add_mod b n, e1, e2]
theorem great_spec (n : Nat) (es : List Ed) : List.Sublist (greatL n es) (pairsTo n n) ∧ Post es (relS (greatL n es)) ∧ ∀ R, Post es R → (∀ x y, R x y = true → (0 ≤ x ∧ x < n) ∧ (0 ≤ y ∧ y < n)) → ∀ x y, R x y = true → relS (greatL n es) x y = true := by
 obtain ⟨g1, g2, g3⟩ := rounds_spec es (n * n + 1) (pairsTo n n) (by rw [pairsTo_length]; omega) (pairsTo_nodup n)
 refine ⟨g1, fun a b hab => ?_, fun R hR hr => g3 R hR fun x y hxy => (relS_iff _ _ _).2 (pairsTo_mem.2 (hr x y hxy))⟩
 exact (both_iff es _ ⟨a, b⟩).1 (g2 _ ((relS_iff _ _ _).1 hab))
def Nd (n : Nat) (s : Int) : Prop := 0 ≤ s ∧ s < n
def Bis (n : Nat) (es : List Ed) (s t : Int) : Prop := relS (greatL n es) s t = true
theorem Bis.nodes {n : Nat} {es : List Ed} {s t : Int} (h : Bis n es s t) : Nd n s ∧ Nd n t := by
 have h1 := (relS_iff _ _ _).1 h
 exact pairsTo_mem.1 ((great_spec n es).1.subset h1)
theorem Bis.step {n : Nat} {es : List Ed} {s t : Int} (h : Bis n es s t) {e : Ed} (he : e ∈ es) (hs : e.f0 = s) : ∃ f ∈ es, f.f0 = t ∧ e.f1 = f.f1 ∧ Bis n es e.f2 f.f2 :=
 (fol_iff es _ s t).1 ((great_spec n es).2.1 s t h).1 e he hs
theorem Bis.back {n : Nat} {es : List Ed} {s t : Int} (h : Bis n es s t) {e : Ed} (he : e ∈ es) (ht : e.f0 = t) : ∃ f ∈ es, f.f0 = s ∧ e.f1 = f.f1 ∧ Bis n es f.f2 e.f2 :=
 (folT_iff es _ s t).1 ((great_spec n es).2.1 s t h).2 e he ht
theorem Bis.of {n : Nat} {es : List Ed} {R : Int → Int → Prop} (hN : ∀ s t, R s t → Nd n s ∧ Nd n t)
  (h1 : ∀ s t, R s t → ∀ e ∈ es, e.f0 = s → ∃ f ∈ es, f.f0 = t ∧ e.f1 = f.f1 ∧ R e.f2 f.f2) (h2 : ∀ s t, R s t → ∀ e ∈ es, e.f0 = t → ∃ f ∈ es, f.f0 = s ∧ e.f1 = f.f1 ∧ R f.f2 e.f2) {s t : Int} (h : R s t) : Bis n es s t := by
 classical
 refine (great_spec n es).2.2 (fun a b => decide (R a b)) ?_ ?_ s t (decide_eq_true h)
 ·intro a b hab
  have hab := of_decide_eq_true hab
  refine ⟨(fol_iff _ _ _ _).2 fun e he hs => ?_, (folT_iff _ _ _ _).2 fun e he hs => ?_⟩
  ·obtain ⟨f, hf, x, y, z⟩ := h1 a b hab e he hs
   exact ⟨f, hf, x, y, decide_eq_true z⟩
  ·obtain ⟨f, hf, x, y, z⟩ := h2 a b hab e he hs
   exact ⟨f, hf, x, y, decide_eq_true z⟩
 ·intro x y hxy
  exact hN x y (of_decide_eq_true hxy)
theorem Bis.refl {n : Nat} {es : List Ed} (hes : ∀ e ∈ es, Nd n e.f0 ∧ Nd n e.f2) {s : Int} (hs : Nd n s) : Bis n es s s :=
 Bis.of (R := fun a b => a = b ∧ Nd n a) (fun a b h => ⟨h.2, h.1 ▸ h.2⟩) (fun a b h e he hs => ⟨e, he, h.1 ▸ hs, rfl, rfl, (hes e he).2⟩) (fun a b h e he hs => ⟨e, he, by rw [h.1]; exact hs, rfl, rfl, (hes e he).2⟩) ⟨rfl, hs⟩
theorem Bis.symm {n : Nat} {es : List Ed} {s t : Int} (h : Bis n es s t) : Bis n es t s :=
 Bis.of (R := fun a b => Bis n es b a) (fun a b h => ⟨h.nodes.2, h.nodes.1⟩) (fun a b h e he hs => by
  obtain ⟨f, hf, x, y, z⟩ := h.back he hs; exact ⟨f, hf, x, y, z⟩) (fun a b h e he hs => by
  obtain ⟨f, hf, x, y, z⟩ := h.step he hs; exact ⟨f, hf, x, y, z⟩) h
theorem Bis.trans {n : Nat} {es : List Ed} {s t u : Int} (h : Bis n es s t) (g : Bis n es t u) : Bis n es s u :=
 Bis.of (R := fun a c => ∃ b, Bis n es a b ∧ Bis n es b c) (fun a c ⟨b, x, y⟩ => ⟨x.nodes.1, y.nodes.2⟩) (fun a c ⟨b, x, y⟩ e he hs => by
  obtain ⟨f, hf, x1, x2, x3⟩ := x.step he hs
  obtain ⟨g, hg, y1, y2, y3⟩ := y.step hf x1
  exact ⟨g, hg, y1, x2.trans y2, f.f2, x3, y3⟩) (fun a c ⟨b, x, y⟩ e he hs => by
  obtain ⟨f, hf, y1, y2, y3⟩ := y.back he hs
  obtain ⟨g, hg, x1, x2, x3⟩ := x.back hf y1
  exact ⟨g, hg, x1, y2.trans x2, f.f2, x3, y3⟩) ⟨t, h, g⟩
def Into (es : List Ed) (H : Int → Int) (s l h : Int) : Prop := ∃ e ∈ es, e.f0 = s ∧ e.f1 = l ∧ H e.f2 = h
structure RefI (n : Nat) (es : List Ed) (B H : Int → Int) : Prop where
  i3 : ∀ s t, Bis n es s t → B s = B t
  i6 : ∀ s t, Nd n s → Nd n t → B s = B t → H s = H t
  i4 : ∀ s t, Nd n s → Nd n t → B s = B t → ∀ l h, Into es H s l h → Into es H t l h
def CutR (n : Nat) (B B' : Int → Int) (X : Int → Prop) : Prop := ∀ s t, Nd n s → Nd n t → (B' s = B' t ↔ B s = B t ∧ (X s ↔ X t))
structure RefJ (n : Nat) (es : List Ed) (B0 H0 B H : Int → Int) (fresh old : Int) (k : Nat) : Prop where
  base : RefI n es B0 H0
  fin : ∀ s t, Nd n s → Nd n t → B s = B t → B0 s = B0 t
  i3 : ∀ s t, Bis n es s t → B s = B t
  taken : ∃ b, (∀ s, Nd n s → H s = if B0 s = b then fresh else H0 s) ∧ (∀ s, Nd n s → B0 s = b → H0 s = old)
  new : ∀ s, Nd n s → H0 s ≠ fresh
  ne : fresh ≠ old
  some_ : ∀ l : Int, 0 ≤ l → l < k → ∀ s t, Nd n s → Nd n t → B s = B t → Into es H s l fresh → Into es H t l fresh
  only : ∀ l : Int, 0 ≤ l → l < k → ∀ s t, Nd n s → Nd n t → B s = B t → (Into es H s l fresh ∧ ¬ Into es H s l old) → (Into es H t l fresh ∧ ¬ Into es H t l old)
section
variable {n : Nat} {es : List Ed} {B H B0 H0 B' : Int → Int} {fresh old : Int} {k : Nat}
theorem RefI.take (h : RefI n es B H) {b : Int} {H' : Int → Int} (hH : ∀ s, Nd n s → H' s = if B s = b then fresh else H s) (ho : ∀ s, Nd n s → B s = b → H s = old) (hn : ∀ s, Nd n s → H s ≠ fresh) (hne : fresh ≠ old) : RefJ n es B H B H' fresh old 0 :=
 ⟨h, fun _ _ _ _ e => e, h.i3, ⟨b, hH, ho⟩, hn, hne, fun l h0 h1 => by omega, fun l h0 h1 => by omega⟩
theorem RefJ.i6 (h : RefJ n es B0 H0 B H fresh old k) {s t : Int} (hs : Nd n s) (ht : Nd n t) (e : B s = B t) : H s = H t := by
 obtain ⟨b, hb, _⟩ := h.taken
 rw [hb s hs, hb t ht, h.fin s t hs ht e, h.base.i6 s t hs ht (h.fin s t hs ht e)]
theorem RefJ.resp (h : RefJ n es B0 H0 B H fresh old k) {s t : Int} (hst : Bis n es s t) {l x : Int} (hi : Into es H s l x) : Into es H t l x := by
 obtain ⟨e, he, h0, h1, h2⟩ := hi
 obtain ⟨f, hf, g0, g1, g2⟩ := hst.step he h0
 exact ⟨f, hf, g0, by rw [← g1]; exact h1, by rw [← h2]; exact (h.i6 g2.nodes.1 g2.nodes.2 (h.i3 _ _ g2)).symm⟩
theorem RefJ.cut (h : RefJ n es B0 H0 B H fresh old k) {X : Int → Prop} (hX : ∀ s t, Bis n es s t → X s → X t) (hc : CutR n B B' X) : RefJ n es B0 H0 B' H fresh old k where
 base := h.base
 fin := fun s t hs ht e => h.fin s t hs ht ((hc s t hs ht).1 e).1
 i3 := fun s t hst => (hc s t hst.nodes.1 hst.nodes.2).2 ⟨h.i3 s t hst, hX s t hst, hX t s hst.symm⟩
 taken := h.taken
 new := h.new
 ne := h.ne
 some_ := fun l h0 h1 s t hs ht e => h.some_ l h0 h1 s t hs ht ((hc s t hs ht).1 e).1
 only := fun l h0 h1 s t hs ht e => h.only l h0 h1 s t hs ht ((hc s t hs ht).1 e).1
theorem RefJ.label (h : RefJ n es B0 H0 B H fresh old k) {B1 B2 : Int → Int} (h1 : CutR n B B1 fun s => Into es H s k fresh) (h2 : CutR n B1 B2 fun s => Into es H s k fresh ∧ ¬ Into es H s k old) : RefJ n es B0 H0 B2 H fresh old (k + 1) := by
 have j1 := h.cut (fun s t hst hi => h.resp hst hi) h1
 have j2 := j1.cut (B' := B2) (fun s t hst hi => ⟨h.resp hst hi.1, fun hn => hi.2 (h.resp hst.symm hn)⟩) h2
 refine ⟨j2.base, j2.fin, j2.i3, j2.taken, j2.new, j2.ne, fun l h0 hl s t hs ht e => ?_, fun l h0 hl s t hs ht e => ?_⟩
 ·by_cases hk : l < k
  ·exact j2.some_ l h0 hk s t hs ht e
  ·have : l = k := by omega
   subst this
   exact ((h1 s t hs ht).1 ((h2 s t hs ht).1 e).1).2.1
 ·by_cases hk : l < k
  ·exact j2.only l h0 hk s t hs ht e
  ·have : l = k := by omega
   subst this
   exact ((h2 s t hs ht).1 e).2.1
theorem RefJ.end_ (h : RefJ n es B0 H0 B H fresh old k) (hes : ∀ e ∈ es, Nd n e.f0 ∧ (0 ≤ e.f1 ∧ e.f1 < k) ∧ Nd n e.f2) : RefI n es B H where
 i3 := h.i3
 i6 := fun s t hs ht e => h.i6 hs ht e
 i4 := by
  intro s t hs ht e l x hi;obtain ⟨f, hf, f0, f1, f2⟩ := id hi;have hl := (hes f hf).2.1;rw [f1] at hl;obtain ⟨b, hb, hbo⟩ := h.taken;have e0 := h.fin s t hs ht e;have elder : ∀ s t, Nd n s → Nd n t → B0 s = B0 t → ∀ y, Into es H0 s l y → Into es H0 t l y := fun s t hs ht e y => h.base.i4 s t hs ht e l y
  by_cases hx : x = fresh
  ·subst hx;exact h.some_ l hl.1 hl.2 s t hs ht e hi
  ·have hf2 : H0 f.f2 = x := by
    have := hb f.f2 (hes f hf).2.2;rw [f2] at this;split at this
    ·exact absurd this hx
    ·exact this.symm
   have h0 : Into es H0 t l x := elder s t hs ht e0 x ⟨f, hf, f0, f1, hf2⟩;by_cases ho : x = old
   ·subst ho;by_cases hsome : Into es H s l fresh
    ·by_cases hto : Into es H t l x
     ·exact hto
     ·exact absurd hi ((h.only l hl.1 hl.2 t s ht hs e.symm ⟨h.some_ l hl.1 hl.2 s t hs ht e hsome, hto⟩).2)
    ·have hnt : ¬ Into es H t l fresh := fun hn => hsome (h.some_ l hl.1 hl.2 t s ht hs e.symm hn)
     obtain ⟨g, hg, g0, g1, g2⟩ := h0;refine ⟨g, hg, g0, g1, ?_⟩;rw [hb g.f2 (hes g hg).2.2];by_cases hgb : B0 g.f2 = b
     ·exact absurd ⟨g, hg, g0, g1, by rw [hb g.f2 (hes g hg).2.2, if_pos hgb]⟩ hnt
     ·rw [if_neg hgb]; exact g2
   ·obtain ⟨g, hg, g0, g1, g2⟩ := h0;refine ⟨g, hg, g0, g1, ?_⟩;rw [hb g.f2 (hes g hg).2.2];by_cases hgb : B0 g.f2 = b
    ·exact absurd (g2.symm.trans (hbo g.f2 (hes g hg).2.2 hgb)) ho
    ·rw [if_neg hgb]; exact g2
structure RefB (n : Nat) (es : List Ed) (B : Int → Int) (k : Nat) : Prop where
  i3 : ∀ s t, Bis n es s t → B s = B t
  has : ∀ l : Int, 0 ≤ l → l < k → ∀ s t, Nd n s → Nd n t → B s = B t → (∃ e ∈ es, e.f0 = s ∧ e.f1 = l) → ∃ e ∈ es, e.f0 = t ∧ e.f1 = l
theorem RefB.label (h : RefB n es B k) (hc : CutR n B B' fun s => ∃ e ∈ es, e.f0 = s ∧ e.f1 = k) : RefB n es B' (k + 1) := by
 refine ⟨fun s t hst => (hc s t hst.nodes.1 hst.nodes.2).2 ⟨h.i3 s t hst, ?_, ?_⟩, fun l h0 hl s t hs ht e => ?_⟩
 ·rintro ⟨e, he, h0, h1⟩
  obtain ⟨f, hf, g0, g1, _⟩ := hst.step he h0
  exact ⟨f, hf, g0, by rw [← g1]; exact h1⟩
 ·rintro ⟨e, he, h0, h1⟩
  obtain ⟨f, hf, g0, g1, _⟩ := hst.symm.step he h0
  exact ⟨f, hf, g0, by rw [← g1]; exact h1⟩
 ·by_cases hk : l < k
  ·exact h.has l h0 hk s t hs ht ((hc s t hs ht).1 e).1
  ·have : l = k := by omega
   subst this
   exact ((hc s t hs ht).1 e).2.1
theorem RefB.start : RefB n es (fun _ => 0) 0 := ⟨fun _ _ _ => rfl, fun l h0 h1 => by omega⟩
theorem RefB.end_ (h : RefB n es B k) {h0 : Int} (hH : ∀ s, Nd n s → H s = h0) (hes : ∀ e ∈ es, Nd n e.f0 ∧ (0 ≤ e.f1 ∧ e.f1 < k) ∧ Nd n e.f2) : RefI n es B H where
 i3 := h.i3
 i6 := fun s t hs ht _ => by rw [hH s hs, hH t ht]
 i4 := by
  intro s t hs ht e l x ⟨f, hf, f0, f1, f2⟩
  have hl := (hes f hf).2.1
  rw [f1] at hl
  obtain ⟨g, hg, g0, g1⟩ := h.has l hl.1 hl.2 s t hs ht e ⟨f, hf, f0, f1⟩
  exact ⟨g, hg, g0, g1, by rw [hH _ (hes g hg).2.2, ← hH _ (hes f hf).2.2]; exact f2⟩
theorem RefI.last (h : RefI n es B H) (h1 : ∀ s t, Nd n s → Nd n t → H s = H t → B s = B t) (hes : ∀ e ∈ es, Nd n e.f0 ∧ Nd n e.f2) {s t : Int} (hs : Nd n s) (ht : Nd n t) : Bis n es s t ↔ B s = B t := by
 refine ⟨h.i3 s t, fun e => Bis.of (R := fun a b => Nd n a ∧ Nd n b ∧ B a = B b) (fun a b x => ⟨x.1, x.2.1⟩) ?_ ?_ ⟨hs, ht, e⟩⟩
 ·rintro a b ⟨ha, hb, hab⟩ e he rfl
  obtain ⟨f, hf, f0, f1, f2⟩ := h.i4 _ b ha hb hab e.f1 (H e.f2) ⟨e, he, rfl, rfl, rfl⟩
  exact ⟨f, hf, f0, f1.symm, (hes e he).2, (hes f hf).2, h1 _ _ (hes e he).2 (hes f hf).2 f2.symm⟩
 ·rintro a b ⟨ha, hb, hab⟩ e he rfl
  obtain ⟨f, hf, f0, f1, f2⟩ := h.i4 _ a hb ha hab.symm e.f1 (H e.f2) ⟨e, he, rfl, rfl, rfl⟩
  exact ⟨f, hf, f0, f1.symm, (hes f hf).2, (hes e he).2, h1 _ _ (hes f hf).2 (hes e he).2 f2⟩
end
end Go.Proofs.Ytmcbkmfpmcbdpaa.H
namespace Go.Proofs.Ytmcbkmfpmcbdpaa.H
open Go.RowKit Go.Proofs.Ytmcbkmfpmcbdpaa.Pr Go.Proofs.YtmcbkmfpmcbdpaaW.PrintWords Go.Proofs.Ytmcbkmfpmcbdpaa.Sem
def gi (l : List Int) (x : Int) : Int := l.getD x.toNat 0
def gl (l : List (List Int)) (x : Int) : List Int := l.getD x.toNat []
theorem Nd.nat {n : Nat} {x : Int} (h : Nd n x) : ∃ k : Nat, x = (k : Int) ∧ k < n := ⟨x.toNat, by have := h.1; omega, by have := h.1; have := h.2; omega⟩
theorem Nd.mono {n m : Nat} {x : Int} (h : Nd n x) (hm : n ≤ m) : Nd m x := ⟨h.1, by have := h.2; omega⟩
theorem nd_iff {n : Nat} {k : Nat} : Nd n (k : Int) ↔ k < n := by unfold Nd; omega
theorem nodup_sub : ∀ {l l' : List Int}, l.Nodup → (∀ x ∈ l, x ∈ l') → l.length ≤ l'.length
 | [], l', _, _ => by simp
 | a :: l, l', h, hs => by
  obtain ⟨h1, h2⟩ := List.nodup_cons.1 h
  have := nodup_sub (l := l) (l' := l'.erase a) h2 fun x hx => (List.mem_erase_of_ne (by rintro rfl; exact h1 hx)).2 (hs x (List.mem_cons_of_mem _ hx))
  rw [List.length_erase_of_mem (hs a (List.mem_cons_self ..))] at this
  have hp : 0 < l'.length := List.length_pos_of_mem (hs a (List.mem_cons_self ..))
  simp only [List.length_cons]
  omega
theorem nodup_le {l : List Int} {n : Nat} (h : l.Nodup) (hn : ∀ x ∈ l, Nd n x) : l.length ≤ n := by
 have := nodup_sub (l' := (List.range n).map fun k : Nat => (k : Int)) h fun x hx => by
  obtain ⟨k, rfl, hk⟩ := (hn x hx).nat
  exact List.mem_map.2 ⟨k, List.mem_range.2 hk, rfl⟩
 simpa using this
structure PSt where
  block : List Int
  blocks : List (List Int)
  heap : List Int
  heaps : List (List Int)
structure PW (n : Nat) (p : PSt) : Prop where
  bl : p.block.length = n
  hl : p.heap.length = p.blocks.length
  br : ∀ x, Nd n x → Nd p.blocks.length (gi p.block x)
  bn : ∀ b, Nd p.blocks.length b → (gl p.blocks b).Nodup
  bm : ∀ b, Nd p.blocks.length b → ∀ x, x ∈ gl p.blocks b ↔ Nd n x ∧ gi p.block x = b
  be : ∀ b, Nd p.blocks.length b → gl p.blocks b ≠ []
  hr : ∀ b, Nd p.blocks.length b → Nd p.heaps.length (gi p.heap b)
  hn : ∀ h, Nd p.heaps.length h → (gl p.heaps h).Nodup
  hm : ∀ h, Nd p.heaps.length h → ∀ b, b ∈ gl p.heaps h ↔ Nd p.blocks.length b ∧ gi p.heap b = h
  he : ∀ h, Nd p.heaps.length h → gl p.heaps h ≠ []
theorem parts_le {n : Nat} {ls : List (List Int)} {f : Int → Int} (hm : ∀ b, Nd ls.length b → ∀ x, x ∈ gl ls b → Nd n x ∧ f x = b) (he : ∀ b, Nd ls.length b → gl ls b ≠ []) : ls.length ≤ n := by
 have hd : ∀ b : Nat, b < ls.length → ∃ x, x ∈ gl ls (b : Int) := fun b hb => by
  have := he b (nd_iff.2 hb)
  cases h : gl ls (b : Int) with
  | nil => exact absurd h this
  | cons x r => exact ⟨x, List.mem_cons_self ..⟩
 let g : Nat → Int := fun b => (gl ls (b : Int)).headD 0
 have hg : ∀ b : Nat, b < ls.length → g b ∈ gl ls (b : Int) := fun b hb => by
  have := he b (nd_iff.2 hb)
  show (gl ls (b : Int)).headD 0 ∈ gl ls (b : Int)
  cases h : gl ls (b : Int) with
  | nil => exact absurd h this
  | cons x r => exact List.mem_cons_self ..
 have h1 : ((List.range ls.length).map g).Nodup := by
  refine List.pairwise_map.2 (List.Pairwise.imp_of_mem ?_ List.pairwise_lt_range)
  intro a b ha hb hab e
  have ha' := List.mem_range.1 ha
  have hb' := List.mem_range.1 hb
  have e1 := (hm a (nd_iff.2 ha') _ (hg a ha')).2
  have e2 := (hm b (nd_iff.2 hb') _ (hg b hb')).2
  rw [e, e2] at e1
  omega
 have := nodup_le (n := n) h1 fun x hx => by
  obtain ⟨b, hb, rfl⟩ := List.mem_map.1 hx
  exact (hm b (nd_iff.2 (List.mem_range.1 hb)) _ (hg b (List.mem_range.1 hb))).1
 simpa using this
section
variable {n : Nat} {p : PSt}
theorem PW.nb_le (h : PW n p) : p.blocks.length ≤ n := parts_le (fun b hb x hx => (h.bm b hb x).1 hx) h.be
theorem PW.nh_le (h : PW n p) : p.heaps.length ≤ p.blocks.length := parts_le (fun b hb x hx => (h.hm b hb x).1 hx) h.he
theorem PW.len_b (h : PW n p) {b : Int} (hb : Nd p.blocks.length b) : (gl p.blocks b).length ≤ n := nodup_le (h.bn b hb) fun x hx => ((h.bm b hb x).1 hx).1
theorem PW.len_h (h : PW n p) {b : Int} (hb : Nd p.heaps.length b) : (gl p.heaps b).length ≤ p.blocks.length := nodup_le (h.hn b hb) fun x hx => ((h.hm b hb x).1 hx).1
end
def setAll (l : List Int) (ins : List Int) (v : Int) : List Int := ins.foldl (fun l x => l.set x.toNat v) l
theorem setAll_len (l ins : List Int) (v : Int) : (setAll l ins v).length = l.length := by
 induction ins using PL.rind with
 | h0 => rfl
 | h1 r a ih => rw [show setAll l (r ++ [a]) v = (setAll l r v).set a.toNat v from by simp [setAll, List.foldl_append], List.length_set, ih]
theorem setAll_snoc (l r : List Int) (a v : Int) : setAll l (r ++ [a]) v = (setAll l r v).set a.toNat v := by simp [setAll, List.foldl_append]
theorem gi_set {l : List Int} {x y v : Int} (hx : Nd l.length x) (hy : Nd l.length y) : gi (l.set x.toNat v) y = if y = x then v else gi l y := by
 obtain ⟨a, rfl, ha⟩ := hx.nat
 obtain ⟨b, rfl, hb⟩ := hy.nat
 unfold gi
 simp only [Int.toNat_natCast, List.getD_eq_getElem?_getD, List.getElem?_set]
 by_cases e : a = b
 ·subst e; simp [ha]
 ·rw [if_neg e, if_neg (by omega)]
theorem gl_set {l : List (List Int)} {x y : Int} {v : List Int} (hx : Nd l.length x) (hy : Nd l.length y) : gl (l.set x.toNat v) y = if y = x then v else gl l y := by
 obtain ⟨a, rfl, ha⟩ := hx.nat
 obtain ⟨b, rfl, hb⟩ := hy.nat
 unfold gl
 simp only [Int.toNat_natCast, List.getD_eq_getElem?_getD, List.getElem?_set]
 by_cases e : a = b
 ·subst e; simp [ha]
 ·rw [if_neg e, if_neg (by omega)]
theorem gl_snoc {l : List (List Int)} {v : List Int} {y : Int} (hy : Nd (l.length + 1) y) : gl (l ++ [v]) y = if y = (l.length : Int) then v else gl l y := by
 obtain ⟨b, rfl, hb⟩ := hy.nat
 unfold gl
 simp only [Int.toNat_natCast, List.getD_eq_getElem?_getD]
 by_cases e : b = l.length
 ·subst e; simp
 ·rw [if_neg (by omega), List.getElem?_append_left (by omega)]
theorem gi_snoc {l : List Int} {v : Int} {y : Int} (hy : Nd (l.length + 1) y) : gi (l ++ [v]) y = if y = (l.length : Int) then v else gi l y := by
 obtain ⟨b, rfl, hb⟩ := hy.nat
 unfold gi
 simp only [Int.toNat_natCast, List.getD_eq_getElem?_getD]
 by_cases e : b = l.length
 ·subst e; simp
 ·rw [if_neg (by omega), List.getElem?_append_left (by omega)]
theorem gi_setAll {l ins : List Int} {v x : Int} (hi : ∀ y ∈ ins, Nd l.length y) (hx : Nd l.length x) : gi (setAll l ins v) x = if x ∈ ins then v else gi l x := by
 induction ins using PL.rind with
 | h0 => simp [setAll]
 | h1 r a ih =>
  have ih := ih fun y hy => hi y (List.mem_append_left _ hy)
  rw [setAll_snoc, gi_set (by rw [setAll_len]; exact hi a (by simp)) (by rw [setAll_len]; exact hx), ih]
  by_cases e : x = a
  ·subst e; simp
  ·rw [if_neg e]
   simp [e]
def HP (p : PSt) (x : Int) : Int := gi p.heap (gi p.block x)
def cutP (p : PSt) (b : Int) (ins : List Int) : PSt where
 block := setAll p.block ins p.blocks.length
 blocks := (p.blocks.set b.toNat ((gl p.blocks b).filter fun x => decide (gi (setAll p.block ins p.blocks.length) x = b))) ++ [ins]
 heap := p.heap ++ [gi p.heap b]
 heaps := p.heaps.set (gi p.heap b).toNat (gl p.heaps (gi p.heap b) ++ [(p.blocks.length : Int)])
section
variable {n : Nat} {p : PSt} {b : Int} {ins : List Int}
theorem cut_blk (h : PW n p) (hb : Nd p.blocks.length b) (hs : ∀ x ∈ ins, x ∈ gl p.blocks b) {x : Int} (hx : Nd n x) : gi (cutP p b ins).block x = if x ∈ ins then (p.blocks.length : Int) else gi p.block x :=
 gi_setAll (fun y hy => by rw [h.bl]; exact ((h.bm b hb y).1 (hs y hy)).1) (by rw [h.bl]; exact hx)
theorem cut_hp (h : PW n p) (hb : Nd p.blocks.length b) (hs : ∀ x ∈ ins, x ∈ gl p.blocks b) {x : Int} (hx : Nd n x) : HP (cutP p b ins) x = HP p x := by
 unfold HP
 rw [cut_blk h hb hs hx]
 show gi (p.heap ++ [gi p.heap b]) _ = _
 by_cases e : x ∈ ins
 ·rw [if_pos e, gi_snoc (by rw [h.hl]; exact nd_iff.2 (by omega)), if_pos (by rw [h.hl]), ((h.bm b hb x).1 (hs x e)).2]
 ·rw [if_neg e, gi_snoc (by rw [h.hl]; exact (h.br x hx).mono (by omega)), if_neg (by have := (h.br x hx).2; rw [h.hl]; omega)]
theorem PW.cut (h : PW n p) (hb : Nd p.blocks.length b) (hn : ins.Nodup) (hs : ∀ x ∈ ins, x ∈ gl p.blocks b) (h0 : ins ≠ []) (hlt : ins.length < (gl p.blocks b).length) : PW n (cutP p b ins) := by
 have hlen : (cutP p b ins).blocks.length = p.blocks.length + 1 := by simp [cutP]
 have hB : ∀ x, Nd n x → gi (cutP p b ins).block x = if x ∈ ins then (p.blocks.length : Int) else gi p.block x := fun x hx => cut_blk h hb hs hx
 have hbs : ∀ c, Nd (p.blocks.length + 1) c → gl (cutP p b ins).blocks c = if c = (p.blocks.length : Int) then ins else if c = b then (gl p.blocks b).filter (fun x => decide (gi (setAll p.block ins p.blocks.length) x = b)) else gl p.blocks c := by
  intro c hc;show gl (p.blocks.set b.toNat _ ++ [ins]) c = _;rw [gl_snoc (by rw [List.length_set]; exact hc), List.length_set];by_cases e : c = (p.blocks.length : Int)
  ·rw [if_pos e, if_pos e]
  ·rw [if_neg e, if_neg e, gl_set hb ⟨hc.1, by have := hc.2; omega⟩]
 have hrest : ∀ x, x ∈ (gl p.blocks b).filter (fun x => decide (gi (setAll p.block ins p.blocks.length) x = b)) ↔ x ∈ gl p.blocks b ∧ x ∉ ins := by
  intro x;rw [List.mem_filter];constructor
  ·rintro ⟨h1, h2⟩;refine ⟨h1, fun hi => ?_⟩;have h3 := hB x ((h.bm b hb x).1 h1).1;rw [if_pos hi] at h3;have h4 : gi (setAll p.block ins p.blocks.length) x = b := of_decide_eq_true h2;rw [show (cutP p b ins).block = setAll p.block ins p.blocks.length from rfl, h4] at h3;have := hb.2;omega
  ·rintro ⟨h1, h2⟩;refine ⟨h1, decide_eq_true ?_⟩;have h3 := hB x ((h.bm b hb x).1 h1).1;rw [if_neg h2, ((h.bm b hb x).1 h1).2] at h3;exact h3
 have hH : ∀ c, Nd (p.blocks.length + 1) c → gi (cutP p b ins).heap c = if c = (p.blocks.length : Int) then gi p.heap b else gi p.heap c := by
  intro c hc;show gi (p.heap ++ [gi p.heap b]) c = _;rw [gi_snoc (by rw [h.hl]; exact hc), h.hl]
 have hhb := h.hr b hb
 have hHs : ∀ c, Nd p.heaps.length c → gl (cutP p b ins).heaps c = if c = gi p.heap b then gl p.heaps (gi p.heap b) ++ [(p.blocks.length : Int)] else gl p.heaps c := by
  intro c hc;show gl (p.heaps.set (gi p.heap b).toNat _) c = _;rw [gl_set hhb hc]
 have hhl : (cutP p b ins).heaps.length = p.heaps.length := by simp [cutP]
 refine ⟨by rw [show (cutP p b ins).block = setAll p.block ins p.blocks.length from rfl, setAll_len, h.bl], by rw [hlen]; simp [cutP, h.hl], ?_, ?_, ?_, ?_, ?_, ?_, ?_, ?_⟩
 ·intro x hx;rw [hlen, hB x hx];split
  ·exact nd_iff.2 (by omega)
  ·exact (h.br x hx).mono (by omega)
 ·intro c hc;rw [hlen] at hc;rw [hbs c hc];split
  ·exact hn
  ·split
   ·exact (h.bn b hb).sublist List.filter_sublist
   ·exact h.bn c ⟨hc.1, by have := hc.2; omega⟩
 ·intro c hc x;rw [hlen] at hc;rw [hbs c hc];by_cases e : c = (p.blocks.length : Int)
  ·rw [if_pos e];constructor
   ·intro hx;have hN := ((h.bm b hb x).1 (hs x hx)).1;exact ⟨hN, by rw [hB x hN, if_pos hx, e]⟩
   ·rintro ⟨hN, h2⟩;rw [hB x hN] at h2;by_cases hi : x ∈ ins
    ·exact hi
    ·rw [if_neg hi, e] at h2;have := (h.br x hN).2;omega
  ·rw [if_neg e];have hc' : Nd p.blocks.length c := ⟨hc.1, by have := hc.2; omega⟩
   by_cases e2 : c = b
   ·rw [if_pos e2, hrest, h.bm b hb];constructor
    ·rintro ⟨⟨hN, h1⟩, h2⟩;exact ⟨hN, by rw [hB x hN, if_neg h2, h1, e2]⟩
    ·rintro ⟨hN, h1⟩;rw [hB x hN] at h1;by_cases hi : x ∈ ins
     ·rw [if_pos hi] at h1;exact absurd h1.symm e
     ·rw [if_neg hi, e2] at h1;exact ⟨⟨hN, h1⟩, hi⟩
   ·rw [if_neg e2, h.bm c hc'];constructor
    ·rintro ⟨hN, h1⟩;refine ⟨hN, ?_⟩;rw [hB x hN, if_neg]
     ·exact h1
     ·intro hi;have := ((h.bm b hb x).1 (hs x hi)).2;exact e2 (h1.symm.trans this)
    ·rintro ⟨hN, h1⟩;refine ⟨hN, ?_⟩;rw [hB x hN] at h1;by_cases hi : x ∈ ins
     ·rw [if_pos hi] at h1;exact absurd h1.symm e
     ·rwa [if_neg hi] at h1
 ·intro c hc;rw [hlen] at hc;rw [hbs c hc];split
  ·exact h0
  ·split
   ·intro hnil
    have : (gl p.blocks b).length ≤ ins.length := nodup_sub (h.bn b hb) fun x hx => by
     by_cases hi : x ∈ ins
     ·exact hi
     ·have := (hrest x).2 ⟨hx, hi⟩;rw [hnil] at this
      cases this
    omega
   ·exact h.be c ⟨hc.1, by have := hc.2; omega⟩
 ·intro c hc;rw [hlen] at hc;rw [hhl, hH c hc];split
  ·exact hhb
  ·exact h.hr c ⟨hc.1, by have := hc.2; omega⟩
 ·intro c hc;rw [hhl] at hc;rw [hHs c hc];split
  ·rw [List.nodup_append];refine ⟨h.hn _ hhb, by simp, fun x hx y hy e => ?_⟩;have := ((h.hm _ hhb x).1 hx).1.2;have h2 : y = (p.blocks.length : Int) := by simpa using hy
   omega
  ·exact h.hn c hc
 ·intro c hc x;rw [hhl] at hc;rw [hHs c hc, hlen];by_cases e : c = gi p.heap b
  ·rw [if_pos e, List.mem_append, h.hm _ hhb x, List.mem_singleton];constructor
   ·rintro (⟨h1, h2⟩ | h1)
    ·refine ⟨h1.mono (by omega), ?_⟩;rw [hH x (h1.mono (by omega)), if_neg (by have := h1.2; omega), h2, e]
    ·subst h1;exact ⟨nd_iff.2 (by omega), by rw [hH _ (nd_iff.2 (by omega)), if_pos rfl, e]⟩
   ·rintro ⟨h1, h2⟩;rw [hH x h1] at h2;by_cases e2 : x = (p.blocks.length : Int)
    ·exact .inr e2
    ·rw [if_neg e2, e] at h2;exact .inl ⟨⟨h1.1, by have := h1.2; omega⟩, h2⟩
  ·rw [if_neg e, h.hm c hc x];constructor
   ·rintro ⟨h1, h2⟩;refine ⟨h1.mono (by omega), ?_⟩;rw [hH x (h1.mono (by omega)), if_neg (by have := h1.2; omega), h2]
   ·rintro ⟨h1, h2⟩;rw [hH x h1] at h2;by_cases e2 : x = (p.blocks.length : Int)
    ·rw [if_pos e2] at h2;exact absurd h2.symm e
    ·rw [if_neg e2] at h2;exact ⟨⟨h1.1, by have := h1.2; omega⟩, h2⟩
 ·intro c hc;rw [hhl] at hc;rw [hHs c hc];split
  ·simp
  ·exact h.he c hc
end
def Wt (p : PSt) (w : Int → Bool) : Prop := ∀ h, w h = true ↔ Nd p.heaps.length h ∧ 2 ≤ (gl p.heaps h).length
theorem Wt.cut {n : Nat} {p : PSt} {b : Int} {ins : List Int} {w : Int → Bool} (hw : Wt p w) (h : PW n p) (hb : Nd p.blocks.length b) : Wt (cutP p b ins) fun x => decide (x = gi p.heap b) || w x := by
 intro c
 have hhb := h.hr b hb
 have hhl : (cutP p b ins).heaps.length = p.heaps.length := by simp [cutP]
 have hHs : ∀ c, Nd p.heaps.length c → gl (cutP p b ins).heaps c = if c = gi p.heap b then gl p.heaps (gi p.heap b) ++ [(p.blocks.length : Int)] else gl p.heaps c := by
  intro c hc
  show gl (p.heaps.set (gi p.heap b).toNat _) c = _
  rw [gl_set hhb hc]
 rw [hhl, Bool.or_eq_true, hw c]
 by_cases e : c = gi p.heap b
 ·have h2 : 0 < (gl p.heaps (gi p.heap b)).length := List.length_pos_iff.2 (h.he _ hhb)
  subst e
  rw [hHs _ hhb, if_pos rfl]
  simp only [decide_true, true_or, true_iff]
  exact ⟨hhb, by simp; omega⟩
 ·simp only [e, decide_false, Bool.false_eq_true, false_or]
  constructor
  ·rintro ⟨h1, h2⟩; exact ⟨h1, by rw [hHs c h1, if_neg e]; exact h2⟩
  ·rintro ⟨h1, h2⟩; exact ⟨h1, by rw [hHs c h1, if_neg e] at h2; exact h2⟩
def takeP (p : PSt) (old : Int) (a : Nat) : PSt where
 block := p.block
 blocks := p.blocks
 heap := p.heap.set ((gl p.heaps old).getD a 0).toNat p.heaps.length
 heaps := (p.heaps.set old.toNat ((gl p.heaps old).eraseIdx a)) ++ [[(gl p.heaps old).getD a 0]]
section
variable {n : Nat} {p : PSt} {old : Int} {a : Nat}
theorem take_mem (h : PW n p) (ho : Nd p.heaps.length old) (ha : a < (gl p.heaps old).length) : Nd p.blocks.length ((gl p.heaps old).getD a 0) ∧ gi p.heap ((gl p.heaps old).getD a 0) = old :=
 (h.hm old ho _).1 (by simp [List.getD_eq_getElem?_getD, List.getElem?_eq_getElem ha])
theorem take_heap (h : PW n p) (ho : Nd p.heaps.length old) (ha : a < (gl p.heaps old).length) {c : Int} (hc : Nd p.blocks.length c) : gi (takeP p old a).heap c = if c = (gl p.heaps old).getD a 0 then (p.heaps.length : Int) else gi p.heap c :=
 gi_set (by rw [h.hl]; exact (take_mem h ho ha).1) (by rw [h.hl]; exact hc)
theorem take_heaps (ho : Nd p.heaps.length old) {c : Int} (hc : Nd (p.heaps.length + 1) c) : gl (takeP p old a).heaps c = if c = (p.heaps.length : Int) then [(gl p.heaps old).getD a 0] else if c = old then (gl p.heaps old).eraseIdx a else gl p.heaps c := by
 show gl (p.heaps.set old.toNat _ ++ [_]) c = _
 rw [gl_snoc (by rw [List.length_set]; exact hc), List.length_set]
 by_cases e : c = (p.heaps.length : Int)
 ·rw [if_pos e, if_pos e]
 ·rw [if_neg e, if_neg e, gl_set ho ⟨hc.1, by have := hc.2; omega⟩]
theorem take_hp (h : PW n p) (ho : Nd p.heaps.length old) (ha : a < (gl p.heaps old).length) {x : Int} (hx : Nd n x) : HP (takeP p old a) x = if gi p.block x = (gl p.heaps old).getD a 0 then (p.heaps.length : Int) else HP p x :=
 take_heap h ho ha (h.br x hx)
theorem mem_eraseIdx {l : List Int} (hn : l.Nodup) {a : Nat} (ha : a < l.length) (x : Int) : x ∈ l.eraseIdx a ↔ x ∈ l ∧ x ≠ l.getD a 0 := by
 have hg : l.getD a 0 = l[a] := by simp [List.getD_eq_getElem?_getD, List.getElem?_eq_getElem ha]
 rw [hg, List.mem_eraseIdx_iff_getElem?]
 constructor
 ·rintro ⟨i, hi, hx⟩
  refine ⟨List.mem_of_getElem? hx, fun e => hi ?_⟩
  have h1 : l[i]? = l[a]? := by rw [hx, List.getElem?_eq_getElem ha, e]
  exact (List.getElem?_inj (by have := (List.getElem?_eq_some_iff.1 hx).1; exact this) hn).1 h1
 ·rintro ⟨hx, hne⟩
  obtain ⟨i, hi⟩ := List.getElem?_of_mem hx
  refine ⟨i, fun e => hne ?_, hi⟩
  subst e
  rw [List.getElem?_eq_getElem ha] at hi
  exact (Option.some.inj hi).symm
theorem PW.take (h : PW n p) (ho : Nd p.heaps.length old) (ha : a < (gl p.heaps old).length) (h2 : 2 ≤ (gl p.heaps old).length) : PW n (takeP p old a) := by
 obtain ⟨t1, t2⟩ := take_mem h ho ha;have hlen : (takeP p old a).heaps.length = p.heaps.length + 1 := by simp [takeP]
 generalize hq : (gl p.heaps old).getD a 0 = q at t1 t2;refine ⟨h.bl, by show (p.heap.set _ _).length = _; rw [List.length_set]; exact h.hl, h.br, h.bn, h.bm, h.be, ?_, ?_, ?_, ?_⟩
 ·intro c hc;rw [hlen, take_heap h ho ha hc];split
  ·exact nd_iff.2 (by omega)
  ·exact (h.hr c hc).mono (by omega)
 ·intro c hc;rw [hlen] at hc;rw [take_heaps ho hc];split
  ·simp
  ·split
   ·exact (h.hn old ho).sublist (List.eraseIdx_sublist _ _)
   ·exact h.hn c ⟨hc.1, by have := hc.2; omega⟩
 ·intro c hc x;rw [hlen] at hc;rw [take_heaps ho hc, hq];show _ ↔ Nd p.blocks.length x ∧ _;by_cases e : c = (p.heaps.length : Int)
  ·rw [if_pos e, List.mem_singleton];constructor
   ·rintro rfl;exact ⟨t1, by rw [take_heap h ho ha t1, hq, if_pos rfl, e]⟩
   ·rintro ⟨hN, h1⟩;rw [take_heap h ho ha hN, hq] at h1;by_cases e2 : x = q
    ·exact e2
    ·rw [if_neg e2, e] at h1;have := (h.hr x hN).2;omega
  ·rw [if_neg e];have hc' : Nd p.heaps.length c := ⟨hc.1, by have := hc.2; omega⟩
   by_cases e2 : c = old
   ·rw [if_pos e2, mem_eraseIdx (h.hn old ho) ha, hq, h.hm old ho];constructor
    ·rintro ⟨⟨hN, h1⟩, h3⟩;exact ⟨hN, by rw [take_heap h ho ha hN, hq, if_neg h3, h1, e2]⟩
    ·rintro ⟨hN, h1⟩;rw [take_heap h ho ha hN, hq] at h1;by_cases e3 : x = q
     ·rw [if_pos e3] at h1;exact absurd h1.symm e
     ·rw [if_neg e3, e2] at h1;exact ⟨⟨hN, h1⟩, e3⟩
   ·rw [if_neg e2, h.hm c hc'];constructor
    ·rintro ⟨hN, h1⟩;refine ⟨hN, ?_⟩;rw [take_heap h ho ha hN, hq, if_neg]
     ·exact h1
     ·rintro rfl;exact e2 (h1.symm.trans t2)
    ·rintro ⟨hN, h1⟩;rw [take_heap h ho ha hN, hq] at h1;by_cases e3 : x = q
     ·rw [if_pos e3] at h1;exact absurd h1.symm e
     ·rw [if_neg e3] at h1;exact ⟨hN, h1⟩
 ·intro c hc;rw [hlen] at hc;rw [take_heaps ho hc];split
  ·simp
  ·split
   ·intro hnil;have := congrArg List.length hnil;rw [List.length_eraseIdx_of_lt ha] at this;simp at this;omega
   ·exact h.he c ⟨hc.1, by have := hc.2; omega⟩
theorem Wt.take {w : Int → Bool} (hw : Wt p w) (ho : Nd p.heaps.length old) (ha : a < (gl p.heaps old).length) (h2 : 2 ≤ (gl p.heaps old).length) :
  Wt (takeP p old a) fun x => w x && !(decide (x = old) && decide ((gl p.heaps old).length = 2)) := by
 intro c
 have hlen : (takeP p old a).heaps.length = p.heaps.length + 1 := by simp [takeP]
 rw [hlen, Bool.and_eq_true, hw c]
 constructor
 ·rintro ⟨⟨h1, h3⟩, h4⟩
  refine ⟨h1.mono (by omega), ?_⟩
  rw [take_heaps ho (h1.mono (by omega)), if_neg (by have := h1.2; omega)]
  by_cases e : c = old
  ·subst e
   rw [if_pos rfl, List.length_eraseIdx_of_lt ha]
   simp at h4
   omega
  ·rw [if_neg e]; exact h3
 ·rintro ⟨h1, h3⟩
  rw [take_heaps ho h1] at h3
  by_cases e : c = (p.heaps.length : Int)
  ·rw [if_pos e] at h3
   simp at h3
  ·rw [if_neg e] at h3
   have hc' : Nd p.heaps.length c := ⟨h1.1, by have := h1.2; omega⟩
   by_cases e2 : c = old
   ·subst e2
    rw [if_pos rfl, List.length_eraseIdx_of_lt ha] at h3
    refine ⟨⟨hc', h2⟩, ?_⟩
    simp
    omega
   ·rw [if_neg e2] at h3
    exact ⟨⟨hc', h3⟩, by simp [e2]⟩
theorem PW.apart (h : PW n p) (hw : ∀ c, Nd p.heaps.length c → (gl p.heaps c).length < 2) {x y : Int} (hx : Nd n x) (hy : Nd n y) (e : HP p x = HP p y) : gi p.block x = gi p.block y := by
 have h1 := (h.hm _ (h.hr _ (h.br x hx)) (gi p.block x)).2 ⟨h.br x hx, rfl⟩
 have h2 := (h.hm _ (h.hr _ (h.br x hx)) (gi p.block y)).2 ⟨h.br y hy, e.symm⟩
 have h3 := hw _ (h.hr _ (h.br x hx))
 generalize gl p.heaps (gi p.heap (gi p.block x)) = l at h1 h2 h3
 match l, h3 with
 | [], _ => cases h1
 | [z], _ =>
  rw [List.mem_singleton.1 h1, List.mem_singleton.1 h2]
end
def cntE (es : List Ed) (P : Int → Bool) (s l : Int) : Int := ((es.filter fun e => decide (e.f0 = s) && decide (e.f1 = l) && P e.f2).length : Nat)
theorem cntE_congr {es : List Ed} {P Q : Int → Bool} (h : ∀ e ∈ es, P e.f2 = Q e.f2) (s l : Int) : cntE es P s l = cntE es Q s l := by
 unfold cntE
 congr 2
 refine List.filter_congr fun e he => ?_
 rw [h e he]
theorem cntE_pos {es : List Ed} {P : Int → Bool} {s l : Int} : cntE es P s l ≠ 0 ↔ ∃ e ∈ es, e.f0 = s ∧ e.f1 = l ∧ P e.f2 = true := by
 unfold cntE
 constructor
 ·intro h
  have h1 : (es.filter fun e => decide (e.f0 = s) && decide (e.f1 = l) && P e.f2) ≠ [] := fun e => h (by rw [e]; rfl)
  obtain ⟨e, he⟩ := List.exists_mem_of_ne_nil _ h1
  obtain ⟨h2, h3⟩ := List.mem_filter.1 he
  simp only [Bool.and_eq_true, decide_eq_true_eq] at h3
  exact ⟨e, h2, h3.1.1, h3.1.2, h3.2⟩
 ·rintro ⟨e, he, h0, h1, h2⟩ h3
  have : e ∈ es.filter fun e => decide (e.f0 = s) && decide (e.f1 = l) && P e.f2 := List.mem_filter.2 ⟨he, by simp [h0, h1, h2]⟩
  have h4 := List.length_pos_of_mem this
  omega
theorem cntE_nn (es : List Ed) (P : Int → Bool) (s l : Int) : 0 ≤ cntE es P s l ∧ cntE es P s l ≤ es.length := by
 unfold cntE
 have := List.length_filter_le (fun e : Ed => decide (e.f0 = s) && decide (e.f1 = l) && P e.f2) es
 omega
theorem len_split {α : Type} (P Q : α → Bool) (l : List α) : (l.filter P).length = (l.filter fun x => P x && Q x).length + (l.filter fun x => P x && !Q x).length := by
 induction l with
 | nil => rfl
 | cons x r ih =>
  simp only [List.filter_cons]
  cases P x <;> cases Q x <;> simp <;> omega
theorem cntE_sub (es : List Ed) (P Q : Int → Bool) (h : ∀ e ∈ es, Q e.f2 = true → P e.f2 = true) (s l : Int) : cntE es P s l - cntE es Q s l = cntE es (fun x => P x && !Q x) s l := by
 have h1 := len_split (fun e : Ed => decide (e.f0 = s) && decide (e.f1 = l) && P e.f2) (fun e => Q e.f2) es
 have h2 : (es.filter fun e => (decide (e.f0 = s) && decide (e.f1 = l) && P e.f2) && Q e.f2) = es.filter fun e => decide (e.f0 = s) && decide (e.f1 = l) && Q e.f2 := by
  refine List.filter_congr fun e he => ?_
  have := h e he
  cases hq : Q e.f2
  ·simp
  ·rw [this hq]; simp
 have h3 : (es.filter fun e => (decide (e.f0 = s) && decide (e.f1 = l) && P e.f2) && !Q e.f2) = es.filter fun e => decide (e.f0 = s) && decide (e.f1 = l) && (P e.f2 && !Q e.f2) := by
  refine List.filter_congr fun e he => ?_
  rw [Bool.and_assoc]
 rw [h2, h3] at h1
 unfold cntE
 show ((es.filter fun e => decide (e.f0 = s) && decide (e.f1 = l) && P e.f2).length : Int) - ((es.filter fun e => decide (e.f0 = s) && decide (e.f1 = l) && Q e.f2).length : Int) = ((es.filter fun e => decide (e.f0 = s) && decide (e.f1 = l) && (P e.f2 && !Q e.f2)).length : Int)
 omega
end Go.Proofs.Ytmcbkmfpmcbdpaa.H
namespace Go.Proofs.Ytmcbkmfpmcbdpaa.H
open Go.RowKit Go.Proofs.Ytmcbkmfpmcbdpaa.Pr Go.Proofs.YtmcbkmfpmcbdpaaW.PrintWords Go.Proofs.Ytmcbkmfpmcbdpaa.Sem
open Go.Maps (Keyed)
open Go.ChangeMaps
def ptV (p : Int × Int) : Value := .agg #[.int .i64 p.1, .int .i64 p.2]
def ptL (p : Int × Int) : Lit := .string (keyBytes [.int .i64 p.1, .int .i64 p.2])
def ptOk (p : Int × Int) : Prop := i64in p.1 ∧ i64in p.2
theorem pt_keyed : Keyed Try.prog 167 := Keyed.of_law (deep_law_laid laid_out (m := 2) (by omega) (of_decide_eq_true (by kernel_rfl)) (by kernel_rfl) (by kernel_rfl))
theorem pt_type : Try.prog.keyType 167 = true := by kernel_rfl
theorem pt_cells : Try.prog.cellsOf 167 = 2 := by kernel_rfl
theorem pt_int : Try.prog.cellsOf 3 = 1 := by kernel_rfl
theorem pt_under : ∃ fs, Try.prog.underlying 167 = some (.struct fs) ∧ (fs.toList.map fun f => (f.type, f.offset)) = [(3, 0), (3, 1)] ∧ fs.all (fun f => f.name != "_") = true := ⟨_, Try.underlying167, by kernel_rfl, by kernel_rfl⟩
theorem pt_types : ∃ m, Try.prog.types.size = m + 3 := ⟨Try.prog.types.size - 3, by have : 3 ≤ Try.prog.types.size := of_decide_eq_true (by kernel_rfl); omega⟩
theorem keyLits_i (d : Nat) {a : Int} (h : i64in a) : Try.prog.keyLits (d + 1) 3 [.int .i64 a] = some [.int .i64 a] := by
 unfold Program.keyLits
 simp only [Try.underlying3]
 rw [if_pos ⟨trivial, ik_wf h⟩]
theorem pt_lits (d : Nat) (a b : Value) : Try.prog.keyLits (d + 2) 167 [a, b] = (Try.prog.keyLits (d + 1) 3 [a]).bind fun x => (Try.prog.keyLits (d + 1) 3 [b]).bind fun y => some (x ++ y) := by
 obtain ⟨fs, hu, hf, hn⟩ := pt_under
 conv => lhs; unfold Program.keyLits
 simp only [hu]
 rw [if_pos ⟨by rw [pt_cells]; rfl, by exact hn⟩]
 have e : (fs.toList.mapM fun f => Try.prog.keyLits (d + 1) f.type (([a, b].drop f.offset).take (Try.prog.cellsOf f.type))) = (fs.toList.map fun f => (f.type, f.offset)).mapM fun p => Try.prog.keyLits (d + 1) p.1 (([a, b].drop p.2).take (Try.prog.cellsOf p.1)) := by
  generalize fs.toList = L
  induction L with
  | nil => rfl
  | cons x r ih => simp only [List.mapM_cons, List.map_cons, ih]
 rw [e, hf]
 simp only [List.mapM_cons, List.mapM_nil, pt_int, List.drop_zero, List.take_succ_cons, List.take_zero, List.drop_succ_cons]
 cases h1 : Try.prog.keyLits (d + 1) 3 [a] <;> cases h2 : Try.prog.keyLits (d + 1) 3 [b] <;> simp
theorem pt_key {p : Int × Int} (h : ptOk p) : keyOf Try.prog 167 (ptV p) = some (ptL p) := by
 obtain ⟨fs, hu, hf, hn⟩ := pt_under
 obtain ⟨m, hm⟩ := pt_types
 unfold keyOf ptV ptL
 simp only [hu]
 rw [if_pos (by rw [pt_type]; simp [Value.formed, hu, pt_cells]), hm]
 show (Try.prog.keyLits (m + 2 + 2) 167 [.int .i64 p.1, .int .i64 p.2]).map _ = _
 rw [pt_lits, keyLits_i _ h.1, keyLits_i _ h.2]
 rfl
theorem keyLits_inv {d : Nat} {v : Value} {l : List Lit} (h : Try.prog.keyLits (d + 1) 3 [v] = some l) : ∃ a, v = .int .i64 a ∧ i64in a ∧ l = [.int .i64 a] := by
 obtain ⟨a, h1, rfl⟩ := keyLits_int' Try.underlying3 h
 obtain rfl : v = .int .i64 a := by simpa using h1
 refine ⟨a, rfl, ?_, rfl⟩
 unfold Program.keyLits at h
 simp only [Try.underlying3] at h
 split at h
 ·rename_i hc
  exact wf_in hc.2
 ·cases h
set_option maxRecDepth 10000 in
theorem pt_inv {v : Value} {kl : Lit} (h : keyOf Try.prog 167 v = some kl) : ∃ p, ptOk p ∧ v = ptV p ∧ kl = ptL p := by
 obtain ⟨fs, hu, hf, hn⟩ := pt_under
 obtain ⟨m, hm⟩ := pt_types
 unfold keyOf at h
 simp only [hu] at h
 split at h
 ·rename_i hc
  rw [pt_type, Bool.true_and] at hc
  obtain ⟨cs, rfl⟩ : ∃ cs, v = .agg cs := by
   unfold Value.formed at hc
   cases v <;> simp [hu] at hc
   exact ⟨_, rfl⟩
  have hs : cs.size = 2 := by
   unfold Value.formed at hc
   simpa [hu, pt_cells] using hc
  obtain ⟨l⟩ := cs
  match l, hs with
  | [a, b], _ =>
   rw [hm, show m + 3 + 1 = m + 2 + 2 from rfl, show (Value.agg ⟨[a, b]⟩).cells.toList = [a, b] from rfl] at h
   rw [pt_lits] at h
   cases h1 : Try.prog.keyLits (m + 2 + 1) 3 [a] with
   | none => rw [h1] at h; cases h
   | some x =>
    cases h2 : Try.prog.keyLits (m + 2 + 1) 3 [b] with
    | none => rw [h1, h2] at h; cases h
    | some y =>
     rw [h1, h2] at h
     obtain ⟨a', rfl, ha, rfl⟩ := keyLits_inv h1
     obtain ⟨b', rfl, hb, rfl⟩ := keyLits_inv h2
     simp only [Option.bind_some, Option.map_some, Option.some.injEq] at h
     exact ⟨(a', b'), ⟨ha, hb⟩, rfl, h.symm⟩
 ·cases h
theorem ptKB : KB Try.prog 167 ptV ptL ptOk where
 K := pt_keyed
 key := fun a ha => pt_key ha
 inv := fun v kl h => pt_inv h
 inj := fun a b h => by
  unfold ptV at h
  obtain ⟨a1, a2⟩ := a
  obtain ⟨b1, b2⟩ := b
  simpa using h
end Go.Proofs.Ytmcbkmfpmcbdpaa.H
namespace Go.Proofs.Ytmcbkmfpmcbdpaa.H
open Go.RowKit Go.Proofs.Ytmcbkmfpmcbdpaa.Pr Go.Proofs.YtmcbkmfpmcbdpaaW.PrintWords Go.Proofs.Ytmcbkmfpmcbdpaa.Sem Go.Proofs.YtmcbkmfpmcbdpaaW.PrintLast
abbrev Sl := Option Addr × Nat × Nat
def slV (x : Sl) : Value := .slice x.1 x.2.1 x.2.2
def kSl : Kd Sl := Kd.scalar slV (fun _ => rfl)
abbrev nilL : Sl := (none, 0, 0)
theorem infoSI : (Try.prog.info? 28).map (fun i => (i.zero, i.size, i.bytes)) = some (some (.slice none 0 0), 1, 24) := by kernel_rfl
theorem infoI : (Try.prog.info? 3).map (fun i => (i.zero, i.size, i.bytes)) = some (some (.int .i64 0), 1, 8) := by kernel_rfl
theorem run_st1 {P : Program} (w : World) (g i : Nat) (ty : TypeId) (v : Value) (h1 : v.oneCell' = true) (hc : ∃ old, w.cell? ⟨g, i, none⟩ = some old) (hf : w.frozen? ⟨g, i, none⟩ = false) (hi : (P.info? ty).map (·.size) = some 1) :
  (storeVar ty ⟨g, i, none⟩ v).run P w = .ok () (w.setCell ⟨g, i, none⟩ v) := by
 obtain ⟨old, hc⟩ := hc
 have hcs : v.cells = #[v] := by cases v <;> first | rfl | cases h1
 cases hq : P.info? ty with
 | none => simp [hq] at hi
 | some k =>
  have hs : k.size = 1 := by simpa [hq] using hi
  have ha : (⟨g, i, none⟩ : Addr).add 0 = ⟨g, i, none⟩ := by unfold Addr.add; split <;> simp_all
  simp [storeVar, sizeOf, typeInfo, hq, hcs, hs, storeCells, run_store _ _ _ _ _ h1, ha, hc, hf]
theorem wpList_st1 {P : Program} {w : World} {ops : Array Oper} {rest : List Oper} {o : Oper} {a : Act} {Q : Exit → Act → World → Prop} (hgd : o.guard = none) (ty : TypeId) (x y : Operand) (ho : o.op = .store ty x y)
  (g i : Nat) (v : Value) (hx : a.eval x = .pointer (some ⟨g, i, none⟩)) (hy : a.eval y = v) (h1 : v.oneCell' = true) (hc : ∃ old, w.cell? ⟨g, i, none⟩ = some old) (hf : w.frozen? ⟨g, i, none⟩ = false) (hi : (P.info? ty).map (·.size) = some 1)
  (h : ∀ w1, w1 = w.setCell ⟨g, i, none⟩ v → wpList P ops Q rest (a.put o.dst undef) w1) : wpList P ops Q (o :: rest) a w :=
 wpList_plain hgd fun _ hK => by
  unfold Oper.wp execOp
  simp only [ho, hx, hy, Instr.storeAt, Instr.sureAddr, Sem.run_bind, Sem.run_pure, Result.andThen_ok, run_st1 w g i ty v h1 hc hf hi]
  exact hK _ _ (h _ rfl)
theorem sizeI : (Try.prog.info? 3).map (·.size) = some 1 := by kernel_rfl
theorem sizeSI : (Try.prog.info? 28).map (·.size) = some 1 := by kernel_rfl
theorem sizeSSI : (Try.prog.info? 40).map (·.size) = some 1 := by kernel_rfl
inductive Cl where
  | tt | blk | hp | bs | hs | mc | mw | tab | tro
  | bro (i : Nat) | hro (i : Nat) | cmp (i : Nat) | far (j : Nat)
def Cl.own : Cl → Bool
 | .far _ => false
 | _ => true
abbrev IR (w : World) (base : Nat) (cls : Nat → Cl) (c : Cl) (v : Value) (xs : List Int) : Prop := Kd.R (Kd.int .i64) 3 w base (fun k => cls k = c) v xs
abbrev SR (w : World) (base : Nat) (cls : Nat → Cl) (c : Cl) (v : Value) (xs : List Sl) : Prop := Kd.R kSl 28 w base (fun k => cls k = c) v xs
abbrev XR (w : World) (base : Nat) (cls : Nat → Cl) (c : Cl) (v : Value) (xs : List Sl) : Prop := Kd.R kSl 23 w base (fun k => cls k = c) v xs
abbrev ER (w : World) (base : Nat) (cls : Nat → Cl) (c : Cl) (v : Value) (xs : List Ed) : Prop := Kd.R k80 80 w base (fun k => cls k = c) v xs
abbrev G1 (w : World) (m : Nat) (f : Int → Option Value) (c : Nat) : Prop := GM Try.prog 3 ik i64in w m f c
abbrev G2 (w : World) (m : Nat) (f : Int × Int → Option Value) (c : Nat) : Prop := GM Try.prog 167 ptL ptOk w m f c
structure Sg where
  tc : List Value
  vI : Value
  is : List Sl
  ins : List (List Ed)
  vB : Value
  block : List Int
  vBs : Value
  bs : List Sl
  bsl : List Sl
  blocks : List (List Int)
  vH : Value
  heap : List Int
  vHs : Value
  hs : List Sl
  hsl : List Sl
  heaps : List (List Int)
  mC : Nat
  fC : Int → Option Value
  cC : Nat
  cm : List Nat
  fc : Nat → Int × Int → Option Value
  cc : Nat → Nat
  mW : Nat
  fW : Int → Option Value
  cW : Nat
def Part (base T : Nat) (w : World) (cls : Nat → Cl) (s : Sg) : Cl → Prop
 | .tt => w.heap[T]? = some (.cells s.tc.toArray 90 (0, 0)) ∧ cls T = .tt ∧ base ≤ T
 | .blk => IR w base cls .blk s.vB s.block
 | .hp => IR w base cls .hp s.vH s.heap
 | .bs => SR w base cls .bs s.vBs s.bs
 | .hs => SR w base cls .hs s.vHs s.hs
 | .tab => XR w base cls .tab s.vI s.is
 | .tro => ∀ i, i < s.is.length → ER w base cls .tro (slV (s.is.getD i nilL)) (s.ins.getD i [])
 | .bro i => i < s.bsl.length → IR w base cls (.bro i) (slV (s.bsl.getD i nilL)) (s.blocks.getD i [])
 | .hro i => i < s.hsl.length → IR w base cls (.hro i) (slV (s.hsl.getD i nilL)) (s.heaps.getD i [])
 | .mc => cls s.mC = .mc ∧ G1 w s.mC s.fC s.cC ∧ base ≤ s.mC
 | .mw => cls s.mW = .mw ∧ G1 w s.mW s.fW s.cW ∧ base ≤ s.mW
 | .cmp i => i < s.cm.length → cls (s.cm.getD i 0) = .cmp i ∧ G2 w (s.cm.getD i 0) (s.fc i) (s.cc i) ∧ base ≤ s.cm.getD i 0
 | .far _ => True
def SP (base T : Nat) (w : World) (cls : Nat → Cl) (s : Sg) : Prop := ∀ c, Part base T w cls s c
section
variable {base T : Nat} {w w1 : World} {cls cls' : Nat → Cl} {s s' : Sg} {c : Cl} {C : Cl → Prop}
theorem R_moved {α : Type} {d : Kd α} {e : Nat} {v : Value} {xs : List α} (h : d.R e w base (fun k => cls k = c) v xs) (hk : Kept w w1 (fun k => C (cls k))) (hc : ¬ C c) (hcl : ∀ k, k < w.heap.size → cls k = c → cls' k = c) : d.R e w1 base (fun k => cls' k = c) v xs :=
 Kd.R_mono (Kd.R_move (Kd.R_bound h) fun k hk2 => hk.2 k hk2.2.2.1 (by show ¬ C (cls _); rw [hk2.1]; exact hc)) fun k hk2 => hcl k hk2.2.2.1 hk2.1
theorem Part.move (h : Part base T w cls s c) (hk : Kept w w1 (fun k => C (cls k))) (hc : ¬ C c) (hcl : ∀ k, k < w.heap.size → cls k = c → cls' k = c) : Part base T w1 cls' s c := by
 have blk : ∀ {m : Nat} {o : Obj}, cls m = c → w.heap[m]? = some o → w1.heap[m]? = some o := fun hm ho => blk_kept ho hk (by show ¬ C (cls _); rw [hm]; exact hc)
 cases c with
 | tt => exact ⟨blk h.2.1 h.1, hcl T (blk_lt h.1) h.2.1, h.2.2⟩
 | blk => exact R_moved h hk hc hcl
 | hp => exact R_moved h hk hc hcl
 | bs => exact R_moved h hk hc hcl
 | hs => exact R_moved h hk hc hcl
 | tab => exact R_moved h hk hc hcl
 | tro => exact fun i hi => R_moved (h i hi) hk hc hcl
 | bro i => exact fun hi => R_moved (h hi) hk hc hcl
 | hro i => exact fun hi => R_moved (h hi) hk hc hcl
 | mc => exact ⟨hcl _ h.2.1.lt_ h.1, h.2.1.same (hk.2 _ h.2.1.lt_ (by show ¬ C (cls _); rw [h.1]; exact hc)), h.2.2⟩
 | mw => exact ⟨hcl _ h.2.1.lt_ h.1, h.2.1.same (hk.2 _ h.2.1.lt_ (by show ¬ C (cls _); rw [h.1]; exact hc)), h.2.2⟩
 | cmp i => exact fun hi => ⟨hcl _ (h hi).2.1.lt_ (h hi).1, (h hi).2.1.same (hk.2 _ (h hi).2.1.lt_ (by show ¬ C (cls _); rw [(h hi).1]; exact hc)), (h hi).2.2⟩
 | far j => trivial
theorem SP.upd (h : SP base T w cls s) (C : Cl → Prop) (hk : Kept w w1 (fun k => C (cls k))) (hcl : ∀ k, k < w.heap.size → (cls k).own = true → cls' k = cls k)
  (same : ∀ c, ¬ C c → Part base T w1 cls' s c → Part base T w1 cls' s' c) (new : ∀ c, C c → Part base T w1 cls' s' c) : SP base T w1 cls' s' := by
 intro c
 by_cases hc : C c
 ·exact new c hc
 ·cases ho : c.own with
  | true => exact same c hc (Part.move (h c) hk hc fun k hk2 e => by rw [hcl k hk2 (by rw [e]; exact ho), e])
  | false =>
   cases c <;> first | trivial | cases ho
theorem SP.stay (h : SP base T w cls s) (hk : Kept w w1 (fun k => (cls k).own = false)) (hcl : ∀ k, k < w.heap.size → (cls k).own = true → cls' k = cls k) : SP base T w1 cls' s :=
 h.upd (fun c => c.own = false) hk hcl (fun c _ hp => hp) fun c hc => by cases c <;> first | trivial | cases hc
theorem SP.below (h : SP base T w cls s) (hb : Below w.heap.size w w1) : SP base T w1 cls s := h.stay (Kept.of_below hb _) fun _ _ _ => rfl
theorem IR.far {j : Nat} {v : Value} {xs : List Int} (h : IR w base cls (.far j) v xs) (hk : Kept w w1 (fun k => (cls k).own = true)) (hcl : ∀ k, k < w.heap.size → cls k = .far j → cls' k = .far j) : IR w1 base cls' (.far j) v xs :=
 R_moved (C := fun c => c.own = true) h hk (by simp [Cl.own]) hcl
theorem IR.alloc {v : Value} {xs : List Int} (h : IR w base cls c v xs) (o : Obj) : IR (w.alloc o) base cls c v xs := Kd.R_alloc h o
noncomputable def up (cls : Nat → Cl) (v : Value) (c : Cl) : Nat → Cl := fun k => if v.ownBlock = some k then c else cls k
theorem up_self {v : Value} {k : Nat} (h : v.ownBlock = some k) : up cls v c k = c := by unfold up; rw [if_pos h]
theorem up_ne {v : Value} {k : Nat} (h : v.ownBlock ≠ some k) : up cls v c k = cls k := by unfold up; rw [if_neg h]
theorem up_keep {v v9 : Value} (hat : v9.ownBlock = v.ownBlock ∨ ∃ b, v9.ownBlock = some b ∧ w.heap.size ≤ b) (hv : ∀ k, v.ownBlock = some k → cls k = c) : ∀ k, k < w.heap.size → up cls v9 c k = cls k := by
 intro k hk
 unfold up
 split
 ·rename_i e
  rcases hat with hat | ⟨b, hb, hle⟩
  ·exact (hv k (by rw [← hat]; exact e)).symm
  ·rw [hb] at e
   cases e
   omega
 ·rfl
theorem R_up {α : Type} {d : Kd α} {e : Nat} {v : Value} {xs : List α} {ok : Nat → Prop} (hE : d.E = []) (h : d.R e w base ok v xs) : d.R e w base (fun k => up cls v c k = c) v xs := Kd.R_mono (Kd.R_tight hE h) fun k hk => up_self hk.symm
theorem kept_grown {row : Option Nat} (hg : w.grownBy w1 row) {S : Nat → Prop} (hr : ∀ k, row = some k → S k) : Kept w w1 S := ⟨hg.size, fun i hi hn => hg.block i hi fun e => hn (hr i e.symm)⟩
theorem set_at {g i : Nat} {cs : List Value} {t : TypeId} {v : Value} (h : w.heap[g]? = some (.cells cs.toArray t (0, 0))) : (w.setCell ⟨g, i, none⟩ v).heap[g]? = some (.cells (cs.set i v).toArray t (0, 0)) := by
 simp [World.setCell, Array.getElem?_modify, h]
theorem cell_at {g i : Nat} {cs : List Value} {t : TypeId} (h : w.heap[g]? = some (.cells cs.toArray t (0, 0))) (hi : i < cs.length) : w.cell? ⟨g, i, none⟩ = some cs[i] := by
 have := blk_cell h i
 rw [this]
 simp [hi]
theorem SP.ownT (h : SP base T w cls s) : T < w.heap.size := blk_lt (h .tt).1
theorem SP.cell (h : SP base T w cls s) (i : Nat) (v : Value) (hi : s.tc[i]? = some v) : w.cell? ⟨T, i, none⟩ = some v := by
 obtain ⟨hl, e⟩ := List.getElem?_eq_some_iff.1 hi
 rw [cell_at (h .tt).1 hl, e]
theorem SP.setT (h : SP base T w cls s) (i : Nat) (v : Value) : SP base T (w.setCell ⟨T, i, none⟩ v) cls { s with tc := s.tc.set i v } := by
 have hc := (h .tt).2.1
 refine h.upd (· = .tt) ((Kept.refl w _).setCell (.inl hc) v) (fun _ _ _ => rfl) (fun c hne hp => ?_) (fun c e => ?_)
 ·cases c <;> first | exact hp | exact absurd rfl hne
 ·subst e
  exact ⟨set_at (h .tt).1, hc, (h .tt).2.2⟩
theorem SP.setBlk (h : SP base T w cls s) {g c0 : Nat} (hv : s.vB = .slice (some ⟨g, 0, none⟩) s.block.length c0) (x : Nat) (v : Int) : SP base T (w.setCell ⟨g, x, none⟩ (.int .i64 v)) cls { s with block := s.block.set x v } := by
 have h1 : IR w base cls .blk s.vB s.block := h .blk
 rw [hv] at h1
 obtain ⟨h2, hg⟩ := Kd.R_put h1 (x : Int) v
 rw [Int.toNat_natCast] at h2 hg
 refine h.upd (· = .blk) (kept_grown hg fun k e => by cases e; exact h1.1 g rfl) (fun _ _ _ => rfl) (fun c hne hp => ?_) (fun c e => ?_)
 ·cases c <;> first | exact hp | exact absurd rfl hne
 ·subst e
  show IR _ _ _ _ s.vB _
  rw [hv]
  have h3 := h2
  rw [show (Kd.scalar (Value.int IntKind.i64) _) = Kd.int .i64 from rfl] at h3
  simpa using h3
theorem SP.setHp (h : SP base T w cls s) {g c0 : Nat} (hv : s.vH = .slice (some ⟨g, 0, none⟩) s.heap.length c0) (x : Nat) (v : Int) : SP base T (w.setCell ⟨g, x, none⟩ (.int .i64 v)) cls { s with heap := s.heap.set x v } := by
 have h1 : IR w base cls .hp s.vH s.heap := h .hp
 rw [hv] at h1
 obtain ⟨h2, hg⟩ := Kd.R_put h1 (x : Int) v
 rw [Int.toNat_natCast] at h2 hg
 refine h.upd (· = .hp) (kept_grown hg fun k e => by cases e; exact h1.1 g rfl) (fun _ _ _ => rfl) (fun c hne hp => ?_) (fun c e => ?_)
 ·cases c <;> first | exact hp | exact absurd rfl hne
 ·subst e
  show IR _ _ _ _ s.vH _
  rw [hv]
  have h3 := h2
  rw [show (Kd.scalar (Value.int IntKind.i64) _) = Kd.int .i64 from rfl] at h3
  simpa using h3
theorem gD_set {α : Type} (l : List α) (i j : Nat) (x d : α) (hi : i < l.length) : (l.set i x).getD j d = if j = i then x else l.getD j d := by
 by_cases e : j = i
 ·subst e; simp [List.getD_eq_getElem?_getD, hi]
 ·rw [if_neg e]; simp [List.getD_eq_getElem?_getD, List.getElem?_set, Ne.symm e]
theorem gD_snoc {α : Type} (l : List α) (j : Nat) (x d : α) : (l ++ [x]).getD j d = if j = l.length then x else l.getD j d := by
 by_cases e : j = l.length
 ·subst e; simp [List.getD_eq_getElem?_getD]
 ·rw [if_neg e]
  rcases Nat.lt_or_gt_of_ne e with h | h
  ·simp [List.getD_eq_getElem?_getD, List.getElem?_append_left h]
  ·rw [List.getD_eq_getElem?_getD, List.getD_eq_getElem?_getD, List.getElem?_eq_none (by simp; omega), List.getElem?_eq_none (by omega)]
theorem SP.setBs (h : SP base T w cls s) {g c0 : Nat} (hv : s.vBs = .slice (some ⟨g, 0, none⟩) s.bs.length c0) (b : Nat) (r : Sl) (rest : List Int) {j : Nat} (hr : IR w base cls (.far j) (slV r) rest) (hb : b < s.bsl.length) (hbl : s.blocks.length = s.bsl.length) :
  SP base T (w.setCell ⟨g, b, none⟩ (slV r)) (up cls (slV r) (.bro b)) { s with bs := s.bs.set b r, bsl := s.bsl.set b r, blocks := s.blocks.set b rest } := by
 have h1 : SR w base cls .bs s.vBs s.bs := h .bs;rw [hv] at h1;obtain ⟨h2, hg⟩ := Kd.R_put h1 (b : Int) r;rw [Int.toNat_natCast] at h2 hg;have hgc : cls g = .bs := h1.1 g rfl;have hnew : ∀ k, (slV r).ownBlock = some k → cls k = .far j := fun k hk => hr.1 k hk
 have hcl : ∀ k, (cls k).own = true → up cls (slV r) (.bro b) k = cls k := fun k ho => up_ne fun e => by rw [hnew k e] at ho; cases ho
 have hK : Kept w (w.setCell ⟨g, b, none⟩ (slV r)) (fun k => cls k = .bs) := kept_grown hg fun k e => by cases e; exact hgc
 refine h.upd (fun c => c = .bs ∨ c = .bro b) (hK.mono fun k hk => .inl hk) (fun k _ ho => hcl k ho) (fun c hne hp => ?_) (fun c e => ?_)
 ·cases c with
  | bro i =>
   have hi : i ≠ b := fun e => hne (.inr (by rw [e]))
   intro hl;have hl' : i < s.bsl.length := by simpa using hl
   show IR _ _ _ _ (slV ((s.bsl.set b r).getD i nilL)) ((s.blocks.set b rest).getD i []);rw [gD_set _ _ _ _ _ hb, gD_set _ _ _ _ _ (by omega), if_neg hi, if_neg hi];exact hp hl'
  | bs => exact absurd (.inl rfl) hne
  | _ => exact hp
 ·rcases e with rfl | rfl
  ·show SR _ _ _ _ s.vBs _;rw [hv];have h3 : SR (w.setCell ⟨g, b, none⟩ (slV r)) base cls .bs (.slice (some ⟨g, 0, none⟩) s.bs.length c0) (s.bs.set b r) := h2;have h4 : SR (w.setCell ⟨g, b, none⟩ (slV r)) base (up cls (slV r) (.bro b)) .bs (.slice (some ⟨g, 0, none⟩) s.bs.length c0) (s.bs.set b r) := Kd.R_mono h3 fun k hk => by rw [hcl k (by rw [hk]; rfl)]; exact hk
   simpa using h4
  ·intro _;show IR _ _ _ _ (slV ((s.bsl.set b r).getD b nilL)) ((s.blocks.set b rest).getD b []);rw [gD_set _ _ _ _ _ hb, gD_set _ _ _ _ _ (by omega), if_pos rfl, if_pos rfl];exact R_up rfl (R_moved (cls' := cls) (C := fun c => c = .bs) hr hK (by simp) fun _ _ e => e)
theorem SP.pushBs (h : SP base T w cls s) {w9 : World} {v9 : Value} (r : Sl) (rest : List Int) {j : Nat} (hr : IR w base cls (.far j) (slV r) rest) (hbl : s.blocks.length = s.bsl.length) (hl : s.bs.length = s.bsl.length)
  (ho : Kd.R kSl 28 w9 base (fun k => cls k = .bs ∨ w.heap.size ≤ k) v9 (s.bs ++ [r])) (hg : w.grownBy w9 s.vBs.ownBlock) (hat : v9.ownBlock = s.vBs.ownBlock ∨ ∃ b, v9.ownBlock = some b ∧ w.heap.size ≤ b) :
  SP base T (w9.setCell ⟨T, 5, none⟩ v9) (up (up cls v9 .bs) (slV r) (.bro s.bsl.length)) { s with vBs := v9, bs := s.bs ++ [r], bsl := s.bsl ++ [r], blocks := s.blocks ++ [rest], tc := s.tc.set 5 v9 } := by
 have hT := (h .tt).2.1;have hTl := h.ownT;have hob : ∀ k, s.vBs.ownBlock = some k → cls k = .bs := (h .bs).1;have hk1 := up_keep (c := .bs) hat hob;have hnew : ∀ k, (slV r).ownBlock = some k → cls k = .far j := fun k hk => hr.1 k hk
 have hrl : ∀ k, (slV r).ownBlock = some k → k < w.heap.size := Kd.R_lt hr
 have hv9r : ∀ k, v9.ownBlock = some k → (slV r).ownBlock ≠ some k := fun k hk e => by
  rcases ho.1 k hk with h1 | h1
  ·rw [hnew k e] at h1; cases h1
  ·have := hrl k e; omega
 have hcl : ∀ k, k < w.heap.size → (cls k).own = true → up (up cls v9 .bs) (slV r) (.bro s.bsl.length) k = cls k := fun k hk ho2 => by
  rw [up_ne fun e => by rw [hnew k e] at ho2; cases ho2];exact hk1 k hk
 have hK1 : Kept w w9 (fun k => cls k = .bs) := kept_grown hg hob;have hK : Kept w (w9.setCell ⟨T, 5, none⟩ v9) (fun k => cls k = .bs ∨ cls k = .tt) := (hK1.mono fun k hk => .inl hk).setCell (.inl (.inr hT)) v9;have hT9 : w9.heap[T]? = some (.cells s.tc.toArray 90 (0, 0)) := blk_kept (h .tt).1 hK1 (by show ¬ cls T = _; rw [hT]; simp);refine h.upd (fun c => c = .bs ∨ c = .tt ∨ c = .bro s.bsl.length) (hK.mono fun k hk => hk.elim .inl fun e => .inr (.inl e)) hcl (fun c hne hp => ?_) (fun c e => ?_)
 ·cases c with
  | bro i =>
   have hi : i ≠ s.bsl.length := fun e => hne (.inr (.inr (by rw [e])))
   intro hl2
   have hl' : i < s.bsl.length := by
    have : i < (s.bsl ++ [r]).length := hl2;simp at this;omega
   show IR _ _ _ _ (slV ((s.bsl ++ [r]).getD i nilL)) ((s.blocks ++ [rest]).getD i []);rw [gD_snoc, gD_snoc, if_neg hi, if_neg (by omega)];exact hp hl'
  | bs => exact absurd (.inl rfl) hne
  | tt => exact absurd (.inr (.inl rfl)) hne
  | _ => exact hp
 ·rcases e with rfl | rfl | rfl
  ·have h3 := Kd.R_far (p := ⟨T, 5, none⟩) ho (fun k hk e => by
    have e : k = T := e;rw [e] at hk;rcases hk with h1 | h1
    ·rw [hT] at h1; cases h1
    ·have : w.heap.size ≤ T := h1;omega) v9
   exact Kd.R_mono (Kd.R_tight rfl h3) fun k hk => by
    rw [up_ne (hv9r k hk.symm)];exact up_self hk.symm
  ·exact ⟨set_at hT9, by rw [hcl T hTl (by rw [hT]; rfl), hT], (h .tt).2.2⟩
  ·intro _;show IR _ _ _ _ (slV ((s.bsl ++ [r]).getD s.bsl.length nilL)) ((s.blocks ++ [rest]).getD s.bsl.length []);rw [gD_snoc, gD_snoc, if_pos rfl, if_pos hbl.symm];exact R_up rfl (R_moved (cls' := cls) (C := fun c => c = .bs ∨ c = .tt) hr hK (by simp) fun _ _ e => e)
theorem SP.pushHp (h : SP base T w cls s) {w9 : World} {v9 : Value} (x : Int)
  (ho : Kd.R (Kd.int .i64) 3 w9 base (fun k => cls k = .hp ∨ w.heap.size ≤ k) v9 (s.heap ++ [x])) (hg : w.grownBy w9 s.vH.ownBlock) (hat : v9.ownBlock = s.vH.ownBlock ∨ ∃ b, v9.ownBlock = some b ∧ w.heap.size ≤ b) :
  SP base T (w9.setCell ⟨T, 6, none⟩ v9) (up cls v9 .hp) { s with vH := v9, heap := s.heap ++ [x], tc := s.tc.set 6 v9 } := by
 have hT := (h .tt).2.1
 have hTl := h.ownT
 have hob : ∀ k, s.vH.ownBlock = some k → cls k = .hp := (h .hp).1
 have hk1 := up_keep (c := .hp) hat hob
 have hK1 : Kept w w9 (fun k => cls k = .hp) := kept_grown hg hob
 have hK : Kept w (w9.setCell ⟨T, 6, none⟩ v9) (fun k => cls k = .hp ∨ cls k = .tt) := (hK1.mono fun k hk => .inl hk).setCell (.inl (.inr hT)) v9
 have hT9 : w9.heap[T]? = some (.cells s.tc.toArray 90 (0, 0)) := blk_kept (h .tt).1 hK1 (by show ¬ cls T = _; rw [hT]; simp)
 refine h.upd (fun c => c = .hp ∨ c = .tt) hK (fun k hk _ => hk1 k hk) (fun c hne hp => ?_) (fun c e => ?_)
 ·cases c with
  | hp => exact absurd (.inl rfl) hne
  | tt => exact absurd (.inr rfl) hne
  | _ => exact hp
 ·rcases e with rfl | rfl
  ·have h3 := Kd.R_far (p := ⟨T, 6, none⟩) ho (fun k hk e => by
    have e : k = T := e
    rw [e] at hk
    rcases hk with h1 | h1
    ·rw [hT] at h1; cases h1
    ·have : w.heap.size ≤ T := h1
     omega) v9
   exact R_up rfl h3
  ·exact ⟨set_at hT9, by rw [hk1 T hTl, hT], (h .tt).2.2⟩
theorem SP.pushHs (h : SP base T w cls s) {w9 : World} {v9 : Value} (r : Sl) (rest : List Int) {j : Nat} (hr : IR w base cls (.far j) (slV r) rest) (hbl : s.heaps.length = s.hsl.length) (hl : s.hs.length = s.hsl.length)
  (ho : Kd.R kSl 28 w9 base (fun k => cls k = .hs ∨ w.heap.size ≤ k) v9 (s.hs ++ [r])) (hg : w.grownBy w9 s.vHs.ownBlock) (hat : v9.ownBlock = s.vHs.ownBlock ∨ ∃ b, v9.ownBlock = some b ∧ w.heap.size ≤ b) :
  SP base T (w9.setCell ⟨T, 7, none⟩ v9) (up (up cls v9 .hs) (slV r) (.hro s.hsl.length)) { s with vHs := v9, hs := s.hs ++ [r], hsl := s.hsl ++ [r], heaps := s.heaps ++ [rest], tc := s.tc.set 7 v9 } := by
 have hT := (h .tt).2.1;have hTl := h.ownT;have hob : ∀ k, s.vHs.ownBlock = some k → cls k = .hs := (h .hs).1;have hk1 := up_keep (c := .hs) hat hob;have hnew : ∀ k, (slV r).ownBlock = some k → cls k = .far j := fun k hk => hr.1 k hk
 have hrl : ∀ k, (slV r).ownBlock = some k → k < w.heap.size := Kd.R_lt hr
 have hv9r : ∀ k, v9.ownBlock = some k → (slV r).ownBlock ≠ some k := fun k hk e => by
  rcases ho.1 k hk with h1 | h1
  ·rw [hnew k e] at h1; cases h1
  ·have := hrl k e; omega
 have hcl : ∀ k, k < w.heap.size → (cls k).own = true → up (up cls v9 .hs) (slV r) (.hro s.hsl.length) k = cls k := fun k hk ho2 => by
  rw [up_ne fun e => by rw [hnew k e] at ho2; cases ho2];exact hk1 k hk
 have hK1 : Kept w w9 (fun k => cls k = .hs) := kept_grown hg hob;have hK : Kept w (w9.setCell ⟨T, 7, none⟩ v9) (fun k => cls k = .hs ∨ cls k = .tt) := (hK1.mono fun k hk => .inl hk).setCell (.inl (.inr hT)) v9;have hT9 : w9.heap[T]? = some (.cells s.tc.toArray 90 (0, 0)) := blk_kept (h .tt).1 hK1 (by show ¬ cls T = _; rw [hT]; simp);refine h.upd (fun c => c = .hs ∨ c = .tt ∨ c = .hro s.hsl.length) (hK.mono fun k hk => hk.elim .inl fun e => .inr (.inl e)) hcl (fun c hne hp => ?_) (fun c e => ?_)
 ·cases c with
  | hro i =>
   have hi : i ≠ s.hsl.length := fun e => hne (.inr (.inr (by rw [e])))
   intro hl2
   have hl' : i < s.hsl.length := by
    have : i < (s.hsl ++ [r]).length := hl2;simp at this;omega
   show IR _ _ _ _ (slV ((s.hsl ++ [r]).getD i nilL)) ((s.heaps ++ [rest]).getD i []);rw [gD_snoc, gD_snoc, if_neg hi, if_neg (by omega)];exact hp hl'
  | hs => exact absurd (.inl rfl) hne
  | tt => exact absurd (.inr (.inl rfl)) hne
  | _ => exact hp
 ·rcases e with rfl | rfl | rfl
  ·have h3 := Kd.R_far (p := ⟨T, 7, none⟩) ho (fun k hk e => by
    have e : k = T := e;rw [e] at hk;rcases hk with h1 | h1
    ·rw [hT] at h1; cases h1
    ·have : w.heap.size ≤ T := h1;omega) v9
   exact Kd.R_mono (Kd.R_tight rfl h3) fun k hk => by
    rw [up_ne (hv9r k hk.symm)];exact up_self hk.symm
  ·exact ⟨set_at hT9, by rw [hcl T hTl (by rw [hT]; rfl), hT], (h .tt).2.2⟩
  ·intro _;show IR _ _ _ _ (slV ((s.hsl ++ [r]).getD s.hsl.length nilL)) ((s.heaps ++ [rest]).getD s.hsl.length []);rw [gD_snoc, gD_snoc, if_pos rfl, if_pos hbl.symm];exact R_up rfl (R_moved (cls' := cls) (C := fun c => c = .hs ∨ c = .tt) hr hK (by simp) fun _ _ e => e)
theorem SP.setHs (h : SP base T w cls s) {g c0 : Nat} (hv : s.vHs = .slice (some ⟨g, 0, none⟩) s.hs.length c0) (b : Nat) (r : Sl) (rest : List Int) {j : Nat} (hr : IR w base cls (.far j) (slV r) rest) (hb : b < s.hsl.length) (hbl : s.heaps.length = s.hsl.length) :
  SP base T (w.setCell ⟨g, b, none⟩ (slV r)) (up cls (slV r) (.hro b)) { s with hs := s.hs.set b r, hsl := s.hsl.set b r, heaps := s.heaps.set b rest } := by
 have h1 : SR w base cls .hs s.vHs s.hs := h .hs;rw [hv] at h1;obtain ⟨h2, hg⟩ := Kd.R_put h1 (b : Int) r;rw [Int.toNat_natCast] at h2 hg;have hgc : cls g = .hs := h1.1 g rfl;have hnew : ∀ k, (slV r).ownBlock = some k → cls k = .far j := fun k hk => hr.1 k hk
 have hcl : ∀ k, (cls k).own = true → up cls (slV r) (.hro b) k = cls k := fun k ho => up_ne fun e => by rw [hnew k e] at ho; cases ho
 have hK : Kept w (w.setCell ⟨g, b, none⟩ (slV r)) (fun k => cls k = .hs) := kept_grown hg fun k e => by cases e; exact hgc
 refine h.upd (fun c => c = .hs ∨ c = .hro b) (hK.mono fun k hk => .inl hk) (fun k _ ho => hcl k ho) (fun c hne hp => ?_) (fun c e => ?_)
 ·cases c with
  | hro i =>
   have hi : i ≠ b := fun e => hne (.inr (by rw [e]))
   intro hl;have hl' : i < s.hsl.length := by simpa using hl
   show IR _ _ _ _ (slV ((s.hsl.set b r).getD i nilL)) ((s.heaps.set b rest).getD i []);rw [gD_set _ _ _ _ _ hb, gD_set _ _ _ _ _ (by omega), if_neg hi, if_neg hi];exact hp hl'
  | hs => exact absurd (.inl rfl) hne
  | _ => exact hp
 ·rcases e with rfl | rfl
  ·show SR _ _ _ _ s.vHs _;rw [hv];have h3 : SR (w.setCell ⟨g, b, none⟩ (slV r)) base cls .hs (.slice (some ⟨g, 0, none⟩) s.hs.length c0) (s.hs.set b r) := h2;have h4 : SR (w.setCell ⟨g, b, none⟩ (slV r)) base (up cls (slV r) (.hro b)) .hs (.slice (some ⟨g, 0, none⟩) s.hs.length c0) (s.hs.set b r) := Kd.R_mono h3 fun k hk => by rw [hcl k (by rw [hk]; rfl)]; exact hk
   simpa using h4
  ·intro _;show IR _ _ _ _ (slV ((s.hsl.set b r).getD b nilL)) ((s.heaps.set b rest).getD b []);rw [gD_set _ _ _ _ _ hb, gD_set _ _ _ _ _ (by omega), if_pos rfl, if_pos rfl];exact R_up rfl (R_moved (cls' := cls) (C := fun c => c = .hs) hr hK (by simp) fun _ _ e => e)
theorem SP.appHs (h : SP base T w cls s) {w9 : World} {r : Sl} {g c0 : Nat} (hv : s.vHs = .slice (some ⟨g, 0, none⟩) s.hs.length c0) (b : Nat) (x : Int) (hb : b < s.hsl.length) (hbl : s.heaps.length = s.hsl.length)
  (ho : Kd.R (Kd.int .i64) 3 w9 base (fun k => cls k = .hro b ∨ w.heap.size ≤ k) (slV r) (s.heaps.getD b [] ++ [x])) (hg : w.grownBy w9 (slV (s.hsl.getD b nilL)).ownBlock) (hat : (slV r).ownBlock = (slV (s.hsl.getD b nilL)).ownBlock ∨ ∃ k, (slV r).ownBlock = some k ∧ w.heap.size ≤ k) :
  SP base T (w9.setCell ⟨g, b, none⟩ (slV r)) (up cls (slV r) (.hro b)) { s with hs := s.hs.set b r, hsl := s.hsl.set b r, heaps := s.heaps.set b (s.heaps.getD b [] ++ [x]) } := by
 have hob : ∀ k, (slV (s.hsl.getD b nilL)).ownBlock = some k → cls k = .hro b := (h (.hro b) hb).1;have hk1 := up_keep (c := .hro b) hat hob;have hK1 : Kept w w9 (fun k => cls k = .hro b) := kept_grown hg hob
 have h1 : SR w9 base cls .hs (.slice (some ⟨g, 0, none⟩) s.hs.length c0) s.hs := by
  have h0 : SR w base cls .hs s.vHs s.hs := h .hs;rw [hv] at h0;exact R_moved (C := fun c => c = .hro b) h0 hK1 (by simp) fun _ _ e => e
 obtain ⟨h2, hg2⟩ := Kd.R_put h1 (b : Int) r;rw [Int.toNat_natCast] at h2 hg2;have hgc : cls g = .hs := h1.1 g rfl
 have hgl : g < w.heap.size := by
  have h0 : SR w base cls .hs s.vHs s.hs := h .hs;rw [hv] at h0;exact Kd.R_lt h0 g rfl
 have hK : Kept w (w9.setCell ⟨g, b, none⟩ (slV r)) (fun k => cls k = .hs ∨ cls k = .hro b) := (hK1.mono fun k hk => .inr hk).setCell (.inl (.inl hgc)) _;refine h.upd (fun c => c = .hs ∨ c = .hro b) hK (fun k hk _ => hk1 k hk) (fun c hne hp => ?_) (fun c e => ?_)
 ·cases c with
  | hro i =>
   have hi : i ≠ b := fun e => hne (.inr (by rw [e]))
   intro hl;have hl' : i < s.hsl.length := by simpa using hl
   show IR _ _ _ _ (slV ((s.hsl.set b r).getD i nilL)) ((s.heaps.set b _).getD i []);rw [gD_set _ _ _ _ _ hb, gD_set _ _ _ _ _ (by omega), if_neg hi, if_neg hi];exact hp hl'
  | hs => exact absurd (.inl rfl) hne
  | _ => exact hp
 ·rcases e with rfl | rfl
  ·show SR _ _ _ _ s.vHs _;rw [hv];have h3 : SR (w9.setCell ⟨g, b, none⟩ (slV r)) base cls .hs (.slice (some ⟨g, 0, none⟩) s.hs.length c0) (s.hs.set b r) := h2
   have h4 : SR (w9.setCell ⟨g, b, none⟩ (slV r)) base (up cls (slV r) (.hro b)) .hs (.slice (some ⟨g, 0, none⟩) s.hs.length c0) (s.hs.set b r) := Kd.R_mono (Kd.R_tight rfl h3) fun k hk => by
    have : g = k := by simpa [Value.ownBlock] using hk.symm
    subst this;rw [hk1 g hgl, hgc]
   simpa using h4
  ·intro _;show IR _ _ _ _ (slV ((s.hsl.set b r).getD b nilL)) ((s.heaps.set b _).getD b []);rw [gD_set _ _ _ _ _ hb, gD_set _ _ _ _ _ (by omega), if_pos rfl, if_pos rfl];refine R_up rfl (Kd.R_far (p := ⟨g, b, none⟩) ho (fun k hk e => ?_) (slV r));have e : k = g := e;rw [e] at hk;rcases hk with e | e
   ·rw [hgc] at e; cases e
   ·have : w.heap.size ≤ g := e;omega
theorem SP.setW (h : SP base T w cls s) {f : Int → Option Value} {n : Nat} (hm : G1 w1 s.mW f n) (hg : w.grownBy w1 (some s.mW)) : SP base T w1 cls { s with fW := f, cW := n } := by
 have hc := (h .mw).1
 refine h.upd (· = .mw) (kept_grown hg fun k e => by cases e; exact hc) (fun _ _ _ => rfl) (fun c hne hp => ?_) (fun c e => ?_)
 ·cases c <;> first | exact hp | exact absurd rfl hne
 ·subst e
  exact ⟨hc, hm, (h .mw).2.2⟩
theorem SP.setC (h : SP base T w cls s) {i : Nat} (hi : i < s.cm.length) {f : Int × Int → Option Value} {n : Nat} (hm : G2 w1 (s.cm.getD i 0) f n) (hg : w.grownBy w1 (some (s.cm.getD i 0))) :
  SP base T w1 cls { s with fc := fun j => if j = i then f else s.fc j, cc := fun j => if j = i then n else s.cc j } := by
 have hc := (h (.cmp i) hi).1
 refine h.upd (· = .cmp i) (kept_grown hg fun k e => by cases e; exact hc) (fun _ _ _ => rfl) (fun c hne hp => ?_) (fun c e => ?_)
 ·cases c with
  | cmp j =>
   have hj : j ≠ i := fun e => hne (by rw [e])
   intro hl
   show cls (s.cm.getD j 0) = .cmp j ∧ G2 w1 (s.cm.getD j 0) (if j = i then f else s.fc j) (if j = i then n else s.cc j) ∧ base ≤ s.cm.getD j 0
   rw [if_neg hj, if_neg hj]
   exact hp hl
  | _ => exact hp
 ·subst e
  intro _
  show cls (s.cm.getD i 0) = .cmp i ∧ G2 w1 (s.cm.getD i 0) (if i = i then f else s.fc i) (if i = i then n else s.cc i) ∧ base ≤ s.cm.getD i 0
  rw [if_pos rfl, if_pos rfl]
  exact ⟨hc, hm, (h (.cmp i) hi).2.2⟩
theorem SP.pushC (h : SP base T w cls s) {m : Nat} {f : Int × Int → Option Value} {n : Nat} {fC : Int → Option Value} {nC : Nat} {j : Nat} (hc : cls m = .far j) (hb : base ≤ m) (hm : G2 w m f n) (hM : G1 w1 s.mC fC nC) (hg : w.grownBy w1 (some s.mC)) :
  SP base T w1 (fun k => if k = m then .cmp s.cm.length else cls k) { s with fC := fC, cC := nC, cm := s.cm ++ [m], fc := fun i => if i = s.cm.length then f else s.fc i, cc := fun i => if i = s.cm.length then n else s.cc i } := by
 have hmc := (h .mc).1
 have hcl : ∀ k, (cls k).own = true → (fun k => if k = m then Cl.cmp s.cm.length else cls k) k = cls k := fun k ho => by
  show (if k = m then Cl.cmp s.cm.length else cls k) = cls k;rw [if_neg];rintro rfl;rw [hc] at ho
  cases ho
 have hK : Kept w w1 (fun k => cls k = .mc) := kept_grown hg fun k e => by cases e; exact hmc
 refine h.upd (fun c => c = .mc ∨ c = .cmp s.cm.length) (hK.mono fun k hk => .inl hk) (fun k _ ho => hcl k ho) (fun c hne hp => ?_) (fun c e => ?_)
 ·cases c with
  | cmp i =>
   have hi : i ≠ s.cm.length := fun e => hne (.inr (by rw [e]))
   intro hl
   have hl' : i < s.cm.length := by
    have : i < (s.cm ++ [m]).length := hl;simp at this;omega
   show (if (s.cm ++ [m]).getD i 0 = m then Cl.cmp s.cm.length else cls ((s.cm ++ [m]).getD i 0)) = .cmp i ∧ G2 w1 ((s.cm ++ [m]).getD i 0) (if i = s.cm.length then f else s.fc i) (if i = s.cm.length then n else s.cc i) ∧ base ≤ (s.cm ++ [m]).getD i 0;rw [gD_snoc, if_neg hi, if_neg hi, if_neg hi];exact hp hl'
  | mc => exact absurd (.inl rfl) hne
  | _ => exact hp
 ·rcases e with rfl | rfl
  ·exact ⟨by rw [hcl _ (by rw [hmc]; rfl)]; exact hmc, hM, (h .mc).2.2⟩
  ·intro _;show (if (s.cm ++ [m]).getD s.cm.length 0 = m then Cl.cmp s.cm.length else cls ((s.cm ++ [m]).getD s.cm.length 0)) = .cmp s.cm.length ∧ G2 w1 ((s.cm ++ [m]).getD s.cm.length 0) (if s.cm.length = s.cm.length then f else s.fc s.cm.length) (if s.cm.length = s.cm.length then n else s.cc s.cm.length) ∧ base ≤ (s.cm ++ [m]).getD s.cm.length 0;rw [gD_snoc, if_pos rfl, if_pos rfl, if_pos rfl, if_pos rfl];exact ⟨rfl, hm.same (hK.2 _ hm.lt_ (by show ¬ cls m = _; rw [hc]; simp)), hb⟩
end
end Go.Proofs.Ytmcbkmfpmcbdpaa.H
namespace Go.Proofs.Ytmcbkmfpmcbdpaa.Pr
open Go.RowKit Go.Proofs.YtmcbkmfpmcbdpaaW.PrintWords
def classL (n : Nat) (es : List S80) : List Int := (List.range n).map fun i : Nat => (((List.range n).find? fun k : Nat => H.relS (H.greatL n es) (i : Int) (k : Int)).getD i : Nat)
def refL (n : Nat) (es : List S80) : List Int := PL.numK (classL n es)
end Go.Proofs.Ytmcbkmfpmcbdpaa.Pr
namespace Go.Proofs.Ytmcbkmfpmcbdpaa.H
open Go.RowKit Go.Proofs.Ytmcbkmfpmcbdpaa.Pr Go.Proofs.YtmcbkmfpmcbdpaaW.PrintWords Go.Proofs.Ytmcbkmfpmcbdpaa.Sem
theorem RefI.congr {n : Nat} {es : List Ed} {B H H' : Int → Int} (h : RefI n es B H) (hH : ∀ x, Nd n x → H' x = H x) (hes : ∀ e ∈ es, Nd n e.f2) : RefI n es B H' where
 i3 := h.i3
 i6 := fun s t hs ht e => by rw [hH s hs, hH t ht]; exact h.i6 s t hs ht e
 i4 := fun s t hs ht e l x ⟨f, hf, f0, f1, f2⟩ => by
  obtain ⟨g, hg, g0, g1, g2⟩ := h.i4 s t hs ht e l x ⟨f, hf, f0, f1, by rw [← hH _ (hes f hf)]; exact f2⟩
  exact ⟨g, hg, g0, g1, by rw [hH _ (hes g hg)]; exact g2⟩
theorem take_ref {n : Nat} {es : List Ed} {p : PSt} {old a : Nat} (hP : PW n p) (ho : old < p.heaps.length) (ha : a < (gl p.heaps (old : Int)).length) (h2 : 2 ≤ (gl p.heaps (old : Int)).length) (hR : RefI n es (gi p.block) (HP p)) :
  ∃ b : Nat, PW n (takeP p (old : Int) a) ∧ p.heaps.length < (takeP p (old : Int) a).heaps.length ∧ gl (takeP p (old : Int) a).heaps (p.heaps.length : Int) = [(b : Int)] ∧ (∀ x ∈ gl (takeP p (old : Int) a).blocks (b : Int), HP p x = (old : Int)) ∧
   (∀ x, Nd n x → HP (takeP p (old : Int) a) x = if gi (takeP p (old : Int) a).block x = (b : Int) then (p.heaps.length : Int) else HP p x) ∧ (∀ x, Nd n x → HP p x < (p.heaps.length : Int)) ∧ RefJ n es (gi (takeP p (old : Int) a).block) (HP p) (gi (takeP p (old : Int) a).block) (HP (takeP p (old : Int) a)) (p.heaps.length : Int) (old : Int) 0 := by
 have hoN : Nd p.heaps.length (old : Int) := nd_iff.2 ho;obtain ⟨t1, t2⟩ := take_mem hP hoN ha;obtain ⟨b, hb, hbn⟩ := t1.nat
 have hh : ∀ x, Nd n x → HP (takeP p (old : Int) a) x = if gi (takeP p (old : Int) a).block x = (b : Int) then (p.heaps.length : Int) else HP p x := fun x hx => by
  rw [take_hp hP hoN ha hx, hb];rfl
 have hlt : ∀ x, Nd n x → HP p x < (p.heaps.length : Int) := fun x hx => (hP.hr _ (hP.br x hx)).2
 have hbo : ∀ x, gi p.block x = (b : Int) → HP p x = (old : Int) := fun x e => by
  show gi p.heap (gi p.block x) = _;rw [e, ← hb];exact t2
 refine ⟨b, hP.take hoN ha h2, by simp [takeP], ?_, ?_, hh, hlt, ?_⟩
 ·rw [take_heaps hoN (nd_iff.2 (by omega)), if_pos rfl, hb]
 ·intro x hx;have hx : x ∈ gl p.blocks (b : Int) := hx;exact hbo x ((hP.bm _ (nd_iff.2 hbn) x).1 hx).2
 ·exact RefI.take (b := (b : Int)) hR hh (fun s _ e => hbo s e) (fun s hs => by have := hlt s hs; omega) (by omega)
theorem class_iff {n : Nat} {es : List Ed} (hes : ∀ e ∈ es, Nd n e.f0 ∧ Nd n e.f2) {i j : Nat} (hi' : i < (classL n es).length) (hj' : j < (classL n es).length) : Bis n es (i : Int) (j : Int) ↔ (classL n es)[i] = (classL n es)[j] := by
 have hlen : (classL n es).length = n := by simp [classL]
 have hat : ∀ (i : Nat) (hi : i < (classL n es).length), (classL n es)[i] = ((((List.range n).find? fun k : Nat => relS (greatL n es) (i : Int) (k : Int)).getD i : Nat) : Int) := fun i hi => by simp [classL]
 have hex : ∀ i, i < n → ∃ k, ((List.range n).find? fun k : Nat => relS (greatL n es) (i : Int) (k : Int)) = some k ∧ Bis n es (i : Int) (k : Int) := fun i hi => by
  have h1 : ((List.range n).find? fun k : Nat => relS (greatL n es) (i : Int) (k : Int)).isSome = true := List.find?_isSome.2 ⟨i, List.mem_range.2 hi, Bis.refl hes (nd_iff.2 hi)⟩;obtain ⟨k, hk⟩ := Option.isSome_iff_exists.1 h1;exact ⟨k, hk, List.find?_some (p := fun k : Nat => relS (greatL n es) (i : Int) (k : Int)) hk⟩
 have hi2 : i < n := by omega
 have hj2 : j < n := by omega
 rw [hat i hi', hat j hj'];obtain ⟨k, hk, hbk⟩ := hex i hi2;obtain ⟨m, hm, hbm⟩ := hex j hj2;constructor
 ·intro hij
  have e : (fun k : Nat => relS (greatL n es) (i : Int) (k : Int)) = fun k : Nat => relS (greatL n es) (j : Int) (k : Int) := by
   funext k
   have h1 : relS (greatL n es) (i : Int) (k : Int) = true ↔ relS (greatL n es) (j : Int) (k : Int) = true := ⟨fun x => Bis.trans (Bis.symm hij) x, fun x => Bis.trans hij x⟩
   exact Bool.eq_iff_iff.2 h1
  rw [e, hm];simp
 ·intro e;rw [hk, hm] at e;simp only [Option.getD_some] at e;have e : k = m := by omega
  subst e;exact hbk.trans hbm.symm
theorem ker_class {n : Nat} {es : List Ed} {bl : List Int} (hes : ∀ e ∈ es, Nd n e.f0 ∧ Nd n e.f2) (hl : bl.length = n) (h : ∀ s t, Nd n s → Nd n t → (Bis n es s t ↔ gi bl s = gi bl t)) : PL.Ker bl (classL n es) := by
 have hlen : (classL n es).length = n := by simp [classL]
 refine ⟨by rw [hl, hlen], fun i j hi hj hi' hj' => ?_⟩
 rw [← class_iff hes hi' hj', h _ _ (nd_iff.2 (by omega)) (nd_iff.2 (by omega))]
 unfold gi
 simp [List.getD_eq_getElem?_getD, List.getElem?_eq_getElem hi, List.getElem?_eq_getElem hj]
theorem ref_end {n : Nat} {es : List Ed} {p : PSt} (hP : PW n p) (hR : RefI n es (gi p.block) (HP p)) (hw : ∀ c, Nd p.heaps.length c → (gl p.heaps c).length < 2) (hes : ∀ e ∈ es, Nd n e.f0 ∧ Nd n e.f2) :
  PL.numK p.block = refL n es ∧ (p.blocks.length : Int) = ((PL.fstK (classL n es)).length : Int) := by
 have hk := PL.numK_ker _ _ (ker_class hes hP.bl fun s t hs ht => RefI.last hR (fun s t hs ht e => hP.apart hw hs ht e) hes hs ht);refine ⟨hk.1, ?_⟩;rw [← hk.2]
 have hin : ∀ x, x ∈ PL.fstK p.block ↔ Nd p.blocks.length x := fun x => by
  rw [PL.fstK_mem];constructor
  ·intro hx;obtain ⟨i, hi, rfl⟩ := List.getElem_of_mem hx;have := hP.br (i : Int) (nd_iff.2 (by rw [← hP.bl]; exact hi));unfold gi at this;simpa [List.getD_eq_getElem?_getD, List.getElem?_eq_getElem hi] using this
  ·intro hx;obtain ⟨y, hy⟩ := List.exists_mem_of_ne_nil _ (hP.be x hx);obtain ⟨hy1, hy2⟩ := (hP.bm x hx y).1 hy;obtain ⟨k, rfl, hk⟩ := hy1.nat;rw [← hy2];unfold gi;rw [← hP.bl] at hk;simp [List.getD_eq_getElem?_getD, List.getElem?_eq_getElem hk]
 have h1 : (PL.fstK p.block).length ≤ p.blocks.length := nodup_le (PL.fstK_nodup _) fun x hx => (hin x).1 hx
 have h2 := nodup_sub (l := (List.range p.blocks.length).map fun k : Nat => (k : Int)) (l' := PL.fstK p.block) (List.pairwise_map.2 (List.Pairwise.imp (fun h e => absurd h (by omega)) List.pairwise_lt_range)) fun x hx => by
  obtain ⟨k, hk, rfl⟩ := List.mem_map.1 hx;exact (hin _).2 (nd_iff.2 (List.mem_range.1 hk))
 simp at h2;omega
end Go.Proofs.Ytmcbkmfpmcbdpaa.H
namespace Go.Proofs.Ytmcbkmfpmcbdpaa.H
open Go.RowKit Go.Proofs.Ytmcbkmfpmcbdpaa.Pr Go.Proofs.YtmcbkmfpmcbdpaaW.PrintWords Go.Proofs.Ytmcbkmfpmcbdpaa.Sem Go.Proofs.YtmcbkmfpmcbdpaaW.PrintLast
def upS (s : Nat → Nat) (i b : Nat) : Nat → Nat := fun k => if k = i then b else s k
theorem upS_self (s : Nat → Nat) (i b : Nat) : upS s i b i = b := by unfold upS; rw [if_pos rfl]
theorem upS_ne (s : Nat → Nat) {i j : Nat} (b : Nat) (h : j ≠ i) : upS s i b j = s j := by unfold upS; rw [if_neg h]
def BegL (obj : (Nat → Nat) → Nat → Obj) (w0 : World) (D : List Nat) (s : Nat → Nat) (w : World) : Prop := Below w0.heap.size w0 w ∧ ∀ i ∈ D, w0.heap.size ≤ s i ∧ w.heap[s i]? = some (obj s i) ∧ ∀ j ∈ D, s i = s j → i = j
theorem BegL.start (obj : (Nat → Nat) → Nat → Obj) (w : World) (s : Nat → Nat) : BegL obj w [] s w := ⟨Below.refl _ _, fun i h => by cases h⟩
theorem BegL.step {obj : (Nat → Nat) → Nat → Obj} {w0 : World} {D : List Nat} {s : Nat → Nat} {w : World} (h : BegL obj w0 D s w) (i : Nat) (hi : i ∉ D) (hobj : ∀ j b, j = i ∨ j ∈ D → obj (upS s i b) j = obj s j) {D' : List Nat} (hD : ∀ j ∈ D', j = i ∨ j ∈ D) : BegL obj w0 D' (upS s i w.heap.size) (w.alloc (obj s i)) := by
 have ui : upS s i w.heap.size i = w.heap.size := upS_self _ _ _
 have uj : ∀ j, j ≠ i → upS s i w.heap.size j = s j := fun j hj => upS_ne _ _ hj
 have hlt : ∀ j ∈ D, s j < w.heap.size := fun j hj => blk_lt (h.2 j hj).2.1
 refine ⟨below_alloc h.1 _, fun j hj => ?_⟩
 rw [hobj j _ (hD j hj)]
 by_cases e : j = i
 ·subst e
  rw [ui]
  refine ⟨h.1.size, blk_new w _, fun k hk he => ?_⟩
  rcases hD k hk with hk | hk
  ·exact hk.symm
  ·have hne : k ≠ j := fun e => hi (e ▸ hk)
   rw [uj k hne] at he
   have := hlt k hk
   omega
 ·have hjD : j ∈ D := (hD j hj).resolve_left e
  rw [uj j e]
  refine ⟨(h.2 j hjD).1, blk_below (h.2 j hjD).2.1 (below_alloc (Below.refl _ _) _), fun k hk he => ?_⟩
  rcases hD k hk with hk | hk
  ·subst hk
   rw [ui] at he
   have := hlt j hjD
   omega
  ·have hne : k ≠ i := fun e => hi (e ▸ hk)
   rw [uj k hne] at he
   exact (h.2 j hjD).2.2 k hk he
def listedP (l0 : Array Bool) (p : Nat → Bool) : Array Bool := l0.mapIdx fun k b => b || p k
theorem listedP_at (l0 : Array Bool) (p : Nat → Bool) (k : Nat) : (listedP l0 p)[k]? = (l0[k]?).map fun b => b || p k := by unfold listedP; rw [Array.getElem?_mapIdx]
theorem listedP_set (l0 : Array Bool) (p : Nat → Bool) (i : Nat) : (listedP l0 p).setIfInBounds i true = listedP l0 fun k => p k || decide (k = i) := by
 apply Array.ext_getElem?
 intro k
 rw [listedP_at]
 by_cases e : i = k
 ·subst e
  rw [Array.getElem?_setIfInBounds]
  rw [if_pos rfl]
  cases h : l0[i]? with
  | none =>
   have : ¬ i < l0.size := by intro h2; rw [Array.getElem?_eq_getElem h2] at h; cases h
   rw [if_neg (by simpa [listedP] using this)]
   rfl
  | some b =>
   have := (Array.getElem?_eq_some_iff.1 h).1
   rw [if_pos (by simpa [listedP] using this)]
   simp
 ·rw [Array.getElem?_setIfInBounds_ne e, listedP_at]
  have : ¬ k = i := fun h => e h.symm
  simp [this]
def subs : List Nat → List (List Nat)
 | [] => [[]]
 | x :: r => subs r ++ (subs r).map (x :: ·)
theorem filter_subs (p : Nat → Bool) : ∀ C : List Nat, C.filter p ∈ subs C
 | [] => by simp [subs]
 | x :: r => by
  have ih := filter_subs p r
  unfold subs
  rw [List.filter_cons]
  split
  ·exact List.mem_append_right _ (List.mem_map.2 ⟨_, ih, rfl⟩)
  ·exact List.mem_append_left _ ih
theorem filter_more {p : Nat → Bool} {i : Nat} : ∀ {C : List Nat}, C.Nodup → i ∈ C → p i = false → (C.filter fun k => p k || decide (k = i)).length = (C.filter p).length + 1
 | [], _, hi, _ => by cases hi
 | x :: r, hn, hi, hpi => by
  obtain ⟨h1, h2⟩ := List.nodup_cons.1 hn
  rw [List.filter_cons, List.filter_cons]
  by_cases e : x = i
  ·subst e
   have : r.filter (fun k => p k || decide (k = x)) = r.filter p := List.filter_congr fun y hy => by
    have : y ≠ x := fun e => h1 (e ▸ hy)
    simp [this]
   simp [hpi, this]
  ·have := filter_more h2 ((List.mem_cons.1 hi).resolve_left (Ne.symm e)) hpi
   simp only [e, decide_false, Bool.or_false]
   split
   ·simp [this]
   ·exact this
def allocB (md : Region.Mode) (ops : Array Oper) (l0 l1 : Array Bool) (C : List Nat) (needs : Nat → List Nat) : Bool :=
 decide (listedP l0 (fun k => C.contains k) = l1) && (subs C).all fun D => D.length == C.length || !(D.all fun j => (needs j).all fun k => D.contains k) ||
  (!(Region.ready md ops (listedP l0 fun k => D.contains k)).isEmpty && (Region.ready md ops (listedP l0 fun k => D.contains k)).all fun i => C.contains i && !D.contains i && (needs i).all fun k => D.contains k)
structure ActP (C : List Nat) (slot : Nat → Tmp) (val : (Nat → Nat) → Nat → Value) (a0 : Act) (p : Nat → Bool) (s : Nat → Nat) (a : Act) : Prop where
  size : a.tmps.size = a0.tmps.size
  defs : a.defers = a0.defers
  old : ∀ k, (∀ i ∈ C, slot i ≠ k) → a.tmps[k]? = a0.tmps[k]?
  new : ∀ i ∈ C, p i = true → a.tmps[slot i]? = some (val s i)
section
variable {P : Program} {ops : Array Oper} {Q : Exit → Act → World → Prop} {md : Region.Mode} {S : World → Prop}
variable {C : List Nat} {slot : Nat → Tmp} {val : (Nat → Nat) → Nat → Value} {obj : (Nat → Nat) → Nat → Obj} {needs : Nat → List Nat} {a0 : Act} {l0 l1 : Array Bool} {V : World}
theorem wpOp_val {i : Nat} {o : Oper} {v : Value} {a : Act} {w w1 : World} {K : Act → World → Prop} (ho : ops[i]? = some o) (hg : o.guard = none) (hrun : (execOp a.eval o).run P w = .ok (.value v) w1) (h : K (a.put o.dst v) w1) : wpOp P ops Q i K a w := by
 unfold wpOp
 rw [ho]
 show if Region.wanted o (yielded ops a.tmps) = true then _ else _
 rw [if_pos (by unfold Region.wanted; rw [hg])]
 left
 unfold Oper.wp
 rw [hrun]
 exact h
theorem run_mkS {a : Act} {o : Oper} {t : TypeId} {x : Operand} {z v : Value} {W W1 : World} (ho : o.op = .makeSlice t x x) (hx : a.eval x = z) (h : (Instr.makeSlice t z z).run P W = .ok v W1) : (execOp a.eval o).run P W = .ok (.value v) W1 := by
 unfold execOp
 simp only [ho, hx, Sem.run_bind, Sem.run_pure, h, Result.andThen_ok]
theorem run_mkM {a : Act} {o : Oper} {t : TypeId} {v : Value} {W W1 : World} (ho : o.op = .makeMap t none) (h : (Instr.makeMap t none).run P W = .ok v W1) : (execOp a.eval o).run P W = .ok (.value v) W1 := by
 unfold execOp
 simp [ho, h]
theorem ActP.eval {p : Nat → Bool} {s : Nat → Nat} {a : Act} (h : ActP C slot val a0 p s a) (k : Nat) (hk : ∀ i ∈ C, slot i ≠ k) : a.eval (.tmp k) = a0.eval (.tmp k) := by
 show a.tmps.getD k undef = a0.tmps.getD k undef
 have := h.old k hk
 simp [this]
theorem ActP.evalN {p : Nat → Bool} {s : Nat → Nat} {a : Act} (h : ActP C slot val a0 p s a) {i : Nat} (hi : i ∈ C) (hp : p i = true) : a.eval (.tmp (slot i)) = val s i := by
 show a.tmps.getD (slot i) undef = _
 have := h.new i hi hp
 simp [this]
theorem ActP.step {p : Nat → Bool} {s : Nat → Nat} {a : Act} (h : ActP C slot val a0 p s a) {i b : Nat} (hi : i ∈ C) (hp : p i = false) (hinj : ∀ i ∈ C, ∀ j ∈ C, slot i = slot j → i = j) (hlt : ∀ i ∈ C, slot i < a0.tmps.size) (hval : ∀ s i j b, j ≠ i → val (upS s i b) j = val s j) :
  ActP C slot val a0 (fun k => p k || decide (k = i)) (upS s i b) (a.put (some (slot i)) (val (upS s i b) i)) where
 size := by simp [Act.put, h.size]
 defs := h.defs
 old := fun k hk => by
  have := hk i hi
  simp only [Act.put]
  rw [Array.getElem?_setIfInBounds_ne this]
  exact h.old k hk
 new := fun j hj hpj => by
  simp only [Act.put]
  by_cases e : j = i
  ·subst e
   rw [Array.getElem?_setIfInBounds_self_of_lt (by rw [h.size]; exact hlt j hj)]
  ·have hne : slot i ≠ slot j := fun e2 => e (hinj i hi j hj e2).symm
   rw [Array.getElem?_setIfInBounds_ne hne, hval _ _ _ _ e]
   refine h.new j hj ?_
   simpa [e] using hpj
theorem putAll_eq : ∀ (L : List (Tmp × Value)) (a0 a : Act), (L.map Prod.fst).Nodup → (∀ x ∈ L, x.1 < a0.tmps.size) → a.tmps.size = a0.tmps.size → a.defers = a0.defers → (∀ k, k ∉ L.map Prod.fst → a.tmps[k]? = a0.tmps[k]?) → (∀ x ∈ L, a.tmps[x.1]? = some x.2) → putAll a0 L = a
 | [], a0, a, _, _, hs, hd, h1, _ => by
  have e : a0.tmps = a.tmps := Array.ext_getElem? fun k => (h1 k (by simp)).symm
  show a0 = a
  cases a0; cases a
  simp only [Act.mk.injEq]
  exact ⟨e, hd.symm⟩
 | (n, v) :: r, a0, a, hn, hlt, hs, hd, h1, h2 => by
  obtain ⟨hn1, hn2⟩ := List.nodup_cons.1 hn
  show putAll (a0.put (some n) v) r = a
  have hsz : (a0.put (some n) v).tmps.size = a0.tmps.size := by simp [Act.put]
  refine putAll_eq r _ a hn2 (fun x hx => by rw [hsz]; exact hlt x (List.mem_cons_of_mem _ hx)) (by rw [hsz]; exact hs) hd (fun k hk => ?_) fun x hx => h2 x (List.mem_cons_of_mem _ hx)
  simp only [Act.put]
  by_cases e : n = k
  ·subst e
   rw [Array.getElem?_setIfInBounds_self_of_lt (hlt (n, v) (List.mem_cons_self ..))]
   exact h2 (n, v) (List.mem_cons_self ..)
  ·rw [Array.getElem?_setIfInBounds_ne e]
   exact h1 k (by simp only [List.map_cons, List.mem_cons]; rintro (h | h); exact e h.symm; exact hk h)
theorem ActP.full {p : Nat → Bool} {s : Nat → Nat} {a : Act} (h : ActP C slot val a0 p s a) (hp : ∀ i ∈ C, p i = true) (hnd : (C.map slot).Nodup) (hlt : ∀ i ∈ C, slot i < a0.tmps.size) : putAll a0 (C.map fun i => (slot i, val s i)) = a := by
 have e : (C.map fun i => (slot i, val s i)).map Prod.fst = C.map slot := by rw [List.map_map]; rfl
 refine putAll_eq _ a0 a (by rw [e]; exact hnd) (fun x hx => ?_) h.size h.defs (fun k hk => ?_) fun x hx => ?_
 ·obtain ⟨i, hi, rfl⟩ := List.mem_map.1 hx
  exact hlt i hi
 ·rw [e] at hk
  exact h.old k fun i hi he => hk (List.mem_map.2 ⟨i, hi, he⟩)
 ·obtain ⟨i, hi, rfl⟩ := List.mem_map.1 hx
  exact h.new i hi (hp i hi)
theorem alloc_region {fuel m : Nat} (hm : m = C.length + fuel) (hchk : allocB md ops l0 l1 C needs = true) (hnd : (C.map slot).Nodup) (hlt : ∀ i ∈ C, slot i < a0.tmps.size) (hval : ∀ s i j b, j ≠ i → val (upS s i b) j = val s j) (hobj : ∀ s i j b, i ∉ needs j → obj (upS s i b) j = obj s j) (hself : ∀ i ∈ C, i ∉ needs i)
  (hSa : ∀ w o, S w → S (w.alloc o)) (hS : S V)
  (hrun : ∀ i ∈ C, ∀ (p : Nat → Bool) (s : Nat → Nat) (a : Act) (w : World), ActP C slot val a0 p s a → (∀ j ∈ needs i, p j = true) → ∃ o, ops[i]? = some o ∧ o.guard = none ∧ o.dst = some (slot i) ∧ (execOp a.eval o).run P w = .ok (.value (val (upS s i w.heap.size) i)) (w.alloc (obj s i)))
  (hcont : ∀ (s : Nat → Nat) (w : World), BegL obj V C s w → S w → wpAnyLast P md ops Q S [] fuel l1 (putAll a0 (C.map fun i => (slot i, val s i))) w) : wpAnyLast P md ops Q S [] m l0 a0 V := by
 unfold allocB at hchk;rw [Bool.and_eq_true, decide_eq_true_eq, List.all_eq_true] at hchk;obtain ⟨a4, hchk⟩ := hchk
 have hinj : ∀ i ∈ C, ∀ j ∈ C, slot i = slot j → i = j := by
  intro i hi j hj e;obtain ⟨x, hx, rfl⟩ := List.getElem_of_mem hi;obtain ⟨y, hy, rfl⟩ := List.getElem_of_mem hj;have h1 : (C.map slot)[x]'(by simpa using hx) = (C.map slot)[y]'(by simpa using hy) := by simpa using e
  have h2 := (List.getElem_inj hnd).1 h1;subst h2;rfl
 have key : ∀ (k : Nat) (p : Nat → Bool) (s : Nat → Nat) (a : Act) (w : World), (∀ i, p i = true → i ∈ C) → (∀ j, p j = true → ∀ i ∈ needs j, p i = true) → (C.filter p).length + k = C.length → ActP C slot val a0 p s a → BegL obj V (C.filter p) s w → S w → wpAnyLast P md ops Q S [] (k + fuel) (listedP l0 p) a w := by
  intro k
  induction k with
  | zero =>
   intro p s a w hpC hcl hk hA hL hSw;have hall : ∀ i ∈ C, p i = true := List.filter_eq_self.1 ((List.filter_sublist (p := p) (l := C)).eq_of_length (by omega))
   have hp : p = fun k => C.contains k := by
    funext i
    rw [Bool.eq_iff_iff];simp only [List.contains_iff_mem];exact ⟨hpC i, hall i⟩
   rw [List.filter_eq_self.2 hall] at hL;have h := hcont s w hL hSw;rw [hA.full hall hnd hlt, ← a4, ← hp] at h;rwa [Nat.zero_add]
  | succ k ih =>
   intro p s a w hpC hcl hk hA hL hSw
   have hp : p = fun k => (C.filter p).contains k := by
    funext i
    rw [Bool.eq_iff_iff];simp only [List.contains_iff_mem, List.mem_filter];exact ⟨fun h => ⟨hpC i h, h⟩, fun h => h.2⟩
   have hD := hchk _ (filter_subs p C);rw [← hp] at hD;have h1 : ((C.filter p).length == C.length) = false := by simpa using (show (C.filter p).length ≠ C.length by omega)
   have h2 : ((C.filter p).all fun j => (needs j).all fun k => p k) = true := by
    rw [List.all_eq_true];intro j hj;rw [List.all_eq_true];exact hcl j (List.mem_filter.1 hj).2
   have hc : ∀ k, (C.filter p).contains k = p k := fun k => (congrFun hp k).symm
   simp only [hc] at hD;rw [h1, h2, Bool.not_true, Bool.or_false, Bool.false_or, Bool.and_eq_true, List.all_eq_true] at hD;obtain ⟨hne, hrd⟩ := hD
   have a2 : Region.ready md ops (listedP l0 p) ≠ [] := by
    intro e;rw [e] at hne;simp at hne
   rw [Nat.succ_add];refine wpAnyLast_all rfl a2 fun i hi => ?_
   have h3 := hrd i hi;simp only [Bool.and_eq_true, List.contains_iff_mem, Bool.not_eq_true', List.all_eq_true] at h3;obtain ⟨⟨hiC, hpi⟩, hni⟩ := h3;obtain ⟨o, ho, hg, hd, hr⟩ := hrun i hiC p s a w hA hni;refine wpOp_val ho hg hr ?_;rw [hd, listedP_set]
   have hmem : ∀ j, j ∈ C.filter (fun k => p k || decide (k = i)) → j = i ∨ j ∈ C.filter p := fun j hj => by
    obtain ⟨a3, a1⟩ := List.mem_filter.1 hj;simp only [Bool.or_eq_true, decide_eq_true_eq] at a1;rcases a1 with h | h
    ·exact .inr (List.mem_filter.2 ⟨a3, h⟩)
    ·exact .inl h
   have hiF : i ∉ C.filter p := fun h => by rw [(List.mem_filter.1 h).2] at hpi; cases hpi
   refine ⟨fun _ hS => hSa _ _ hS, ih _ _ _ _ (fun j hj => ?_) (fun j hj l hl => ?_) ?_ (hA.step hiC hpi hinj hlt hval) (hL.step i hiF (fun j b hj => hobj _ _ _ _ ?_) hmem) (hSa _ _ hSw)⟩
   ·simp only [Bool.or_eq_true, decide_eq_true_eq] at hj;rcases hj with h | h
    ·exact hpC j h
    ·exact h ▸ hiC
   ·simp only [Bool.or_eq_true, decide_eq_true_eq] at hj ⊢;left
    rcases hj with h | h
    ·exact hcl j h l hl
    ·subst h; exact hni l hl
   ·have hCn : C.Nodup := by
     have := hnd;exact (List.pairwise_map.1 this).imp fun h e => h (by rw [e])
    have e1 := filter_more hCn hiC hpi;omega
   ·rcases hj with h | h
    ·subst h; exact hself _ hiC
    ·intro h4;exact hiF (List.mem_filter.2 ⟨hpC i (hcl j (List.mem_filter.1 h).2 i h4), hcl j (List.mem_filter.1 h).2 i h4⟩)
 subst hm
 have h0 : listedP l0 (fun _ => false) = l0 := by
  apply Array.ext
  ·simp [listedP]
  ·intro k h1 h2; simp [listedP]
 have hf : C.filter (fun _ => false) = [] := List.filter_eq_nil_iff.2 fun _ _ => by simp
 have := key C.length (fun _ => false) (fun _ => 0) a0 V (fun _ h => by cases h) (fun _ h => by cases h) (by rw [hf]; simp) ⟨rfl, rfl, fun _ _ => rfl, fun _ _ h => by cases h⟩ (by rw [hf]; exact BegL.start _ _ _) hS;rwa [h0] at this
end
end Go.Proofs.Ytmcbkmfpmcbdpaa.H
namespace Go.Proofs.Ytmcbkmfpmcbdpaa.H
open Go.RowKit Go.Proofs.Ytmcbkmfpmcbdpaa.Pr Go.Proofs.YtmcbkmfpmcbdpaaW.PrintWords Go.Proofs.Ytmcbkmfpmcbdpaa.Sem Go.Proofs.YtmcbkmfpmcbdpaaW.PrintLast
structure Std (n : Nat) (v1 v2 : Value) (s : Sg) (p : PSt) : Prop where
  tc : s.tc = [.int .i64 n, v1, v2, s.vI, s.vB, s.vBs, s.vH, s.vHs, .map (some s.mC), .map (some s.mW), .int .i64 ((p.blocks.length : Int) - 1)]
  block : s.block = p.block
  heap : s.heap = p.heap
  blocks : s.blocks = p.blocks
  heaps : s.heaps = p.heaps
  bs : s.bs = s.bsl
  bl : s.bsl.length = p.blocks.length
  hs : s.hs = s.hsl
  hl : s.hsl.length = p.heaps.length
def StdW (s : Sg) (wt : Int → Bool) : Prop := ∀ h, i64in h → s.fW h = if wt h = true then some (.int .i64 1) else none
def Same0 (s s' : Sg) : Prop := s'.vI = s.vI ∧ s'.is = s.is ∧ s'.ins = s.ins ∧ s'.mC = s.mC ∧ s'.fC = s.fC ∧ s'.cC = s.cC ∧ s'.cm = s.cm ∧ s'.fc = s.fc ∧ s'.cc = s.cc ∧ s'.mW = s.mW
theorem Same0.refl (s : Sg) : Same0 s s := ⟨rfl, rfl, rfl, rfl, rfl, rfl, rfl, rfl, rfl, rfl⟩
theorem Same0.trans {s s' s'' : Sg} (h : Same0 s s') (g : Same0 s' s'') : Same0 s s'' := by
 obtain ⟨a1, a2, a3, a4, a5, a6, a7, a8, a9, a10⟩ := h
 obtain ⟨b1, b2, b3, b4, b5, b6, b7, b8, b9, b10⟩ := g
 exact ⟨b1.trans a1, b2.trans a2, b3.trans a3, b4.trans a4, b5.trans a5, b6.trans a6, b7.trans a7, b8.trans a8, b9.trans a9, b10.trans a10⟩
structure Fr (w w' : World) (cls cls' : Nat → Cl) (D : Nat → Prop) : Prop where
  kept : Kept w w' (fun k => (cls k).own = true ∨ D k)
  cl : ∀ k, k < w.heap.size → ∀ j, cls k = .far j → ¬ D k → cls' k = .far j
section
variable {base T n : Nat} {w w1 w2 : World} {cls cls1 cls2 : Nat → Cl} {s s' : Sg} {p : PSt} {v1 v2 : Value} {D : Nat → Prop}
theorem Fr.refl (w : World) (cls : Nat → Cl) (D : Nat → Prop) : Fr w w cls cls D := ⟨Kept.refl _ _, fun _ _ _ h _ => h⟩
theorem Cl.isFar {c : Cl} (h : ¬ c.own = true) : ∃ j, c = .far j := by cases c <;> simp [Cl.own] at h ⊢
theorem Fr.trans {D' : Nat → Prop} (h : Fr w w1 cls cls1 D) (g : Fr w1 w2 cls1 cls2 D') (hD' : ∀ k, D' k → D k ∨ w.heap.size ≤ k) : Fr w w2 cls cls2 D := by
 have hn : ∀ k, k < w.heap.size → ¬ D k → ¬ D' k := fun k hk hd e => (hD' k e).elim hd (by omega)
 refine ⟨⟨Nat.le_trans h.kept.1 g.kept.1, fun i hi hni => ?_⟩, fun k hk j e hD => g.cl k (Nat.lt_of_lt_of_le hk h.kept.1) j (h.cl k hk j e hD) (hn k hk hD)⟩
 obtain ⟨j, hj⟩ := Cl.isFar fun e => hni (.inl e)
 have hD : ¬ D i := fun hd => hni (.inr hd)
 have h1 := h.cl i hi j hj hD
 rw [g.kept.2 i (Nat.lt_of_lt_of_le hi h.kept.1) (by
  rintro (e | e)
  ·rw [h1] at e; cases e
  ·exact hn i hi hD e)]
 exact h.kept.2 i hi hni
theorem Fr.of (hk : Kept w w1 (fun k => (cls k).own = true)) (he : ∀ k, k < w.heap.size → ∀ j, cls k = .far j → ¬ D k → cls1 k = .far j) : Fr w w1 cls cls1 D := ⟨hk.mono fun _ h => .inl h, he⟩
theorem Fr.same (hk : Kept w w1 (fun k => (cls k).own = true)) (he : ∀ k, k < w.heap.size → cls1 k = cls k) : Fr w w1 cls cls1 D := Fr.of hk fun k h j e _ => by rw [he k h]; exact e
theorem Fr.mono {D' : Nat → Prop} (h : Fr w w1 cls cls1 D) (hD : ∀ j, D j → D' j) : Fr w w1 cls cls1 D' := ⟨h.kept.mono fun k hk => hk.imp id (hD k), fun k hk j e hn => h.cl k hk j e fun hd => hn (hD k hd)⟩
theorem Fr.step (h : Fr w w1 cls cls1 D) (hk : Kept w1 w2 (fun k => (cls1 k).own = true ∨ w.heap.size ≤ k)) (he : ∀ k, k < w.heap.size → ∀ j, cls1 k = .far j → ¬ D k → cls2 k = .far j) : Fr w w2 cls cls2 D := by
 refine ⟨⟨Nat.le_trans h.kept.1 hk.1, fun i hi hn => ?_⟩, fun k hk2 j e hD => he k hk2 j (h.cl k hk2 j e hD) hD⟩
 obtain ⟨j, hj⟩ := Cl.isFar fun e => hn (.inl e)
 have hD : ¬ D i := fun hd => hn (.inr hd)
 have h1 := h.cl i hi j hj hD
 rw [hk.2 i (Nat.lt_of_lt_of_le hi h.kept.1) (by
  rintro (e | e)
  ·rw [h1] at e; cases e
  ·omega)]
 exact h.kept.2 i hi hn
theorem blk_frozen {g i : Nat} {cs : Array Value} {t : TypeId} (hb : w.heap[g]? = some (.cells cs t (0, 0))) : w.frozen? ⟨g, i, none⟩ = false := by
 unfold World.frozen?
 simp only [hb]
 simp
theorem IR.fr {j : Nat} {v : Value} {xs : List Int} (h : IR w base cls (.far j) v xs) (f : Fr w w1 cls cls1 D) (hD : ∀ k, v.ownBlock = some k → ¬ D k) : IR w1 base cls1 (.far j) v xs := by
 have h2 := Kd.R_bound (Kd.R_tight2 (e := 3) (d := Kd.int .i64) rfl h)
 refine Kd.R_mono (Kd.R_move h2 fun k hk2 => f.kept.2 k hk2.2.2.1 ?_) fun k hk2 => f.cl k hk2.2.2.1 j hk2.1.2 (hD k hk2.1.1.symm)
 rintro (e | e)
 ·rw [hk2.1.2] at e; cases e
 ·exact hD k hk2.1.1.symm e
theorem Fr.blk {j k : Nat} (f : Fr w w1 cls cls1 D) (hk : k < w.heap.size) (e : cls k = .far j) (hD : ¬ D k) : w1.heap[k]? = w.heap[k]? ∧ cls1 k = .far j :=
  ⟨f.kept.2 k hk (by rintro (h | h); · rw [e] at h; cases h
                     · exact hD h), f.cl k hk j e hD⟩
theorem SP.rowBs (h : SP base T w cls s) (v : Value) (e : s.vBs = v) : ∀ k, v.ownBlock = some k → cls k = .bs := e ▸ (h .bs).1
theorem SP.rowHs (h : SP base T w cls s) (v : Value) (e : s.vHs = v) : ∀ k, v.ownBlock = some k → cls k = .hs := e ▸ (h .hs).1
theorem SP.rowHp (h : SP base T w cls s) (v : Value) (e : s.vH = v) : ∀ k, v.ownBlock = some k → cls k = .hp := e ▸ (h .hp).1
theorem SP.slice (h : SP base T w cls s) {v : Value} {xs : List Sl} {c : Cl} (hR : SR w base cls c v xs) (h0 : 0 < xs.length) : ∃ g c0, v = .slice (some ⟨g, 0, none⟩) xs.length c0 ∧ ∀ i, i < xs.length → w.cell? ⟨g, i, none⟩ = some (slV (xs.getD i nilL)) ∧ w.frozen? ⟨g, i, none⟩ = false := by
 obtain ⟨g, c0, e, _⟩ := Kd.R_form hR h0
 refine ⟨g, c0, e, fun i hi => ?_⟩
 subst e
 have := Kd.R_cell nilL hR (i : Int) (by omega) (by omega)
 simpa [rdOf] using this
theorem IR.slice {v : Value} {xs : List Int} {c : Cl} (hR : IR w base cls c v xs) (h0 : 0 < xs.length) : ∃ g c0, v = .slice (some ⟨g, 0, none⟩) xs.length c0 ∧ ∀ i, i < xs.length → w.cell? ⟨g, i, none⟩ = some (.int .i64 (xs.getD i 0)) ∧ w.frozen? ⟨g, i, none⟩ = false := by
 obtain ⟨g, c0, e, _⟩ := Kd.R_form hR h0
 refine ⟨g, c0, e, fun i hi => ?_⟩
 subst e
 have := Kd.R_cell (0 : Int) hR (i : Int) (by omega) (by omega)
 simpa [rdOf] using this
end
set_option maxHeartbeats 16000000 in
set_option maxRecDepth 100000 in
theorem cut_any {T n : Nat} {v1 v2 : Value} {s : Sg} {p : PSt} {wt : Int → Bool} {b : Nat} {ins : List Int} {A : Option Addr} {c0 : Nat} {j : Nat} {cls : Nat → Cl} (w0 w : World) (hS : SP w0.heap.size T w cls s) (hD : Std n v1 v2 s p) (hP : PW n p) (hW : StdW s wt) (hWt : Wt p wt)
    (hr : IR w w0.heap.size cls (.far j) (.slice A ins.length c0) ins) (hb : b < p.blocks.length) (hnd : ins.Nodup) (hs : ∀ x ∈ ins, x ∈ gl p.blocks (b : Int)) (h0 : ins ≠ []) (hlt : ins.length < (gl p.blocks (b : Int)).length) (hn : n ≤ 2048) (hB : Below w0.heap.size w0 w) :
    Calls Try.prog 166 #[.pointer (some ⟨T, 0, none⟩), .int .i64 (b : Int), .slice A ins.length c0] w fun e w' => e = .returned (.tuple #[]) ∧ ∃ s' cls', SP w0.heap.size T w' cls' s' ∧ Std n v1 v2 s' (cutP p b ins) ∧ StdW s' (fun x => decide (x = gi p.heap b) || wt x) ∧ Same0 s s' ∧ Fr w w' cls cls' (fun k => (Value.slice A ins.length c0).ownBlock = some k) ∧ Below w0.heap.size w0 w' := by
  have hnb := hP.nb_le;have hbN : Nd p.blocks.length (b : Int) := nd_iff.2 hb;have i5 : 0 < n := by omega
  obtain ⟨gB, cB, hvB, hcB⟩ := IR.slice (hS .blk) (by rw [hD.block, hP.bl]; exact i5);obtain ⟨gQ, cQ, hvQ, hcQ⟩ := hS.slice (hS .bs) (by rw [hD.bs, hD.bl]; omega);obtain ⟨nb, hnbe⟩ : ∃ nb, nb = p.blocks.length := ⟨_, rfl⟩
  obtain ⟨hh, hhe, hhn⟩ := (hP.hr _ hbN).nat;have HHh := Aside0.mk hhe;clear hhe;have hrc := (Kd.R_reads' hr).2.2;have t5 := hS.cell 5 _ (by rw [hD.tc]; rfl);rw [hvQ, hD.bs, hD.bl, ← hnbe] at t5;have HS := Aside0.mk hS;have HD := Aside0.mk hD;have HR := Aside0.mk hr;have HB := Aside0.mk hB;have HP := Aside0.mk hP;have hins : ∀ x ∈ ins, Nd n x := fun x hx => ((hP.bm _ hbN x).1 (hs x hx)).1
  have hil : ins.length ≤ n := nodup_le hnd hins;have HI := Aside0.mk hins;have HLt := Aside0.mk hlt;have HSub := Aside0.mk hs;have HNb := Aside0.mk hnbe;have HW := Aside0.mk hW;have HWt := Aside0.mk hWt;clear hS hD hr hB hP hins hlt hs hcQ hnbe hW hWt hrc;have hnb' : nb ≤ n := by rw [HNb.out]; exact hnb
  have hbb : b < nb := by rw [HNb.out]; exact hb
  clear hnb hb;go_enter Try.func166, Try.ntmps166
  go_wp2
  clear t5;go_loopw [20] (fun i wr => ∃ k : Nat, k ≤ ins.length ∧ i = .int .i64 k ∧ Aside0 (SP w0.heap.size T wr cls { s with block := setAll p.block (ins.take k) nb }) ∧ Aside0 (Fr w wr cls cls fun _ => False) ∧ Aside0 (Below w0.heap.size w0 wr)) (fun i _ => ins.length - (intOf i).toNat)
  case atStart => exact ⟨0, Nat.zero_le _, rfl, ⟨by have := HS.out; rw [← HD.out.block]; exact this⟩, ⟨Fr.refl _ _ _⟩, HB⟩
  case round =>
    clear HS HB;obtain ⟨k, hk, rfl, HS, HK, HB⟩ := hrel;have g7 := Aside0.mk (IR.fr HR.out HK.out fun _ _ h => h);by_cases hlt : k < ins.length
    · obtain ⟨ad, hA, hc⟩ := atI (Kd.R_reads' g7.out).2.2 k hlt
      subst hA;obtain ⟨x, hx, hxn⟩ := (HI.out (ins.getD k 0) (by simp [List.getD_eq_getElem?_getD, List.getElem?_eq_getElem hlt])).nat;rw [hx] at hc;have HX := Aside0.mk hx;clear hx
      have hbl : ({ s with block := setAll p.block (ins.take k) nb } : Sg).block.length = n := by
        show (setAll p.block (ins.take k) nb).length = n;rw [setAll_len, HP.out.bl]
      obtain ⟨g, c, hv, hcB⟩ := IR.slice (HS.out .blk) (by rw [hbl]; exact i5);rw [hbl] at hv hcB;have t4 := HS.out.cell 4 _ (by rw [HD.out.tc]; rfl);change s.vB = _ at hv;rw [hv] at t4;obtain ⟨h6, m6⟩ := hcB x hxn;have HV := Aside0.mk hv;have HBl := Aside0.mk hbl;clear hv hcB hbl;go_wp2
      go_roundw
      case rel =>
        refine ⟨k + 1, by omega, by go_num, ⟨?_⟩, ⟨HK.out.trans (D' := fun _ => False) (Fr.same ((Kept.refl _ _).setCell (.inl (by have := (HS.out .blk).1 g (by show Value.ownBlock s.vB = _; rw [HV.out]; rfl); show (cls g).own = true; rw [this]; rfl)) _) fun _ _ => rfl) fun _ h => h.elim⟩, ⟨below_set HB.out (Kd.R_base (HS.out .blk) g (by show Value.ownBlock s.vB = _; rw [HV.out]; rfl))⟩⟩;have h9 := HS.out.setBlk (by rw [HBl.out]; exact HV.out) x (nb : Int)
        have e9 : setAll p.block (ins.take (k + 1)) nb = (setAll p.block (ins.take k) nb).set x (nb : Int) := by
          rw [take_snoc (0 : Int) hlt, setAll_snoc, HX.out, Int.toNat_natCast]
        rw [e9];exact h9
      case measure => simp [intOf]; omega
    · have ek : k = ins.length := by omega
      subst ek;rw [List.take_length] at HS;clear hlt hk;obtain ⟨gQ, cQ, hvQ, hcQ⟩ := HS.out.slice (HS.out .bs) (by show 0 < s.bs.length; rw [HD.out.bs, HD.out.bl, ← HNb.out]; omega);have t5 := HS.out.cell 5 _ (by rw [HD.out.tc]; rfl);change s.vBs = _ at hvQ;rw [hvQ] at t5;have hbs : b < s.bs.length := by rw [HD.out.bs, HD.out.bl, ← HNb.out]; exact hbb
      have k6 := (hcQ b hbs).1;have b3 := HS.out (.bro b) (by show b < s.bsl.length; rw [HD.out.bl, ← HNb.out]; exact hbb)
      have b3 : IR wr w0.heap.size cls (.bro b) (slV (s.bsl.getD b nilL)) (gl p.blocks (b : Int)) := by
        have := b3;rwa [show ({ s with block := setAll p.block ins nb } : Sg).blocks.getD b [] = gl p.blocks (b : Int) by show s.blocks.getD b [] = _; rw [HD.out.blocks]; rfl] at this
      obtain ⟨L, hL⟩ : ∃ L, L = gl p.blocks (b : Int) := ⟨_, rfl⟩
      rw [← hL] at b3;obtain ⟨A1, c1, k7, _, k5⟩ := Kd.R_reads b3
      have m4 : wr.cell? ⟨gQ, b, none⟩ = some (.slice A1 L.length c1) := by
        rw [← k7];have := k6;rwa [show ({ s with block := setAll p.block ins nb } : Sg).bs = s.bsl from HD.out.bs] at this
      have m0 := Aside0.mk b3;have HL := Aside0.mk hL;have j5 := Aside0.mk k5;have hLn : L.length ≤ n := by rw [hL]; exact HP.out.len_b hbN
      clear hcQ k6 b3 hL k7 k5;obtain ⟨bk, hbk⟩ : ∃ bk, bk = setAll p.block ins (nb : Int) := ⟨_, rfl⟩
      have hbkl : bk.length = n := by rw [hbk, setAll_len, HP.out.bl]
      rw [← hbk] at HS;have HBk := Aside0.mk hbk;clear hbk;have hLm : ∀ y ∈ L, Nd n y := fun y hy => ((HP.out.bm _ hbN y).1 (by rw [← HL.out]; exact hy)).1
      have HLm := Aside0.mk hLm;clear hLm;go_wp2
      clear t5 m4;obtain ⟨W1, m3⟩ : ∃ W1, W1 = wr := ⟨_, rfl⟩
      subst m3;go_loopw [9, 40] (fun v i wr => ∃ k : Nat, k ≤ L.length ∧ i = .int .i64 k ∧ Aside0 (Kd.R (Kd.int .i64) 3 wr W1.heap.size (fun _ => True) v ((L.take k).filter fun x => decide (gi bk x = (b : Int)))) ∧ Aside0 (Below W1.heap.size W1 wr)) (fun _ i _ => L.length - (intOf i).toNat)
      case atStart => exact ⟨0, Nat.zero_le _, rfl, ⟨Kd.R_nil _ _ _ _ _⟩, ⟨Below.refl _ _⟩⟩
      case round =>
        obtain ⟨k, hk, rfl, HRr, HBr⟩ := hrel;by_cases hlt : k < L.length
        · obtain ⟨ad, hA, hc⟩ := atI j5.out k hlt
          subst hA;replace hc := later HBr.out hc;obtain ⟨x, hx, hxn⟩ := (HLm.out (L.getD k 0) (by simp [List.getD_eq_getElem?_getD, List.getElem?_eq_getElem hlt])).nat;rw [hx] at hc;have HX := Aside0.mk hx;clear hx;have HS1 := Aside0.mk (HS.out.below HBr.out);obtain ⟨g, c, hv, hcB⟩ := IR.slice (HS1.out .blk) (by show 0 < bk.length; rw [hbkl]; exact i5);change s.vB = Value.slice (some ⟨g, 0, none⟩) bk.length c at hv;rw [hbkl] at hv;have t4 := HS1.out.cell 4 _ (by rw [HD.out.tc]; rfl);rw [hv] at t4;have h6 : wr.cell? ⟨g, x, none⟩ = some (.int .i64 (gi bk (x : Int))) := (hcB x (by show x < bk.length; omega)).1;have hfl : ((L.take k).filter fun x => decide (gi bk x = (b : Int))).length ≤ n := Nat.le_trans (List.length_filter_le _ _) (by rw [List.length_take]; omega);have HT : Aside0 (L.take (k + 1) = L.take k ++ [(x : Int)]) := ⟨by rw [take_snoc (0 : Int) hlt, HX.out]⟩
          obtain ⟨F, hF⟩ : ∃ F, F = (L.take k).filter fun x => decide (gi bk x = (b : Int)) := ⟨_, rfl⟩
          rw [← hF] at HRr hfl;have HF := Aside0.mk hF;clear hF hv hcB;by_cases hq : gi bk (x : Int) = (b : Int)
          · rw [hq] at h6
            have hqq : ((b : Int) == (b : Int)) = true := by simp
            have HQ := Aside0.mk hq;clear hq;go_wp2_with (at_builtin; refine Kd.R_append (Kd.int .i64) (w0 := W1) W1.heap.size rfl (.tmp 53) (.tmp 55) 28 3 (.int .i64 0) 8 rfl Try.underlying28 infoI rfl (by decide) (by omega) _ F (x : Int) [.int .i64 (x : Int)] (fun _ => True) (fun _ => False) rfl rfl rfl (fun _ hk => hk.elim) (fun _ _ => trivial) HRr.out HBr.out HBr.out.size (by omega) ?_; intro v9 w9 ho hb hg hat; have l9 := Aside0.mk ho; have d5 := Aside0.mk hb; clear ho hb hg hat)
            go_roundw
            case rel => exact ⟨k + 1, by omega, by go_num, ⟨by rw [HT.out, List.filter_append, ← HF.out, show [(x : Int)].filter (fun x => decide (gi bk x = (b : Int))) = [(x : Int)] from by simp [HQ.out]]; exact l9.out⟩, d5⟩
            case measure => simp [intOf]; omega
          · obtain ⟨y, hy⟩ : ∃ y, y = gi bk (x : Int) := ⟨_, rfl⟩
            rw [← hy] at h6 hq;have hqq : (y == (b : Int)) = false := by simpa using hq
            have m7 : decide (y = (b : Int)) = false := by simpa using hq
            have HQ := Aside0.mk hq;have HY := Aside0.mk hy;clear hq hy;go_wp2
            go_roundw
            case rel => exact ⟨k + 1, by omega, by go_num, ⟨by rw [HT.out, List.filter_append, ← HF.out, show [(x : Int)].filter (fun x => decide (gi bk x = (b : Int))) = [] from by simp [← HY.out, HQ.out], List.append_nil]; exact HRr.out⟩, HBr⟩
            case measure => simp [intOf]; omega
        · have ek : k = L.length := by omega
          subst ek;rw [List.take_length] at HRr;clear hlt hk;obtain ⟨F, hF⟩ : ∃ F, F = L.filter fun x => decide (gi bk x = (b : Int)) := ⟨_, rfl⟩
          rw [← hF] at HRr;have HF := Aside0.mk hF;clear hF;obtain ⟨A2, c2, f0⟩ := Kd.R_slice HRr.out;subst f0;have l7 : w0.heap.size ≤ W1.heap.size := HB.out.size;have b2 : ∀ k, (slV (A2, F.length, c2)).ownBlock = some k → W1.heap.size ≤ k := Kd.R_base HRr.out;obtain ⟨r2, e8⟩ : ∃ r2 : Sl, r2 = (A2, F.length, c2) := ⟨_, rfl⟩
          rw [← e8] at b2;have HRr' : Aside0 (Kd.R (Kd.int .i64) 3 wr W1.heap.size (fun _ => True) (slV r2) F) := ⟨by rw [e8]; exact HRr.out⟩
          have e0 : Aside0 (IR wr w0.heap.size (up cls (slV r2) (.far (j + 1))) (.far (j + 1)) (slV r2) F) := ⟨R_up rfl (Kd.R_lower HRr'.out l7)⟩
          have d3 : ∀ k, k < W1.heap.size → up cls (slV r2) (.far (j + 1)) k = cls k := fun k hk => up_ne fun e => by have := b2 k e; omega
          obtain ⟨s2, i8⟩ : ∃ s2 : Sg, s2 = { s with block := bk } := ⟨_, rfl⟩
          rw [← i8] at HS;have HS2 : Aside0 (SP w0.heap.size T wr (up cls (slV r2) (.far (j + 1))) s2) := ⟨HS.out.stay (Kept.of_below HBr.out _) fun k hk _ => d3 k hk⟩
          have g1 : Aside0 (Fr W1 wr cls (up cls (slV r2) (.far (j + 1))) fun _ => False) := ⟨Fr.same (Kept.of_below HBr.out _) d3⟩
          have g5 := Aside0.mk ((HK.out.trans g1.out fun _ h => .inl h).mono (D' := fun k => (Value.slice A ins.length c0).ownBlock = some k) fun _ h => h.elim);have g3 := Aside0.mk (IR.fr g7.out g1.out fun _ _ h => h);have l8 := Aside0.mk (show ∀ k, (slV r2).ownBlock = some k → w.heap.size ≤ k from fun k hk => Nat.le_trans HK.out.kept.1 (b2 k hk));have a1 := Aside0.mk i8;obtain ⟨b0, h7⟩ : ∃ b0, b0 = up cls (slV r2) (.far (j + 1)) := ⟨_, rfl⟩
          rw [← h7] at e0 HS2 g5 g3;have j2 := Aside0.mk (below_then HB.out HB.out.size HBr.out);clear b2 h7 HRr HRr' g1 d3 i8 HS b3 m0 j5 g7 HK HB HBr;have b4 : s2.bs.length = nb := by rw [a1.out]; show s.bs.length = nb; rw [HD.out.bs, HD.out.bl, HNb.out]
          have h5 : s2.bsl.length = nb := by rw [a1.out]; show s.bsl.length = nb; rw [HD.out.bl, HNb.out]
          have h4 : s2.blocks.length = nb := by rw [a1.out]; show s.blocks.length = nb; rw [HD.out.blocks, HNb.out]
          obtain ⟨gQ, cQ, hvQ, hcQ⟩ := HS2.out.slice (HS2.out .bs) (by rw [b4]; omega);have t5 := HS2.out.cell 5 s2.vBs (by rw [a1.out]; show s.tc[5]? = _; rw [HD.out.tc]; rfl);rw [hvQ, b4] at t5;obtain ⟨q1, q2⟩ := hcQ b (by rw [b4]; exact hbb);have HV := Aside0.mk hvQ;have f0 : slV r2 = .slice A2 F.length c2 := by rw [e8]; rfl
          have m1 := Aside0.mk f0;have a8 := Aside0.mk (And.intro b4 (And.intro h5 h4));clear hcQ hvQ f0 b4 h5 h4 e8
          go_wp2_with (first
            | (refine wpList_st1 rfl _ _ _ rfl gQ b (.slice A2 F.length c2) rfl rfl rfl ⟨_, q1⟩ q2 sizeSI ?_
               intro w3 d2;rw [← m1.out] at d2;have HS3 := Aside0.mk (HS2.out.setBs (by rw [HV.out]) b r2 F e0.out (by rw [a8.out.2.1]; exact hbb) (by rw [a8.out.2.1, a8.out.2.2]));rw [← d2] at HS3;obtain ⟨s3, b6⟩ : ∃ s3 : Sg, s3 = { s2 with bs := s2.bs.set b r2, bsl := s2.bsl.set b r2, blocks := s2.blocks.set b F } := ⟨_, rfl⟩
               rw [← b6] at HS3;have hgo : b0 gQ = .bs := (HS2.out .bs).1 gQ (by rw [HV.out]; rfl);have hKs : Kept wr w3 (fun k => (b0 k).own = true) := by rw [d2]; exact (Kept.refl _ _).setCell (.inl (by show (b0 gQ).own = true; rw [hgo]; rfl)) _
               have d6 := Aside0.mk (g5.out.step (cls2 := up b0 (slV r2) (.bro b)) (hKs.mono fun _ h => .inl h) (fun k hk i e _ => by rw [up_ne fun e2 => by have := l8.out k e2; omega]; exact e));have g4 := Aside0.mk (IR.far (cls' := up b0 (slV r2) (.bro b)) g3.out hKs (fun k _ e => by rw [up_ne fun e2 => by rw [e0.out.1 k e2] at e; simp at e]; exact e));have f7 := Aside0.mk (show Below w0.heap.size w0 w3 by rw [d2]; exact below_set j2.out (Kd.R_base (HS2.out .bs) gQ (by rw [HV.out]; rfl)));obtain ⟨a3, h8⟩ : ∃ a3, a3 = up b0 (slV r2) (.bro b) := ⟨_, rfl⟩
               rw [← h8] at HS3 d6 g4;have t5 : w3.cell? ⟨T, 5, none⟩ = some (.slice (some ⟨gQ, 0, none⟩) nb cQ) := by rw [HS3.out.cell 5 s2.vBs (by rw [b6]; show s2.tc[5]? = _; rw [a1.out]; show s.tc[5]? = _; rw [HD.out.tc]; rfl), HV.out, a8.out.1]
               have k3 : Aside0 (Kd.R kSl 28 w3 w0.heap.size (fun k => a3 k = .bs ∨ w3.heap.size ≤ k) (.slice (some ⟨gQ, 0, none⟩) nb cQ) s3.bs) := ⟨by
                 have : SR w3 w0.heap.size a3 .bs s3.vBs s3.bs := HS3.out .bs;rw [show s3.vBs = .slice (some ⟨gQ, 0, none⟩) nb cQ by rw [b6]; show s2.vBs = _; rw [HV.out, a8.out.1]] at this;exact Kd.R_mono this fun k hk => .inl hk⟩
               have a2 := Aside0.mk b6;have a9 := Aside0.mk (show s3.bs.length = nb ∧ s3.bsl.length = nb ∧ s3.blocks.length = nb by rw [b6]; simpa using a8.out);clear h8 hKs hgo b6 d2 HS2 e0 g5 g3 j2 q1 q2)
            | (at_builtin
               refine Kd.R_append kSl (w0 := w0) w0.heap.size rfl (.tmp 69) (.tmp 71) 40 28 (.slice none 0 0) 24 rfl Try.underlying40 infoSI rfl (by decide) (by omega) _ s3.bs (A, ins.length, c0) [.slice A ins.length c0] (fun k => a3 k = .bs ∨ w3.heap.size ≤ k) (fun _ => False) rfl rfl rfl (fun _ hk => hk.elim) (fun _ hk => .inr hk) k3.out f7.out f7.out.size (by rw [a9.out.1]; omega) ?_;intro v9 w4 ho hb hg hat;obtain ⟨A9, c9, d1⟩ := Kd.R_slice ho;rw [show (s3.bs ++ [(A, ins.length, c0)]).length = nb + 1 by rw [List.length_append, a9.out.1]; rfl] at d1;subst d1;have hgk : Kept w3 w4 (fun k => a3 k = .bs) := kept_grown hg fun k hk => HS3.out.rowBs (.slice (some ⟨gQ, 0, none⟩) nb cQ) (by rw [a2.out]; show s2.vBs = _; rw [HV.out, a8.out.1]) k hk
               have h2 : w4.heap[T]? = some (.cells s3.tc.toArray 90 (0, 0)) := blk_kept (HS3.out .tt).1 hgk (by show ¬ a3 T = _; rw [(HS3.out .tt).2.1]; simp);have t5 : w4.cell? ⟨T, 5, none⟩ = some s2.vBs := by rw [blk_cell h2 5]; show s3.tc.toArray[5]? = _; rw [a2.out]; show s2.tc.toArray[5]? = _; rw [a1.out]; show s.tc.toArray[5]? = _; rw [HD.out.tc]; rfl
               have f5 : w4.frozen? ⟨T, 5, none⟩ = false := blk_frozen h2;have j9 := Aside0.mk ho;have j6 := Aside0.mk hg;have f3 := Aside0.mk hat;have j3 := Aside0.mk hb;have HGK := Aside0.mk hgk;clear ho hb hg hat hgk h2)
            | (refine wpList_st1 rfl _ _ _ rfl T 5 (.slice A9 (nb + 1) c9) rfl rfl rfl ⟨_, t5⟩ f5 sizeSSI ?_
               intro w5 f1;have hvr : s3.vBs.ownBlock = (Value.slice (some ⟨gQ, 0, none⟩) nb cQ).ownBlock := by rw [a2.out]; show s2.vBs.ownBlock = _; rw [HV.out, a8.out.1]
               have HS5 := Aside0.mk (HS3.out.pushBs (A, ins.length, c0) ins g4.out (by rw [a9.out.2.1, a9.out.2.2]) (by rw [a9.out.1, a9.out.2.1]) j9.out (by rw [hvr]; exact j6.out) (by rw [hvr]; exact f3.out));rw [← f1, a9.out.2.1] at HS5;obtain ⟨s5, d0⟩ : ∃ s5 : Sg, s5 = { s3 with vBs := .slice A9 (nb + 1) c9, bs := s3.bs ++ [(A, ins.length, c0)], bsl := s3.bsl ++ [(A, ins.length, c0)], blocks := s3.blocks ++ [ins], tc := s3.tc.set 5 (.slice A9 (nb + 1) c9) } := ⟨_, rfl⟩
               rw [← d0] at HS5;have b9 : a3 T = .tt := (HS3.out .tt).2.1;have g8 : Kept w3 w5 (fun k => (a3 k).own = true) := by rw [f1]; exact (HGK.out.mono fun k hk => by show (a3 k).own = true; rw [show a3 k = .bs from hk]; rfl).setCell (.inl (by show (a3 T).own = true; rw [b9]; rfl)) _
               have b1 := up_keep (cls := a3) (c := .bs) f3.out (HS3.out.rowBs (.slice (some ⟨gQ, 0, none⟩) nb cQ) (by rw [a2.out]; show s2.vBs = _; rw [HV.out, a8.out.1]))
               have d7 := Aside0.mk (d6.out.step (cls2 := up (up a3 (.slice A9 (nb + 1) c9) .bs) (slV (A, ins.length, c0)) (.bro nb)) (g8.mono fun _ h => .inl h) (fun k hk i e hi => by
                 rw [up_ne (v := slV (A, ins.length, c0)) fun e2 => hi e2, b1 k (Nat.lt_of_lt_of_le hk d6.out.kept.1)];exact e))
               have f9 := Aside0.mk (show Below w0.heap.size w0 w5 by rw [f1]; exact below_set j3.out (HS3.out .tt).2.2);obtain ⟨a4, i0⟩ : ∃ a4, a4 = up (up a3 (.slice A9 (nb + 1) c9) .bs) (slV (A, ins.length, c0)) (.bro nb) := ⟨_, rfl⟩
               rw [← i0] at HS5 d7;have a5 := Aside0.mk d0;have e7 : s5.heap = p.heap := by rw [d0]; show s3.heap = _; rw [a2.out]; show s2.heap = _; rw [a1.out]; exact HD.out.heap
               obtain ⟨gH, cH, hvH, hcH⟩ := IR.slice (HS5.out .hp) (by rw [e7, HP.out.hl, ← HNb.out]; omega);rw [e7, HP.out.hl, ← HNb.out] at hvH hcH;have t6 : w5.cell? ⟨T, 6, none⟩ = some (.slice (some ⟨gH, 0, none⟩) nb cH) := by rw [HS5.out.cell 6 s5.vH (by rw [d0]; show (s3.tc.set 5 _)[6]? = some s3.vH; rw [a2.out]; show (s2.tc.set 5 _)[6]? = some s2.vH; rw [a1.out]; show (s.tc.set 5 _)[6]? = some s.vH; rw [HD.out.tc]; rfl), hvH]
               have q6 : w5.cell? ⟨gH, b, none⟩ = some (.int .i64 (hh : Int)) := by rw [(hcH b hbb).1]; show some (Value.int .i64 (gi p.heap (b : Int))) = _; rw [HHh.out]
               have k4 : Aside0 (Kd.R (Kd.int .i64) 3 w5 w0.heap.size (fun k => a4 k = .hp ∨ w5.heap.size ≤ k) (.slice (some ⟨gH, 0, none⟩) nb cH) p.heap) := ⟨by
                 have : IR w5 w0.heap.size a4 .hp s5.vH s5.heap := HS5.out .hp;rw [hvH, e7] at this;exact Kd.R_mono this fun k hk => .inl hk⟩
               have HVH := Aside0.mk hvH;clear hvH hcH d0 i0 b1 g8 b9 hvr f1 HS3 g4 d6 f7 k3 j9 j6 f3 j3 HGK t5 f5 e7)
            | (at_builtin
               refine Kd.R_append (Kd.int .i64) (w0 := w0) w0.heap.size rfl (.tmp 86) (.tmp 88) 28 3 (.int .i64 0) 8 rfl Try.underlying28 infoI rfl (by decide) (by omega) _ p.heap (hh : Int) [.int .i64 (hh : Int)] (fun k => a4 k = .hp ∨ w5.heap.size ≤ k) (fun _ => False) rfl rfl rfl (fun _ hk => hk.elim) (fun _ hk => .inr hk) k4.out f9.out f9.out.size (by rw [HP.out.hl, ← HNb.out]; omega) ?_;intro v9 w6 ho hb hg hat;obtain ⟨A8, c8, d1⟩ := Kd.R_slice ho;rw [show (p.heap ++ [(hh : Int)]).length = nb + 1 by rw [List.length_append, HP.out.hl, ← HNb.out]; rfl] at d1;subst d1;have hgk : Kept w5 w6 (fun k => a4 k = .hp) := kept_grown hg fun k hk => HS5.out.rowHp _ HVH.out k hk
               have h3 : w6.heap[T]? = some (.cells s5.tc.toArray 90 (0, 0)) := blk_kept (HS5.out .tt).1 hgk (by show ¬ a4 T = _; rw [(HS5.out .tt).2.1]; simp);have t6 : w6.cell? ⟨T, 6, none⟩ = some s.vH := by rw [blk_cell h3 6, a5.out]; show (s3.tc.set 5 _).toArray[6]? = _; rw [a2.out]; show (s2.tc.set 5 _).toArray[6]? = _; rw [a1.out]; show (s.tc.set 5 _).toArray[6]? = _; rw [HD.out.tc]; rfl
               have f6 : w6.frozen? ⟨T, 6, none⟩ = false := blk_frozen h3;have k2 := Aside0.mk ho;have j7 := Aside0.mk hg;have f4 := Aside0.mk hat;have j4 := Aside0.mk hb;have HGK := Aside0.mk hgk;clear ho hb hg hat hgk h3 q6)
            | (refine wpList_st1 rfl _ _ _ rfl T 6 (.slice A8 (nb + 1) c8) rfl rfl rfl ⟨_, t6⟩ f6 sizeSI ?_
               intro w7 f2;have HS7 := Aside0.mk (HS5.out.pushHp (w9 := w6) (v9 := .slice A8 (nb + 1) c8) (hh : Int) (by have := k2.out; rwa [show s5.heap = p.heap by rw [a5.out]; show s3.heap = _; rw [a2.out]; show s2.heap = _; rw [a1.out]; exact HD.out.heap]) (by rw [HVH.out]; exact j7.out) (by rw [HVH.out]; exact f4.out));rw [← f2] at HS7;obtain ⟨s7, i9⟩ : ∃ s7 : Sg, s7 = { s5 with vH := .slice A8 (nb + 1) c8, heap := s5.heap ++ [(hh : Int)], tc := s5.tc.set 6 (.slice A8 (nb + 1) c8) } := ⟨_, rfl⟩
               rw [← i9] at HS7;have b9 : a4 T = .tt := (HS5.out .tt).2.1;have g9 : Kept w5 w7 (fun k => (a4 k).own = true) := by rw [f2]; exact (HGK.out.mono fun k hk => by show (a4 k).own = true; rw [show a4 k = .hp from hk]; rfl).setCell (.inl (by show (a4 T).own = true; rw [b9]; rfl)) _
               have b1 := up_keep (cls := a4) (c := .hp) f4.out (HS5.out.rowHp _ HVH.out);have g6 := Aside0.mk (d7.out.step (cls2 := up a4 (.slice A8 (nb + 1) c8) .hp) (g9.mono fun _ h => .inl h) (fun k hk i e hi => by rw [b1 k (Nat.lt_of_lt_of_le hk d7.out.kept.1)]; exact e));have g0 := Aside0.mk (show Below w0.heap.size w0 w7 by rw [f2]; exact below_set j4.out (HS5.out .tt).2.2);obtain ⟨a0, i1⟩ : ∃ a0, a0 = up a4 (.slice A8 (nb + 1) c8) .hp := ⟨_, rfl⟩
               rw [← i1] at HS7 g6;have a7 := Aside0.mk i9;clear i9 i1 b1 g9 b9 f2 HS5 d7 f9 k4 HVH k2 j7 f4 j4 HGK t6 f6))
          have hs7h : s7.heaps = p.heaps := by rw [a7.out]; show s5.heaps = _; rw [a5.out]; show s3.heaps = _; rw [a2.out]; show s2.heaps = _; rw [a1.out]; exact HD.out.heaps
          have hs7l : s7.hsl = s.hsl ∧ s7.hs = s.hsl ∧ s7.vHs = s.vHs ∧ s7.mW = s.mW ∧ s7.fW = s.fW := by rw [a7.out, a5.out, a2.out, a1.out]; exact ⟨rfl, HD.out.hs, rfl, rfl, rfl⟩
          have hs7t : s7.tc = [.int .i64 n, v1, v2, s.vI, s.vB, .slice A9 (nb + 1) c9, .slice A8 (nb + 1) c8, s.vHs, .map (some s.mC), .map (some s.mW), .int .i64 ((nb : Int) - 1)] := by
            rw [a7.out]; show s5.tc.set 6 _ = _; rw [a5.out]; show (s3.tc.set 5 _).set 6 _ = _; rw [a2.out]; show (s2.tc.set 5 _).set 6 _ = _; rw [a1.out]; show (s.tc.set 5 _).set 6 _ = _; rw [HD.out.tc, HNb.out]; rfl
          have e5 := below_drew1 (Below.refl w7.heap.size w7);have HS8 := Aside0.mk (HS7.out.below e5);have d8 := Aside0.mk (g6.out.step (cls2 := a0) (Kept.of_below e5 _) fun _ _ _ e _ => e);have d4 := Aside0.mk (below_then g0.out g0.out.size e5);clear e5 HS7 g6 g0;obtain ⟨nh, hnh⟩ : ∃ nh, nh = p.heaps.length := ⟨_, rfl⟩
          rw [← hnh] at hhn;have m5 : nh ≤ nb := by rw [hnh, HNb.out]; exact HP.out.nh_le
          have hhl : s7.hs.length = nh := by rw [hs7l.2.1, HD.out.hl, hnh]
          obtain ⟨gS, cS, hvS, hcS⟩ := HS8.out.slice (HS8.out .hs) (by rw [hhl]; omega);rw [hhl] at hvS hcS;have hRz : IR w7.drew w0.heap.size a0 (.hro hh) (slV (s7.hsl.getD hh nilL)) (s7.heaps.getD hh []) := HS8.out (.hro hh) (by rw [hs7l.1, HD.out.hl, ← hnh]; exact hhn);obtain ⟨zs, hzs⟩ : ∃ zs, zs = s7.heaps.getD hh [] := ⟨_, rfl⟩
          rw [← hzs] at hRz
          have hzl : zs.length ≤ nb := by
            have := HP.out.len_h (b := (hh : Int)) (nd_iff.2 (by rw [← hnh]; exact hhn));rw [HNb.out, hzs, hs7h];exact this
          obtain ⟨Ar, cr, hvr, _, _⟩ := Kd.R_reads hRz;have c7 := HS8.out.cell 7 s.vHs (by rw [hs7t]; rfl);rw [← hs7l.2.2.1, hvS] at c7;obtain ⟨c8', f8⟩ := hcS hh hhn;have c8'' : w7.drew.cell? ⟨gS, hh, none⟩ = some (.slice Ar zs.length cr) := by rw [c8', ← hvr, hs7l.1, hs7l.2.1]
          have k0 : (0 : Int) ≤ (hh : Int) := by omega
          have k1 : (hh : Int) < (nh : Int) := by omega
          have k1n := hhn;have HRz := Aside0.mk hRz;have HVr := Aside0.mk hvr;have HVS := Aside0.mk hvS;have HZ := Aside0.mk hzs;have HNh := Aside0.mk hnh;have H7 := Aside0.mk (And.intro hs7h (And.intro hs7l (And.intro hs7t hhl)));clear hRz hvr hvS hzs hnh hs7h hs7l hs7t hhl hcS c8' f8;refine start_ (n := 17) (S := fun w' => w'.cell? ⟨T, 7, none⟩ = some (.slice (some ⟨gS, 0, none⟩) nh cS) ∧ w'.cell? ⟨gS, hh, none⟩ = some (.slice Ar zs.length cr)) (ds := [16]) (bqz 17 0) (by kernel_rfl) rfl rfl ⟨c7, c8''⟩ (fun hHeld => ?_);generalize w7.drew = V at HS8 d8 d4 HRz hHeld ⊢; clear c7 c8''; have g2 := Aside0.mk hHeld
          refine pqz 0 (some 92) (bqz 17 1) rfl rfl (by kernel_rfl) ?_ ?_ (fun _ _ _ h => h) (by rfl) ?_ ?_ ?_;rotate_left 2;intro w';go_simp;(with_reducible rfl);simp only [Act.put, qz1, qz2, qz3, i64_w, i32_w];rfl
          refine pqz 1 (some 93) (bqz 17 3) rfl rfl (by kernel_rfl) ?_ ?_ (fun _ _ _ h => h) (by rfl) ?_ ?_ ?_;rotate_left 2;intro w';go_simp;(with_reducible rfl);simp only [Act.put, qz1, qz2, qz3, i64_w, i32_w];rfl
          refine pqz 2 (some 94) (bqz 17 7) rfl rfl (by kernel_rfl) ?_ ?_ (fun _ _ _ h => h) (by rfl) ?_ ?_ ?_;rotate_left 2;intro w';go_simp;(with_reducible rfl);simp only [Act.put, qz1, qz2, qz3, i64_w, i32_w];rfl
          refine pqz 4 (some 96) (bqz 17 23) rfl rfl (by kernel_rfl) ?_ ?_ (fun _ _ _ h => h) (by rfl) ?_ ?_ ?_;rotate_left 2;intro w';go_simp;(with_reducible rfl);simp only [Act.put, qz1, qz2, qz3, i64_w, i32_w];rfl
          refine pqz 5 (some 97) (bqz 17 55) rfl rfl (by kernel_rfl) ?_ ?_ (fun _ _ _ h => h) (by rfl) ?_ ?_ ?_;rotate_left 2;intro w';go_simp;(with_reducible rfl);simp only [Act.put, qz1, qz2, qz3, i64_w, i32_w];rfl
          refine pqz 6 (some 98) (bqz 17 119) rfl rfl (by kernel_rfl) ?_ ?_ (fun _ _ _ h => h) (by rfl) ?_ ?_ ?_;rotate_left 2;intro w';go_simp;(with_reducible rfl);simp only [Act.put, qz1, qz2, qz3, i64_w, i32_w];rfl
          refine pqz 7 (some 99) (bqz 17 247) rfl rfl (by kernel_rfl) ?_ ?_ (fun _ _ _ h => h) (by rfl) ?_ ?_ ?_;rotate_left 2;intro w';go_simp;(with_reducible rfl);simp only [Act.put, qz1, qz2, qz3, i64_w, i32_w];rfl
          refine pqz 9 (some 101) (bqz 17 759) rfl rfl (by kernel_rfl) ?_ ?_ (fun _ _ _ h => h) (by rfl) ?_ ?_ ?_;rotate_left 2;intro w';go_simp;(with_reducible rfl);simp only [Act.put, qz1, qz2, qz3, i64_w, i32_w];rfl
          refine pqz 12 (some 104) (bqz 17 4855) rfl rfl (by kernel_rfl) ?_ ?_ (fun _ _ _ h => h) (by rfl) ?_ ?_ ?_;rotate_left 2;intro w';go_simp;(with_reducible rfl);simp only [Act.put, qz1, qz2, qz3, i64_w, i32_w];rfl
          refine tqz 3 (some 95) (bqz 17 4863) rfl rfl (by kernel_rfl) ?_ ?_ (fun _ _ _ h => h) (by rfl) ?_ hHeld ?_ ?_;rotate_left 2;rintro w' ⟨s0, s1⟩;go_simp;(with_reducible rfl);simp only [Act.put, qz1, qz2, qz3, i64_w, i32_w];rfl
          refine tqz 8 (some 100) (bqz 17 5119) rfl rfl (by kernel_rfl) ?_ ?_ (fun _ _ _ h => h) (by rfl) ?_ hHeld ?_ ?_;rotate_left 2;rintro w' ⟨s0, s1⟩;go_simp;(with_reducible rfl);simp only [Act.put, qz1, qz2, qz3, i64_w, i32_w];rfl
          refine pqz 10 (some 102) (bqz 17 6143) rfl rfl (by kernel_rfl) ?_ ?_ (fun _ _ _ h => h) (by rfl) ?_ ?_ ?_;rotate_left 2;intro w';go_simp;(with_reducible rfl);simp only [Act.put, qz1, qz2, qz3, i64_w, i32_w];rfl
          refine tqz 11 (some 103) (bqz 17 8191) rfl rfl (by kernel_rfl) ?_ ?_ (fun _ _ _ h => h) (by rfl) ?_ hHeld ?_ ?_;rotate_left 2;rintro w' ⟨s0, s1⟩;go_simp;(with_reducible rfl);simp only [Act.put, qz1, qz2, qz3, i64_w, i32_w];rfl
          refine one_ (i := 13) (N := some 105) (bqz 17 16383) rfl rfl (by kernel_rfl) (by decide) (fun K hK => ?_);refine value_ (w1 := ?_) (v := ?_) (by rfl) rfl ?_ ?_;rotate_left 2
          · go_simp
            constructor
            · rfl
            · rfl
          refine hK.out _ _ ⟨later (below_alloc (Below.refl _ _) _) hHeld.1, later (below_alloc (Below.refl _ _) _) hHeld.2⟩ (fun hHeld => ?_);clear hK K;refine norm_ (a' := ?_) ?_ ?_;rotate_left
          · show Act.put _ (some 105) _ = _
            simp only [Act.put, qz1, qz2, qz3, i64_w, i32_w];rfl
          refine one_ (i := 14) (N := some 106) (bqz 17 32767) rfl rfl (by kernel_rfl) (by decide) (fun K hK => ?_);refine Kd.R_append_step (Kd.int .i64) (w0 := w0) w0.heap.size (by rfl) (.tmp 103) (.tmp 105) 28 3 (.int .i64 0) 8 rfl Try.underlying28 infoI rfl (by decide) (by omega) (.slice Ar zs.length cr) zs (nb : Int) [.int .i64 (nb : Int)] (fun k => a0 k = .hro hh ∨ V.heap.size ≤ k) (fun _ => False) rfl rfl rfl (fun _ hk => hk.elim) (fun _ hk => .inr hk) ?aO ?aB ?aS ?aL ?_
          (case aO => rw [← HVr.out]; exact Kd.R_mono HRz.out fun k hk => .inl hk)
          (case aB => exact d4.out)
          (case aS => exact d4.out.size)
          (case aL => omega)
          intro v1 w8 ho hb hg hat;obtain ⟨A7, c7, k8⟩ := Kd.R_slice ho;rw [List.length_append, List.length_singleton] at k8;subst k8;have hgk : Kept V w8 (fun k => a0 k = .hro hh) := kept_grown hg fun k hk => HRz.out.1 k (by rw [HVr.out]; exact hk)
          have m2 : w8.heap[T]? = some (.cells s7.tc.toArray 90 (0, 0)) := blk_kept (HS8.out .tt).1 hgk (by show ¬ a0 T = _; rw [(HS8.out .tt).2.1]; simp);have hgS : a0 gS = .hs := HS8.out.rowHs _ HVS.out gS rfl;have f8 : w8.frozen? ⟨gS, hh, none⟩ = false := by obtain ⟨cs, hcs⟩ := Kd.R_typed (HS8.out .hs) gS (by rw [HVS.out]; rfl); exact blk_frozen (blk_kept hcs hgk (by show ¬ a0 gS = _; rw [hgS]; simp))
          have HO := Aside0.mk ho;have HG := Aside0.mk hg;have HAt := Aside0.mk hat;have HBw := Aside0.mk hb;have HGK := Aside0.mk hgk;clear ho hb hg hat hgk m2 hgS;refine hK.out _ _ ⟨cell_kept g2.out.1 HGK.out (by show ¬ a0 T = _; rw [(HS8.out .tt).2.1]; simp), cell_kept g2.out.2 HGK.out (by show ¬ a0 gS = _; rw [HS8.out.rowHs _ HVS.out gS rfl]; simp)⟩ (fun hHeld => ?_);clear hK K;refine norm_ (a' := ?_) ?_ ?_;rotate_left
          · show Act.put _ (some 106) _ = _
            simp only [Act.put, qz1, qz2, qz3, i64_w, i32_w];rfl
          refine pqz 15 (some 107) (bqz 17 65535) rfl rfl (by kernel_rfl) ?_ ?_ (fun _ _ _ h => h) (by rfl) ?_ ?_ ?_;rotate_left 2;intro w';go_simp;(with_reducible rfl);simp only [Act.put, qz1, qz2, qz3, i64_w, i32_w];rfl
          refine last_ (i := 16) (N := none) (bqz 17 131071) rfl rfl (by kernel_rfl) (by decide) (fun K hK => ?_);refine skip_ (w1 := ?_) (by rfl) rfl ?_ ?_;rotate_left
          · go_simp
            rfl
          refine hK.out _ _ ?_;clear hK K;refine done_ (by kernel_rfl) ?_;obtain ⟨e1, e2, e3, e4⟩ := H7.out;have HS9 := Aside0.mk (HS8.out.appHs (w9 := w8) (r := (A7, zs.length + 1, c7)) (by rw [e4]; exact HVS.out) hh (nb : Int) (by rw [e2.1, HD.out.hl, ← HNh.out]; exact k1n) (by rw [e1, e2.1, HD.out.hl]) (by rw [← HZ.out]; exact HO.out) (by rw [HVr.out]; exact HG.out) (by rw [HVr.out]; exact HAt.out));have b5 : ∃ w9, w9 = w8.setCell ⟨gS, hh, none⟩ (.slice A7 (zs.length + 1) c7) := ⟨_, rfl⟩
          obtain ⟨w9, b5⟩ := b5;rw [show w8.setCell ⟨gS, hh, none⟩ (slV (A7, zs.length + 1, c7)) = w9 from b5.symm] at HS9;have hgS : a0 gS = .hs := HS8.out.rowHs _ HVS.out gS rfl;have h1 : Kept V w9 (fun k => (a0 k).own = true) := by rw [b5]; exact (HGK.out.mono fun k hk => by show (a0 k).own = true; rw [show a0 k = .hro hh from hk]; rfl).setCell (.inl (by show (a0 gS).own = true; rw [hgS]; rfl)) _
          have hob : ∀ k, (Value.slice Ar zs.length cr).ownBlock = some k → a0 k = .hro hh := fun k hk => HRz.out.1 k (by rw [HVr.out]; exact hk)
          have b1 := up_keep (cls := a0) (c := .hro hh) HAt.out hob;have j8 := Aside0.mk (d8.out.step (cls2 := up a0 (slV (A7, zs.length + 1, c7)) (.hro hh)) (h1.mono fun _ h => .inl h) (fun k hk i e hi => by rw [show slV (A7, zs.length + 1, c7) = .slice A7 (zs.length + 1) c7 from rfl, b1 k (Nat.lt_of_lt_of_le hk d8.out.kept.1)]; exact e));have d5 := Aside0.mk (show Below w0.heap.size w0 w9 by rw [b5]; exact below_set HBw.out (Kd.R_base (HS8.out .hs) gS (by rw [HVS.out]; rfl)));obtain ⟨b8, i2⟩ : ∃ b8, b8 = up a0 (slV (A7, zs.length + 1, c7)) (.hro hh) := ⟨_, rfl⟩
          rw [← i2] at HS9 j8;obtain ⟨s9, b7⟩ : ∃ s9 : Sg, s9 = { s7 with hs := s7.hs.set hh (A7, zs.length + 1, c7), hsl := s7.hsl.set hh (A7, zs.length + 1, c7), heaps := s7.heaps.set hh (s7.heaps.getD hh [] ++ [(nb : Int)]) } := ⟨_, rfl⟩
          rw [← b7] at HS9;have a6 := Aside0.mk b7;have t9 := HS9.out.cell 9 (.map (some s.mW)) (by rw [b7]; show s7.tc[9]? = _; rw [e3]; rfl);have i4 : s9.mW = s.mW := by rw [b7]; exact e2.2.2.2.1
          have i3 : s9.fW = s.fW := by rw [b7]; exact e2.2.2.2.2
          have hG : G1 w9 s.mW s.fW s9.cW := by
            have := (HS9.out .mw).2.1;rwa [i4, i3] at this
          have hcw : s9.cW ≤ nh := by
            have := hG.count_le intKB ((List.range nh).map fun k : Nat => (k : Int)) fun a ha h => by
              rw [HW.out a ha] at h
              cases hwa : wt a with
              | false => rw [hwa] at h; cases h
              | true =>
                obtain ⟨k, rfl, hk⟩ := ((HWt.out a).1 hwa).1.nat;exact List.mem_map.2 ⟨k, List.mem_range.2 (by rw [HNh.out]; exact hk), rfl⟩
            simpa using this
          have hin : i64in (hh : Int) := by unfold i64in; omega
          have HGm := Aside0.mk hG;have HIn := Aside0.mk hin;have d9 := Aside0.mk (And.intro i4 i3);have hw9' := b5;clear hG hin b5 hgS h1 hob b1 i2 b7 i4 i3 HS8 d8 d4 HRz g2 HO HG HAt HBw HGK f8;rw [show w8.setCell ⟨gS, hh, none⟩ (.slice A7 (zs.length + 1) c7) = w9 from hw9'.symm];clear hw9'
          go_wp2_with (first
            | (refine wpList_gput _ intKB rfl _ _ _ 88 rfl 3 Try.underlying88 s.mW s9.cW s.fW rfl HGm.out (by unfold maxLen; omega) (hh : Int) HIn.out (.int .i64 1) rfl rfl ?_
               intro k9 hgm hgg hsz;have HS10 := Aside0.mk (HS9.out.setW (f := putM s.fW (hh : Int) (.int .i64 1)) (by rw [d9.out.1]; exact hgm) (by rw [d9.out.1]; exact hgg));have l5 := Aside0.mk (j8.out.step (cls2 := b8) (kept_grown hgg fun k e => by cases e; exact .inl (by rw [← d9.out.1, (HS9.out .mw).1]; rfl)) fun _ _ _ e _ => e);have l3 := Aside0.mk (d5.out.grown hgg d5.out.size (fun k e => by cases e; rw [← d9.out.1]; exact (HS9.out .mw).2.2));have m8 := HS10.out.cell 10 (.int .i64 ((nb : Int) - 1)) (by show s9.tc[10]? = _; rw [a6.out]; show s7.tc[10]? = _; rw [e3]; rfl);have f10 : k9.frozen? ⟨T, 10, none⟩ = false := blk_frozen (HS10.out .tt).1;clear hgm hgg hsz))
          go_end0
          have HS11 := Aside0.mk (HS10.out.setT 10 (.int .i64 (nb : Int)));have l6 := Aside0.mk (l5.out.step (w2 := k9.setCell ⟨T, 10, none⟩ (.int .i64 (nb : Int))) (cls2 := b8) ((Kept.refl _ _).setCell (.inl (.inl (by show (b8 T).own = true; rw [(HS10.out .tt).2.1]; rfl))) _) fun _ _ _ e _ => e);have l4 := Aside0.mk (below_set (j := 10) (v := .int .i64 (nb : Int)) l3.out (HS10.out .tt).2.2);refine ⟨rfl, _, _, HS11.out, ?_, ?_, ?_, l6.out, l4.out⟩
          · have i7 : (cutP p (b : Int) ins).blocks.length = nb + 1 := by simp [cutP, HNb.out]
            have hz : s7.heaps.getD hh [] = gl p.heaps (hh : Int) := by rw [e1]; rfl
            have e6 : cutP p (b : Int) ins = { block := bk, blocks := (p.blocks.set b F) ++ [ins], heap := p.heap ++ [(hh : Int)], heaps := p.heaps.set hh (gl p.heaps (hh : Int) ++ [(nb : Int)]) } := by
              unfold cutP;rw [HHh.out, ← HNb.out, ← HBk.out, HF.out, HL.out];rfl
            refine ⟨?_, ?_, ?_, ?_, ?_, ?_, ?_, ?_, ?_⟩
            · show s9.tc.set 10 _ = _
              rw [a6.out];show s7.tc.set 10 _ = _;rw [e3, i7, a7.out, a5.out, a2.out, a1.out];show [Value.int .i64 n, v1, v2, s.vI, s.vB, .slice A9 (nb + 1) c9, .slice A8 (nb + 1) c8, s.vHs, .map (some s.mC), .map (some s.mW), .int .i64 (nb : Int)] = [Value.int .i64 n, v1, v2, s.vI, s.vB, .slice A9 (nb + 1) c9, .slice A8 (nb + 1) c8, s.vHs, .map (some s.mC), .map (some s.mW), .int .i64 (((nb + 1 : Nat) : Int) - 1)];rw [show (((nb + 1 : Nat) : Int) - 1) = (nb : Int) by omega]
            · rw [e6, a6.out, a7.out, a5.out, a2.out, a1.out]
            · rw [e6, a6.out, a7.out]; show s5.heap ++ [(hh : Int)] = p.heap ++ [(hh : Int)]; rw [a5.out]; show s3.heap ++ _ = _; rw [a2.out]; show s2.heap ++ _ = _; rw [a1.out]; show s.heap ++ _ = _; rw [HD.out.heap]
            · rw [e6, a6.out, a7.out, a5.out]; show s3.blocks ++ [ins] = p.blocks.set b F ++ [ins]; rw [a2.out]; show s2.blocks.set b F ++ _ = _; rw [a1.out]; show s.blocks.set b F ++ _ = _; rw [HD.out.blocks]
            · rw [e6, a6.out]; show s7.heaps.set hh (s7.heaps.getD hh [] ++ [(nb : Int)]) = p.heaps.set hh (gl p.heaps (hh : Int) ++ [(nb : Int)]); rw [hz, e1]
            · rw [a6.out, a7.out, a5.out, a2.out, a1.out]; show s.bs.set b r2 ++ _ = s.bsl.set b r2 ++ _; rw [HD.out.bs]
            · rw [i7, a6.out, a7.out, a5.out]; show (s3.bsl ++ _).length = _; rw [List.length_append, a9.out.2.1]; rfl
            · rw [a6.out]; show s7.hs.set hh _ = s7.hsl.set hh _; rw [e2.1, e2.2.1]
            · rw [a6.out]; show (s7.hsl.set hh _).length = _; rw [List.length_set, e2.1, HD.out.hl]; simp [cutP]
          · intro x hx
            show putM s.fW (hh : Int) (.int .i64 1) x = _;unfold putM;by_cases e : x = (hh : Int)
            · rw [if_pos e, if_pos (by simp [e, HHh.out])]
            · rw [if_neg e, HW.out x hx]
              rw [HHh.out];simp [e]
          · rw [a6.out, a7.out, a5.out, a2.out, a1.out]
            exact ⟨rfl, rfl, rfl, rfl, rfl, rfl, rfl, rfl, rfl, rfl⟩
end Go.Proofs.Ytmcbkmfpmcbdpaa.H
namespace Go.Proofs.Ytmcbkmfpmcbdpaa.H
open Go.RowKit Go.Proofs.Ytmcbkmfpmcbdpaa.Pr Go.Proofs.YtmcbkmfpmcbdpaaW.PrintWords Go.Proofs.Ytmcbkmfpmcbdpaa.Sem Go.Proofs.YtmcbkmfpmcbdpaaW.PrintLast
theorem run_gupd {P : Program} {op : Oper} {a : Act} {w w1 : World} {x y z : Operand} {t m : Nat} {k u : Value} (ho : op.op = .mapUpdate t x y z) (hx : a.eval x = .map (some m)) (hy : a.eval y = k) (hz : a.eval z = u) (h : (Instr.mapUpdate t (.map (some m)) k u).run P w = .ok () w1) : (execOp a.eval op).run P w = .ok .skip w1 := by
 unfold execOp
 simp only [ho, hx, hy, hz, Sem.run_bind, Sem.run_pure, h, Result.andThen_ok]
structure MtI (N : Nat) (W : World) (M : Nat) (dl : Nat → Option Int) (g : Int → Option Value) (c : Nat) (xs : Int → List Int) : Prop where
  gm : G1 W M g c
  low : N ≤ M
  dm : dl M = none
  no : ∀ b, i64in b → g b = none → xs b = []
  yes : ∀ b v, i64in b → g b = some v → xs b ≠ [] ∧ Kd.R (Kd.int .i64) 3 W N (fun k => dl k = some b) v (xs b)
section
variable {N : Nat} {W w1 : World} {M : Nat} {dl : Nat → Option Int} {g : Int → Option Value} {c : Nat} {xs : Int → List Int}
theorem MtI.made (W : World) (N : Nat) (hN : N ≤ W.heap.size) : MtI N (W.alloc (.map #[] 0)) W.heap.size (fun _ => none) (fun _ => none) 0 (fun _ => []) :=
 ⟨GM.made _ _ _ _ _, hN, rfl, fun _ _ _ => rfl, fun _ _ _ h => by cases h⟩
theorem MtI.below (h : MtI N W M dl g c xs) (hb : Below W.heap.size W w1) : MtI N w1 M dl g c xs :=
 ⟨h.gm.below hb, h.low, h.dm, h.no, fun b v hb2 hg => ⟨(h.yes b v hb2 hg).1, Kd.R_below (h.yes b v hb2 hg).2 hb⟩⟩
def gv (g : Int → Option Value) (b : Int) : Value := (g b).getD (.slice none 0 0)
theorem MtI.row (h : MtI N W M dl g c xs) {b : Int} (hb : i64in b) : Kd.R (Kd.int .i64) 3 W N (fun k => dl k = some b) (gv g b) (xs b) := by
 unfold gv
 cases hg : g b with
 | none => rw [h.no b hb hg]; exact Kd.R_nil _ _ _ _ _
 | some v => exact (h.yes b v hb hg).2
theorem MtI.step (h : MtI N W M dl g c xs) {b x : Int} (hb : i64in b) {w9 w10 : World} {v9 : Value} {c' : Nat} (ho : Kd.R (Kd.int .i64) 3 w9 N (fun k => dl k = some b ∨ W.heap.size ≤ k) v9 (xs b ++ [x])) (hg : W.grownBy w9 (gv g b).ownBlock) (hat : v9.ownBlock = (gv g b).ownBlock ∨ ∃ k, v9.ownBlock = some k ∧ W.heap.size ≤ k)
  (hgm : G1 w10 M (putM g b v9) c') (hgg : w9.grownBy w10 (some M)) : MtI N w10 M (fun k => if v9.ownBlock = some k then some b else dl k) (putM g b v9) c' (fun b' => if b' = b then xs b ++ [x] else xs b') := by
 have hM : M < W.heap.size := h.gm.lt_
 have hv9 : ∀ k, v9.ownBlock = some k → k < W.heap.size → dl k = some b := fun k hk hl => by
  rcases hat with hat | ⟨k', hk', hle⟩
  ·exact (h.row hb).1 k (by rw [← hat]; exact hk)
  ·rw [hk] at hk'; cases hk'; omega
 have hM9 : v9.ownBlock ≠ some M := fun e => by have := hv9 M e hM; rw [h.dm] at this; cases this
 have hK : Kept W w10 (fun k => k = M ∨ dl k = some b) := Kept.of_grown hgg (kept_grown hg fun k hk => .inr ((h.row hb).1 k hk)) fun k hk => by cases hk; exact .inl (.inl rfl)
 refine ⟨hgm, h.low, by show (if v9.ownBlock = some M then some b else dl M) = none; rw [if_neg hM9]; exact h.dm, ?_, ?_⟩
 ·intro b' hb' hn;unfold putM at hn;split at hn
  ·cases hn
  ·rename_i e;show (if b' = b then xs b ++ [x] else xs b') = [];rw [if_neg e];exact h.no b' hb' hn
 ·intro b' v hb' hs;unfold putM at hs;by_cases e : b' = b
  ·rw [if_pos e] at hs
   cases hs;subst e;show (if b' = b' then xs b' ++ [x] else xs b') ≠ [] ∧ Kd.R _ _ _ _ _ _ (if b' = b' then xs b' ++ [x] else xs b');rw [if_pos rfl];refine ⟨by simp, ?_⟩;have h1 := Kd.R_grown (Kd.R_tight rfl ho) hgg fun k hk e2 => hM9 (by rw [← hk]; exact e2)
   exact Kd.R_mono h1 fun k hk => by
    show (if v9.ownBlock = some k then some b' else dl k) = some b';rw [if_pos hk.symm]
  ·rw [if_neg e] at hs;show (if b' = b then xs b ++ [x] else xs b') ≠ [] ∧ Kd.R _ _ _ _ _ _ (if b' = b then xs b ++ [x] else xs b');rw [if_neg e];refine ⟨(h.yes b' v hb' hs).1, ?_⟩;refine Kd.R_mono (Kd.R_move (Kd.R_bound (h.yes b' v hb' hs).2) fun k hk => hK.2 k hk.2.2.1 ?_) fun k hk => ?_
   ·rintro (e2 | e2)
    ·rw [e2, h.dm] at hk; cases hk.1
    ·rw [hk.1] at e2; cases e2; exact e rfl
   ·show (if v9.ownBlock = some k then some b else dl k) = some b';rw [if_neg fun e2 => by have := hv9 k e2 hk.2.2.1; rw [hk.1] at this; cases this; exact e rfl];exact hk.1
end
theorem zeroS (w : World) : (zeroValue 28).run Try.prog w = .ok (.slice none 0 0) w := by kernel_rfl
theorem MtI.get {N : Nat} {W : World} {M : Nat} {dl : Nat → Option Int} {g : Int → Option Value} {c : Nat} {xs : Int → List Int} (h : MtI N W M dl g c xs) {b : Int} (hb : i64in b) : (Instr.lookup 186 (.map (some M)) (.int .i64 b) false).run Try.prog W = .ok (gv g b) W := h.gm.get intKB hb Try.underlying186 (zeroS W)
theorem MtI.getv {N : Nat} {W : World} {M : Nat} {dl : Nat → Option Int} {g : Int → Option Value} {c : Nat} {xs : Int → List Int} (h : MtI N W M dl g c xs) {b : Int} (hb : i64in b) {v : Value} (hv : gv g b = v) : (Instr.lookup 186 (.map (some M)) (.int .i64 b) false).run Try.prog W = .ok v W := hv ▸ h.get hb
theorem MtI.cnt {N : Nat} {W : World} {M : Nat} {dl : Nat → Option Int} {g : Int → Option Value} {c : Nat} {xs : Int → List Int} (h : MtI N W M dl g c xs) {nb : Nat} (hb : ∀ b x, x ∈ xs b → Nd nb b) : c ≤ nb := by
 have := h.gm.count_le intKB ((List.range nb).map fun k : Nat => (k : Int)) fun a ha hs => by
  obtain ⟨v, hv⟩ := Option.isSome_iff_exists.1 hs
  obtain ⟨x, hx⟩ := List.exists_mem_of_ne_nil _ (h.yes a v ha hv).1
  obtain ⟨k, rfl, hk⟩ := (hb a x hx).nat
  exact List.mem_map.2 ⟨k, List.mem_range.2 hk, rfl⟩
 simpa using this
structure SpI (n : Nat) (X : Int → Bool) (p p' : PSt) (left : Int → Bool) : Prop where
  pw : PW n p'
  j1 : ∀ x y, Nd n x → Nd n y → (gi p'.block x = gi p'.block y ↔ gi p.block x = gi p.block y ∧ (left (gi p.block x) = false → X x = X y))
  j2 : ∀ b, Nd p.blocks.length b → left b = true → gl p'.blocks b = gl p.blocks b ∧ ∀ x, Nd n x → (gi p'.block x = b ↔ gi p.block x = b)
  j3 : ∀ x, Nd n x → HP p' x = HP p x
  j4 : p'.heaps.length = p.heaps.length
  j5 : p.blocks.length ≤ p'.blocks.length
section
variable {n : Nat} {X : Int → Bool} {p p' : PSt} {left : Int → Bool}
theorem SpI.start (h : PW n p) (hl : ∀ x, Nd n x → X x = true → left (gi p.block x) = true) : SpI n X p p left := by
 refine ⟨h, fun x y hx hy => ⟨fun e => ⟨e, fun hn => ?_⟩, fun e => e.1⟩, fun b _ _ => ⟨rfl, fun _ _ => Iff.rfl⟩, fun _ _ => rfl, rfl, Nat.le_refl _⟩
 cases hX : X x with
 | true => rw [hl x hx hX] at hn; cases hn
 | false =>
  cases hY : X y with
  | true => rw [e, hl y hy hY] at hn; cases hn
  | false => rfl
theorem nodup_full {l l' : List Int} (hn : l.Nodup) (hn' : l'.Nodup) (hs : ∀ x ∈ l, x ∈ l') (hl : l'.length ≤ l.length) : ∀ x ∈ l', x ∈ l := by
 intro x hx
 by_cases hm : x ∈ l
 ·exact hm
 ·have := nodup_sub (l := x :: l) (l' := l') (List.nodup_cons.2 ⟨hm, hn⟩) fun y hy => by
   rcases List.mem_cons.1 hy with rfl | hy
   ·exact hx
   ·exact hs y hy
  simp at this
  omega
theorem SpI.full (h : SpI n X p p' left) {b : Int} (hb : Nd p.blocks.length b) (hl : left b = true) {ins : List Int} (hm : ∀ x, x ∈ ins ↔ Nd n x ∧ X x = true ∧ gi p.block x = b) (hn : ins.Nodup) (hp : PW n p) (hlen : ins.length = (gl p'.blocks b).length) :
  SpI n X p p' (fun z => left z && !decide (z = b)) := by
 have hall : ∀ x, Nd n x → gi p.block x = b → X x = true := fun x hx e => by
  have h1 : x ∈ gl p.blocks b := (hp.bm b hb x).2 ⟨hx, e⟩
  have h2 := nodup_full hn (hp.bn b hb) (fun y hy => (hp.bm b hb y).2 ⟨((hm y).1 hy).1, ((hm y).1 hy).2.2⟩) (by rw [hlen, (h.j2 b hb hl).1]; exact Nat.le_refl _) x h1
  exact ((hm x).1 h2).2.1
 refine ⟨h.pw, fun x y hx hy => ?_, fun c hc hcl => h.j2 c hc (by simp at hcl; exact hcl.1), h.j3, h.j4, h.j5⟩
 rw [h.j1 x y hx hy]
 refine ⟨fun ⟨e, f⟩ => ⟨e, fun hf => ?_⟩, fun ⟨e, f⟩ => ⟨e, fun hf => f (by rw [hf]; rfl)⟩⟩
 by_cases hbx : gi p.block x = b
 ·rw [hall x hx hbx, hall y hy (by rw [← e]; exact hbx)]
 ·exact f (by simp [hbx] at hf; exact hf)
theorem SpI.cut (h : SpI n X p p' left) {b : Int} (hb : Nd p.blocks.length b) (hl : left b = true) {ins : List Int} (hm : ∀ x, x ∈ ins ↔ Nd n x ∧ X x = true ∧ gi p.block x = b) (hn : ins.Nodup) (hp : PW n p) (h0 : ins ≠ []) (hlt : ins.length < (gl p'.blocks b).length) :
  SpI n X p (cutP p' b ins) (fun z => left z && !decide (z = b)) := by
 have hb' : Nd p'.blocks.length b := hb.mono h.j5
 have hsub : ∀ x ∈ ins, x ∈ gl p'.blocks b := fun x hx => by
  rw [(h.j2 b hb hl).1];exact (hp.bm b hb x).2 ⟨((hm x).1 hx).1, ((hm x).1 hx).2.2⟩
 have hB : ∀ x, Nd n x → gi (cutP p' b ins).block x = if x ∈ ins then (p'.blocks.length : Int) else gi p'.block x := fun x hx => cut_blk h.pw hb' hsub hx
 have hlen : (cutP p' b ins).blocks.length = p'.blocks.length + 1 := by simp [cutP]
 refine ⟨h.pw.cut hb' hn hsub h0 hlt, fun x y hx hy => ?_, fun c hc hcl => ?_, fun x hx => by rw [cut_hp h.pw hb' hsub hx, h.j3 x hx], by simp [cutP]; exact h.j4, by rw [hlen]; have := h.j5; omega⟩
 ·rw [hB x hx, hB y hy];have hnx := (h.pw.br x hx).2;have hny := (h.pw.br y hy).2;by_cases ix : x ∈ ins <;> by_cases iy : y ∈ ins
  ·rw [if_pos ix, if_pos iy];obtain ⟨_, a1, a2⟩ := (hm x).1 ix;obtain ⟨_, b1, b2⟩ := (hm y).1 iy;simp [a1, b1, a2, b2]
  ·rw [if_pos ix, if_neg iy];obtain ⟨_, a1, a2⟩ := (hm x).1 ix;refine ⟨fun e => by omega, fun ⟨e, f⟩ => ?_⟩;have hf := f (by simp [a2]);exact absurd ((hm y).2 ⟨hy, by rw [← hf]; exact a1, by rw [← e]; exact a2⟩) iy
  ·rw [if_neg ix, if_pos iy];obtain ⟨_, b1, b2⟩ := (hm y).1 iy;refine ⟨fun e => by omega, fun ⟨e, f⟩ => ?_⟩;have hf := f (by rw [e]; simp [b2]);exact absurd ((hm x).2 ⟨hx, by rw [hf]; exact b1, by rw [e]; exact b2⟩) ix
  ·rw [if_neg ix, if_neg iy, h.j1 x y hx hy];refine ⟨fun ⟨e, f⟩ => ⟨e, fun hf => ?_⟩, fun ⟨e, f⟩ => ⟨e, fun hf => f (by rw [hf]; rfl)⟩⟩;by_cases hbx : gi p.block x = b
   ·cases hX : X x with
    | true => exact absurd ((hm x).2 ⟨hx, hX, hbx⟩) ix
    | false =>
     cases hY : X y with
     | true => exact absurd ((hm y).2 ⟨hy, hY, by rw [← e]; exact hbx⟩) iy
     | false => rfl
   ·exact f (by simp [hbx] at hf; exact hf)
 ·have hcl' : left c = true ∧ c ≠ b := by simpa using hcl
  obtain ⟨k1, k2⟩ := h.j2 c hc hcl'.1;have hc' : Nd (p'.blocks.length + 1) c := hc.mono (by have := h.j5; omega);have hcn : c ≠ (p'.blocks.length : Int) := by have := hc.2; have := h.j5; omega
  refine ⟨?_, fun x hx => ?_⟩
  ·rw [← k1];show gl (p'.blocks.set b.toNat _ ++ [ins]) c = _;rw [gl_snoc (by rw [List.length_set]; exact hc'), List.length_set, if_neg hcn, gl_set hb' ⟨hc.1, by have := hc'.2; omega⟩, if_neg hcl'.2]
  ·rw [hB x hx, ← k2 x hx];by_cases ix : x ∈ ins
   ·rw [if_pos ix];refine ⟨fun e => absurd e.symm hcn, fun e => ?_⟩;have := (k2 x hx).1 e;rw [((hm x).1 ix).2.2] at this;exact absurd this.symm hcl'.2
   ·rw [if_neg ix]
theorem SpI.done (h : SpI n X p p' left) (hl : ∀ x, Nd n x → left (gi p.block x) = false) {x y : Int} (hx : Nd n x) (hy : Nd n y) : gi p'.block x = gi p'.block y ↔ gi p.block x = gi p.block y ∧ (X x = true ↔ X y = true) := by
 rw [h.j1 x y hx hy]
 refine ⟨fun ⟨e, f⟩ => ⟨e, by rw [f (hl x hx)]⟩, fun ⟨e, f⟩ => ⟨e, fun _ => ?_⟩⟩
 cases hX : X x <;> cases hY : X y <;> simp_all
end
set_option maxHeartbeats 16000000 in
set_option maxRecDepth 100000 in
theorem split_any {T n : Nat} {v1 v2 : Value} {s : Sg} {p : PSt} {wt : Int → Bool} {m c jm : Nat} {f : Int → Option Value} {X : Int → Bool} {cls : Nat → Cl} (w0 w : World) (hS : SP w0.heap.size T w cls s) (hD : Std n v1 v2 s p) (hP : PW n p) (hW : StdW s wt) (hWt : Wt p wt)
  (hm : G1 w m f c) (hcm : cls m = .far jm) (hf : ∀ a, i64in a → (f a).isSome = X a) (hX : ∀ a, X a = true → Nd n a) (hn0 : 0 < n) (hn : n ≤ 2048) (hB : Below w0.heap.size w0 w) :
  Calls Try.prog 148 #[.pointer (some ⟨T, 0, none⟩), .map (some m)] w fun e w' => e = .returned (.tuple #[]) ∧ ∃ s' cls' p' wt', SP w0.heap.size T w' cls' s' ∧ Std n v1 v2 s' p' ∧ PW n p' ∧ StdW s' wt' ∧ Wt p' wt' ∧
   (∀ x y, Nd n x → Nd n y → (gi p'.block x = gi p'.block y ↔ gi p.block x = gi p.block y ∧ (X x = true ↔ X y = true))) ∧ (∀ x, Nd n x → HP p' x = HP p x) ∧ p'.heaps.length = p.heaps.length ∧ Same0 s s' ∧ Fr w w' cls cls' (fun _ => False) ∧ Below w0.heap.size w0 w' := by
 have hmm := @run_makeMap Try.prog;have HS := Aside0.mk hS;have HD := Aside0.mk hD;have HP := Aside0.mk hP;have HW := Aside0.mk hW;have HWt := Aside0.mk hWt;have HM := Aside0.mk hm;have HMc := Aside0.mk hcm;have HF := Aside0.mk hf;have HX := Aside0.mk hX;have HB := Aside0.mk hB;clear hS hD hP hW hWt hm hcm hf hX hB;go_enter Try.func148, Try.ntmps148
 go_wp2_with (at_range; refine wpList_grange _ intKB rfl _ 88 rfl 3 Try.underlying88 m c f rfl (HM.out.below (below_alloc (Below.refl _ _) _)) ?_; intro w1 hgr hg hsz)
 go_frame
 clear hmm;have HMt := Aside0.mk ((MtI.made w w.heap.size (Nat.le_refl _)).below ⟨hg.os, hg.tape, hg.output, hg.size, fun k hk => hg.block k hk (by simp)⟩);have HGr := Aside0.mk hgr;have a3 := Aside0.mk (show Below w.heap.size w w1 from (below_alloc (Below.refl _ _) _).grown hg (by simp) (fun k e => by cases e));have e5 := Aside0.mk (GR.iter hgr);obtain ⟨M, hM⟩ : ∃ M, M = w.heap.size := ⟨_, rfl⟩
 obtain ⟨r, hr⟩ : ∃ r, r = (w.alloc (Obj.map #[] 0)).heap.size := ⟨_, rfl⟩
 have HrM := Aside0.mk (show w.heap.size ≤ r ∧ r ≠ M by rw [hr, hM]; simp);rw [← hr] at HGr e5 ⊢;have HMt : Aside0 (MtI w.heap.size w1 M (fun _ => none) (fun _ => none) 0 (fun _ => [])) := ⟨by rw [hM]; exact HMt.out⟩
 rw [← hM];have HMe := Aside0.mk hM;clear hgr hg hsz hr hM
 go_loopw [] (fun wr => ∃ (left : Int → Bool) (cnt : Nat) (dl : Nat → Option Int) (g : Int → Option Value) (c' : Nat) (xs : Int → List Int),
  Aside0 (GR Try.prog 3 ik i64in wr m r f left cnt) ∧ Aside0 (MtI w.heap.size wr M dl g c' xs) ∧ Aside0 (∀ b x, x ∈ xs b ↔ Nd n x ∧ X x = true ∧ gi p.block x = b ∧ left x = false) ∧ Aside0 (∀ b, (xs b).Nodup) ∧ Aside0 (Below w.heap.size w wr) ∧ Aside0 (∀ x, Nd n x → X x = false → left x = false)) (fun wr => wr.rangeLeft m r)
 case atStart =>
  refine ⟨_, _, _, _, _, _, HGr, HMt, ⟨fun b x => ?_⟩, ⟨fun b => List.nodup_nil⟩, a3, ⟨fun x hx he => by rw [HF.out x (by unfold i64in; have := hx.1; have := hx.2; omega), he]⟩⟩;constructor
  ·intro h; cases h
  ·rintro ⟨h1, h2, h3, h4⟩;rw [HF.out x (by unfold i64in; have := h1.1; have := h1.2; omega), h2] at h4
   cases h4
 case round =>
  clear HGr HMt a3 e5;obtain ⟨left, cnt, dl, g, c', xs, HGr, HMt, HMem, HNd, a3, HLf⟩ := hrel;go_wp2_with (at_next; refine wpList_gnext _ intKB rfl _ rfl m r f left cnt rfl HGr.out ?_ ?_)
  rotate_left
  ·intro y v w2 f9 hy hly hfy b0 hlt a7 hsz hen;have hXy : X y = true := by rw [← HF.out y hy, hfy]; rfl
   obtain ⟨x, rfl, hxn⟩ := (HX.out y hXy).nat;have g1 := Aside0.mk b0;have e3 := Aside0.mk a7;have HIt := Aside0.mk (GR.iter HGr.out);have d8 := Aside0.mk (a3.out.grown a7 a3.out.size (fun k e => by cases e; exact HrM.out.1));have HFin := Aside0.mk (And.intro hy (And.intro hly (And.intro hfy (And.intro hXy hlt))));clear b0 hsz a7 hly hfy hXy hlt;go_wp2_with fail
   clear hen;have hnb := HP.out.nb_le;obtain ⟨y, hye, hyn⟩ := (HP.out.br (x : Int) (nd_iff.2 hxn)).nat;obtain ⟨gB, cB, hvB, hcB⟩ := IR.slice (HS.out .blk) (by rw [HD.out.block, HP.out.bl]; exact hn0);rw [HD.out.block, HP.out.bl] at hvB;have tw : w.cell? ⟨T, 4, none⟩ = some (.slice (some ⟨gB, 0, none⟩) n cB) := by rw [HS.out.cell 4 s.vB (by rw [HD.out.tc]; rfl), hvB]
   have qw : w.cell? ⟨gB, x, none⟩ = some (.int .i64 (y : Int)) := by rw [(hcB x (by rw [HD.out.block, HP.out.bl]; exact hxn)).1, HD.out.block]; show some (Value.int .i64 (gi p.block (x : Int))) = _; rw [hye]
   have hyi : i64in (y : Int) := by unfold i64in; omega
   have d2 := below_drew1 (Below.refl w2.heap.size w2);have a0 := Aside0.mk ((show MtI w.heap.size w2 M dl g c' xs from ⟨HMt.out.gm.same (e3.out.block M HMt.out.gm.lt_ (fun e => HrM.out.2 (by cases e; rfl))), HMt.out.low, HMt.out.dm, HMt.out.no, fun b v hb hg => ⟨(HMt.out.yes b v hb hg).1, Kd.R_grown (Kd.R_bound (HMt.out.yes b v hb hg).2) e3.out (fun k hk e => by cases e; obtain ⟨_, _, _, _, hi⟩ := HIt.out; obtain ⟨_, _, _, q, _, cs, hc⟩ := hk; rw [hi] at hc; cases hc) |> fun h => Kd.R_mono h fun k hk => hk.1⟩⟩).below d2);have a1 := Aside0.mk (g1.out.same (w1 := w2.drew) rfl rfl);have a2 := Aside0.mk (below_then d8.out d8.out.size d2);obtain ⟨zs, hzs⟩ : ∃ zs, zs = xs (y : Int) := ⟨_, rfl⟩
   have hrow := a0.out.row hyi;rw [← hzs] at hrow;obtain ⟨Az, cz, hvz⟩ := Kd.R_slice hrow;have hlook := a0.out.get hyi;rw [hvz] at hlook;have hzl : zs.length ≤ n := nodup_le (by rw [hzs]; exact HNd.out _) fun a ha => ((HMem.out _ a).1 (by rw [← hzs]; exact ha)).1
   have t4 := later a2.out tw;have q4 := later a2.out qw;have HTw := Aside0.mk (And.intro tw qw);have HVz := Aside0.mk hvz;have HZ := Aside0.mk hzs;have HY := Aside0.mk hye;have HYi := Aside0.mk hyi;have k0 : (0 : Int) ≤ (x : Int) := by omega
   have k1 : (x : Int) < (n : Int) := by omega
   have hcl : c' ≤ p.blocks.length := a0.out.cnt fun b x hx => by
    obtain ⟨h1, h2, h3, _⟩ := (HMem.out b x).1 hx;rw [← h3];exact HP.out.br x h1
   clear hvB hcB tw qw hrow hvz hzs hye d2 hyi;refine start_ (n := 21) (S := fun w' => w'.cell? ⟨T, 4, none⟩ = some (.slice (some ⟨gB, 0, none⟩) n cB) ∧ w'.cell? ⟨gB, x, none⟩ = some (.int .i64 (y : Int)) ∧ (Instr.lookup 186 (.map (some M)) (.int .i64 (y : Int)) false).run Try.prog w' = .ok (.slice Az zs.length cz) w') (ds := [20]) (bqz 21 0) (by kernel_rfl) rfl rfl ⟨t4, q4, hlook⟩ (fun hHeld => ?_);generalize w2.drew = V at a0 a1 a2 hHeld ⊢; clear t4 q4 hlook
   refine pqz 0 (some 15) (bqz 21 1) rfl rfl (by kernel_rfl) ?_ ?_ (fun _ _ _ h => h) (by rfl) ?_ ?_ ?_;rotate_left 2;intro w';go_simp;(with_reducible rfl);simp only [Act.put, qz1, qz2, qz3, i64_w, i32_w];rfl
   refine pqz 1 (some 16) (bqz 21 3) rfl rfl (by kernel_rfl) ?_ ?_ (fun _ _ _ h => h) (by rfl) ?_ ?_ ?_;rotate_left 2;intro w';go_simp;(with_reducible rfl);simp only [Act.put, qz1, qz2, qz3, i64_w, i32_w];rfl
   refine pqz 2 (some 17) (bqz 21 7) rfl rfl (by kernel_rfl) ?_ ?_ (fun _ _ _ h => h) (by rfl) ?_ ?_ ?_;rotate_left 2;intro w';go_simp;(with_reducible rfl);simp only [Act.put, qz1, qz2, qz3, i64_w, i32_w];rfl
   refine pqz 3 (some 18) (bqz 21 15) rfl rfl (by kernel_rfl) ?_ ?_ (fun _ _ _ h => h) (by rfl) ?_ ?_ ?_;rotate_left 2;intro w';go_simp;(with_reducible rfl);simp only [Act.put, qz1, qz2, qz3, i64_w, i32_w];rfl
   refine pqz 5 (some 20) (bqz 21 47) rfl rfl (by kernel_rfl) ?_ ?_ (fun _ _ _ h => h) (by rfl) ?_ ?_ ?_;rotate_left 2;intro w';go_simp;(with_reducible rfl);simp only [Act.put, qz1, qz2, qz3, i64_w, i32_w];rfl
   refine pqz 8 (some 23) (bqz 21 303) rfl rfl (by kernel_rfl) ?_ ?_ (fun _ _ _ h => h) (by rfl) ?_ ?_ ?_;rotate_left 2;intro w';go_simp;(with_reducible rfl);simp only [Act.put, qz1, qz2, qz3, i64_w, i32_w];rfl
   refine pqz 9 (some 24) (bqz 21 815) rfl rfl (by kernel_rfl) ?_ ?_ (fun _ _ _ h => h) (by rfl) ?_ ?_ ?_;rotate_left 2;intro w';go_simp;(with_reducible rfl);simp only [Act.put, qz1, qz2, qz3, i64_w, i32_w];rfl
   refine pqz 10 (some 25) (bqz 21 1839) rfl rfl (by kernel_rfl) ?_ ?_ (fun _ _ _ h => h) (by rfl) ?_ ?_ ?_;rotate_left 2;intro w';go_simp;(with_reducible rfl);simp only [Act.put, qz1, qz2, qz3, i64_w, i32_w];rfl
   refine pqz 11 (some 26) (bqz 21 3887) rfl rfl (by kernel_rfl) ?_ ?_ (fun _ _ _ h => h) (by rfl) ?_ ?_ ?_;rotate_left 2;intro w';go_simp;(with_reducible rfl);simp only [Act.put, qz1, qz2, qz3, i64_w, i32_w];rfl
   refine pqz 13 (some 28) (bqz 21 12079) rfl rfl (by kernel_rfl) ?_ ?_ (fun _ _ _ h => h) (by rfl) ?_ ?_ ?_;rotate_left 2;intro w';go_simp;(with_reducible rfl);simp only [Act.put, qz1, qz2, qz3, i64_w, i32_w];rfl
   refine pqz 17 (some 32) (bqz 21 143151) rfl rfl (by kernel_rfl) ?_ ?_ (fun _ _ _ h => h) (by rfl) ?_ ?_ ?_;rotate_left 2;intro w';go_simp;(with_reducible rfl);simp only [Act.put, qz1, qz2, qz3, i64_w, i32_w];rfl
   refine tqz 4 (some 19) (bqz 21 143167) rfl rfl (by kernel_rfl) ?_ ?_ (fun _ _ _ h => h) (by rfl) ?_ hHeld ?_ ?_;rotate_left 2;rintro w' ⟨s0, s1, s2⟩;go_simp;(with_reducible rfl);simp only [Act.put, qz1, qz2, qz3, i64_w, i32_w];rfl
   refine pqz 6 (some 21) (bqz 21 143231) rfl rfl (by kernel_rfl) ?_ ?_ (fun _ _ _ h => h) (by rfl) ?_ ?_ ?_;rotate_left 2;intro w';go_simp;(with_reducible rfl);simp only [Act.put, qz1, qz2, qz3, i64_w, i32_w];rfl
   refine tqz 7 (some 22) (bqz 21 143359) rfl rfl (by kernel_rfl) ?_ ?_ (fun _ _ _ h => h) (by rfl) ?_ hHeld ?_ ?_;rotate_left 2;rintro w' ⟨s0, s1, s2⟩;go_simp;(with_reducible rfl);simp only [Act.put, qz1, qz2, qz3, i64_w, i32_w];rfl
   refine tqz 12 (some 27) (bqz 21 147455) rfl rfl (by kernel_rfl) ?_ ?_ (fun _ _ _ h => h) (by rfl) ?_ hHeld ?_ ?_;rotate_left 2;rintro w' ⟨s0, s1, s2⟩;go_simp;(with_reducible rfl);simp only [Act.put, qz1, qz2, qz3, i64_w, i32_w];rfl
   refine pqz 14 (some 29) (bqz 21 163839) rfl rfl (by kernel_rfl) ?_ ?_ (fun _ _ _ h => h) (by rfl) ?_ ?_ ?_;rotate_left 2;intro w';go_simp;(with_reducible rfl);simp only [Act.put, qz1, qz2, qz3, i64_w, i32_w];rfl
   refine tqz 15 (some 30) (bqz 21 196607) rfl rfl (by kernel_rfl) ?_ ?_ (fun _ _ _ h => h) (by rfl) ?_ hHeld ?_ ?_;rotate_left 2;rintro w' ⟨s0, s1, s2⟩;go_simp;(with_reducible rfl);simp only [Act.put, qz1, qz2, qz3, i64_w, i32_w];rfl
   refine tqz 16 (some 31) (bqz 21 262143) rfl rfl (by kernel_rfl) ?_ ?_ (fun _ _ _ h => h) (by rfl) ?_ hHeld ?_ ?_;rotate_left 2;rintro w' ⟨s0, s1, s2⟩;go_simp;(with_reducible rfl);simp only [Act.put, qz1, qz2, qz3, i64_w, i32_w];rfl
   refine one_ (i := 18) (N := some 33) (bqz 21 524287) rfl rfl (by kernel_rfl) (by decide) (fun K hK => ?_);refine value_ (w1 := ?_) (v := ?_) (by rfl) rfl ?_ ?_;rotate_left 2
   ·go_simp;constructor
    ·rfl
    ·rfl
   refine hK.out _ _ ⟨later (below_then a2.out a2.out.size (below_alloc (Below.refl _ _) _)) HTw.out.1, later (below_then a2.out a2.out.size (below_alloc (Below.refl _ _) _)) HTw.out.2, (a0.out.below (below_alloc (Below.refl _ _) _)).getv HYi.out HVz.out⟩ (fun hHeld => ?_);clear hK K;refine norm_ (a' := ?_) ?_ ?_;rotate_left
   ·show Act.put _ (some 33) _ = _;simp only [Act.put, qz1, qz2, qz3, i64_w, i32_w];rfl
   refine one_ (i := 19) (N := some 34) (bqz 21 1048575) rfl rfl (by kernel_rfl) (by decide) (fun K hK => ?_);refine Kd.R_append_step (Kd.int .i64) (w0 := w) w.heap.size (by rfl) (.tmp 31) (.tmp 33) 28 3 (.int .i64 0) 8 rfl Try.underlying28 infoI rfl (by decide) (by omega) (.slice Az zs.length cz) zs (x : Int) [.int .i64 (x : Int)] (fun k => dl k = some (y : Int) ∨ V.heap.size ≤ k) (fun _ => False) rfl rfl rfl (fun _ hk => hk.elim) (fun _ hk => .inr hk) ?aO ?aB ?aS ?aL ?_
   (case aO => have := a0.out.row HYi.out; rw [HVz.out, ← HZ.out] at this; exact Kd.R_mono this fun k hk => .inl hk)
   (case aB => exact a2.out)
   (case aS => exact a2.out.size)
   (case aL => omega)
   intro v1 w9 ho hb hg hat;have hMne : (Value.slice Az zs.length cz).ownBlock ≠ some M := fun e => by have := a0.out.row HYi.out; rw [HVz.out] at this; have h8 : dl M = some (y : Int) := this.1 M e; rw [a0.out.dm] at h8; cases h8
   have hrne : (Value.slice Az zs.length cz).ownBlock ≠ some r := fun e => by obtain ⟨_, _, _, _, hi⟩ := GR.iter a1.out; have h1 := a0.out.row HYi.out; rw [HVz.out] at h1; obtain ⟨cs, hc⟩ := Kd.R_typed h1 r e; rw [hi] at hc; cases hc
   obtain ⟨f6, hrun, hgm, hgg, hsz⟩ := (a0.out.gm.grown hMne hg).put intKB HYi.out (v := v1) (by unfold maxLen; omega) Try.underlying186;have HRun := Aside0.mk hrun;have HLk := Aside0.mk ((a0.out.gm.grown hMne hg).get intKB HYi.out Try.underlying186 (zeroS w9));have b6 := a0.out.step HYi.out (by rw [← HZ.out]; exact ho) (by rw [HVz.out]; exact hg) (by rw [HVz.out]; exact hat) hgm hgg;rw [← HZ.out] at b6;have f8 := Aside0.mk b6;have d1 := Aside0.mk (a1.out.same (w1 := f6) ((hgg.block m (Nat.lt_of_lt_of_le a1.out.mlt hg.size) (fun e => by cases e; have := a0.out.low; have := HM.out.lt_; omega)).trans (hg.block m a1.out.mlt (fun e => by have h1 := a0.out.row HYi.out; rw [HVz.out] at h1; have := Kd.R_base h1 m e.symm; have := HM.out.lt_; omega))) ((hgg.block r (Nat.lt_of_lt_of_le a1.out.lt_ hg.size) (fun e => by cases e; exact HrM.out.2 rfl)).trans (hg.block r a1.out.lt_ (fun e => hrne e.symm))));have f7 := Aside0.mk (hb.grown hgg hb.size (fun k e => by cases e; exact a0.out.low));have e0 := Aside0.mk hb;clear ho hb hg hat hMne hrne hrun hgm hgg hsz b6;refine hK.out _ _ ⟨later e0.out HTw.out.1, later e0.out HTw.out.2, (by have := HLk.out; rw [show (g (y : Int)).getD (.slice none 0 0) = gv g (y : Int) from rfl, HVz.out] at this; exact this)⟩ (fun hHeld => ?_);clear hK K;refine norm_ (a' := ?_) ?_ ?_;rotate_left
   ·show Act.put _ (some 34) _ = _;simp only [Act.put, qz1, qz2, qz3, i64_w, i32_w];rfl
   refine last_ (i := 20) (N := none) (bqz 21 2097151) rfl rfl (by kernel_rfl) (by decide) (fun K hK => ?_);refine skip_ (w1 := f6) (by rfl) rfl (run_gupd rfl rfl rfl rfl HRun.out) ?_;refine hK.out _ _ ?_;clear hK K;refine done_ (by kernel_rfl) ?_;go_wp2
   go_roundw
   case rel =>
    refine ⟨_, _, _, _, _, _, d1, f8, ⟨fun b a => ?_⟩, ⟨fun b => ?_⟩, f7, ⟨fun a ha he => by rw [HLf.out a ha he]; rfl⟩⟩
    ·by_cases e : b = (y : Int)
     ·subst e;rw [if_pos rfl, List.mem_append, HZ.out, HMem.out, List.mem_singleton];constructor
      ·rintro (⟨h1, h2, h3, h4⟩ | rfl)
       ·exact ⟨h1, h2, h3, by rw [h4]; rfl⟩
       ·exact ⟨nd_iff.2 hxn, HFin.out.2.2.2.1, HY.out, by simp⟩
      ·rintro ⟨h1, h2, h3, h4⟩;by_cases ea : a = (x : Int)
       ·exact .inr ea
       ·exact .inl ⟨h1, h2, h3, by simpa [ea] using h4⟩
     ·rw [if_neg e, HMem.out];constructor
      ·rintro ⟨h1, h2, h3, h4⟩;exact ⟨h1, h2, h3, by rw [h4]; rfl⟩
      ·rintro ⟨h1, h2, h3, h4⟩;have ea : a ≠ (x : Int) := fun ea => e (by rw [← h3, ea]; exact HY.out)
       exact ⟨h1, h2, h3, by simpa [ea] using h4⟩
    ·by_cases e : b = (y : Int)
     ·subst e;rw [if_pos rfl, List.nodup_append];refine ⟨by rw [HZ.out]; exact HNd.out _, by simp, fun a ha z hz e2 => ?_⟩;rw [HZ.out, HMem.out] at ha;have : z = (x : Int) := by simpa using hz
      rw [e2, this, HFin.out.2.1] at ha
      cases ha.2.2.2
     ·rw [if_neg e]; exact HNd.out b
   case measure =>
    rw [d1.out.left_eq, HGr.out.left_eq];exact HFin.out.2.2.2.2
  ·intro f1 b8
   have a4 := Aside0.mk (show ∀ b x, x ∈ xs b ↔ Nd n x ∧ X x = true ∧ gi p.block x = b from fun b x => by
    rw [HMem.out b x];refine ⟨fun h => ⟨h.1, h.2.1, h.2.2.1⟩, fun h => ⟨h.1, h.2.1, h.2.2, b8 x ?_⟩⟩;have h1 := h.1.1;have h2 := h.1.2;unfold i64in;omega)
   clear HGr HMem HLf f1 b8;go_wp2_with (at_range; refine wpList_grange _ intKB rfl _ 186 rfl 28 Try.underlying186 M c' g rfl HMt.out.gm ?_; intro w3 hgr hg hsz)
   go_frame
   obtain ⟨q, hq⟩ : ∃ q, q = wr.heap.size := ⟨_, rfl⟩
   rw [← hq] at hgr ⊢;have hbw : Below w.heap.size w w3 := a3.out.grown hg a3.out.size (fun k e => by cases e);have hqw : w.heap.size ≤ q := by rw [hq]; exact a3.out.size
   have hMw : w.heap.size ≤ M := HMt.out.low;have hMq : M < q := by rw [hq]; exact HMt.out.gm.lt_
   have hnb := HP.out.nb_le;have f4 : w0.heap.size ≤ w.heap.size := HB.out.size;obtain ⟨a6, a9⟩ : ∃ a6 : Nat → Cl, a6 = fun k => if k < w.heap.size then cls k else if k = M then .far 5000 else if k = q then .far 5001 else match dl k with | some b => .far b.toNat | none => .far 6000 := ⟨_, rfl⟩
   have d7 : ∀ k, k < w.heap.size → a6 k = cls k := fun k hk => by rw [a9]; show (if k < w.heap.size then cls k else _) = _; rw [if_pos hk]
   have hcM : a6 M = .far 5000 := by rw [a9]; show (if M < w.heap.size then cls M else if M = M then _ else _) = _; rw [if_neg (by omega), if_pos rfl]
   have hcq : a6 q = .far 5001 := by rw [a9]; show (if q < w.heap.size then cls q else if q = M then _ else if q = q then _ else _) = _; rw [if_neg (by omega), if_neg (by omega), if_pos rfl]
   have hcd : ∀ k b, w.heap.size ≤ k → k < q → dl k = some b → a6 k = .far b.toNat := fun k b h1 h2 h3 => by
    rw [a9];show (if k < w.heap.size then cls k else if k = M then _ else if k = q then _ else match dl k with | some b => Cl.far b.toNat | none => Cl.far 6000) = _;rw [if_neg (by omega), if_neg (by rintro rfl; rw [HMt.out.dm] at h3; cases h3), if_neg (by omega), h3]
   have HS3 := Aside0.mk (HS.out.stay (cls' := a6) (Kept.of_below hbw _) fun k hk _ => d7 k hk);have e6 := Aside0.mk (Fr.same (D := fun _ => False) (Kept.of_below hbw _) d7)
   have e9 := Aside0.mk (show ∀ b v, i64in b → g b = some v → IR w3 w0.heap.size a6 (.far b.toNat) v (xs b) from fun b v hb hv => by
    have h1 := Kd.R_bound (HMt.out.yes b v hb hv).2;have h2 := Kd.R_grown h1 hg (fun k _ e => by cases e);refine Kd.R_lower (Kd.R_mono h2 fun k hk => hcd k b hk.2.1 (by rw [hq]; exact hk.2.2.1) hk.1) f4)
   have HNe := Aside0.mk (show ∀ b v, i64in b → g b = some v → xs b ≠ [] from fun b v hb hv => (HMt.out.yes b v hb hv).1);have HOw := Aside0.mk (show ∀ b v, i64in b → g b = some v → ∀ k, v.ownBlock = some k → w.heap.size ≤ k from fun b v hb hv => Kd.R_base (HMt.out.yes b v hb hv).2)
   have HSp := Aside0.mk (SpI.start (X := X) (left := fun a => (g a).isSome) HP.out fun x hx hXx => by
    have h1 : x ∈ xs (gi p.block x) := (a4.out _ _).2 ⟨hx, hXx, rfl⟩
    cases hgx : g (gi p.block x) with
    | none =>
     have hbr := HP.out.br x hx;rw [HMt.out.no _ (by unfold i64in; have := hbr.1; have := hbr.2; omega) hgx] at h1
     cases h1
    | some v => rfl)
   have a2 := Aside0.mk (below_then HB.out HB.out.size hbw);have HGr := Aside0.mk hgr;have e1 := Aside0.mk (And.intro hcM hcq);have HLow := Aside0.mk (And.intro hqw hMw);clear hgr hg hsz hbw hqw hMw hMq f4 d7 hcM hcq hcd a9 hq HMt a3 HMe HrM
   go_loopw [] (fun wr => ∃ (left : Int → Bool) (cnt : Nat) (s' : Sg) (cl' : Nat → Cl) (p' : PSt) (wt' : Int → Bool),
    Aside0 (GR Try.prog 3 ik i64in wr M q g left cnt) ∧ Aside0 (SP w0.heap.size T wr cl' s') ∧ Aside0 (Std n v1 v2 s' p') ∧ Aside0 (SpI n X p p' left) ∧ Aside0 (StdW s' wt') ∧ Aside0 (Wt p' wt') ∧ Aside0 (Same0 s s') ∧ Aside0 (Fr w wr cls cl' fun _ => False) ∧
    Aside0 (∀ b v, i64in b → left b = true → g b = some v → IR wr w0.heap.size cl' (.far b.toNat) v (xs b)) ∧ Aside0 (cl' M = .far 5000 ∧ cl' q = .far 5001) ∧ Aside0 (Below w0.heap.size w0 wr)) (fun wr => wr.rangeLeft M q)
   case atStart => exact ⟨_, _, _, _, _, _, HGr, HS3, HD, HSp, HW, HWt, ⟨Same0.refl s⟩, e6, ⟨fun b v hb _ hv => e9.out b v hb hv⟩, e1, a2⟩
   case round =>
    clear HGr HS3 HSp e6 e9 e1 a2;obtain ⟨left, cnt, s', cl', p', wt', HGr, HS', HD', HSp, HW', HWt', HSm, HK, HRw, HC, HB'⟩ := hrel;go_wp2_with (at_next; refine wpList_gnext _ intKB rfl _ rfl M q g left cnt rfl HGr.out ?_ ?_)
    ·intro f1 b8;go_wp2
     go_end0
     refine ⟨rfl, s', cl', p', wt', HS'.out, HD'.out, HSp.out.pw, HW'.out, HWt'.out, fun x y hx hy => HSp.out.done (fun z hz => ?_) hx hy, HSp.out.j3, HSp.out.j4, HSm.out, HK.out, HB'.out⟩;have hbr := HP.out.br z hz;exact b8 _ (by unfold i64in; have := hbr.1; have := hbr.2; omega)
    ·intro y v w4 f9 hy hly hgy b0 hlt a7 hsz hen;obtain ⟨z, hz⟩ := List.exists_mem_of_ne_nil _ (HNe.out y v hy hgy);obtain ⟨f5, b4, a8⟩ := (a4.out y z).1 hz;obtain ⟨b, rfl, hbn⟩ := (show Nd p.blocks.length y by rw [← a8]; exact HP.out.br z f5).nat;have hbi : i64in (b : Int) := hy;obtain ⟨c5, b1⟩ := HC.out;have d3 : Kept wr w4 (fun k => k = q) := kept_grown a7 fun k e => by cases e; rfl
     have HS4 := Aside0.mk (HS'.out.stay (cls' := cl') (d3.mono fun k hk => by show (cl' k).own = false; rw [show k = q from hk, b1]; rfl) fun _ _ _ => rfl);have e7 := Aside0.mk (HK.out.step (cls2 := cl') (d3.mono fun k hk => .inr (by rw [show k = q from hk]; exact HLow.out.1)) fun _ _ _ e _ => e);have d9 := Aside0.mk (HB'.out.grown a7 HB'.out.size (fun k e => by cases e; exact Nat.le_trans HB.out.size HLow.out.1))
     have b5 := Aside0.mk (show ∀ b v, Nd p.blocks.length b → left b = true → g b = some v → IR w4 w0.heap.size cl' (.far b.toNat) v (xs b) from fun b v hb hl hv => by
      have hbr : i64in b := by unfold i64in; have := hb.1; have := hb.2; have := HP.out.nb_le; omega
      refine Kd.R_grown (HRw.out b v hbr hl hv) a7 fun k hk e => ?_
      cases e;have hk : cl' q = .far b.toNat := hk;rw [b1] at hk;have := Cl.far.inj hk;have := hb.2;have := HP.out.nb_le;omega)
     have a1 := Aside0.mk b0;have a5 := Aside0.mk (And.intro hly (And.intro hgy hlt));clear b0 hlt a7 hsz d3 hz f5 b4 a8 HS' HK HRw HB' HC;have hrow := b5.out (b : Int) v (nd_iff.2 hbn) hly hgy;rw [Int.toNat_natCast] at hrow;obtain ⟨zs, hzs⟩ : ∃ zs, zs = xs (b : Int) := ⟨_, rfl⟩
     rw [← hzs] at hrow;obtain ⟨Az, cz, hvz⟩ := Kd.R_slice hrow;subst hvz;have g7 := HSp.out.j5;have g8 := HSp.out.pw.nb_le;have hbs : s'.bs.length = p'.blocks.length := by rw [HD'.out.bs, HD'.out.bl]
     obtain ⟨gQ, cQ, hvQ, hcQ⟩ := HS4.out.slice (HS4.out .bs) (by rw [hbs]; omega);have t5 := HS4.out.cell 5 s'.vBs (by rw [HD'.out.tc]; rfl);rw [hvQ] at t5;have d5 : b < s'.bs.length := by rw [hbs]; omega
     have d4 : IR w4 w0.heap.size cl' (.bro b) (slV (s'.bsl.getD b nilL)) (s'.blocks.getD b []) := HS4.out (.bro b) (by rw [HD'.out.bl]; omega);obtain ⟨L, hL⟩ : ∃ L, L = s'.blocks.getD b [] := ⟨_, rfl⟩
     rw [← hL] at d4;obtain ⟨A1, c1, f3, _, _⟩ := Kd.R_reads d4;have q5 : w4.cell? ⟨gQ, b, none⟩ = some (.slice A1 L.length c1) := by rw [(hcQ b d5).1, HD'.out.bs, f3]
     have HL := Aside0.mk (show L = gl p'.blocks (b : Int) by rw [hL, HD'.out.blocks]; rfl);have HRz := Aside0.mk hrow;have HZs := Aside0.mk hzs;have HMz := Aside0.mk (show ∀ x, x ∈ zs ↔ Nd n x ∧ X x = true ∧ gi p.block x = (b : Int) from fun x => by rw [hzs]; exact a4.out (b : Int) x);have HNz := Aside0.mk (show zs.Nodup by rw [hzs]; exact HNd.out _);have e8 := Aside0.mk (show zs ≠ [] by rw [hzs]; exact HNe.out _ _ hbi hgy);clear hvQ hcQ d4 hL f3 hrow hzs hly hgy hbs;by_cases hqq : zs.length = L.length
     ·have h1 : ((zs.length : Int) == (L.length : Int)) = true := by rw [hqq]; simp
      have HE := Aside0.mk hqq;rw [hqq] at hen;clear hqq;go_wp2
      go_roundw
      case rel =>
       refine ⟨_, _, s', cl', p', wt', a1, HS4, HD', ⟨HSp.out.full (nd_iff.2 hbn) a5.out.1 HMz.out HNz.out HP.out (by rw [HE.out, HL.out])⟩, HW', HWt', HSm, e7, ⟨fun b2 v2 d5 b9 b3 => ?_⟩, ⟨c5, b1⟩, d9⟩;have d0 : left b2 = true := by simp at b9; exact b9.1
       obtain ⟨z2, b4⟩ := List.exists_mem_of_ne_nil _ (HNe.out b2 v2 d5 b3);have a8 := (a4.out b2 z2).1 b4;exact b5.out b2 v2 (by rw [← a8.2.2]; exact HP.out.br z2 a8.1) d0 b3
      case measure => rw [a1.out.left_eq, HGr.out.left_eq]; exact a5.out.2.2
     ·have h1 : ((zs.length : Int) == (L.length : Int)) = false := by simp; omega
      have h2 : decide ((zs.length : Int) = (L.length : Int)) = false := by simp; omega
      have HE := Aside0.mk hqq;clear hqq
      go_wp2_with (go_at_call 166; refine (cut_any w0 w4 HS4.out HD'.out HSp.out.pw HW'.out HWt'.out HRz.out (by omega) HNz.out (fun x hx => by rw [(HSp.out.j2 _ (nd_iff.2 hbn) a5.out.1).1]; exact (HP.out.bm _ (nd_iff.2 hbn) x).2 ⟨((HMz.out x).1 hx).1, ((HMz.out x).1 hx).2.2⟩) e8.out (by
       rw [← HL.out];have h3 := nodup_sub HNz.out (l' := gl p'.blocks (b : Int)) fun x hx => by rw [(HSp.out.j2 _ (nd_iff.2 hbn) a5.out.1).1]; exact (HP.out.bm _ (nd_iff.2 hbn) x).2 ⟨((HMz.out x).1 hx).1, ((HMz.out x).1 hx).2.2⟩
       rw [← HL.out] at h3;have := HE.out;omega) hn d9.out).mono ?_; rintro e w5 ⟨rfl, s5, g2, g5, g4, g6, g0, b7, g3⟩)
      have hoz : ∀ k, (Value.slice Az zs.length cz).ownBlock = some k → cl' k = .far b := HRz.out.1;have f0 := b7.blk (k := M) a1.out.mlt c5 (fun e => by have := hoz M e; rw [c5] at this; have := Cl.far.inj this; omega);have f2 := b7.blk (k := q) a1.out.lt_ b1 (fun e => by have := hoz q e; rw [b1] at this; have := Cl.far.inj this; omega);have e4 := Aside0.mk (a1.out.same f0.1 f2.1);go_roundw
      case rel =>
       refine ⟨_, _, s5, g2, _, _, e4, ⟨g5⟩, ⟨g4⟩, ⟨HSp.out.cut (nd_iff.2 hbn) a5.out.1 HMz.out HNz.out HP.out e8.out ?_⟩, ⟨g6⟩, ⟨HWt'.out.cut HSp.out.pw (nd_iff.2 (by omega))⟩, ⟨HSm.out.trans g0⟩, ⟨e7.out.trans b7 fun k hk => .inr (HOw.out _ _ hbi a5.out.2.1 k hk)⟩, ⟨fun b2 v2 hb2' b9 b3 => ?_⟩, ⟨f0.2, f2.2⟩, ⟨g3⟩⟩
       ·rw [← HL.out];have h3 := nodup_sub HNz.out (l' := gl p'.blocks (b : Int)) fun x hx => by rw [(HSp.out.j2 _ (nd_iff.2 hbn) a5.out.1).1]; exact (HP.out.bm _ (nd_iff.2 hbn) x).2 ⟨((HMz.out x).1 hx).1, ((HMz.out x).1 hx).2.2⟩
        rw [← HL.out] at h3;have := HE.out;omega
       ·have d0 : left b2 = true ∧ b2 ≠ (b : Int) := by simpa using b9
        obtain ⟨z2, b4⟩ := List.exists_mem_of_ne_nil _ (HNe.out b2 v2 hb2' b3);have a8 := (a4.out b2 z2).1 b4;have d6 : Nd p.blocks.length b2 := by rw [← a8.2.2]; exact HP.out.br z2 a8.1
        have hrw := b5.out b2 v2 d6 d0.1 b3;refine IR.fr hrw b7 fun k hk e => ?_
        have h5 := hoz k e;rw [hrw.1 k hk] at h5;have := Cl.far.inj h5;have := d6.1;exact d0.2 (by omega)
      case measure => rw [e4.out.left_eq, HGr.out.left_eq]; exact a5.out.2.2
end Go.Proofs.Ytmcbkmfpmcbdpaa.H
namespace Go.Proofs.Ytmcbkmfpmcbdpaa.H
open Go.RowKit Go.Proofs.Ytmcbkmfpmcbdpaa.Pr Go.Proofs.YtmcbkmfpmcbdpaaW.PrintWords Go.Proofs.Ytmcbkmfpmcbdpaa.Sem
open Go.Maps (Keyed)
open Go.WideElems Go.ChangeMaps
section
variable {α : Type} [DecidableEq α] {P : Program} {k : TypeId} {mk : α → Value} {lt : α → Lit} {ok : α → Prop}
theorem setBlock_size (w : World) (b : Nat) (o : Obj) : (setBlock w b o).heap.size = w.heap.size := by simp [setBlock]
theorem setBlock_grown {w : World} {b : Nat} {o : Obj} {es : Array MapEntry} {cl : Nat} (h : w.heap[b]? = some (.map es cl)) : w.grownBy (setBlock w b o) (some b) :=
 ⟨rfl, rfl, rfl, by simp [setBlock], fun i _ hi => heap_setBlock_other h _ (fun e => hi (by rw [e]))⟩
theorem GM.entry (B : KB P k mk lt ok) (KL : WideMaps.KeyLaw P k) {w : World} {m c : Nat} {f : α → Option Value} (h : GM P k lt ok w m f c) {a : α} (ha : ok a) {t e : TypeId} (ht : P.underlying t = some (.map k e)) {z : Value} (hz : ∀ u : World, (zeroValue e).run P u = .ok z u) (hn : c < maxLen) :
  ∃ v0 st w1, (Instr.mapEntry t (.map (some m)) (mk a)).run P w = .ok (.tuple #[v0, goInt st]) w1 ∧ w.grownBy w1 (some m) ∧ w1.heap.size = w.heap.size ∧ (Instr.lookup t (.map (some m)) (mk a) false).run P w1 = .ok ((f a).getD z) w1 ∧
   ∀ w2 val, w2.heap[m]? = w1.heap[m]? → ∃ w3, (Instr.entryStore t (.map (some m)) (goInt st) val).run P w2 = .ok () w3 ∧ GM P k lt ok w3 m (putM f a val) (if (f a).isSome then c else c + 1) ∧ w2.grownBy w3 (some m) ∧ w3.heap.size = w2.heap.size := by
 obtain ⟨D, ⟨es, clock, hb, F, hs, hD⟩, hsz, hH⟩ := id h;have hkey := B.key a ha;obtain ⟨v0, st, es1, clock1, hrun, hv0, hst⟩ := entry_then_store KL ht hz hb F hkey
 have hlook : (Instr.lookup t (.map (some m)) (mk a) false).run P (setBlock w m (.map es1 clock1)) = .ok ((f a).getD z) (setBlock w m (.map es1 clock1)) := by
  rcases KL.find w hkey es.toList F.keys with ⟨h1, h2⟩ | ⟨j, e0, h1, h2, h3⟩
  ·
   have e1 : Result.ok (Value.tuple #[z, goInt clock]) (setBlock w m (.map (es.push ⟨mk a, z, clock⟩) (clock + 1))) = Result.ok (Value.tuple #[v0, goInt st]) (setBlock w m (.map es1 clock1)) := by
    rw [← hrun];simp [Instr.mapEntry, run_underlying ht, MapKept.run_getObj_map hb, KL.check w false hkey, h1, hz, MapKept.run_setObj_map _ hb, Result.andThen, setBlock]
   obtain ⟨w1, hput, hg, _⟩ := h.put B ha (v := z) hn ht
   have e2 : Result.ok () (setBlock w m (.map (es.push ⟨mk a, z, clock⟩) (clock + 1))) = Result.ok () w1 := by
    rw [← hput];simp [Instr.mapUpdate, run_underlying ht, MapKept.run_getObj_map hb, KL.check w false hkey, h1, MapKept.run_setObj_map _ hb, Result.andThen, setBlock]
   have e3 : setBlock w m (.map es1 clock1) = w1 := by
    have a1 := (Result.ok.inj e1).2;have a2 := (Result.ok.inj e2).2;rw [← a1, a2]
   rw [e3];have h5 := hg.get B ha ht (hz w1)
   have h6 : (f a).getD z = z := by
    cases hfa : f a with
    | none => rfl
    | some u =>
     exfalso
     have h7 := (hH a ha).1;rw [hfa] at h7
     obtain ⟨v, hv⟩ : ∃ v, v ∈ es.toList ∧ v.key = mk a := by
      rw [hD] at h7;obtain ⟨p, hp, hpk⟩ := List.any_eq_true.1 h7;obtain ⟨x, hx, rfl⟩ := List.mem_map.1 (mem_sorted.1 hp);obtain ⟨y, hy⟩ := F.reads x hx;refine ⟨x, hx, ?_⟩;have e4 := WideAt.sameKey_eq hpk;rw [rg_of hy] at e4;have e5 := rd_key hy;rw [e4] at e5;exact B.K.inj e5 hkey
     exact h2 v hv.1 hv.2
   rw [h5, h6];unfold putM;rw [if_pos rfl];rfl
  ·
   have hj : es[j]? = some e0 := by simpa using h2
   have hsame : es.modify j (fun e => { e with key := mk a }) = es := by
    apply Array.ext';rw [Array.toList_modify, modify_eq_set _ _ _ _ h2];have : ({ e0 with key := mk a } : MapEntry) = e0 := by rw [← h3]
    rw [this];exact set_self _ _ _ h2
   have e1 : Result.ok (Value.tuple #[e0.val, goInt e0.born]) (setBlock w m (.map es clock)) = Result.ok (Value.tuple #[v0, goInt st]) (setBlock w m (.map es1 clock1)) := by
    rw [← hrun];simp [Instr.mapEntry, run_underlying ht, MapKept.run_getObj_map hb, KL.check w false hkey, h1, hj, h3, KL.stays w hkey, hsame, MapKept.run_setObj_map _ hb, Result.andThen, setBlock]
   rw [← (Result.ok.inj e1).2];exact (h.same ((heap_setBlock_same hb _).trans hb.symm)).get B ha ht (hz _)
 refine ⟨v0, st, _, hrun, setBlock_grown hb, setBlock_size _ _ _, hlook, fun w2 val hw2 => ?_⟩;obtain ⟨es', clock', hst1, hst2⟩ := hst w2 val (hw2.trans (heap_setBlock_same hb _));obtain ⟨w3', hput, hg, _, _⟩ := h.put B ha (v := val) hn ht;rw [hst2] at hput;have e3 : setBlock w m (.map es' clock') = w3' := (Result.ok.inj hput).2;have hb2 : w2.heap[m]? = some (.map es1 clock1) := hw2.trans (heap_setBlock_same hb _);refine ⟨_, hst1, hg.same ?_, setBlock_grown hb2, setBlock_size _ _ _⟩;rw [← e3, heap_setBlock_same hb2, heap_setBlock_same hb]
end
theorem pt_law : WideMaps.KeyLaw Try.prog 167 := deep_law_laid laid_out (m := 2) (by omega) (of_decide_eq_true (by kernel_rfl)) (by kernel_rfl) (by kernel_rfl)
theorem zeroI (w : World) : (zeroValue 3).run Try.prog w = .ok (.int .i64 0) w := by kernel_rfl
theorem run_gentry {op : Oper} {a : Act} {w w1 : World} {x y : Operand} {t m : Nat} {k u : Value} (ho : op.op = .mapEntry t x y) (hx : a.eval x = .map (some m)) (hy : a.eval y = k) (h : (Instr.mapEntry t (.map (some m)) k).run Try.prog w = .ok u w1) : (execOp a.eval op).run Try.prog w = .ok (.value u) w1 := by
 unfold execOp
 simp only [ho, hx, hy, Sem.run_bind, Sem.run_pure, h, Result.andThen_ok]
theorem run_gstore {op : Oper} {a : Act} {w w1 : World} {x y z : Operand} {t m : Nat} {k u : Value} (ho : op.op = .entryStore t x y z) (hx : a.eval x = .map (some m)) (hy : a.eval y = k) (hz : a.eval z = u) (h : (Instr.entryStore t (.map (some m)) k u).run Try.prog w = .ok () w1) : (execOp a.eval op).run Try.prog w = .ok .skip w1 := by
 unfold execOp
 simp only [ho, hx, hy, hz, Sem.run_bind, Sem.run_pure, h, Result.andThen_ok]
end Go.Proofs.Ytmcbkmfpmcbdpaa.H
namespace Go.Proofs.Ytmcbkmfpmcbdpaa.H
open Go.RowKit Go.Proofs.Ytmcbkmfpmcbdpaa.Pr Go.Proofs.YtmcbkmfpmcbdpaaW.PrintWords Go.Proofs.Ytmcbkmfpmcbdpaa.Sem Go.Proofs.YtmcbkmfpmcbdpaaW.PrintLast
def cntL (l : List Ed) (q : Int × Int) : Int := ((l.filter fun e => decide (e.f0 = q.1) && decide (e.f1 = q.2)).length : Nat)
def encZ (z : Int) : Option Value := if z = 0 then none else some (.int .i64 z)
theorem encZ_get (z : Int) : (encZ z).getD (.int .i64 0) = .int .i64 z := by
 unfold encZ
 split
 ·rename_i h; rw [h]; rfl
 ·rfl
theorem encZ_some {z : Int} : (encZ z).isSome = true ↔ z ≠ 0 := by
 unfold encZ
 split <;> simp_all
theorem cntL_nn (l : List Ed) (q : Int × Int) : 0 ≤ cntL l q ∧ cntL l q ≤ l.length := by
 unfold cntL
 have := List.length_filter_le (fun e : Ed => decide (e.f0 = q.1) && decide (e.f1 = q.2)) l
 omega
theorem cntL_snoc (l : List Ed) (e : Ed) (q : Int × Int) : cntL (l ++ [e]) q = if q = (e.f0, e.f1) then cntL l q + 1 else cntL l q := by
 unfold cntL
 rw [List.filter_append]
 by_cases h : q = (e.f0, e.f1)
 ·subst h
  simp
 ·rw [if_neg h]
  have : (decide (e.f0 = q.1) && decide (e.f1 = q.2)) = false := by
   cases hd : (decide (e.f0 = q.1) && decide (e.f1 = q.2)) with
   | false => rfl
   | true =>
    simp only [Bool.and_eq_true, decide_eq_true_eq] at hd
    exact absurd (Prod.ext hd.1.symm hd.2.symm) h
  simp [this]
theorem cntL_append (l m : List Ed) (q : Int × Int) : cntL (l ++ m) q = cntL l q + cntL m q := by
 unfold cntL
 rw [List.filter_append, List.length_append]
 omega
def intoL (es : List Ed) (L : List Int) : List Ed := L.flatMap fun x => es.filter fun e => decide (e.f2 = x)
theorem intoL_snoc (es : List Ed) (L : List Int) (x : Int) : intoL es (L ++ [x]) = intoL es L ++ es.filter fun e => decide (e.f2 = x) := by simp [intoL]
theorem intoL_len (es : List Ed) (L : List Int) : (intoL es L).length ≤ L.length * es.length := by
 unfold intoL
 induction L with
 | nil => simp
 | cons x r ih =>
  have := List.length_filter_le (fun e : Ed => decide (e.f2 = x)) es
  simp only [List.flatMap_cons, List.length_append, List.length_cons, Nat.succ_mul]
  omega
theorem cntL_into (es : List Ed) (q : Int × Int) : ∀ L : List Int, L.Nodup → cntL (intoL es L) q = cntE es (fun x => decide (x ∈ L)) q.1 q.2
 | [], _ => by
  have e : (es.filter fun e => decide (e.f0 = q.1) && decide (e.f1 = q.2) && decide (e.f2 ∈ ([] : List Int))) = [] := List.filter_eq_nil_iff.2 fun e _ => by simp
  unfold cntL cntE
  rw [e]
  rfl
 | x :: r, h => by
  obtain ⟨h1, h2⟩ := List.nodup_cons.1 h
  have ih := cntL_into es q r h2
  rw [show intoL es (x :: r) = (es.filter fun e => decide (e.f2 = x)) ++ intoL es r from rfl, cntL_append, ih]
  unfold cntL cntE
  rw [List.filter_filter]
  have e1 := len_split (fun e : Ed => decide (e.f0 = q.1) && decide (e.f1 = q.2) && decide (e.f2 ∈ x :: r)) (fun e => decide (e.f2 = x)) es
  have e2 : (es.filter fun e => (decide (e.f0 = q.1) && decide (e.f1 = q.2) && decide (e.f2 ∈ x :: r)) && decide (e.f2 = x)) = es.filter fun e => decide (e.f0 = q.1) && decide (e.f1 = q.2) && decide (e.f2 = x) := by
   refine List.filter_congr fun e _ => ?_
   by_cases hx : e.f2 = x <;> simp [hx]
  have e3 : (es.filter fun e => (decide (e.f0 = q.1) && decide (e.f1 = q.2) && decide (e.f2 ∈ x :: r)) && !decide (e.f2 = x)) = es.filter fun e => decide (e.f0 = q.1) && decide (e.f1 = q.2) && decide (e.f2 ∈ r) := by
   refine List.filter_congr fun e _ => ?_
   by_cases hx : e.f2 = x
   ·subst hx; simp [h1]
   ·simp [hx]
  rw [e2, e3] at e1;show ((es.filter fun e => decide (e.f0 = q.1) && decide (e.f1 = q.2) && decide (e.f2 = x)).length : Int) + ((es.filter fun e => decide (e.f0 = q.1) && decide (e.f1 = q.2) && decide (e.f2 ∈ r)).length : Int) = ((es.filter fun e => decide (e.f0 = q.1) && decide (e.f1 = q.2) && decide (e.f2 ∈ x :: r)).length : Int);omega
theorem cnt_le2 {w : World} {m c : Nat} {f : Int × Int → Option Value} {l : List Ed} (h : G2 w m f c) (hf : ∀ q, ptOk q → f q = encZ (cntL l q)) : c ≤ l.length := by
 have := h.count_le ptKB (l.map fun e => (e.f0, e.f1)) fun q hq hs => by
  rw [hf q hq] at hs
  have h1 := encZ_some.1 hs
  unfold cntL at h1
  have h2 : (l.filter fun e => decide (e.f0 = q.1) && decide (e.f1 = q.2)) ≠ [] := fun e => h1 (by rw [e]; rfl)
  obtain ⟨e, he⟩ := List.exists_mem_of_ne_nil _ h2
  obtain ⟨h3, h4⟩ := List.mem_filter.1 he
  simp only [Bool.and_eq_true, decide_eq_true_eq] at h4
  exact List.mem_map.2 ⟨e, h3, Prod.ext h4.1 h4.2⟩
 simpa using this
theorem slR {base e : Nat} {w : World} {okp : Nat → Prop} {v : Value} {xs : List Sl} (hR : kSl.R e w base okp v xs) (h0 : 0 < xs.length) : ∃ g c0, v = .slice (some ⟨g, 0, none⟩) xs.length c0 ∧ ∀ i, i < xs.length → w.cell? ⟨g, i, none⟩ = some (slV (xs.getD i nilL)) ∧ w.frozen? ⟨g, i, none⟩ = false := by
 obtain ⟨g, c0, e, _⟩ := Kd.R_form hR h0
 refine ⟨g, c0, e, fun i hi => ?_⟩
 subst e
 have := Kd.R_cell nilL hR (i : Int) (by omega) (by omega)
 simpa [rdOf] using this
theorem cell_keep {W w5 : World} {M E i : Nat} {u : Value} (hg : W.grownBy w5 (some M)) (hne : M < E) (h : W.cell? ⟨E, i, none⟩ = some u) : w5.cell? ⟨E, i, none⟩ = some u :=
 cell_kept h (kept_grown (S := fun k => k = M) hg fun k e => by cases e; rfl) (by show ¬ E = M; omega)
theorem cell_keep2 {W w5 : World} {M E i : Nat} {u : Value} (hg : W.grownBy w5 (some M)) (hne : E ≠ M) (h : W.cell? ⟨E, i, none⟩ = some u) : w5.cell? ⟨E, i, none⟩ = some u :=
 cell_kept h (kept_grown (S := fun k => k = M) hg fun k e => by cases e; rfl) hne
theorem GM.alloc_ {α : Type} [DecidableEq α] {P : Program} {k : TypeId} {lt : α → Lit} {ok : α → Prop} {w : World} {m c : Nat} {f : α → Option Value} (h : GM P k lt ok w m f c) (o : Obj) : GM P k lt ok (w.alloc o) m f c := h.below (below_alloc (Below.refl _ _) o)
theorem zeroM (w : World) : (zeroValue 165).run Try.prog w = .ok (.map none) w := by kernel_rfl
theorem look_eq {α : Type} [DecidableEq α] {P : Program} {k : TypeId} {mk : α → Value} {lt : α → Lit} {ok : α → Prop} (B : KB P k mk lt ok) {w : World} {m c : Nat} {f : α → Option Value} (h : GM P k lt ok w m f c) {a : α} (ha : ok a) {t e : TypeId} (ht : P.underlying t = some (.map k e)) {z : Value} (hz : (zeroValue e).run P w = .ok z w) {v : Value} (hv : (f a).getD z = v) :
  (Instr.lookup t (.map (some m)) (mk a) false).run P w = .ok v w := hv ▸ h.get B ha ht hz
structure StdI (n : Nat) (es : List Ed) (s : Sg) : Prop where
  len : s.is.length = n
  ins : ∀ i, i < n → s.ins.getD i [] = es.filter fun e => decide (e.f2 = (i : Int))
structure StdC (es : List Ed) (s : Sg) (N : Nat) (H : Int → Int) : Prop where
  ln : s.cm.length = N
  fC : ∀ h, i64in h → s.fC h = if decide (0 ≤ h) && decide (h < (N : Int)) then some (.map (some (s.cm.getD h.toNat 0))) else none
  fc : ∀ i, i < N → ∀ q, ptOk q → s.fc i q = encZ (cntE es (fun x => decide (H x = (i : Int))) q.1 q.2)
  cc : ∀ i, i < N → s.cc i ≤ es.length
end Go.Proofs.Ytmcbkmfpmcbdpaa.H
