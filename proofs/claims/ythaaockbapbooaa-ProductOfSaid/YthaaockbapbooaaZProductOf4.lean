/-
  Parts of the proof of ProductOf (joined by wip/tools/bundle.py), part 4: plain words and walks of the functions that the law reaches.
-/
import Derived.Test.YthaaockbapbooaaZProductOf3
namespace Go.Proofs.Ythaaockbapbooaa.Pr
open Go.RowKit Go.Proofs.YthaaockbapbooaaW.PrintWords Go.Proofs.YthaaockbapbooaaW.PrintLast Go.Proofs.YthaaockbapbooaaW.PrintMore
attribute [local go_sem] max2_int min2_int max_two min_two max_three min_three max_four min_four
set_option linter.unusedVariables false
set_option linter.unusedSimpArgs false
mutual
def Pr02a.l0 : Nat → List ByteArray → List ByteArray → List ByteArray → Int → Option (List ByteArray)
 | 0, _, _, _, _ => none
 | k + 1, x0, x1, x5, x6 => if x6 < (wrap64 ((x0.length : Int) + (x1.length : Int))) then (if x6 < (x0.length : Int) then (if 0 ≤ x6 then (Pr02a.j1 k x0 x1 x5 x6 (rdOf ByteArray.empty x0 x6)) else (none)) else (if 0 ≤ (wrap64 (x6 - (x0.length : Int))) then (if (wrap64 (x6 - (x0.length : Int))) < (x1.length : Int) then (Pr02a.j1 k x0 x1 x5 x6 (rdOf ByteArray.empty x1 (wrap64 (x6 - (x0.length : Int))))) else (none)) else (none))) else (some x5)
def Pr02a.j1 : Nat → List ByteArray → List ByteArray → List ByteArray → Int → ByteArray → Option (List ByteArray)
 | 0, _, _, _, _, _ => none
 | k + 1, x0, x1, x5, x6, x7 => (Pr02b.f k x5 x7).bind fun t195 => (if t195 ≥ 0 then (Pr02a.l0 k x0 x1 x5 (wrap64 (x6 + 1))) else (Pr02a.l1 k x0 x1 x5 x6 x7 0))
def Pr02a.l1 : Nat → List ByteArray → List ByteArray → List ByteArray → Int → ByteArray → Int → Option (List ByteArray)
 | 0, _, _, _, _, _, _ => none
 | k + 1, x0, x1, x5, x6, x7, x8 => if x8 < (x5.length : Int) then (if 0 ≤ x8 then (if (Op.bytesLess ((rdOf ByteArray.empty x5 x8).toList) x7.toList) = true then (Pr02a.l1 k x0 x1 x5 x6 x7 (wrap64 (x8 + 1))) else ((some (([] : List ByteArray) : List ByteArray)).bind fun y197 => (if x8 ≤ (x5.length : Int) then ((some (x5.drop (x8 : Int).toNat : List ByteArray)).bind fun y200 => (if y197.length + y200.length < 8796093022208 then ((some (y197 ++ y200 : List ByteArray)).bind fun y204 => ((some (([] : List ByteArray) : List ByteArray)).bind fun y207 => ((some (x5.take (x8 : Int).toNat : List ByteArray)).bind fun y210 => (if y207.length + y210.length < 8796093022208 then ((some (y207 ++ y210 : List ByteArray)).bind fun y214 => (if y214.length < 8796093022208 then ((some (y214 ++ [x7] : List ByteArray)).bind fun y217 => (if y217.length + y204.length < 8796093022208 then (Pr02a.l0 k x0 x1 (y217 ++ y204) (wrap64 (x6 + 1))) else (none))) else (none))) else (none))))) else (none))) else (none)))) else (none)) else ((some (([] : List ByteArray) : List ByteArray)).bind fun y223 => (if 0 ≤ x8 then (if x8 ≤ (x5.length : Int) then ((some (x5.drop (x8 : Int).toNat : List ByteArray)).bind fun y226 => (if y223.length + y226.length < 8796093022208 then ((some (y223 ++ y226 : List ByteArray)).bind fun y230 => ((some (([] : List ByteArray) : List ByteArray)).bind fun y233 => ((some (x5.take (x8 : Int).toNat : List ByteArray)).bind fun y236 => (if y233.length + y236.length < 8796093022208 then ((some (y233 ++ y236 : List ByteArray)).bind fun y240 => (if y240.length < 8796093022208 then ((some (y240 ++ [x7] : List ByteArray)).bind fun y243 => (if y243.length + y230.length < 8796093022208 then (Pr02a.l0 k x0 x1 (y243 ++ y230) (wrap64 (x6 + 1))) else (none))) else (none))) else (none))))) else (none))) else (none)) else (none)))
end
def Pr02a.f (k : Nat) (l0 : List ByteArray) (l1 : List ByteArray) : Option (List ByteArray) := Pr02a.l0 k l0 l1 (([] : List ByteArray)) 0
theorem Pr02a.mono_l : ∀ k, (∀ y0 y1 y2 y3, LeO (Pr02a.l0 k y0 y1 y2 y3) (Pr02a.l0 (k + 1) y0 y1 y2 y3)) ∧ (∀ y0 y1 y2 y3 y4, LeO (Pr02a.j1 k y0 y1 y2 y3 y4) (Pr02a.j1 (k + 1) y0 y1 y2 y3 y4)) ∧ (∀ y0 y1 y2 y3 y4 y5, LeO (Pr02a.l1 k y0 y1 y2 y3 y4 y5) (Pr02a.l1 (k + 1) y0 y1 y2 y3 y4 y5))
 | 0 => ⟨fun _ _ _ _ r h => by simp [Pr02a.l0] at h, fun _ _ _ _ _ r h => by simp [Pr02a.j1] at h, fun _ _ _ _ _ _ r h => by simp [Pr02a.l1] at h⟩
 | k + 1 => by
  obtain ⟨ih0, ih1, ih2⟩ := Pr02a.mono_l k
  refine ⟨?_, ?_, ?_⟩
  ·intro y0 y1 y2 y3
   unfold Pr02a.l0
   repeat' first
   | (with_reducible exact ih0 _ _ _ _)
   | (with_reducible exact ih1 _ _ _ _ _)
   | (with_reducible exact ih2 _ _ _ _ _ _)
   | (with_reducible exact Pr02b.mono _ _ _)
   | (with_reducible exact LeO.refl _)
   | (with_reducible exact LeO.none _)
   | (with_reducible refine LeO.ite ?_ ?_)
   | (with_reducible refine LeO.bind ?_ (fun _ => ?_))
   | exact ih0 _ _ _ _
   | exact ih1 _ _ _ _ _
   | exact ih2 _ _ _ _ _ _
   | exact Pr02b.mono _ _ _
   | exact LeO.none _
   | refine LeO.ite ?_ ?_
   | refine LeO.bind ?_ (fun _ => ?_)
  ·intro y0 y1 y2 y3 y4
   unfold Pr02a.j1
   repeat' first
   | (with_reducible exact ih0 _ _ _ _)
   | (with_reducible exact ih1 _ _ _ _ _)
   | (with_reducible exact ih2 _ _ _ _ _ _)
   | (with_reducible exact Pr02b.mono _ _ _)
   | (with_reducible exact LeO.refl _)
   | (with_reducible exact LeO.none _)
   | (with_reducible refine LeO.ite ?_ ?_)
   | (with_reducible refine LeO.bind ?_ (fun _ => ?_))
   | exact ih0 _ _ _ _
   | exact ih1 _ _ _ _ _
   | exact ih2 _ _ _ _ _ _
   | exact Pr02b.mono _ _ _
   | exact LeO.none _
   | refine LeO.ite ?_ ?_
   | refine LeO.bind ?_ (fun _ => ?_)
  ·intro y0 y1 y2 y3 y4 y5
   unfold Pr02a.l1
   repeat' first
   | (with_reducible exact ih0 _ _ _ _)
   | (with_reducible exact ih1 _ _ _ _ _)
   | (with_reducible exact ih2 _ _ _ _ _ _)
   | (with_reducible exact Pr02b.mono _ _ _)
   | (with_reducible exact LeO.refl _)
   | (with_reducible exact LeO.none _)
   | (with_reducible refine LeO.ite ?_ ?_)
   | (with_reducible refine LeO.bind ?_ (fun _ => ?_))
   | exact ih0 _ _ _ _
   | exact ih1 _ _ _ _ _
   | exact ih2 _ _ _ _ _ _
   | exact Pr02b.mono _ _ _
   | exact LeO.none _
   | refine LeO.ite ?_ ?_
   | refine LeO.bind ?_ (fun _ => ?_)
theorem Pr02a.mono : ∀ a0 a1 k, LeO (Pr02a.f k a0 a1) (Pr02a.f (k + 1) a0 a1) := by
 intro a0 a1 k
 obtain ⟨ih0, ih1, ih2⟩ := Pr02a.mono_l k
 unfold Pr02a.f
 repeat' first
   | (with_reducible exact ih0 _ _ _ _)
   | (with_reducible exact ih1 _ _ _ _ _)
   | (with_reducible exact ih2 _ _ _ _ _ _)
   | (with_reducible exact Pr02b.mono _ _ _)
   | (with_reducible exact LeO.refl _)
   | (with_reducible exact LeO.none _)
   | (with_reducible refine LeO.ite ?_ ?_)
   | (with_reducible refine LeO.bind ?_ (fun _ => ?_))
   | exact ih0 _ _ _ _
   | exact ih1 _ _ _ _ _
   | exact ih2 _ _ _ _ _ _
   | exact Pr02b.mono _ _ _
   | exact LeO.none _
   | refine LeO.ite ?_ ?_
   | refine LeO.bind ?_ (fun _ => ?_)
set_option maxHeartbeats 8000000 in
set_option maxRecDepth 100000 in
theorem Pr02a.calls (k : Nat) (A0 : Option Addr) (c0 : Nat) (l0 : List ByteArray) (A1 : Option Addr) (c1 : Nat) (l1 : List ByteArray) (r : List ByteArray) (w : World) (hr0 : Kd.C Kd.string w A0 l0.length l0) (hc0 : l0.length ≤ c0) (hr1 : Kd.C Kd.string w A1 l1.length l1) (hc1 : l1.length ≤ c1) (h : Pr02a.f k l0 l1 = some r) :
  Calls Try.prog 45 #[.slice A0 l0.length c0, .slice A1 l1.length c1] w fun e w' => ∃ v0_ : Value, e = .returned (v0_) ∧ Kd.R Kd.string 9 w' w.heap.size (fun _ => True) v0_ r ∧ Below w.heap.size w w' := by
 have x8 := Aside0.mk hr0
 have A3 := Aside0.mk hc0
 clear hr0 hc0
 have y0 := Aside0.mk hr1
 have A5 := Aside0.mk hc1
 clear hr1 hc1
 have HB := Aside0.mk (Below.refl w.heap.size w)
 have H : (Pr02a.l0 k l0 l1 (([] : List ByteArray)) 0) = some r := h
 clear h
 obtain ⟨r1, g7⟩ : ∃ y_ : List ByteArray, y_ = (([] : List ByteArray)) := ⟨_, rfl⟩
 replace H : (Pr02a.l0 k l0 l1 r1 0) = some r := by first | (rw [g7]; with_reducible exact H) | (have a3 := (Option.bind_some _ _).symm.trans H; rw [g7]; with_reducible exact a3) | (have a3 := (Option.bind_some _ _).symm.trans H; with_reducible exact a3) | with_reducible exact H | (rw [g7]; exact H) | exact H
 have n3 := Aside0.mk g7
 clear g7
 have H' := Aside0.mk H
 clear H
 go_enter Try.func45, Try.ntmps45
 go_wp2_with (first | ((with_reducible refine gate_dst (N := 10) rfl ?_); refine Kd.R_lit Kd.string _ 9 ?hg (N := 10) ?hd (xs := ([] : List ByteArray)) (inner := []) (ok := fun _ => True) (okp := fun _ => True) ?hr ?hp (fun _ hk => hk) trivial (Below.refl _ _) (Nat.le_refl _) (by simp) ?_; (case hd => rfl); (case hg => rfl); (case hr => first | (go_simp; done) | (go_simp; rfl)); (case hp => exact (Reps.none _ _)); intro z7 w3 m0 hb hg_ hnew_; clear hg_ hnew_; (first | rw [← n3.out] at m0 | (simp only [Int.reduceToNat] at m0; rw [← n3.out] at m0)); have a7 := Aside0.mk (Kd.R_lower m0 (below_size (by repeat (first | (with_reducible first | exact HB.out | apply below_alloc | apply pw_below_drewN | apply below_drew1) | exact HB.out)))); have a8 := Aside0.mk (below_step (by repeat (first | (with_reducible first | exact HB.out | apply below_alloc | apply pw_below_drewN | apply below_drew1) | exact HB.out)) hb); clear HB; have u0 := a7; have HB := a8; clear a7 a8; clear hb m0))
 go_loopg [5, 6] k (fun kq v5 v6 w' => ∃ (a2 : List ByteArray) (a4 : Int), v6 = .int .i64 a4 ∧ Aside0 (Pr02a.l0 kq l0 l1 a2 a4 = some r) ∧ Aside0 (kq ≤ k) ∧ Aside0 (Kd.R Kd.string 9 w' w.heap.size (fun _ => True) v5 a2) ∧ Aside0 (Below w.heap.size w w'))
 case atStart => exact ⟨(r1), (0), (by first | rfl | (simp; done) | (simp [*]; done)), H', ⟨Nat.le_refl _⟩, ⟨by (with_reducible repeat (first | apply Kd.R_alloc | apply Kd.R_drewN | apply Kd.R_drew)); exact u0.out⟩, ⟨by repeat (first | (with_reducible first | exact HB.out | apply below_alloc | apply pw_below_drewN | apply below_drew1) | exact HB.out)⟩⟩
 case round =>
  clear H'
  try clear c1
  try clear p2
  try clear c4
  obtain ⟨a2, a4, rfl, HA, f0, a0, HB⟩ := hrel
  cases gk with
  | zero => exact absurd HA.out (by simp [Pr02a.l0])
  | succ k1 =>
   have H := HA.out
   clear HA
   simp only [Pr02a.l0] at H
   by_cases c5 : a4 < (wrap64 ((l0.length : Int) + (l1.length : Int)))
   ·rw [if_pos c5] at H
    have c5b0 : decide (a4 < (wrap64 ((l0.length : Int) + (l1.length : Int)))) = true := decide_eq_true c5
    clear c5
    have q8 := Aside0.mk H
    clear H
    go_upto_if 23 with (fail)
    go_cut [7] (fun v7 wc => ∃ (kq : Nat) (a6 : ByteArray), v7 = .string a6 ∧ Aside0 (Pr02a.j1 kq l0 l1 a2 a4 a6 = some r) ∧ Aside0 (kq ≤ k1) ∧ Aside0 (Kd.R Kd.string 9 wc w.heap.size (fun _ => True) u5 a2) ∧ Aside0 (Below w.heap.size w wc))
    case first =>
     have H := q8.out
     clear q8
     by_cases c7 : a4 < (l0.length : Int)
     ·rw [if_pos c7] at H
      have c7b0 : decide (a4 < (l0.length : Int)) = true := decide_eq_true c7
      clear c7
      (first | rw [c7b0] | (simp only [i64_w, i32_w]; rw [c7b0]) | skip)
      by_cases c8 : 0 ≤ a4
      ·rw [if_pos c8] at H
       have c8b0 : decide (0 ≤ a4) = true := decide_eq_true c8
       clear c8
       have H' := Aside0.mk H
       clear H
       have i9 : 0 ≤ (a4 : Int) := of_decide_eq_true (by first | (with_reducible assumption) | assumption)
       have i2 : a4 < (l0.length : Int) := of_decide_eq_true (by first | (with_reducible assumption) | assumption)
       obtain ⟨y3, w6, e6⟩ := Kd.at_string x8.out a4 i9 i2
       cases w6
       replace e6 := (HB.out.cell (World.block_lt_of_cell? w _ e6)).trans e6
       replace i9 := eq_true i9
       replace i2 := eq_true i2
       go_wp2
       go_meet
       case rel => exact ⟨_, (rdOf ByteArray.empty l0 a4), (by first | rfl | (simp; done) | (simp [*]; done)), H', ⟨by have := f0.out; first | omega | exact Nat.le_refl _⟩, ⟨by (with_reducible repeat (first | apply Kd.R_alloc | apply Kd.R_drewN | apply Kd.R_drew)); exact a0.out⟩, ⟨by repeat (first | (with_reducible first | exact HB.out | apply below_alloc | apply pw_below_drewN | apply below_drew1) | exact HB.out)⟩⟩
      ·rw [if_neg c8] at H
       exact absurd H (by simp)
     ·rw [if_neg c7] at H
      have c7b0 : decide (a4 < (l0.length : Int)) = false := decide_eq_false c7
      clear c7
      (first | rw [c7b0] | (simp only [i64_w, i32_w]; rw [c7b0]) | skip)
      obtain ⟨e7, i6⟩ : ∃ j_ : Int, (wrap64 (a4 - (l0.length : Int))) = j_ := ⟨_, rfl⟩
      replace H : (if 0 ≤ (e7) then (if (e7) < (l1.length : Int) then (Pr02a.j1 k1 l0 l1 a2 a4 (rdOf ByteArray.empty l1 (e7))) else (none)) else (none)) = some r := by first | (rw [i6] at H; exact H) | (simp only [i6] at H ⊢; exact H)
      have hji9w : (IntKind.i64.wrap (a4 - (l0.length : Int))) = e7 := (i64_w _).trans i6
      by_cases c10 : 0 ≤ (e7)
      ·rw [if_pos c10] at H
       have c10b0 : decide (0 ≤ (e7)) = true := decide_eq_true c10
       clear c10
       by_cases k0 : (e7) < (l1.length : Int)
       ·rw [if_pos k0] at H
        have c11b0 : decide ((e7) < (l1.length : Int)) = true := decide_eq_true k0
        clear k0
        have H' := Aside0.mk H
        clear H
        have j4 : 0 ≤ ((e7) : Int) := of_decide_eq_true (by first | (with_reducible assumption) | assumption)
        have j5 : (e7) < (l1.length : Int) := of_decide_eq_true (by first | (with_reducible assumption) | assumption)
        obtain ⟨y5, w2, e5⟩ := Kd.at_string y0.out (e7) j4 j5
        cases w2
        replace e5 := (HB.out.cell (World.block_lt_of_cell? w _ e5)).trans e5
        replace j4 := eq_true j4
        replace j5 := eq_true j5
        go_wp2
        go_meet
        case rel => exact ⟨_, (rdOf ByteArray.empty l1 (e7)), (by first | rfl | (simp; done) | (simp only [← i6] <;> (first | rfl | simp)) | (simp [*]; done)), H', ⟨by have := f0.out; first | omega | exact Nat.le_refl _⟩, ⟨by (with_reducible repeat (first | apply Kd.R_alloc | apply Kd.R_drewN | apply Kd.R_drew)); exact a0.out⟩, ⟨by repeat (first | (with_reducible first | exact HB.out | apply below_alloc | apply pw_below_drewN | apply below_drew1) | exact HB.out)⟩⟩
       ·rw [if_neg k0] at H
        exact absurd H (by simp)
      ·rw [if_neg c10] at H
       exact absurd H (by simp)
    case rest =>
     clear q8
     try clear c1
     try clear p1
     try clear q1
     try clear y1
     try clear p2
     try clear c4
     try clear c5
     try clear c5b0
     try clear p6
     try clear c7
     try clear c7b0
     try clear c8
     try clear c8b0
     try clear c10
     try clear c10b0
     try clear k0
     try clear c11b0
     try clear e6
     try clear e5
     try clear i9
     try clear j4
     try clear p2
     try clear i2
     try clear j5
     obtain ⟨kq, a6, rfl, HA, i1, a0, HB⟩ := hcut
     cases kq with
     | zero => exact absurd HA.out (by simp [Pr02a.j1])
     | succ kj5 =>
      have H := HA.out
      clear HA
      simp only [Pr02a.j1] at H
      replace H := Option.bind_eq_some_iff.mp H
      obtain ⟨h8, q5, H⟩ := H
      replace H : (if h8 ≥ 0 then (Pr02a.l0 kj5 l0 l1 a2 (wrap64 (a4 + 1))) else (Pr02a.l1 kj5 l0 l1 a2 a4 a6 0)) = some r := H
      have v1 := Aside0.mk q5
      clear q5
      by_cases i4 : h8 ≥ 0
      ·rw [if_pos i4] at H
       have c13b0 : decide (0 ≤ h8) = true := decide_eq_true i4
       clear i4
       have H' := Aside0.mk H
       clear H
       obtain ⟨x2, w4, v2⟩ := Kd.R_slice a0.out
       subst v2
       go_wp2_with (first | ((with_reducible refine gate_callee (f := 43) rfl ?_); refine goesL_ (some 37) rfl rfl Try.func43 (by kernel_rfl) rfl #[.slice x2 a2.length w4, .string a6] rfl (by (try simp only [List.map_toArray, List.map_cons, List.map_nil]); first | done | rfl | (simp only [List.length_drop, List.length_take]; rfl)) ?_; (with_reducible refine (Pr02b.calls kj5 _ _ a2 a6 h8 _ ?s8 ?s5 v1.out).mono ?_); (case s8 => repeat (first | exact (Kd.R_reads' a0.out).2.2 | (with_reducible refine Kd.C_alloc ?_ _) | (with_reducible refine Kd.C_drewN ?_ _) | (with_reducible refine Kd.C_drew ?_))); (case s5 => exact (Kd.R_reads' a0.out).2.1); rintro e w' ⟨rfl, ⟨nd, rfl⟩⟩; refine ⟨_, rfl, ?_⟩))
       go_roundg kj5
       case measure => have := f0.out; have := i1.out; omega
       case rel => exact ⟨(a2), (wrap64 (a4 + 1)), (by first | rfl | (simp; done) | (simp [*]; done)), H', ⟨by have := f0.out; have := i1.out; omega⟩, ⟨by (with_reducible repeat (first | apply Kd.R_alloc | apply Kd.R_drewN | apply Kd.R_drew)); exact a0.out⟩, ⟨by repeat (first | (with_reducible first | exact HB.out | apply below_alloc | apply pw_below_drewN | apply below_drew1) | exact HB.out)⟩⟩
      ·rw [if_neg i4] at H
       have c13b0 : decide (0 ≤ h8) = false := decide_eq_false i4
       clear i4
       have H' := Aside0.mk H
       clear H
       obtain ⟨d4, a5, v9⟩ := Kd.R_slice a0.out
       subst v9
       go_wp2_with (first | ((with_reducible refine gate_callee (f := 43) rfl ?_); refine goesL_ (some 37) rfl rfl Try.func43 (by kernel_rfl) rfl #[.slice d4 a2.length a5, .string a6] rfl (by (try simp only [List.map_toArray, List.map_cons, List.map_nil]); first | done | rfl | (simp only [List.length_drop, List.length_take]; rfl)) ?_; (with_reducible refine (Pr02b.calls kj5 _ _ a2 a6 h8 _ ?s8 ?s5 v1.out).mono ?_); (case s8 => repeat (first | exact (Kd.R_reads' a0.out).2.2 | (with_reducible refine Kd.C_alloc ?_ _) | (with_reducible refine Kd.C_drewN ?_ _) | (with_reducible refine Kd.C_drew ?_))); (case s5 => exact (Kd.R_reads' a0.out).2.1); rintro e w' ⟨rfl, ⟨nd, rfl⟩⟩; refine ⟨_, rfl, ?_⟩))
       go_loopg [8] kj5 (fun kq v8 w' => ∃ (a1 : Int), v8 = .int .i64 a1 ∧ Aside0 (Pr02a.l1 kq l0 l1 a2 a4 a6 a1 = some r) ∧ Aside0 (kq ≤ kj5) ∧ Aside0 (Kd.R Kd.string 9 w' w.heap.size (fun _ => True) (.slice d4 a2.length a5) a2) ∧ Aside0 (Below w.heap.size w w'))
       case atStart => exact ⟨(0), (by first | rfl | (simp; done) | (simp [*]; done)), H', ⟨Nat.le_refl _⟩, ⟨by (with_reducible repeat (first | apply Kd.R_alloc | apply Kd.R_drewN | apply Kd.R_drew)); exact a0.out⟩, ⟨by repeat (first | (with_reducible first | exact HB.out | apply below_alloc | apply pw_below_drewN | apply below_drew1) | exact HB.out)⟩⟩
       case round =>
        try clear hji9w
        try clear i6
        clear H'
        try clear c1
        try clear p1
        try clear q1
        try clear y1
        try clear p2
        try clear c4
        try clear c5
        try clear c5b0
        try clear p6
        try clear c7
        try clear c7b0
        try clear c8
        try clear c8b0
        try clear c10
        try clear c10b0
        try clear k0
        try clear c11b0
        try clear i4
        try clear c13b0
        try clear e6
        try clear e5
        try clear p1
        try clear i9
        try clear j4
        try clear p2
        try clear p6
        try clear q1
        try clear i2
        try clear j5
        obtain ⟨a1, rfl, HA, j7, a0, HB⟩ := hrel
        cases gk with
        | zero => exact absurd HA.out (by simp [Pr02a.l1])
        | succ k3 =>
         have H := HA.out
         clear HA
         simp only [Pr02a.l1] at H
         by_cases k4 : a1 < (a2.length : Int)
         ·rw [if_pos k4] at H
          have c16b0 : decide (a1 < (a2.length : Int)) = true := decide_eq_true k4
          clear k4
          by_cases p7 : 0 ≤ a1
          ·rw [if_pos p7] at H
           have c17b0 : decide (0 ≤ a1) = true := decide_eq_true p7
           clear p7
           by_cases j8 : (Op.bytesLess ((rdOf ByteArray.empty a2 a1).toList) a6.toList) = true
           ·rw [if_pos j8] at H
            have c18b0 : (Op.bytesLess ((rdOf ByteArray.empty a2 a1).toList) a6.toList) = true := j8
            clear j8
            have H' := Aside0.mk H
            clear H
            have f1 : 0 ≤ (a1 : Int) := of_decide_eq_true (by first | (with_reducible assumption) | assumption)
            have f5 : a1 < (a2.length : Int) := of_decide_eq_true (by first | (with_reducible assumption) | assumption)
            obtain ⟨b8, m5, q3⟩ := Kd.at_string (Kd.R_reads' a0.out).2.2 a1 f1 f5
            cases m5
            replace f1 := eq_true f1
            replace f5 := eq_true f5
            go_wp2
            go_roundg k3
            case measure => have := f0.out; have := i1.out; have := j7.out; omega
            case rel => exact ⟨(wrap64 (a1 + 1)), (by first | rfl | (simp; done) | (simp [*]; done)), H', ⟨by have := f0.out; have := i1.out; have := j7.out; omega⟩, ⟨by (with_reducible repeat (first | apply Kd.R_alloc | apply Kd.R_drewN | apply Kd.R_drew)); exact a0.out⟩, ⟨by repeat (first | (with_reducible first | exact HB.out | apply below_alloc | apply pw_below_drewN | apply below_drew1) | exact HB.out)⟩⟩
           ·rw [if_neg j8] at H
            have c18b0 : (Op.bytesLess ((rdOf ByteArray.empty a2 a1).toList) a6.toList) = false := by simpa using j8
            clear j8
            obtain ⟨f2, h2⟩ : ∃ y_ : List ByteArray, y_ = (([] : List ByteArray)) := ⟨_, rfl⟩
            replace H : (if a1 ≤ (a2.length : Int) then ((some (a2.drop (a1 : Int).toNat : List ByteArray)).bind fun d1 => (if f2.length + d1.length < 8796093022208 then ((some (f2 ++ d1 : List ByteArray)).bind fun b3 => ((some (([] : List ByteArray) : List ByteArray)).bind fun d9 => ((some (a2.take (a1 : Int).toNat : List ByteArray)).bind fun b1 => (if d9.length + b1.length < 8796093022208 then ((some (d9 ++ b1 : List ByteArray)).bind fun d3 => (if d3.length < 8796093022208 then ((some (d3 ++ [a6] : List ByteArray)).bind fun b5 => (if b5.length + b3.length < 8796093022208 then (Pr02a.l0 k3 l0 l1 (b5 ++ b3) (wrap64 (a4 + 1))) else (none))) else (none))) else (none))))) else (none))) else (none)) = some r := by first | (rw [h2]; with_reducible exact H) | (have a3 := (Option.bind_some _ _).symm.trans H; rw [h2]; with_reducible exact a3) | (have a3 := (Option.bind_some _ _).symm.trans H; with_reducible exact a3) | with_reducible exact H | (rw [h2]; exact H) | exact H
            have n6 := Aside0.mk h2
            clear h2
            have c19b0 := eq_true (of_decide_eq_true (by first | (with_reducible assumption) | assumption) : 0 ≤ a1)
            by_cases l7 : a1 ≤ (a2.length : Int)
            ·rw [if_pos l7] at H
             have c20b0 := eq_true l7
             have c20b1 : decide (a1 ≤ (a2.length : Int)) = true := decide_eq_true l7
             clear l7
             obtain ⟨d1, g5⟩ : ∃ y_ : List ByteArray, y_ = (a2.drop (a1 : Int).toNat) := ⟨_, rfl⟩
             replace H : (if f2.length + d1.length < 8796093022208 then ((some (f2 ++ d1 : List ByteArray)).bind fun b3 => ((some (([] : List ByteArray) : List ByteArray)).bind fun d9 => ((some (a2.take (a1 : Int).toNat : List ByteArray)).bind fun b1 => (if d9.length + b1.length < 8796093022208 then ((some (d9 ++ b1 : List ByteArray)).bind fun d3 => (if d3.length < 8796093022208 then ((some (d3 ++ [a6] : List ByteArray)).bind fun b5 => (if b5.length + b3.length < 8796093022208 then (Pr02a.l0 k3 l0 l1 (b5 ++ b3) (wrap64 (a4 + 1))) else (none))) else (none))) else (none))))) else (none)) = some r := by first | (rw [g5]; with_reducible exact H) | (have a3 := (Option.bind_some _ _).symm.trans H; rw [g5]; with_reducible exact a3) | (have a3 := (Option.bind_some _ _).symm.trans H; with_reducible exact a3) | with_reducible exact H | (rw [g5]; exact H) | exact H
             have e8 := Aside0.mk g5
             clear g5
             by_cases n2 : f2.length + d1.length < 8796093022208
             ·rw [if_pos n2] at H
              have s1 := Aside0.mk n2
              clear n2
              obtain ⟨b3, f8⟩ : ∃ y_ : List ByteArray, y_ = (f2 ++ d1) := ⟨_, rfl⟩
              replace H : ((some (([] : List ByteArray) : List ByteArray)).bind fun d9 => ((some (a2.take (a1 : Int).toNat : List ByteArray)).bind fun b1 => (if d9.length + b1.length < 8796093022208 then ((some (d9 ++ b1 : List ByteArray)).bind fun d3 => (if d3.length < 8796093022208 then ((some (d3 ++ [a6] : List ByteArray)).bind fun b5 => (if b5.length + b3.length < 8796093022208 then (Pr02a.l0 k3 l0 l1 (b5 ++ b3) (wrap64 (a4 + 1))) else (none))) else (none))) else (none)))) = some r := by first | (rw [f8]; with_reducible exact H) | (have a3 := (Option.bind_some _ _).symm.trans H; rw [f8]; with_reducible exact a3) | (have a3 := (Option.bind_some _ _).symm.trans H; with_reducible exact a3) | with_reducible exact H | (rw [f8]; exact H) | exact H
              have t8 := Aside0.mk f8
              clear f8
              obtain ⟨d9, h5⟩ : ∃ y_ : List ByteArray, y_ = (([] : List ByteArray)) := ⟨_, rfl⟩
              replace H : ((some (a2.take (a1 : Int).toNat : List ByteArray)).bind fun b1 => (if d9.length + b1.length < 8796093022208 then ((some (d9 ++ b1 : List ByteArray)).bind fun d3 => (if d3.length < 8796093022208 then ((some (d3 ++ [a6] : List ByteArray)).bind fun b5 => (if b5.length + b3.length < 8796093022208 then (Pr02a.l0 k3 l0 l1 (b5 ++ b3) (wrap64 (a4 + 1))) else (none))) else (none))) else (none))) = some r := by first | (rw [h5]; with_reducible exact H) | (have a3 := (Option.bind_some _ _).symm.trans H; rw [h5]; with_reducible exact a3) | (have a3 := (Option.bind_some _ _).symm.trans H; with_reducible exact a3) | with_reducible exact H | (rw [h5]; exact H) | exact H
              have o0 := Aside0.mk h5
              clear h5
              have c22b0 := eq_true (of_decide_eq_true (by first | (with_reducible assumption) | assumption) : 0 ≤ a1)
              have c23b0 := eq_true (of_decide_eq_true (by first | (with_reducible assumption) | assumption) : a1 ≤ (a2.length : Int))
              obtain ⟨b1, f7⟩ : ∃ y_ : List ByteArray, y_ = (a2.take (a1 : Int).toNat) := ⟨_, rfl⟩
              replace H : (if d9.length + b1.length < 8796093022208 then ((some (d9 ++ b1 : List ByteArray)).bind fun d3 => (if d3.length < 8796093022208 then ((some (d3 ++ [a6] : List ByteArray)).bind fun b5 => (if b5.length + b3.length < 8796093022208 then (Pr02a.l0 k3 l0 l1 (b5 ++ b3) (wrap64 (a4 + 1))) else (none))) else (none))) else (none)) = some r := by first | (rw [f7]; with_reducible exact H) | (have a3 := (Option.bind_some _ _).symm.trans H; rw [f7]; with_reducible exact a3) | (have a3 := (Option.bind_some _ _).symm.trans H; with_reducible exact a3) | with_reducible exact H | (rw [f7]; exact H) | exact H
              have h0 := Aside0.mk f7
              clear f7
              by_cases o4 : d9.length + b1.length < 8796093022208
              ·rw [if_pos o4] at H
               have s2 := Aside0.mk o4
               clear o4
               obtain ⟨d3, h4⟩ : ∃ y_ : List ByteArray, y_ = (d9 ++ b1) := ⟨_, rfl⟩
               replace H : (if d3.length < 8796093022208 then ((some (d3 ++ [a6] : List ByteArray)).bind fun b5 => (if b5.length + b3.length < 8796093022208 then (Pr02a.l0 k3 l0 l1 (b5 ++ b3) (wrap64 (a4 + 1))) else (none))) else (none)) = some r := by first | (rw [h4]; with_reducible exact H) | (have a3 := (Option.bind_some _ _).symm.trans H; rw [h4]; with_reducible exact a3) | (have a3 := (Option.bind_some _ _).symm.trans H; with_reducible exact a3) | with_reducible exact H | (rw [h4]; exact H) | exact H
               have t4 := Aside0.mk h4
               clear h4
               by_cases n4 : d3.length < 8796093022208
               ·rw [if_pos n4] at H
                have t2 := Aside0.mk n4
                clear n4
                obtain ⟨b5, g1⟩ : ∃ y_ : List ByteArray, y_ = (d3 ++ [a6]) := ⟨_, rfl⟩
                replace H : (if b5.length + b3.length < 8796093022208 then (Pr02a.l0 k3 l0 l1 (b5 ++ b3) (wrap64 (a4 + 1))) else (none)) = some r := by first | (rw [g1]; with_reducible exact H) | (have a3 := (Option.bind_some _ _).symm.trans H; rw [g1]; with_reducible exact a3) | (have a3 := (Option.bind_some _ _).symm.trans H; with_reducible exact a3) | with_reducible exact H | (rw [g1]; exact H) | exact H
                have u3 := Aside0.mk g1
                clear g1
                by_cases n8 : b5.length + b3.length < 8796093022208
                ·rw [if_pos n8] at H
                 have s3 := Aside0.mk n8
                 clear n8
                 obtain ⟨r7, f9⟩ : ∃ y_ : List ByteArray, y_ = (b5 ++ b3) := ⟨_, rfl⟩
                 replace H : (Pr02a.l0 k3 l0 l1 r7 (wrap64 (a4 + 1))) = some r := by first | (rw [f9]; with_reducible exact H) | (have a3 := (Option.bind_some _ _).symm.trans H; rw [f9]; with_reducible exact a3) | (have a3 := (Option.bind_some _ _).symm.trans H; with_reducible exact a3) | with_reducible exact H | (rw [f9]; exact H) | exact H
                 have t7 := Aside0.mk f9
                 clear f9
                 have H' := Aside0.mk H
                 clear H
                 have f1 : 0 ≤ (a1 : Int) := of_decide_eq_true (by first | (with_reducible assumption) | assumption)
                 have f5 : a1 < (a2.length : Int) := of_decide_eq_true (by first | (with_reducible assumption) | assumption)
                 obtain ⟨b8, m5, q3⟩ := Kd.at_string (Kd.R_reads' a0.out).2.2 a1 f1 f5
                 cases m5
                 replace f1 := eq_true f1
                 replace f5 := eq_true f5
                 go_wp2_with (first | ((with_reducible refine gate_dst (N := 53) rfl ?_); refine Kd.R_lit Kd.string _ 9 ?hg (N := 53) ?hd (xs := ([] : List ByteArray)) (inner := []) (ok := fun _ => True) (okp := fun _ => True) ?hr ?hp (fun _ hk => hk) trivial (Below.refl _ _) (Nat.le_refl _) (by simp) ?_; (case hd => rfl); (case hg => rfl); (case hr => first | (go_simp; done) | (go_simp; rfl)); (case hp => exact (Reps.none _ _)); intro v3 A6 h7 hb hg_ hnew_; clear hg_ hnew_; (first | rw [← n6.out] at h7 | (simp only [Int.reduceToNat] at h7; rw [← n6.out] at h7)); have a7 := Aside0.mk (Kd.R_elder' (by (with_reducible repeat (first | apply Kd.R_alloc | apply Kd.R_drewN | apply Kd.R_drew)); exact a0.out) (Kd.R_base h7) hb); have a8 := Aside0.mk (Kd.R_lower (Kd.R_new' h7 (Kd.R_lt (by (with_reducible repeat (first | apply Kd.R_alloc | apply Kd.R_drewN | apply Kd.R_drew)); exact a0.out))) (below_size (by repeat (first | (with_reducible first | exact HB.out | apply below_alloc | apply pw_below_drewN | apply below_drew1) | exact HB.out)))); have a9 := Aside0.mk (below_step (by repeat (first | (with_reducible first | exact HB.out | apply below_alloc | apply pw_below_drewN | apply below_drew1) | exact HB.out)) hb); clear a0; clear HB; have a0 := a7; have n9 := a8; have HB := a9; clear a7 a8 a9; clear hb h7; have q9 : (a1 : Int) ≤ ((a2.length : Int) : Int) := of_decide_eq_true (by first | (with_reducible assumption) | assumption); obtain ⟨z4, p4, _, q0, _⟩ := info_parts info9; have h6 : a2.length ≤ a5 := (Kd.R_reads' a0.out).2.1; have r4 : Kd.C Kd.string _ (some b8) a2.length a2 := (Kd.R_reads' a0.out).2.2; have x1 : (0 : Int) ≤ (a1 : Int) := of_decide_eq_true (by first | (with_reducible assumption) | assumption); have q7 := cut_from (P := Try.prog) 22 9 .i64 Try.underlying22 p4 1 q0 (some b8) a2.length a5 a1 x1 q9; have i7 := Kd.C_drop (m := (a1 : Int).toNat) (c := a5) r4 (by omega) h6; obtain ⟨m1, k7⟩ : ∃ A1, A1 = (if a5 = (a1 : Int).toNat then (some b8) else ((some b8) : Option Addr).map (·.add ((a1 : Int).toNat * 1))) := ⟨_, rfl⟩; obtain ⟨x6, m3⟩ : ∃ c1, c1 = a5 - (a1 : Int).toNat := ⟨_, rfl⟩; have l5 : d1.length = a2.length - (a1 : Int).toNat := (by rw [e8.out, List.length_drop] <;> omega); rw [show (a2).drop (a1 : Int).toNat = d1 from e8.out.symm] at i7; replace i7 : Kd.C Kd.string _ m1 d1.length d1 := (by rw [k7]; exact i7); rw [← l5, ← k7, ← m3] at q7; have d5 := Aside0.mk i7; have y7 := Aside0.mk (show d1.length ≤ x6 from by rw [l5, m3]; exact Nat.sub_le_sub_right h6 _); clear i7 r4 h6 p4 q0 m3; have z3 := Aside0.mk l5; have k5 := Aside0.mk k7; clear l5 k7; have k6 := Aside0.mk (show (a1 : Int).toNat ≤ a2.length from by omega); replace q9 := eq_true q9) | ((with_reducible refine gate_builtin (b := .append) (xs := #[.tmp 53, .tmp 56]) rfl ?_); at_builtin; refine Kd.R_append_rows Kd.string (w0 := w) w.heap.size rfl (.tmp 53) (.tmp 56) 22 9 (.string ⟨#[]⟩) 16 rfl Try.underlying22 info9 rfl (by decide) (by omega) v3 f2 d1 _ _ _ (fun k_ => some k_ ≠ (.slice (some b8) a2.length a5 : Value).ownBlock) (fun _ => False) rfl rfl ?aO ?aR (fun _ _ h => h) (fun _ h => h.elim) ?aF ?aB ?aS ?aL ?_; (case aR => repeat (first | exact (by repeat (first | (with_reducible exact d5.out) | (with_reducible refine Kd.C_alloc ?_ _) | (with_reducible refine Kd.C_drewN ?_ _) | (with_reducible refine Kd.C_drew ?_) | exact d5.out)) | (with_reducible refine Kd.C_alloc ?_ _) | (with_reducible refine Kd.C_drewN ?_ _) | (with_reducible refine Kd.C_drew ?_))); (case aB => exact (by repeat (first | (with_reducible first | exact HB.out | apply below_alloc | apply pw_below_drewN | apply below_drew1) | exact HB.out))); (case aF => exact (fun k_ hk => Kd.fresh' (Kd.R_lt (by (with_reducible repeat (first | apply Kd.R_alloc | apply Kd.R_drewN | apply Kd.R_drew)); exact a0.out)) k_ hk)); (case aO => exact (by (with_reducible repeat (first | apply Kd.R_alloc | apply Kd.R_drewN | apply Kd.R_drew)); exact Kd.R_mono n9.out (fun _ hk => hk.2))); (case aS => exact (below_size (by repeat (first | (with_reducible first | exact HB.out | apply below_alloc | apply pw_below_drewN | apply below_drew1) | exact HB.out)))); (case aL => have := s1.out; omega); intro e3 x7 ho hb hg hat; rw [← t8.out] at ho; have a7 := Aside0.mk (Kd.R_after (ok := (fun _ => True)) (by (with_reducible repeat (first | apply Kd.R_alloc | apply Kd.R_drewN | apply Kd.R_drew)); exact a0.out) hg hat); have a8 := Aside0.mk (hb); have a9 := Aside0.mk ((show Kd.C Kd.string x7 m1 d1.length d1 from by rw [e8.out, k5.out]; exact Kd.C_drop (m := (a1 : Int).toNat) (c := a5) ((Kd.R_reads' (Kd.R_after (ok := (fun _ => True)) (by (with_reducible repeat (first | apply Kd.R_alloc | apply Kd.R_drewN | apply Kd.R_drew)); exact a0.out) hg hat)).2.2) k6.out ((Kd.R_reads' (Kd.R_after (ok := (fun _ => True)) (by (with_reducible repeat (first | apply Kd.R_alloc | apply Kd.R_drewN | apply Kd.R_drew)); exact a0.out) hg hat)).2.1))); have b9 := Aside0.mk (ho); clear a0; clear HB; clear d5; clear n9; have a0 := a7; have HB := a8; have d5 := a9; have b7 := b9; clear a7 a8 a9 b9; clear ho hb hg hat) | ((with_reducible refine gate_dst (N := 58) rfl ?_); refine Kd.R_lit Kd.string _ 9 ?hg (N := 58) ?hd (xs := ([] : List ByteArray)) (inner := []) (ok := fun _ => True) (okp := fun _ => True) ?hr ?hp (fun _ hk => hk) trivial (Below.refl _ _) (Nat.le_refl _) (by simp) ?_; (case hd => rfl); (case hg => rfl); (case hr => first | (go_simp; done) | (go_simp; rfl)); (case hp => exact (Reps.none _ _)); intro x4 A4 f6 hb hg_ hnew_; clear hg_ hnew_; (first | rw [← o0.out] at f6 | (simp only [Int.reduceToNat] at f6; rw [← o0.out] at f6)); have a7 := Aside0.mk (Kd.R_elder' (by (with_reducible repeat (first | apply Kd.R_alloc | apply Kd.R_drewN | apply Kd.R_drew)); exact a0.out) (Kd.R_base f6) hb); have a8 := Aside0.mk (Kd.R_elder' (by (with_reducible repeat (first | apply Kd.R_alloc | apply Kd.R_drewN | apply Kd.R_drew)); exact b7.out) (Kd.R_base f6) hb); have a9 := Aside0.mk (Kd.R_lower (Kd.R_new' (Kd.R_new' f6 (Kd.R_lt (by (with_reducible repeat (first | apply Kd.R_alloc | apply Kd.R_drewN | apply Kd.R_drew)); exact a0.out))) (Kd.R_lt (by (with_reducible repeat (first | apply Kd.R_alloc | apply Kd.R_drewN | apply Kd.R_drew)); exact b7.out))) (below_size (by repeat (first | (with_reducible first | exact HB.out | apply below_alloc | apply pw_below_drewN | apply below_drew1) | exact HB.out)))); have b9 := Aside0.mk (Kd.C_below (by repeat (first | (with_reducible exact d5.out) | (with_reducible refine Kd.C_alloc ?_ _) | (with_reducible refine Kd.C_drewN ?_ _) | (with_reducible refine Kd.C_drew ?_) | exact d5.out)) hb); have d7 := Aside0.mk (below_step (by repeat (first | (with_reducible first | exact HB.out | apply below_alloc | apply pw_below_drewN | apply below_drew1) | exact HB.out)) hb); clear a0; clear b7; clear d5; clear HB; have a0 := a7; have b7 := a8; have p8 := a9; have d5 := b9; have HB := d7; clear a7 a8 a9 b9 d7; clear hb f6; have r5 : (a1 : Int) ≤ ((a2.length : Int) : Int) := of_decide_eq_true (by first | (with_reducible assumption) | assumption); obtain ⟨z6, o7, _, s6, _⟩ := info_parts info9; have k2 : a2.length ≤ a5 := (Kd.R_reads' a0.out).2.1; have r0 : Kd.C Kd.string _ (some b8) a2.length a2 := (Kd.R_reads' a0.out).2.2; have q6 := cut_to (P := Try.prog) 22 9 .i64 Try.underlying22 o7 (some b8) a2.length a5 a1 (of_decide_eq_true (by first | (with_reducible assumption) | assumption)) r5 k2; have m8 := Kd.C_take (m := (a1 : Int).toNat) r0 (by omega); have m4 : b1.length = (a1 : Int).toNat := (by rw [h0.out, List.length_take]; omega); rw [← h0.out] at m8; rw [← m4] at q6; have e1 := Aside0.mk m8; have y8 := Aside0.mk (show b1.length ≤ a5 from by omega); clear m8 r0 k2 o7 s6; have z2 := Aside0.mk m4; clear m4; have m7 := Aside0.mk (show (a1 : Int).toNat ≤ a2.length from by omega); replace r5 := eq_true r5) | ((with_reducible refine gate_builtin (b := .append) (xs := #[.tmp 58, .tmp 61]) rfl ?_); at_builtin; refine Kd.R_append_rows Kd.string (w0 := w) w.heap.size rfl (.tmp 58) (.tmp 61) 22 9 (.string ⟨#[]⟩) 16 rfl Try.underlying22 info9 rfl (by decide) (by omega) x4 d9 b1 _ _ _ (fun k_ => some k_ ≠ (.slice (some b8) a2.length a5 : Value).ownBlock ∧ some k_ ≠ (e3 : Value).ownBlock) (fun _ => False) rfl rfl ?aO ?aR (fun _ _ h => h) (fun _ h => h.elim) ?aF ?aB ?aS ?aL ?_; (case aR => repeat (first | exact (by repeat (first | (with_reducible exact e1.out) | (with_reducible refine Kd.C_alloc ?_ _) | (with_reducible refine Kd.C_drewN ?_ _) | (with_reducible refine Kd.C_drew ?_) | exact e1.out)) | (with_reducible refine Kd.C_alloc ?_ _) | (with_reducible refine Kd.C_drewN ?_ _) | (with_reducible refine Kd.C_drew ?_))); (case aB => exact (by repeat (first | (with_reducible first | exact HB.out | apply below_alloc | apply pw_below_drewN | apply below_drew1) | exact HB.out))); (case aF => exact (fun k_ hk => ⟨Kd.fresh' (Kd.R_lt (by (with_reducible repeat (first | apply Kd.R_alloc | apply Kd.R_drewN | apply Kd.R_drew)); exact a0.out)) k_ hk, Kd.fresh' (Kd.R_lt (by (with_reducible repeat (first | apply Kd.R_alloc | apply Kd.R_drewN | apply Kd.R_drew)); exact b7.out)) k_ hk⟩)); (case aO => exact (by (with_reducible repeat (first | apply Kd.R_alloc | apply Kd.R_drewN | apply Kd.R_drew)); exact Kd.R_mono p8.out (fun _ hk => ⟨hk.1.2, hk.2⟩))); (case aS => exact (below_size (by repeat (first | (with_reducible first | exact HB.out | apply below_alloc | apply pw_below_drewN | apply below_drew1) | exact HB.out)))); (case aL => have := s2.out; omega); intro v4 u9 ho hb hg hat; rw [← t4.out] at ho; have a7 := Aside0.mk (Kd.R_after (ok := (fun k_ => some k_ ≠ (e3 : Value).ownBlock)) (by (with_reducible repeat (first | apply Kd.R_alloc | apply Kd.R_drewN | apply Kd.R_drew)); exact Kd.R_mono a0.out (fun _ hk => ⟨hk.1.2, hk.2⟩)) hg hat); have a8 := Aside0.mk (Kd.R_after (ok := (fun k_ => some k_ ≠ (.slice (some b8) a2.length a5 : Value).ownBlock)) (by (with_reducible repeat (first | apply Kd.R_alloc | apply Kd.R_drewN | apply Kd.R_drew)); exact b7.out) hg hat); have a9 := Aside0.mk (hb); have b9 := Aside0.mk ((show Kd.C Kd.string u9 m1 d1.length d1 from by rw [e8.out, k5.out]; exact Kd.C_drop (m := (a1 : Int).toNat) (c := a5) ((Kd.R_reads' (Kd.R_after (ok := (fun k_ => some k_ ≠ (e3 : Value).ownBlock)) (by (with_reducible repeat (first | apply Kd.R_alloc | apply Kd.R_drewN | apply Kd.R_drew)); exact Kd.R_mono a0.out (fun _ hk => ⟨hk.1.2, hk.2⟩)) hg hat)).2.2) k6.out ((Kd.R_reads' (Kd.R_after (ok := (fun k_ => some k_ ≠ (e3 : Value).ownBlock)) (by (with_reducible repeat (first | apply Kd.R_alloc | apply Kd.R_drewN | apply Kd.R_drew)); exact Kd.R_mono a0.out (fun _ hk => ⟨hk.1.2, hk.2⟩)) hg hat)).2.1))); have d7 := Aside0.mk ((show Kd.C Kd.string u9 (some b8) b1.length b1 from by rw [h0.out]; exact Kd.C_take (m := (a1 : Int).toNat) ((Kd.R_reads' (Kd.R_after (ok := (fun k_ => some k_ ≠ (e3 : Value).ownBlock)) (by (with_reducible repeat (first | apply Kd.R_alloc | apply Kd.R_drewN | apply Kd.R_drew)); exact Kd.R_mono a0.out (fun _ hk => ⟨hk.1.2, hk.2⟩)) hg hat)).2.2) m7.out)); have e0 := Aside0.mk (ho); clear a0; clear b7; clear HB; clear d5; clear e1; clear p8; have a0 := a7; have b7 := a8; have HB := a9; have d5 := b9; have e1 := d7; have o5 := e0; clear a7 a8 a9 b9 d7 e0; clear ho hb hg hat) | ((with_reducible refine gate_builtin (b := .append) (xs := #[.tmp 62, .tmp 64]) rfl ?_); at_builtin; refine Kd.R_append Kd.string (w0 := w) w.heap.size rfl (.tmp 62) (.tmp 64) 22 9 (.string ⟨#[]⟩) 16 rfl Try.underlying22 info9 rfl (by decide) (by omega) v4 d3 a6 [.string a6] (fun k_ => some k_ ≠ (.slice (some b8) a2.length a5 : Value).ownBlock ∧ some k_ ≠ (e3 : Value).ownBlock) (fun _ => False) rfl rfl ?aP (fun _ hk => hk.elim) ?aF ?aO ?aB ?aS ?aL ?_; (case aP => exact rfl); (case aB => exact (by repeat (first | (with_reducible first | exact HB.out | apply below_alloc | apply pw_below_drewN | apply below_drew1) | exact HB.out))); (case aF => exact (fun k_ hk => ⟨Kd.fresh' (Kd.R_lt (by (with_reducible repeat (first | apply Kd.R_alloc | apply Kd.R_drewN | apply Kd.R_drew)); exact a0.out)) k_ hk, Kd.fresh' (Kd.R_lt (by (with_reducible repeat (first | apply Kd.R_alloc | apply Kd.R_drewN | apply Kd.R_drew)); exact b7.out)) k_ hk⟩)); (case aO => exact (by (with_reducible repeat (first | apply Kd.R_alloc | apply Kd.R_drewN | apply Kd.R_drew)); exact o5.out)); (case aS => exact (below_size (by repeat (first | (with_reducible first | exact HB.out | apply below_alloc | apply pw_below_drewN | apply below_drew1) | exact HB.out)))); (case aL => have := t2.out; omega); intro x5 u8 ho hb hg hat; rw [← u3.out] at ho; have a7 := Aside0.mk (Kd.R_after (ok := (fun k_ => some k_ ≠ (e3 : Value).ownBlock)) (by (with_reducible repeat (first | apply Kd.R_alloc | apply Kd.R_drewN | apply Kd.R_drew)); exact a0.out) hg hat); have a8 := Aside0.mk (Kd.R_after (ok := (fun k_ => some k_ ≠ (.slice (some b8) a2.length a5 : Value).ownBlock)) (by (with_reducible repeat (first | apply Kd.R_alloc | apply Kd.R_drewN | apply Kd.R_drew)); exact b7.out) hg hat); have a9 := Aside0.mk (hb); have b9 := Aside0.mk ((show Kd.C Kd.string u8 m1 d1.length d1 from by rw [e8.out, k5.out]; exact Kd.C_drop (m := (a1 : Int).toNat) (c := a5) ((Kd.R_reads' (Kd.R_after (ok := (fun k_ => some k_ ≠ (e3 : Value).ownBlock)) (by (with_reducible repeat (first | apply Kd.R_alloc | apply Kd.R_drewN | apply Kd.R_drew)); exact a0.out) hg hat)).2.2) k6.out ((Kd.R_reads' (Kd.R_after (ok := (fun k_ => some k_ ≠ (e3 : Value).ownBlock)) (by (with_reducible repeat (first | apply Kd.R_alloc | apply Kd.R_drewN | apply Kd.R_drew)); exact a0.out) hg hat)).2.1))); have d7 := Aside0.mk ((show Kd.C Kd.string u8 (some b8) b1.length b1 from by rw [h0.out]; exact Kd.C_take (m := (a1 : Int).toNat) ((Kd.R_reads' (Kd.R_after (ok := (fun k_ => some k_ ≠ (e3 : Value).ownBlock)) (by (with_reducible repeat (first | apply Kd.R_alloc | apply Kd.R_drewN | apply Kd.R_drew)); exact a0.out) hg hat)).2.2) m7.out)); have e0 := Aside0.mk (ho); clear a0; clear b7; clear HB; clear d5; clear e1; clear o5; have a0 := a7; have b7 := a8; have HB := a9; have d5 := b9; have e1 := d7; have o8 := e0; clear a7 a8 a9 b9 d7 e0; clear ho hb hg hat; obtain ⟨i8, j3, w8⟩ := Kd.R_slice b7.out; subst w8) | ((with_reducible refine gate_builtin (b := .append) (xs := #[.tmp 65, .tmp 66]) rfl ?_); at_builtin; refine Kd.R_append_rows Kd.string (w0 := w) w.heap.size rfl (.tmp 65) (.tmp 66) 22 9 (.string ⟨#[]⟩) 16 rfl Try.underlying22 info9 rfl (by decide) (by omega) x5 b5 b3 _ _ _ (fun k_ => some k_ ≠ (.slice (some b8) a2.length a5 : Value).ownBlock ∧ some k_ ≠ (.slice i8 b3.length j3 : Value).ownBlock) (fun _ => False) rfl rfl ?aO ?aR (fun _ _ h => h) (fun _ h => h.elim) ?aF ?aB ?aS ?aL ?_; (case aR => repeat (first | exact (Kd.R_reads' b7.out).2.2 | (with_reducible refine Kd.C_alloc ?_ _) | (with_reducible refine Kd.C_drewN ?_ _) | (with_reducible refine Kd.C_drew ?_))); (case aB => exact (by repeat (first | (with_reducible first | exact HB.out | apply below_alloc | apply pw_below_drewN | apply below_drew1) | exact HB.out))); (case aF => exact (fun k_ hk => ⟨Kd.fresh' (Kd.R_lt (by (with_reducible repeat (first | apply Kd.R_alloc | apply Kd.R_drewN | apply Kd.R_drew)); exact a0.out)) k_ hk, Kd.fresh' (Kd.R_lt (by (with_reducible repeat (first | apply Kd.R_alloc | apply Kd.R_drewN | apply Kd.R_drew)); exact b7.out)) k_ hk⟩)); (case aO => exact (by (with_reducible repeat (first | apply Kd.R_alloc | apply Kd.R_drewN | apply Kd.R_drew)); exact o8.out)); (case aS => exact (below_size (by repeat (first | (with_reducible first | exact HB.out | apply below_alloc | apply pw_below_drewN | apply below_drew1) | exact HB.out)))); (case aL => have := s3.out; omega); intro z1 u4 ho hb hg hat; rw [← t7.out] at ho; have a7 := Aside0.mk (Kd.R_after (ok := (fun k_ => some k_ ≠ (.slice i8 b3.length j3 : Value).ownBlock)) (by (with_reducible repeat (first | apply Kd.R_alloc | apply Kd.R_drewN | apply Kd.R_drew)); exact a0.out) hg hat); have a8 := Aside0.mk (Kd.R_after (ok := (fun k_ => some k_ ≠ (.slice (some b8) a2.length a5 : Value).ownBlock)) (by (with_reducible repeat (first | apply Kd.R_alloc | apply Kd.R_drewN | apply Kd.R_drew)); exact b7.out) hg hat); have a9 := Aside0.mk (hb); have b9 := Aside0.mk ((show Kd.C Kd.string u4 m1 d1.length d1 from by rw [e8.out, k5.out]; exact Kd.C_drop (m := (a1 : Int).toNat) (c := a5) ((Kd.R_reads' (Kd.R_after (ok := (fun k_ => some k_ ≠ (.slice i8 b3.length j3 : Value).ownBlock)) (by (with_reducible repeat (first | apply Kd.R_alloc | apply Kd.R_drewN | apply Kd.R_drew)); exact a0.out) hg hat)).2.2) k6.out ((Kd.R_reads' (Kd.R_after (ok := (fun k_ => some k_ ≠ (.slice i8 b3.length j3 : Value).ownBlock)) (by (with_reducible repeat (first | apply Kd.R_alloc | apply Kd.R_drewN | apply Kd.R_drew)); exact a0.out) hg hat)).2.1))); have d7 := Aside0.mk ((show Kd.C Kd.string u4 (some b8) b1.length b1 from by rw [h0.out]; exact Kd.C_take (m := (a1 : Int).toNat) ((Kd.R_reads' (Kd.R_after (ok := (fun k_ => some k_ ≠ (.slice i8 b3.length j3 : Value).ownBlock)) (by (with_reducible repeat (first | apply Kd.R_alloc | apply Kd.R_drewN | apply Kd.R_drew)); exact a0.out) hg hat)).2.2) m7.out)); have e0 := Aside0.mk (ho); clear a0; clear b7; clear HB; clear d5; clear e1; clear o8; have a0 := a7; have b7 := a8; have HB := a9; have d5 := b9; have e1 := d7; have t5 := e0; clear a7 a8 a9 b9 d7 e0; clear ho hb hg hat))
                 go_roundg k3
                 case measure => have := f0.out; have := i1.out; have := j7.out; omega
                 case rel => exact ⟨(r7), (wrap64 (a4 + 1)), (by first | rfl | (simp; done) | (simp [*]; done)), H', ⟨by have := f0.out; have := i1.out; have := j7.out; omega⟩, ⟨by (with_reducible repeat (first | apply Kd.R_alloc | apply Kd.R_drewN | apply Kd.R_drew)); exact Kd.R_mono t5.out (fun _ hk => trivial)⟩, ⟨by repeat (first | (with_reducible first | exact HB.out | apply below_alloc | apply pw_below_drewN | apply below_drew1) | exact HB.out)⟩⟩
                ·rw [if_neg n8] at H
                 exact absurd H (by simp)
               ·rw [if_neg n4] at H
                exact absurd H (by simp)
              ·rw [if_neg o4] at H
               exact absurd H (by simp)
             ·rw [if_neg n2] at H
              exact absurd H (by simp)
            ·rw [if_neg l7] at H
             exact absurd H (by simp)
          ·rw [if_neg p7] at H
           exact absurd H (by simp)
         ·rw [if_neg k4] at H
          have c16b0 : decide (a1 < (a2.length : Int)) = false := decide_eq_false k4
          clear k4
          obtain ⟨f3, g3⟩ : ∃ y_ : List ByteArray, y_ = (([] : List ByteArray)) := ⟨_, rfl⟩
          replace H : (if 0 ≤ a1 then (if a1 ≤ (a2.length : Int) then ((some (a2.drop (a1 : Int).toNat : List ByteArray)).bind fun d0 => (if f3.length + d0.length < 8796093022208 then ((some (f3 ++ d0 : List ByteArray)).bind fun b2 => ((some (([] : List ByteArray) : List ByteArray)).bind fun d8 => ((some (a2.take (a1 : Int).toNat : List ByteArray)).bind fun b0 => (if d8.length + b0.length < 8796093022208 then ((some (d8 ++ b0 : List ByteArray)).bind fun d2 => (if d2.length < 8796093022208 then ((some (d2 ++ [a6] : List ByteArray)).bind fun b4 => (if b4.length + b2.length < 8796093022208 then (Pr02a.l0 k3 l0 l1 (b4 ++ b2) (wrap64 (a4 + 1))) else (none))) else (none))) else (none))))) else (none))) else (none)) else (none)) = some r := by first | (rw [g3]; with_reducible exact H) | (have a3 := (Option.bind_some _ _).symm.trans H; rw [g3]; with_reducible exact a3) | (have a3 := (Option.bind_some _ _).symm.trans H; with_reducible exact a3) | with_reducible exact H | (rw [g3]; exact H) | exact H
          have p5 := Aside0.mk g3
          clear g3
          by_cases l8 : 0 ≤ a1
          ·rw [if_pos l8] at H
           have c38b0 := eq_true l8
           have c38b1 : decide (0 ≤ a1) = true := decide_eq_true l8
           clear l8
           by_cases l9 : a1 ≤ (a2.length : Int)
           ·rw [if_pos l9] at H
            have c39b0 := eq_true l9
            have c39b1 : decide (a1 ≤ (a2.length : Int)) = true := decide_eq_true l9
            clear l9
            obtain ⟨d0, g2⟩ : ∃ y_ : List ByteArray, y_ = (a2.drop (a1 : Int).toNat) := ⟨_, rfl⟩
            replace H : (if f3.length + d0.length < 8796093022208 then ((some (f3 ++ d0 : List ByteArray)).bind fun b2 => ((some (([] : List ByteArray) : List ByteArray)).bind fun d8 => ((some (a2.take (a1 : Int).toNat : List ByteArray)).bind fun b0 => (if d8.length + b0.length < 8796093022208 then ((some (d8 ++ b0 : List ByteArray)).bind fun d2 => (if d2.length < 8796093022208 then ((some (d2 ++ [a6] : List ByteArray)).bind fun b4 => (if b4.length + b2.length < 8796093022208 then (Pr02a.l0 k3 l0 l1 (b4 ++ b2) (wrap64 (a4 + 1))) else (none))) else (none))) else (none))))) else (none)) = some r := by first | (rw [g2]; with_reducible exact H) | (have a3 := (Option.bind_some _ _).symm.trans H; rw [g2]; with_reducible exact a3) | (have a3 := (Option.bind_some _ _).symm.trans H; with_reducible exact a3) | with_reducible exact H | (rw [g2]; exact H) | exact H
            have e9 := Aside0.mk g2
            clear g2
            by_cases o6 : f3.length + d0.length < 8796093022208
            ·rw [if_pos o6] at H
             have t1 := Aside0.mk o6
             clear o6
             obtain ⟨b2, g8⟩ : ∃ y_ : List ByteArray, y_ = (f3 ++ d0) := ⟨_, rfl⟩
             replace H : ((some (([] : List ByteArray) : List ByteArray)).bind fun d8 => ((some (a2.take (a1 : Int).toNat : List ByteArray)).bind fun b0 => (if d8.length + b0.length < 8796093022208 then ((some (d8 ++ b0 : List ByteArray)).bind fun d2 => (if d2.length < 8796093022208 then ((some (d2 ++ [a6] : List ByteArray)).bind fun b4 => (if b4.length + b2.length < 8796093022208 then (Pr02a.l0 k3 l0 l1 (b4 ++ b2) (wrap64 (a4 + 1))) else (none))) else (none))) else (none)))) = some r := by first | (rw [g8]; with_reducible exact H) | (have a3 := (Option.bind_some _ _).symm.trans H; rw [g8]; with_reducible exact a3) | (have a3 := (Option.bind_some _ _).symm.trans H; with_reducible exact a3) | with_reducible exact H | (rw [g8]; exact H) | exact H
             have s7 := Aside0.mk g8
             clear g8
             obtain ⟨d8, g9⟩ : ∃ y_ : List ByteArray, y_ = (([] : List ByteArray)) := ⟨_, rfl⟩
             replace H : ((some (a2.take (a1 : Int).toNat : List ByteArray)).bind fun b0 => (if d8.length + b0.length < 8796093022208 then ((some (d8 ++ b0 : List ByteArray)).bind fun d2 => (if d2.length < 8796093022208 then ((some (d2 ++ [a6] : List ByteArray)).bind fun b4 => (if b4.length + b2.length < 8796093022208 then (Pr02a.l0 k3 l0 l1 (b4 ++ b2) (wrap64 (a4 + 1))) else (none))) else (none))) else (none))) = some r := by first | (rw [g9]; with_reducible exact H) | (have a3 := (Option.bind_some _ _).symm.trans H; rw [g9]; with_reducible exact a3) | (have a3 := (Option.bind_some _ _).symm.trans H; with_reducible exact a3) | with_reducible exact H | (rw [g9]; exact H) | exact H
             have n1 := Aside0.mk g9
             clear g9
             have c41b0 := eq_true (of_decide_eq_true (by first | (with_reducible assumption) | assumption) : 0 ≤ a1)
             have c42b0 := eq_true (of_decide_eq_true (by first | (with_reducible assumption) | assumption) : a1 ≤ (a2.length : Int))
             obtain ⟨b0, h3⟩ : ∃ y_ : List ByteArray, y_ = (a2.take (a1 : Int).toNat) := ⟨_, rfl⟩
             replace H : (if d8.length + b0.length < 8796093022208 then ((some (d8 ++ b0 : List ByteArray)).bind fun d2 => (if d2.length < 8796093022208 then ((some (d2 ++ [a6] : List ByteArray)).bind fun b4 => (if b4.length + b2.length < 8796093022208 then (Pr02a.l0 k3 l0 l1 (b4 ++ b2) (wrap64 (a4 + 1))) else (none))) else (none))) else (none)) = some r := by first | (rw [h3]; with_reducible exact H) | (have a3 := (Option.bind_some _ _).symm.trans H; rw [h3]; with_reducible exact a3) | (have a3 := (Option.bind_some _ _).symm.trans H; with_reducible exact a3) | with_reducible exact H | (rw [h3]; exact H) | exact H
             have h1 := Aside0.mk h3
             clear h3
             by_cases p9 : d8.length + b0.length < 8796093022208
             ·rw [if_pos p9] at H
              have t6 := Aside0.mk p9
              clear p9
              obtain ⟨d2, g0⟩ : ∃ y_ : List ByteArray, y_ = (d8 ++ b0) := ⟨_, rfl⟩
              replace H : (if d2.length < 8796093022208 then ((some (d2 ++ [a6] : List ByteArray)).bind fun b4 => (if b4.length + b2.length < 8796093022208 then (Pr02a.l0 k3 l0 l1 (b4 ++ b2) (wrap64 (a4 + 1))) else (none))) else (none)) = some r := by first | (rw [g0]; with_reducible exact H) | (have a3 := (Option.bind_some _ _).symm.trans H; rw [g0]; with_reducible exact a3) | (have a3 := (Option.bind_some _ _).symm.trans H; with_reducible exact a3) | with_reducible exact H | (rw [g0]; exact H) | exact H
              have u1 := Aside0.mk g0
              clear g0
              by_cases o3 : d2.length < 8796093022208
              ·rw [if_pos o3] at H
               have s9 := Aside0.mk o3
               clear o3
               obtain ⟨b4, g4⟩ : ∃ y_ : List ByteArray, y_ = (d2 ++ [a6]) := ⟨_, rfl⟩
               replace H : (if b4.length + b2.length < 8796093022208 then (Pr02a.l0 k3 l0 l1 (b4 ++ b2) (wrap64 (a4 + 1))) else (none)) = some r := by first | (rw [g4]; with_reducible exact H) | (have a3 := (Option.bind_some _ _).symm.trans H; rw [g4]; with_reducible exact a3) | (have a3 := (Option.bind_some _ _).symm.trans H; with_reducible exact a3) | with_reducible exact H | (rw [g4]; exact H) | exact H
               have t0 := Aside0.mk g4
               clear g4
               by_cases o9 : b4.length + b2.length < 8796093022208
               ·rw [if_pos o9] at H
                have u2 := Aside0.mk o9
                clear o9
                obtain ⟨r3, g6⟩ : ∃ y_ : List ByteArray, y_ = (b4 ++ b2) := ⟨_, rfl⟩
                replace H : (Pr02a.l0 k3 l0 l1 r3 (wrap64 (a4 + 1))) = some r := by first | (rw [g6]; with_reducible exact H) | (have a3 := (Option.bind_some _ _).symm.trans H; rw [g6]; with_reducible exact a3) | (have a3 := (Option.bind_some _ _).symm.trans H; with_reducible exact a3) | with_reducible exact H | (rw [g6]; exact H) | exact H
                have t9 := Aside0.mk g6
                clear g6
                have H' := Aside0.mk H
                clear H
                go_wp2_with (first | ((with_reducible refine gate_dst (N := 53) rfl ?_); refine Kd.R_lit Kd.string _ 9 ?hg (N := 53) ?hd (xs := ([] : List ByteArray)) (inner := []) (ok := fun _ => True) (okp := fun _ => True) ?hr ?hp (fun _ hk => hk) trivial (Below.refl _ _) (Nat.le_refl _) (by simp) ?_; (case hd => rfl); (case hg => rfl); (case hr => first | (go_simp; done) | (go_simp; rfl)); (case hp => exact (Reps.none _ _)); intro x0 A2 i0 hb hg_ hnew_; clear hg_ hnew_; (first | rw [← p5.out] at i0 | (simp only [Int.reduceToNat] at i0; rw [← p5.out] at i0)); have a7 := Aside0.mk (Kd.R_elder' (by (with_reducible repeat (first | apply Kd.R_alloc | apply Kd.R_drewN | apply Kd.R_drew)); exact a0.out) (Kd.R_base i0) hb); have a8 := Aside0.mk (Kd.R_lower (Kd.R_new' i0 (Kd.R_lt (by (with_reducible repeat (first | apply Kd.R_alloc | apply Kd.R_drewN | apply Kd.R_drew)); exact a0.out))) (below_size (by repeat (first | (with_reducible first | exact HB.out | apply below_alloc | apply pw_below_drewN | apply below_drew1) | exact HB.out)))); have a9 := Aside0.mk (below_step (by repeat (first | (with_reducible first | exact HB.out | apply below_alloc | apply pw_below_drewN | apply below_drew1) | exact HB.out)) hb); clear a0; clear HB; have a0 := a7; have n5 := a8; have HB := a9; clear a7 a8 a9; clear hb i0; have s0 : (a1 : Int) ≤ ((a2.length : Int) : Int) := of_decide_eq_true (by first | (with_reducible assumption) | assumption); obtain ⟨z0, q2, _, o1, _⟩ := info_parts info9; have h9 : a2.length ≤ a5 := (Kd.R_reads' a0.out).2.1; have r9 : Kd.C Kd.string _ d4 a2.length a2 := (Kd.R_reads' a0.out).2.2; have w7 : (0 : Int) ≤ (a1 : Int) := of_decide_eq_true (by first | (with_reducible assumption) | assumption); have q4 := cut_from (P := Try.prog) 22 9 .i64 Try.underlying22 q2 1 o1 d4 a2.length a5 a1 w7 s0; have i3 := Kd.C_drop (m := (a1 : Int).toNat) (c := a5) r9 (by omega) h9; obtain ⟨l6, l3⟩ : ∃ A1, A1 = (if a5 = (a1 : Int).toNat then d4 else (d4 : Option Addr).map (·.add ((a1 : Int).toNat * 1))) := ⟨_, rfl⟩; obtain ⟨x9, m6⟩ : ∃ c1, c1 = a5 - (a1 : Int).toNat := ⟨_, rfl⟩; have k9 : d0.length = a2.length - (a1 : Int).toNat := (by rw [e9.out, List.length_drop] <;> omega); rw [show (a2).drop (a1 : Int).toNat = d0 from e9.out.symm] at i3; replace i3 : Kd.C Kd.string _ l6 d0.length d0 := (by rw [l3]; exact i3); rw [← k9, ← l3, ← m6] at q4; have d6 := Aside0.mk i3; have y4 := Aside0.mk (show d0.length ≤ x9 from by rw [k9, m6]; exact Nat.sub_le_sub_right h9 _); clear i3 r9 h9 q2 o1 m6; have z5 := Aside0.mk k9; have l4 := Aside0.mk l3; clear k9 l3; have k8 := Aside0.mk (show (a1 : Int).toNat ≤ a2.length from by omega); replace s0 := eq_true s0) | ((with_reducible refine gate_builtin (b := .append) (xs := #[.tmp 53, .tmp 56]) rfl ?_); at_builtin; refine Kd.R_append_rows Kd.string (w0 := w) w.heap.size rfl (.tmp 53) (.tmp 56) 22 9 (.string ⟨#[]⟩) 16 rfl Try.underlying22 info9 rfl (by decide) (by omega) x0 f3 d0 _ _ _ (fun k_ => some k_ ≠ (.slice d4 a2.length a5 : Value).ownBlock) (fun _ => False) rfl rfl ?aO ?aR (fun _ _ h => h) (fun _ h => h.elim) ?aF ?aB ?aS ?aL ?_; (case aR => repeat (first | exact (by repeat (first | (with_reducible exact d6.out) | (with_reducible refine Kd.C_alloc ?_ _) | (with_reducible refine Kd.C_drewN ?_ _) | (with_reducible refine Kd.C_drew ?_) | exact d6.out)) | (with_reducible refine Kd.C_alloc ?_ _) | (with_reducible refine Kd.C_drewN ?_ _) | (with_reducible refine Kd.C_drew ?_))); (case aB => exact (by repeat (first | (with_reducible first | exact HB.out | apply below_alloc | apply pw_below_drewN | apply below_drew1) | exact HB.out))); (case aF => exact (fun k_ hk => Kd.fresh' (Kd.R_lt (by (with_reducible repeat (first | apply Kd.R_alloc | apply Kd.R_drewN | apply Kd.R_drew)); exact a0.out)) k_ hk)); (case aO => exact (by (with_reducible repeat (first | apply Kd.R_alloc | apply Kd.R_drewN | apply Kd.R_drew)); exact Kd.R_mono n5.out (fun _ hk => hk.2))); (case aS => exact (below_size (by repeat (first | (with_reducible first | exact HB.out | apply below_alloc | apply pw_below_drewN | apply below_drew1) | exact HB.out)))); (case aL => have := t1.out; omega); intro e4 y2 ho hb hg hat; rw [← s7.out] at ho; have a7 := Aside0.mk (Kd.R_after (ok := (fun _ => True)) (by (with_reducible repeat (first | apply Kd.R_alloc | apply Kd.R_drewN | apply Kd.R_drew)); exact a0.out) hg hat); have a8 := Aside0.mk (hb); have a9 := Aside0.mk ((show Kd.C Kd.string y2 l6 d0.length d0 from by rw [e9.out, l4.out]; exact Kd.C_drop (m := (a1 : Int).toNat) (c := a5) ((Kd.R_reads' (Kd.R_after (ok := (fun _ => True)) (by (with_reducible repeat (first | apply Kd.R_alloc | apply Kd.R_drewN | apply Kd.R_drew)); exact a0.out) hg hat)).2.2) k8.out ((Kd.R_reads' (Kd.R_after (ok := (fun _ => True)) (by (with_reducible repeat (first | apply Kd.R_alloc | apply Kd.R_drewN | apply Kd.R_drew)); exact a0.out) hg hat)).2.1))); have b9 := Aside0.mk (ho); clear a0; clear HB; clear d6; clear n5; have a0 := a7; have HB := a8; have d6 := a9; have b6 := b9; clear a7 a8 a9 b9; clear ho hb hg hat) | ((with_reducible refine gate_dst (N := 58) rfl ?_); refine Kd.R_lit Kd.string _ 9 ?hg (N := 58) ?hd (xs := ([] : List ByteArray)) (inner := []) (ok := fun _ => True) (okp := fun _ => True) ?hr ?hp (fun _ hk => hk) trivial (Below.refl _ _) (Nat.le_refl _) (by simp) ?_; (case hd => rfl); (case hg => rfl); (case hr => first | (go_simp; done) | (go_simp; rfl)); (case hp => exact (Reps.none _ _)); intro w5 A7 f4 hb hg_ hnew_; clear hg_ hnew_; (first | rw [← n1.out] at f4 | (simp only [Int.reduceToNat] at f4; rw [← n1.out] at f4)); have a7 := Aside0.mk (Kd.R_elder' (by (with_reducible repeat (first | apply Kd.R_alloc | apply Kd.R_drewN | apply Kd.R_drew)); exact a0.out) (Kd.R_base f4) hb); have a8 := Aside0.mk (Kd.R_elder' (by (with_reducible repeat (first | apply Kd.R_alloc | apply Kd.R_drewN | apply Kd.R_drew)); exact b6.out) (Kd.R_base f4) hb); have a9 := Aside0.mk (Kd.R_lower (Kd.R_new' (Kd.R_new' f4 (Kd.R_lt (by (with_reducible repeat (first | apply Kd.R_alloc | apply Kd.R_drewN | apply Kd.R_drew)); exact a0.out))) (Kd.R_lt (by (with_reducible repeat (first | apply Kd.R_alloc | apply Kd.R_drewN | apply Kd.R_drew)); exact b6.out))) (below_size (by repeat (first | (with_reducible first | exact HB.out | apply below_alloc | apply pw_below_drewN | apply below_drew1) | exact HB.out)))); have b9 := Aside0.mk (Kd.C_below (by repeat (first | (with_reducible exact d6.out) | (with_reducible refine Kd.C_alloc ?_ _) | (with_reducible refine Kd.C_drewN ?_ _) | (with_reducible refine Kd.C_drew ?_) | exact d6.out)) hb); have d7 := Aside0.mk (below_step (by repeat (first | (with_reducible first | exact HB.out | apply below_alloc | apply pw_below_drewN | apply below_drew1) | exact HB.out)) hb); clear a0; clear b6; clear d6; clear HB; have a0 := a7; have b6 := a8; have o2 := a9; have d6 := b9; have HB := d7; clear a7 a8 a9 b9 d7; clear hb f4; have r8 : (a1 : Int) ≤ ((a2.length : Int) : Int) := of_decide_eq_true (by first | (with_reducible assumption) | assumption); obtain ⟨y9, p0, _, t3, _⟩ := info_parts info9; have j9 : a2.length ≤ a5 := (Kd.R_reads' a0.out).2.1; have r6 : Kd.C Kd.string _ d4 a2.length a2 := (Kd.R_reads' a0.out).2.2; have r2 := cut_to (P := Try.prog) 22 9 .i64 Try.underlying22 p0 d4 a2.length a5 a1 (of_decide_eq_true (by first | (with_reducible assumption) | assumption)) r8 j9; have m2 := Kd.C_take (m := (a1 : Int).toNat) r6 (by omega); have n0 : b0.length = (a1 : Int).toNat := (by rw [h1.out, List.length_take]; omega); rw [← h1.out] at m2; rw [← n0] at r2; have e2 := Aside0.mk m2; have y6 := Aside0.mk (show b0.length ≤ a5 from by omega); clear m2 r6 j9 p0 t3; have z9 := Aside0.mk n0; clear n0; have m9 := Aside0.mk (show (a1 : Int).toNat ≤ a2.length from by omega); replace r8 := eq_true r8) | ((with_reducible refine gate_builtin (b := .append) (xs := #[.tmp 58, .tmp 61]) rfl ?_); at_builtin; refine Kd.R_append_rows Kd.string (w0 := w) w.heap.size rfl (.tmp 58) (.tmp 61) 22 9 (.string ⟨#[]⟩) 16 rfl Try.underlying22 info9 rfl (by decide) (by omega) w5 d8 b0 _ _ _ (fun k_ => some k_ ≠ (.slice d4 a2.length a5 : Value).ownBlock ∧ some k_ ≠ (e4 : Value).ownBlock) (fun _ => False) rfl rfl ?aO ?aR (fun _ _ h => h) (fun _ h => h.elim) ?aF ?aB ?aS ?aL ?_; (case aR => repeat (first | exact (by repeat (first | (with_reducible exact e2.out) | (with_reducible refine Kd.C_alloc ?_ _) | (with_reducible refine Kd.C_drewN ?_ _) | (with_reducible refine Kd.C_drew ?_) | exact e2.out)) | (with_reducible refine Kd.C_alloc ?_ _) | (with_reducible refine Kd.C_drewN ?_ _) | (with_reducible refine Kd.C_drew ?_))); (case aB => exact (by repeat (first | (with_reducible first | exact HB.out | apply below_alloc | apply pw_below_drewN | apply below_drew1) | exact HB.out))); (case aF => exact (fun k_ hk => ⟨Kd.fresh' (Kd.R_lt (by (with_reducible repeat (first | apply Kd.R_alloc | apply Kd.R_drewN | apply Kd.R_drew)); exact a0.out)) k_ hk, Kd.fresh' (Kd.R_lt (by (with_reducible repeat (first | apply Kd.R_alloc | apply Kd.R_drewN | apply Kd.R_drew)); exact b6.out)) k_ hk⟩)); (case aO => exact (by (with_reducible repeat (first | apply Kd.R_alloc | apply Kd.R_drewN | apply Kd.R_drew)); exact Kd.R_mono o2.out (fun _ hk => ⟨hk.1.2, hk.2⟩))); (case aS => exact (below_size (by repeat (first | (with_reducible first | exact HB.out | apply below_alloc | apply pw_below_drewN | apply below_drew1) | exact HB.out)))); (case aL => have := t6.out; omega); intro w1 u7 ho hb hg hat; rw [← u1.out] at ho; have a7 := Aside0.mk (Kd.R_after (ok := (fun k_ => some k_ ≠ (e4 : Value).ownBlock)) (by (with_reducible repeat (first | apply Kd.R_alloc | apply Kd.R_drewN | apply Kd.R_drew)); exact Kd.R_mono a0.out (fun _ hk => ⟨hk.1.2, hk.2⟩)) hg hat); have a8 := Aside0.mk (Kd.R_after (ok := (fun k_ => some k_ ≠ (.slice d4 a2.length a5 : Value).ownBlock)) (by (with_reducible repeat (first | apply Kd.R_alloc | apply Kd.R_drewN | apply Kd.R_drew)); exact b6.out) hg hat); have a9 := Aside0.mk (hb); have b9 := Aside0.mk ((show Kd.C Kd.string u7 l6 d0.length d0 from by rw [e9.out, l4.out]; exact Kd.C_drop (m := (a1 : Int).toNat) (c := a5) ((Kd.R_reads' (Kd.R_after (ok := (fun k_ => some k_ ≠ (e4 : Value).ownBlock)) (by (with_reducible repeat (first | apply Kd.R_alloc | apply Kd.R_drewN | apply Kd.R_drew)); exact Kd.R_mono a0.out (fun _ hk => ⟨hk.1.2, hk.2⟩)) hg hat)).2.2) k8.out ((Kd.R_reads' (Kd.R_after (ok := (fun k_ => some k_ ≠ (e4 : Value).ownBlock)) (by (with_reducible repeat (first | apply Kd.R_alloc | apply Kd.R_drewN | apply Kd.R_drew)); exact Kd.R_mono a0.out (fun _ hk => ⟨hk.1.2, hk.2⟩)) hg hat)).2.1))); have d7 := Aside0.mk ((show Kd.C Kd.string u7 d4 b0.length b0 from by rw [h1.out]; exact Kd.C_take (m := (a1 : Int).toNat) ((Kd.R_reads' (Kd.R_after (ok := (fun k_ => some k_ ≠ (e4 : Value).ownBlock)) (by (with_reducible repeat (first | apply Kd.R_alloc | apply Kd.R_drewN | apply Kd.R_drew)); exact Kd.R_mono a0.out (fun _ hk => ⟨hk.1.2, hk.2⟩)) hg hat)).2.2) m9.out)); have e0 := Aside0.mk (ho); clear a0; clear b6; clear HB; clear d6; clear e2; clear o2; have a0 := a7; have b6 := a8; have HB := a9; have d6 := b9; have e2 := d7; have n7 := e0; clear a7 a8 a9 b9 d7 e0; clear ho hb hg hat) | ((with_reducible refine gate_builtin (b := .append) (xs := #[.tmp 62, .tmp 64]) rfl ?_); at_builtin; refine Kd.R_append Kd.string (w0 := w) w.heap.size rfl (.tmp 62) (.tmp 64) 22 9 (.string ⟨#[]⟩) 16 rfl Try.underlying22 info9 rfl (by decide) (by omega) w1 d2 a6 [.string a6] (fun k_ => some k_ ≠ (.slice d4 a2.length a5 : Value).ownBlock ∧ some k_ ≠ (e4 : Value).ownBlock) (fun _ => False) rfl rfl ?aP (fun _ hk => hk.elim) ?aF ?aO ?aB ?aS ?aL ?_; (case aP => exact rfl); (case aB => exact (by repeat (first | (with_reducible first | exact HB.out | apply below_alloc | apply pw_below_drewN | apply below_drew1) | exact HB.out))); (case aF => exact (fun k_ hk => ⟨Kd.fresh' (Kd.R_lt (by (with_reducible repeat (first | apply Kd.R_alloc | apply Kd.R_drewN | apply Kd.R_drew)); exact a0.out)) k_ hk, Kd.fresh' (Kd.R_lt (by (with_reducible repeat (first | apply Kd.R_alloc | apply Kd.R_drewN | apply Kd.R_drew)); exact b6.out)) k_ hk⟩)); (case aO => exact (by (with_reducible repeat (first | apply Kd.R_alloc | apply Kd.R_drewN | apply Kd.R_drew)); exact n7.out)); (case aS => exact (below_size (by repeat (first | (with_reducible first | exact HB.out | apply below_alloc | apply pw_below_drewN | apply below_drew1) | exact HB.out)))); (case aL => have := s9.out; omega); intro x3 u6 ho hb hg hat; rw [← t0.out] at ho; have a7 := Aside0.mk (Kd.R_after (ok := (fun k_ => some k_ ≠ (e4 : Value).ownBlock)) (by (with_reducible repeat (first | apply Kd.R_alloc | apply Kd.R_drewN | apply Kd.R_drew)); exact a0.out) hg hat); have a8 := Aside0.mk (Kd.R_after (ok := (fun k_ => some k_ ≠ (.slice d4 a2.length a5 : Value).ownBlock)) (by (with_reducible repeat (first | apply Kd.R_alloc | apply Kd.R_drewN | apply Kd.R_drew)); exact b6.out) hg hat); have a9 := Aside0.mk (hb); have b9 := Aside0.mk ((show Kd.C Kd.string u6 l6 d0.length d0 from by rw [e9.out, l4.out]; exact Kd.C_drop (m := (a1 : Int).toNat) (c := a5) ((Kd.R_reads' (Kd.R_after (ok := (fun k_ => some k_ ≠ (e4 : Value).ownBlock)) (by (with_reducible repeat (first | apply Kd.R_alloc | apply Kd.R_drewN | apply Kd.R_drew)); exact a0.out) hg hat)).2.2) k8.out ((Kd.R_reads' (Kd.R_after (ok := (fun k_ => some k_ ≠ (e4 : Value).ownBlock)) (by (with_reducible repeat (first | apply Kd.R_alloc | apply Kd.R_drewN | apply Kd.R_drew)); exact a0.out) hg hat)).2.1))); have d7 := Aside0.mk ((show Kd.C Kd.string u6 d4 b0.length b0 from by rw [h1.out]; exact Kd.C_take (m := (a1 : Int).toNat) ((Kd.R_reads' (Kd.R_after (ok := (fun k_ => some k_ ≠ (e4 : Value).ownBlock)) (by (with_reducible repeat (first | apply Kd.R_alloc | apply Kd.R_drewN | apply Kd.R_drew)); exact a0.out) hg hat)).2.2) m9.out)); have e0 := Aside0.mk (ho); clear a0; clear b6; clear HB; clear d6; clear e2; clear n7; have a0 := a7; have b6 := a8; have HB := a9; have d6 := b9; have e2 := d7; have p3 := e0; clear a7 a8 a9 b9 d7 e0; clear ho hb hg hat; obtain ⟨i5, j6, w9⟩ := Kd.R_slice b6.out; subst w9) | ((with_reducible refine gate_builtin (b := .append) (xs := #[.tmp 65, .tmp 66]) rfl ?_); at_builtin; refine Kd.R_append_rows Kd.string (w0 := w) w.heap.size rfl (.tmp 65) (.tmp 66) 22 9 (.string ⟨#[]⟩) 16 rfl Try.underlying22 info9 rfl (by decide) (by omega) x3 b4 b2 _ _ _ (fun k_ => some k_ ≠ (.slice d4 a2.length a5 : Value).ownBlock ∧ some k_ ≠ (.slice i5 b2.length j6 : Value).ownBlock) (fun _ => False) rfl rfl ?aO ?aR (fun _ _ h => h) (fun _ h => h.elim) ?aF ?aB ?aS ?aL ?_; (case aR => repeat (first | exact (Kd.R_reads' b6.out).2.2 | (with_reducible refine Kd.C_alloc ?_ _) | (with_reducible refine Kd.C_drewN ?_ _) | (with_reducible refine Kd.C_drew ?_))); (case aB => exact (by repeat (first | (with_reducible first | exact HB.out | apply below_alloc | apply pw_below_drewN | apply below_drew1) | exact HB.out))); (case aF => exact (fun k_ hk => ⟨Kd.fresh' (Kd.R_lt (by (with_reducible repeat (first | apply Kd.R_alloc | apply Kd.R_drewN | apply Kd.R_drew)); exact a0.out)) k_ hk, Kd.fresh' (Kd.R_lt (by (with_reducible repeat (first | apply Kd.R_alloc | apply Kd.R_drewN | apply Kd.R_drew)); exact b6.out)) k_ hk⟩)); (case aO => exact (by (with_reducible repeat (first | apply Kd.R_alloc | apply Kd.R_drewN | apply Kd.R_drew)); exact p3.out)); (case aS => exact (below_size (by repeat (first | (with_reducible first | exact HB.out | apply below_alloc | apply pw_below_drewN | apply below_drew1) | exact HB.out)))); (case aL => have := u2.out; omega); intro z8 v0 ho hb hg hat; rw [← t9.out] at ho; have a7 := Aside0.mk (Kd.R_after (ok := (fun k_ => some k_ ≠ (.slice i5 b2.length j6 : Value).ownBlock)) (by (with_reducible repeat (first | apply Kd.R_alloc | apply Kd.R_drewN | apply Kd.R_drew)); exact a0.out) hg hat); have a8 := Aside0.mk (Kd.R_after (ok := (fun k_ => some k_ ≠ (.slice d4 a2.length a5 : Value).ownBlock)) (by (with_reducible repeat (first | apply Kd.R_alloc | apply Kd.R_drewN | apply Kd.R_drew)); exact b6.out) hg hat); have a9 := Aside0.mk (hb); have b9 := Aside0.mk ((show Kd.C Kd.string v0 l6 d0.length d0 from by rw [e9.out, l4.out]; exact Kd.C_drop (m := (a1 : Int).toNat) (c := a5) ((Kd.R_reads' (Kd.R_after (ok := (fun k_ => some k_ ≠ (.slice i5 b2.length j6 : Value).ownBlock)) (by (with_reducible repeat (first | apply Kd.R_alloc | apply Kd.R_drewN | apply Kd.R_drew)); exact a0.out) hg hat)).2.2) k8.out ((Kd.R_reads' (Kd.R_after (ok := (fun k_ => some k_ ≠ (.slice i5 b2.length j6 : Value).ownBlock)) (by (with_reducible repeat (first | apply Kd.R_alloc | apply Kd.R_drewN | apply Kd.R_drew)); exact a0.out) hg hat)).2.1))); have d7 := Aside0.mk ((show Kd.C Kd.string v0 d4 b0.length b0 from by rw [h1.out]; exact Kd.C_take (m := (a1 : Int).toNat) ((Kd.R_reads' (Kd.R_after (ok := (fun k_ => some k_ ≠ (.slice i5 b2.length j6 : Value).ownBlock)) (by (with_reducible repeat (first | apply Kd.R_alloc | apply Kd.R_drewN | apply Kd.R_drew)); exact a0.out) hg hat)).2.2) m9.out)); have e0 := Aside0.mk (ho); clear a0; clear b6; clear HB; clear d6; clear e2; clear p3; have a0 := a7; have b6 := a8; have HB := a9; have d6 := b9; have e2 := d7; have s4 := e0; clear a7 a8 a9 b9 d7 e0; clear ho hb hg hat))
                go_roundg k3
                case measure => have := f0.out; have := i1.out; have := j7.out; omega
                case rel => exact ⟨(r3), (wrap64 (a4 + 1)), (by first | rfl | (simp; done) | (simp [*]; done)), H', ⟨by have := f0.out; have := i1.out; have := j7.out; omega⟩, ⟨by (with_reducible repeat (first | apply Kd.R_alloc | apply Kd.R_drewN | apply Kd.R_drew)); exact Kd.R_mono s4.out (fun _ hk => trivial)⟩, ⟨by repeat (first | (with_reducible first | exact HB.out | apply below_alloc | apply pw_below_drewN | apply below_drew1) | exact HB.out)⟩⟩
               ·rw [if_neg o9] at H
                exact absurd H (by simp)
              ·rw [if_neg o3] at H
               exact absurd H (by simp)
             ·rw [if_neg p9] at H
              exact absurd H (by simp)
            ·rw [if_neg o6] at H
             exact absurd H (by simp)
           ·rw [if_neg l9] at H
            exact absurd H (by simp)
          ·rw [if_neg l8] at H
           exact absurd H (by simp)
   ·rw [if_neg c5] at H
    have c5b0 : decide (a4 < (wrap64 ((l0.length : Int) + (l1.length : Int)))) = false := decide_eq_false c5
    clear c5
    obtain rfl := Option.some.inj H
    go_wp2
    go_ret
    exact ⟨_, by first | rfl | (simp [errW_none, errW_some] <;> rfl) | (simp [*, errW_none, errW_some] <;> rfl), by (with_reducible repeat (first | apply Kd.R_alloc | apply Kd.R_drewN | apply Kd.R_drew)); exact a0.out, by repeat (first | (with_reducible first | exact HB.out | apply below_alloc | apply pw_below_drewN | apply below_drew1) | exact HB.out)⟩
attribute [local go_sem high] eqA51
def Pr26c.l0 : Nat → Int → Int → Int → Int → Int → List ByteArray → List (S51) → Option (Bool)
 | 0, _, _, _, _, _, _, _ => none
 | k + 1, x1, x2, x3, x9, x250000, x250001, x250002 => if x9 < (x250002.length : Int) then (if 0 ≤ x9 then (if (((rd_T51 x250002 x9).f0) == x1 && (((rd_T51 x250002 x9).f1) == x2 && (((rd_T51 x250002 x9).f2) == x3))) = true then (some true) else (Pr26c.l0 k x1 x2 x3 (wrap64 (x9 + 1)) x250000 x250001 x250002)) else (none)) else (some false)
def Pr26c.f (k : Nat) (a0_0 : Int) (l0_1 : List ByteArray) (l0_2 : List (S51)) (a1 : Int) (a2 : Int) (a3 : Int) : Option (Bool) := Pr26c.l0 k a1 a2 a3 0 a0_0 l0_1 l0_2
theorem Pr26c.mono_l : ∀ k, (∀ y0 y1 y2 y3 y4 y5 y6, LeO (Pr26c.l0 k y0 y1 y2 y3 y4 y5 y6) (Pr26c.l0 (k + 1) y0 y1 y2 y3 y4 y5 y6))
 | 0 => fun _ _ _ _ _ _ _ r h => by simp [Pr26c.l0] at h
 | k + 1 => by
  have ih0 := Pr26c.mono_l k
  ·intro y0 y1 y2 y3 y4 y5 y6
   unfold Pr26c.l0
   repeat' first
   | (with_reducible exact ih0 _ _ _ _ _ _ _)
   | (with_reducible exact LeO.refl _)
   | (with_reducible exact LeO.none _)
   | (with_reducible refine LeO.ite ?_ ?_)
   | (with_reducible refine LeO.bind ?_ (fun _ => ?_))
   | exact ih0 _ _ _ _ _ _ _
   | exact LeO.none _
   | refine LeO.ite ?_ ?_
   | refine LeO.bind ?_ (fun _ => ?_)
theorem Pr26c.mono : ∀ a0 a1 a2 a3 a4 a5 k, LeO (Pr26c.f k a0 a1 a2 a3 a4 a5) (Pr26c.f (k + 1) a0 a1 a2 a3 a4 a5) := by
 intro a0 a1 a2 a3 a4 a5 k
 have ih0 := Pr26c.mono_l k
 unfold Pr26c.f
 repeat' first
   | (with_reducible exact ih0 _ _ _ _ _ _ _)
   | (with_reducible exact LeO.refl _)
   | (with_reducible exact LeO.none _)
   | (with_reducible refine LeO.ite ?_ ?_)
   | (with_reducible refine LeO.bind ?_ (fun _ => ?_))
   | exact ih0 _ _ _ _ _ _ _
   | exact LeO.none _
   | refine LeO.ite ?_ ?_
   | refine LeO.bind ?_ (fun _ => ?_)
set_option maxHeartbeats 8000000 in
set_option maxRecDepth 100000 in
theorem Pr26c.calls (k : Nat) (a0_0 : Int) (A0_1 : Option Addr) (c0_1 : Nat) (l0_1 : List ByteArray) (A0_2 : Option Addr) (c0_2 : Nat) (l0_2 : List (S51)) (a1 : Int) (a2 : Int) (a3 : Int) (r : Bool) (w : World) (hr0_1 : Kd.C Kd.string w A0_1 l0_1.length l0_1) (hc0_1 : l0_1.length ≤ c0_1) (hr0_2 : Kd.C k51 w A0_2 l0_2.length l0_2) (hc0_2 : l0_2.length ≤ c0_2) (h : Pr26c.f k a0_0 l0_1 l0_2 a1 a2 a3 = some r) :
  Calls Try.prog 63 #[.agg #[.int .i64 a0_0, .slice A0_1 l0_1.length c0_1, .slice A0_2 l0_2.length c0_2], .int .i64 a1, .int .i64 a2, .int .i64 a3] w fun e w' => e = .returned (.bool r) ∧ Below w.heap.size w w' := by
 have f5 := Try.underlying25
 have f6 := Try.underlying51
 have f4 := Aside0.mk hr0_1
 have e8 := Aside0.mk hc0_1
 clear hr0_1 hc0_1
 have b3 := Aside0.mk hr0_2
 have f3 := Aside0.mk hc0_2
 clear hr0_2 hc0_2
 have HB := Aside0.mk (Below.refl w.heap.size w)
 have H : (Pr26c.l0 k a1 a2 a3 0 a0_0 l0_1 l0_2) = some r := h
 clear h
 have H' := Aside0.mk H
 clear H
 go_enter Try.func63, Try.ntmps63
 go_wp2_with (first | ((with_reducible refine gate_dst (N := 4) rfl ?_); refine box_event ?hg (N := 4) ?hd (cs := #[.int .i64 a0_0, .slice A0_1 l0_1.length c0_1, .slice A0_2 l0_2.length c0_2]) (t := 25) ?hr ?_; (case hd => rfl); (case hg => rfl); (case hr => first | (go_simp; done) | (go_simp; rfl)); intro a5 hg w5 hbox hb; have b7 := Aside0.mk (below_step (by repeat (first | (with_reducible first | exact HB.out | apply below_alloc | apply pw_below_drewN | apply below_drew1) | exact HB.out)) hb); have b8 := Aside0.mk (hbox); have b5 := Aside0.mk ((by rw [hg]; exact (below_size (by repeat (first | (with_reducible first | exact HB.out | apply below_alloc | apply pw_below_drewN | apply below_drew1) | exact HB.out))) : w.heap.size ≤ a5)); have b9 := Aside0.mk ((by rw [hg]; exact (below_size (by repeat (first | (with_reducible first | exact HB.out | apply below_alloc | apply pw_below_drewN | apply below_drew1) | exact HB.out))) : w.heap.size ≤ a5)); clear HB; have HB := b7; have a4 := b8; have e9 := b5; have b1 := b9; clear b7 b8 b5 b9; clear hb hbox hg))
 go_loopg [9] k (fun kq v9 w' => ∃ (a0 : Int), v9 = .int .i64 a0 ∧ Aside0 (Pr26c.l0 kq a1 a2 a3 a0 a0_0 l0_1 l0_2 = some r) ∧ Aside0 (kq ≤ k) ∧ Aside0 (w'.heap[a5]? = some (.cells #[.int .i64 a0_0, (.slice A0_1 l0_1.length c0_1), (.slice A0_2 l0_2.length c0_2)] 25 (0, 0))) ∧ Aside0 (Below w.heap.size w w'))
 case atStart => exact ⟨(0), (by first | rfl | (simp; done) | (simp [*]; done)), H', ⟨Nat.le_refl _⟩, ⟨by (with_reducible repeat (first | refine blk_drewN ?_ _ | refine blk_drew ?_ | refine blk_alloc ?_ _)); exact a4.out⟩, ⟨by repeat (first | (with_reducible first | exact HB.out | apply below_alloc | apply pw_below_drewN | apply below_drew1 | refine below_set ?_ b1.out) | exact HB.out)⟩⟩
 case round =>
  clear H'
  try clear p2
  obtain ⟨a0, rfl, HA, b6, a4, HB⟩ := hrel
  cases gk with
  | zero => exact absurd HA.out (by simp [Pr26c.l0])
  | succ k1 =>
   have H := HA.out
   clear HA
   simp only [Pr26c.l0] at H
   by_cases c6 : a0 < (l0_2.length : Int)
   ·rw [if_pos c6] at H
    have c6b0 : decide (a0 < (l0_2.length : Int)) = true := decide_eq_true c6
    clear c6
    by_cases c7 : 0 ≤ a0
    ·rw [if_pos c7] at H
     have c7b0 : decide (0 ≤ a0) = true := decide_eq_true c7
     clear c7
     by_cases c8 : (((rd_T51 l0_2 a0).f0) == a1 && (((rd_T51 l0_2 a0).f1) == a2 && (((rd_T51 l0_2 a0).f2) == a3))) = true
     ·rw [if_pos c8] at H
      have c8b0 : (((rd_T51 l0_2 a0).f0) == a1 && (((rd_T51 l0_2 a0).f1) == a2 && (((rd_T51 l0_2 a0).f2) == a3))) = true := c8
      (try (have c8b1 : decide (((rd_T51 l0_2 a0).f0) = a1 && (((rd_T51 l0_2 a0).f1) == a2 && (((rd_T51 l0_2 a0).f2) == a3))) = true := by simpa using c8))
      (try (have c8b2 : (((rd_T51 l0_2 a0).f0) == a1 && (((rd_T51 l0_2 a0).f1) == a2 && (((rd_T51 l0_2 a0).f2) == a3))) = true := by simpa using c8))
      clear c8
      obtain rfl := Option.some.inj H
      have e3 : wr.cell? ⟨a5, 0, none⟩ = some (.int .i64 a0_0) := (blk_cell a4.out 0).trans rfl
      have e4 : wr.cell? ⟨a5, 1, none⟩ = some (.slice A0_1 l0_1.length c0_1) := (blk_cell a4.out 1).trans rfl
      have e6 : wr.cell? ⟨a5, 2, none⟩ = some (.slice A0_2 l0_2.length c0_2) := (blk_cell a4.out 2).trans rfl
      have e7 := blk_frozen a4.out 0
      have e2 := blk_frozen a4.out 1
      have e5 := blk_frozen a4.out 2
      have b0 : 0 ≤ (a0 : Int) := of_decide_eq_true (by first | (with_reducible assumption) | assumption)
      have a9 : a0 < (l0_2.length : Int) := of_decide_eq_true (by first | (with_reducible assumption) | assumption)
      obtain ⟨b4, b2, a7, a8, a6⟩ := at_T51 b3.out a0 b0 a9
      cases b2
      replace a7 := (HB.out.cell (World.block_lt_of_cell? w _ a7)).trans a7
      replace a8 := (HB.out.cell (World.block_lt_of_cell? w _ a8)).trans a8
      replace a6 := (HB.out.cell (World.block_lt_of_cell? w _ a6)).trans a6
      replace b0 := eq_true b0
      replace a9 := eq_true a9
      go_wp2
      go_ret
      exact ⟨by first | rfl | (simp [errW_none, errW_some] <;> rfl) | (simp [*, errW_none, errW_some] <;> rfl), by repeat (first | (with_reducible first | exact HB.out | apply below_alloc | apply pw_below_drewN | apply below_drew1 | refine below_set ?_ b1.out) | exact HB.out)⟩
     ·rw [if_neg c8] at H
      have c8b0 : (((rd_T51 l0_2 a0).f0) == a1 && (((rd_T51 l0_2 a0).f1) == a2 && (((rd_T51 l0_2 a0).f2) == a3))) = false := by simpa using c8
      (try (have c8b1 : decide (((rd_T51 l0_2 a0).f0) = a1 && (((rd_T51 l0_2 a0).f1) == a2 && (((rd_T51 l0_2 a0).f2) == a3))) = false := by simpa using c8))
      (try (have c8b2 : (((rd_T51 l0_2 a0).f0) == a1 && (((rd_T51 l0_2 a0).f1) == a2 && (((rd_T51 l0_2 a0).f2) == a3))) = false := by simpa using c8))
      (try (have c8b3 : ¬ (((rd_T51 l0_2 a0).f0) = a1 && (((rd_T51 l0_2 a0).f1) == a2 && (((rd_T51 l0_2 a0).f2) == a3))) := by simpa using c8))
      clear c8
      have H' := Aside0.mk H
      clear H
      have d0 : wr.cell? ⟨a5, 0, none⟩ = some (.int .i64 a0_0) := (blk_cell a4.out 0).trans rfl
      have d9 : wr.cell? ⟨a5, 1, none⟩ = some (.slice A0_1 l0_1.length c0_1) := (blk_cell a4.out 1).trans rfl
      have d5 : wr.cell? ⟨a5, 2, none⟩ = some (.slice A0_2 l0_2.length c0_2) := (blk_cell a4.out 2).trans rfl
      have d2 := blk_frozen a4.out 0
      have e1 := blk_frozen a4.out 1
      have d8 := blk_frozen a4.out 2
      have b0 : 0 ≤ (a0 : Int) := of_decide_eq_true (by first | (with_reducible assumption) | assumption)
      have a9 : a0 < (l0_2.length : Int) := of_decide_eq_true (by first | (with_reducible assumption) | assumption)
      obtain ⟨b4, b2, a7, a8, a6⟩ := at_T51 b3.out a0 b0 a9
      cases b2
      replace a7 := (HB.out.cell (World.block_lt_of_cell? w _ a7)).trans a7
      replace a8 := (HB.out.cell (World.block_lt_of_cell? w _ a8)).trans a8
      replace a6 := (HB.out.cell (World.block_lt_of_cell? w _ a6)).trans a6
      replace b0 := eq_true b0
      replace a9 := eq_true a9
      go_wp2
      go_roundg k1
      case measure => have := b6.out; omega
      case rel => exact ⟨(wrap64 (a0 + 1)), (by first | rfl | (simp; done) | (simp [*]; done)), H', ⟨by have := b6.out; omega⟩, ⟨by (with_reducible repeat (first | refine blk_drewN ?_ _ | refine blk_drew ?_ | refine blk_alloc ?_ _)); exact a4.out⟩, ⟨by repeat (first | (with_reducible first | exact HB.out | apply below_alloc | apply pw_below_drewN | apply below_drew1 | refine below_set ?_ b1.out) | exact HB.out)⟩⟩
    ·rw [if_neg c7] at H
     exact absurd H (by simp)
   ·rw [if_neg c6] at H
    have c6b0 : decide (a0 < (l0_2.length : Int)) = false := decide_eq_false c6
    clear c6
    obtain rfl := Option.some.inj H
    have e0 : wr.cell? ⟨a5, 0, none⟩ = some (.int .i64 a0_0) := (blk_cell a4.out 0).trans rfl
    have d7 : wr.cell? ⟨a5, 1, none⟩ = some (.slice A0_1 l0_1.length c0_1) := (blk_cell a4.out 1).trans rfl
    have d6 : wr.cell? ⟨a5, 2, none⟩ = some (.slice A0_2 l0_2.length c0_2) := (blk_cell a4.out 2).trans rfl
    have d1 := blk_frozen a4.out 0
    have d4 := blk_frozen a4.out 1
    have d3 := blk_frozen a4.out 2
    go_wp2
    go_ret
    exact ⟨by first | rfl | (simp [errW_none, errW_some] <;> rfl) | (simp [*, errW_none, errW_some] <;> rfl), by repeat (first | (with_reducible first | exact HB.out | apply below_alloc | apply pw_below_drewN | apply below_drew1 | refine below_set ?_ b1.out) | exact HB.out)⟩
def Pr50a.f (k : Nat) (a0_0 : Int) (l0_1 : List ByteArray) (l0_2 : List (S51)) (a1 : ByteArray) (a2 : Int) (a3 : Int) : Option (Bool) := (Pr02b.f k l0_1 a1).bind fun t252 => (if t252 < 0 then (some (a2 == a3)) else ((Pr26c.f k a0_0 l0_1 l0_2 a2 t252 a3).bind fun t253 => (some t253)))
theorem Pr50a.mono : ∀ a0 a1 a2 a3 a4 a5 k, LeO (Pr50a.f k a0 a1 a2 a3 a4 a5) (Pr50a.f (k + 1) a0 a1 a2 a3 a4 a5) := by
 intro a0 a1 a2 a3 a4 a5 k
 unfold Pr50a.f
 repeat' first
   | (with_reducible exact Pr02b.mono _ _ _)
   | (with_reducible exact Pr26c.mono _ _ _ _ _ _ _)
   | (with_reducible exact LeO.refl _)
   | (with_reducible exact LeO.none _)
   | (with_reducible refine LeO.ite ?_ ?_)
   | (with_reducible refine LeO.bind ?_ (fun _ => ?_))
   | exact Pr02b.mono _ _ _
   | exact Pr26c.mono _ _ _ _ _ _ _
   | exact LeO.none _
   | refine LeO.ite ?_ ?_
   | refine LeO.bind ?_ (fun _ => ?_)
set_option maxHeartbeats 8000000 in
set_option maxRecDepth 100000 in
theorem Pr50a.calls (k : Nat) (a0_0 : Int) (A0_1 : Option Addr) (c0_1 : Nat) (l0_1 : List ByteArray) (A0_2 : Option Addr) (c0_2 : Nat) (l0_2 : List (S51)) (a1 : ByteArray) (a2 : Int) (a3 : Int) (r : Bool) (w : World) (hr0_1 : Kd.C Kd.string w A0_1 l0_1.length l0_1) (hc0_1 : l0_1.length ≤ c0_1) (hr0_2 : Kd.C k51 w A0_2 l0_2.length l0_2) (hc0_2 : l0_2.length ≤ c0_2) (h : Pr50a.f k a0_0 l0_1 l0_2 a1 a2 a3 = some r) :
  Calls Try.prog 48 #[.agg #[.int .i64 a0_0, .slice A0_1 l0_1.length c0_1, .slice A0_2 l0_2.length c0_2], .string a1, .int .i64 a2, .int .i64 a3] w fun e w' => e = .returned (.bool r) ∧ Below w.heap.size w w' := by
 have e6 := Try.underlying25
 have b1 := Aside0.mk hr0_1
 have b0 := Aside0.mk hc0_1
 clear hr0_1 hc0_1
 have b8 := Aside0.mk hr0_2
 have b9 := Aside0.mk hc0_2
 clear hr0_2 hc0_2
 have HB := Aside0.mk (Below.refl w.heap.size w)
 have H : ((Pr02b.f k l0_1 a1).bind fun a5 => (if a5 < 0 then (some (a2 == a3)) else ((Pr26c.f k a0_0 l0_1 l0_2 a2 a5 a3).bind fun a7 => (some a7)))) = some r := h
 clear h
 replace H := Option.bind_eq_some_iff.mp H
 obtain ⟨a5, d0, H⟩ := H
 replace H : (if a5 < 0 then (some (a2 == a3)) else ((Pr26c.f k a0_0 l0_1 l0_2 a2 a5 a3).bind fun a7 => (some a7))) = some r := H
 have A5 := Aside0.mk d0
 clear d0
 by_cases c6 : a5 < 0
 ·rw [if_pos c6] at H
  have c6b0 : decide (a5 < 0) = true := decide_eq_true c6
  clear c6
  obtain rfl := Option.some.inj H
  go_enter Try.func48, Try.ntmps48
  go_wp2_with (first | ((with_reducible refine gate_dst (N := 4) rfl ?_); refine box_event ?hg (N := 4) ?hd (cs := #[.int .i64 a0_0, .slice A0_1 l0_1.length c0_1, .slice A0_2 l0_2.length c0_2]) (t := 25) ?hr ?_; (case hd => rfl); (case hg => rfl); (case hr => first | (go_simp; done) | (go_simp; rfl)); intro a4 hg w7 hbox hb; have a8 := Aside0.mk (below_step (by repeat (first | (with_reducible first | exact HB.out | apply below_alloc | apply pw_below_drewN | apply below_drew1) | exact HB.out)) hb); have a9 := Aside0.mk (hbox); have b2 := Aside0.mk ((by rw [hg]; exact (below_size (by repeat (first | (with_reducible first | exact HB.out | apply below_alloc | apply pw_below_drewN | apply below_drew1) | exact HB.out))) : w.heap.size ≤ a4)); have b3 := Aside0.mk ((by rw [hg]; exact (below_size (by repeat (first | (with_reducible first | exact HB.out | apply below_alloc | apply pw_below_drewN | apply below_drew1) | exact HB.out))) : w.heap.size ≤ a4)); clear HB; have HB := a8; have a0 := a9; have b7 := b2; have a6 := b3; clear a8 a9 b2 b3; clear hb hbox hg; have d8 : w7.cell? ⟨a4, 0, none⟩ = some (.int .i64 a0_0) := (blk_cell a0.out 0).trans rfl; have e3 : w7.cell? ⟨a4, 1, none⟩ = some (.slice A0_1 l0_1.length c0_1) := (blk_cell a0.out 1).trans rfl; have e1 : w7.cell? ⟨a4, 2, none⟩ = some (.slice A0_2 l0_2.length c0_2) := (blk_cell a0.out 2).trans rfl; have e2 := blk_frozen a0.out 0; have e0 := blk_frozen a0.out 1; have d9 := blk_frozen a0.out 2) | ((with_reducible refine gate_callee (f := 43) rfl ?_); refine goesL_ (some 13) rfl rfl Try.func43 (by kernel_rfl) rfl #[.slice A0_1 l0_1.length c0_1, .string a1] rfl (by (try simp only [List.map_toArray, List.map_cons, List.map_nil]); first | done | rfl | (simp only [List.length_drop, List.length_take]; rfl)) ?_; (with_reducible refine (Pr02b.calls k _ _ l0_1 a1 a5 _ ?b5 ?b4 A5.out).mono ?_); (case b5 => repeat (first | exact (Kd.C_below b1.out HB.out) | (with_reducible refine Kd.C_alloc ?_ _) | (with_reducible refine Kd.C_drewN ?_ _) | (with_reducible refine Kd.C_drew ?_))); (case b4 => exact b0.out); rintro e w' ⟨rfl, ⟨nd, rfl⟩⟩; refine ⟨_, rfl, ?_⟩))
  go_ret
  exact ⟨by first | rfl | (simp [errW_none, errW_some] <;> rfl) | (simp [*, errW_none, errW_some] <;> rfl), by repeat (first | (with_reducible first | exact HB.out | apply below_alloc | apply pw_below_drewN | apply below_drew1 | refine below_set ?_ a6.out) | exact HB.out)⟩
 ·rw [if_neg c6] at H
  have c6b0 : decide (a5 < 0) = false := decide_eq_false c6
  clear c6
  replace H := Option.bind_eq_some_iff.mp H
  obtain ⟨a7, d1, H⟩ := H
  replace H : (some a7) = some r := H
  have A9 := Aside0.mk d1
  clear d1
  obtain rfl := Option.some.inj H
  go_enter Try.func48, Try.ntmps48
  go_wp2_with (first | ((with_reducible refine gate_dst (N := 4) rfl ?_); refine box_event ?hg (N := 4) ?hd (cs := #[.int .i64 a0_0, .slice A0_1 l0_1.length c0_1, .slice A0_2 l0_2.length c0_2]) (t := 25) ?hr ?_; (case hd => rfl); (case hg => rfl); (case hr => first | (go_simp; done) | (go_simp; rfl)); intro a4 hg b6 hbox hb; have a8 := Aside0.mk (below_step (by repeat (first | (with_reducible first | exact HB.out | apply below_alloc | apply pw_below_drewN | apply below_drew1) | exact HB.out)) hb); have a9 := Aside0.mk (hbox); have b2 := Aside0.mk ((by rw [hg]; exact (below_size (by repeat (first | (with_reducible first | exact HB.out | apply below_alloc | apply pw_below_drewN | apply below_drew1) | exact HB.out))) : w.heap.size ≤ a4)); have b3 := Aside0.mk ((by rw [hg]; exact (below_size (by repeat (first | (with_reducible first | exact HB.out | apply below_alloc | apply pw_below_drewN | apply below_drew1) | exact HB.out))) : w.heap.size ≤ a4)); clear HB; have HB := a8; have a0 := a9; have b7 := b2; have a6 := b3; clear a8 a9 b2 b3; clear hb hbox hg; have d7 : b6.cell? ⟨a4, 0, none⟩ = some (.int .i64 a0_0) := (blk_cell a0.out 0).trans rfl; have d6 : b6.cell? ⟨a4, 1, none⟩ = some (.slice A0_1 l0_1.length c0_1) := (blk_cell a0.out 1).trans rfl; have d5 : b6.cell? ⟨a4, 2, none⟩ = some (.slice A0_2 l0_2.length c0_2) := (blk_cell a0.out 2).trans rfl; have d2 := blk_frozen a0.out 0; have d4 := blk_frozen a0.out 1; have d3 := blk_frozen a0.out 2) | ((with_reducible refine gate_callee (f := 43) rfl ?_); refine goesL_ (some 13) rfl rfl Try.func43 (by kernel_rfl) rfl #[.slice A0_1 l0_1.length c0_1, .string a1] rfl (by (try simp only [List.map_toArray, List.map_cons, List.map_nil]); first | done | rfl | (simp only [List.length_drop, List.length_take]; rfl)) ?_; (with_reducible refine (Pr02b.calls k _ _ l0_1 a1 a5 _ ?b5 ?b4 A5.out).mono ?_); (case b5 => repeat (first | exact (Kd.C_below b1.out HB.out) | (with_reducible refine Kd.C_alloc ?_ _) | (with_reducible refine Kd.C_drewN ?_ _) | (with_reducible refine Kd.C_drew ?_))); (case b4 => exact b0.out); rintro e w' ⟨rfl, ⟨nd, rfl⟩⟩; refine ⟨_, rfl, ?_⟩) | ((with_reducible refine gate_callee (f := 63) rfl ?_); refine goesL_ (some 23) rfl rfl Try.func63 (by kernel_rfl) rfl #[.agg #[.int .i64 a0_0, .slice A0_1 l0_1.length c0_1, .slice A0_2 l0_2.length c0_2], .int .i64 a2, .int .i64 a5, .int .i64 a3] rfl (by (try simp only [List.map_toArray, List.map_cons, List.map_nil]); first | done | rfl | (simp only [List.length_drop, List.length_take]; rfl)) ?_; (with_reducible refine (Pr26c.calls k a0_0 _ _ l0_1 _ _ l0_2 a2 a5 a3 a7 _ ?b5 ?b4 ?e4 ?e5 A9.out).mono ?_); (case b5 => repeat (first | exact (Kd.C_below b1.out (by repeat (first | (with_reducible first | exact HB.out | apply below_alloc | apply pw_below_drewN | apply below_drew1 | refine below_set ?_ a6.out) | exact HB.out))) | (with_reducible refine Kd.C_alloc ?_ _) | (with_reducible refine Kd.C_drewN ?_ _) | (with_reducible refine Kd.C_drew ?_))); (case b4 => exact b0.out); (case e4 => repeat (first | exact (Kd.C_below b8.out (by repeat (first | (with_reducible first | exact HB.out | apply below_alloc | apply pw_below_drewN | apply below_drew1 | refine below_set ?_ a6.out) | exact HB.out))) | (with_reducible refine Kd.C_alloc ?_ _) | (with_reducible refine Kd.C_drewN ?_ _) | (with_reducible refine Kd.C_drew ?_))); (case e5 => exact b9.out); rintro e e7 ⟨rfl, hb⟩; refine ⟨_, rfl, ?_⟩; have a8 := Aside0.mk (blk_below (g := a4) (o := .cells #[.int .i64 a0_0, .slice A0_1 l0_1.length c0_1, .slice A0_2 l0_2.length c0_2] 25 (0, 0)) (by (with_reducible repeat (first | refine blk_drewN ?_ _ | refine blk_drew ?_ | refine blk_alloc ?_ _)); exact a0.out) hb); have a9 := Aside0.mk (below_step (by repeat (first | (with_reducible first | exact HB.out | apply below_alloc | apply pw_below_drewN | apply below_drew1 | refine below_set ?_ a6.out) | exact HB.out)) hb); clear a0; clear HB; have a0 := a8; have HB := a9; clear a8 a9; (try clear hb); (try clear e8); (try clear hk); (try clear hi)))
  go_ret
  exact ⟨by first | rfl | (simp [errW_none, errW_some] <;> rfl) | (simp [*, errW_none, errW_some] <;> rfl), by repeat (first | (with_reducible first | exact HB.out | apply below_alloc | apply pw_below_drewN | apply below_drew1 | refine below_set ?_ a6.out) | exact HB.out)⟩
mutual
def Pr50b.l0 : Nat → Int → Int → List ByteArray → List (S51) → Int → List ByteArray → List (S51) → Int → List ByteArray → List (S51) → Option (Int × List ByteArray × (List (S51)))
 | 0, _, _, _, _, _, _, _, _, _, _ => none
 | k + 1, x6, x255000, x255001, x255002, x256000, x256001, x256002, x261000, x261001, x261002 => if x6 < x261000 then (Pr50b.l1 k x6 0 x255000 x255001 x255002 x256000 x256001 x256002 x261000 x261001 x261002) else (some (x261000, x261001, x261002))
def Pr50b.l1 : Nat → Int → Int → Int → List ByteArray → List (S51) → Int → List ByteArray → List (S51) → Int → List ByteArray → List (S51) → Option (Int × List ByteArray × (List (S51)))
 | 0, _, _, _, _, _, _, _, _, _, _, _ => none
 | k + 1, x6, x7, x255000, x255001, x255002, x256000, x256001, x256002, x261000, x261001, x261002 => if x7 < (x261001.length : Int) then (if 0 ≤ x7 then (Pr50b.l2 k x6 x7 (rdOf ByteArray.empty x261001 x7) 0 x255000 x255001 x255002 x256000 x256001 x256002 x261000 x261001 x261002) else (none)) else (Pr50b.l0 k (wrap64 (x6 + 1)) x255000 x255001 x255002 x256000 x256001 x256002 x261000 x261001 x261002)
def Pr50b.l2 : Nat → Int → Int → ByteArray → Int → Int → List ByteArray → List (S51) → Int → List ByteArray → List (S51) → Int → List ByteArray → List (S51) → Option (Int × List ByteArray × (List (S51)))
 | 0, _, _, _, _, _, _, _, _, _, _, _, _, _ => none
 | k + 1, x6, x7, x8, x9, x255000, x255001, x255002, x256000, x256001, x256002, x261000, x261001, x261002 => if x9 < x261000 then (if x256000 = 0 then (none) else ((Pr50a.f k x255000 x255001 x255002 x8 (wrap64 (Int.tdiv x6 x256000)) (wrap64 (Int.tdiv x9 x256000))).bind fun t262 => (if t262 = true then ((Pr50a.f k x256000 x256001 x256002 x8 (Int.tmod x6 x256000) (Int.tmod x9 x256000)).bind fun t263 => (if t263 = true then (if x261002.length < 5864062014805 then (Pr50b.l2 k x6 x7 x8 (wrap64 (x9 + 1)) x255000 x255001 x255002 x256000 x256001 x256002 x261000 x261001 (x261002 ++ [(⟨x6, x7, x9⟩ : S51)])) else (none)) else (Pr50b.l2 k x6 x7 x8 (wrap64 (x9 + 1)) x255000 x255001 x255002 x256000 x256001 x256002 x261000 x261001 x261002))) else (Pr50b.l2 k x6 x7 x8 (wrap64 (x9 + 1)) x255000 x255001 x255002 x256000 x256001 x256002 x261000 x261001 x261002)))) else (Pr50b.l1 k x6 (wrap64 (x7 + 1)) x255000 x255001 x255002 x256000 x256001 x256002 x261000 x261001 x261002)
end
def Pr50b.f (k : Nat) (a0_0 : Int) (l0_1 : List ByteArray) (l0_2 : List (S51)) (a1_0 : Int) (l1_1 : List ByteArray) (l1_2 : List (S51)) : Option (Int × List ByteArray × (List (S51))) := (Pr02a.f k l0_1 l1_1).bind fun t257 => (Pr50b.l0 k 0 a0_0 l0_1 l0_2 a1_0 l1_1 l1_2 (wrap64 (a0_0 * a1_0)) t257 ([] : List (S51)))
theorem Pr50b.mono_l : ∀ k, (∀ y0 y1 y2 y3 y4 y5 y6 y7 y8 y9, LeO (Pr50b.l0 k y0 y1 y2 y3 y4 y5 y6 y7 y8 y9) (Pr50b.l0 (k + 1) y0 y1 y2 y3 y4 y5 y6 y7 y8 y9)) ∧ (∀ y0 y1 y2 y3 y4 y5 y6 y7 y8 y9 y10, LeO (Pr50b.l1 k y0 y1 y2 y3 y4 y5 y6 y7 y8 y9 y10) (Pr50b.l1 (k + 1) y0 y1 y2 y3 y4 y5 y6 y7 y8 y9 y10)) ∧ (∀ y0 y1 y2 y3 y4 y5 y6 y7 y8 y9 y10 y11 y12, LeO (Pr50b.l2 k y0 y1 y2 y3 y4 y5 y6 y7 y8 y9 y10 y11 y12) (Pr50b.l2 (k + 1) y0 y1 y2 y3 y4 y5 y6 y7 y8 y9 y10 y11 y12))
 | 0 => ⟨fun _ _ _ _ _ _ _ _ _ _ r h => by simp [Pr50b.l0] at h, fun _ _ _ _ _ _ _ _ _ _ _ r h => by simp [Pr50b.l1] at h, fun _ _ _ _ _ _ _ _ _ _ _ _ _ r h => by simp [Pr50b.l2] at h⟩
 | k + 1 => by
  obtain ⟨ih0, ih1, ih2⟩ := Pr50b.mono_l k
  refine ⟨?_, ?_, ?_⟩
  ·intro y0 y1 y2 y3 y4 y5 y6 y7 y8 y9
   unfold Pr50b.l0
   repeat' first
   | (with_reducible exact ih0 _ _ _ _ _ _ _ _ _ _)
   | (with_reducible exact ih1 _ _ _ _ _ _ _ _ _ _ _)
   | (with_reducible exact ih2 _ _ _ _ _ _ _ _ _ _ _ _ _)
   | (with_reducible exact Pr02a.mono _ _ _)
   | (with_reducible exact Pr50a.mono _ _ _ _ _ _ _)
   | (with_reducible exact LeO.refl _)
   | (with_reducible exact LeO.none _)
   | (with_reducible refine LeO.ite ?_ ?_)
   | (with_reducible refine LeO.bind ?_ (fun _ => ?_))
   | exact ih0 _ _ _ _ _ _ _ _ _ _
   | exact ih1 _ _ _ _ _ _ _ _ _ _ _
   | exact ih2 _ _ _ _ _ _ _ _ _ _ _ _ _
   | exact Pr02a.mono _ _ _
   | exact Pr50a.mono _ _ _ _ _ _ _
   | exact LeO.none _
   | refine LeO.ite ?_ ?_
   | refine LeO.bind ?_ (fun _ => ?_)
  ·intro y0 y1 y2 y3 y4 y5 y6 y7 y8 y9 y10
   unfold Pr50b.l1
   repeat' first
   | (with_reducible exact ih0 _ _ _ _ _ _ _ _ _ _)
   | (with_reducible exact ih1 _ _ _ _ _ _ _ _ _ _ _)
   | (with_reducible exact ih2 _ _ _ _ _ _ _ _ _ _ _ _ _)
   | (with_reducible exact Pr02a.mono _ _ _)
   | (with_reducible exact Pr50a.mono _ _ _ _ _ _ _)
   | (with_reducible exact LeO.refl _)
   | (with_reducible exact LeO.none _)
   | (with_reducible refine LeO.ite ?_ ?_)
   | (with_reducible refine LeO.bind ?_ (fun _ => ?_))
   | exact ih0 _ _ _ _ _ _ _ _ _ _
   | exact ih1 _ _ _ _ _ _ _ _ _ _ _
   | exact ih2 _ _ _ _ _ _ _ _ _ _ _ _ _
   | exact Pr02a.mono _ _ _
   | exact Pr50a.mono _ _ _ _ _ _ _
   | exact LeO.none _
   | refine LeO.ite ?_ ?_
   | refine LeO.bind ?_ (fun _ => ?_)
  ·intro y0 y1 y2 y3 y4 y5 y6 y7 y8 y9 y10 y11 y12
   unfold Pr50b.l2
   repeat' first
   | (with_reducible exact ih0 _ _ _ _ _ _ _ _ _ _)
   | (with_reducible exact ih1 _ _ _ _ _ _ _ _ _ _ _)
   | (with_reducible exact ih2 _ _ _ _ _ _ _ _ _ _ _ _ _)
   | (with_reducible exact Pr02a.mono _ _ _)
   | (with_reducible exact Pr50a.mono _ _ _ _ _ _ _)
   | (with_reducible exact LeO.refl _)
   | (with_reducible exact LeO.none _)
   | (with_reducible refine LeO.ite ?_ ?_)
   | (with_reducible refine LeO.bind ?_ (fun _ => ?_))
   | exact ih0 _ _ _ _ _ _ _ _ _ _
   | exact ih1 _ _ _ _ _ _ _ _ _ _ _
   | exact ih2 _ _ _ _ _ _ _ _ _ _ _ _ _
   | exact Pr02a.mono _ _ _
   | exact Pr50a.mono _ _ _ _ _ _ _
   | exact LeO.none _
   | refine LeO.ite ?_ ?_
   | refine LeO.bind ?_ (fun _ => ?_)
theorem Pr50b.mono : ∀ a0 a1 a2 a3 a4 a5 k, LeO (Pr50b.f k a0 a1 a2 a3 a4 a5) (Pr50b.f (k + 1) a0 a1 a2 a3 a4 a5) := by
 intro a0 a1 a2 a3 a4 a5 k
 obtain ⟨ih0, ih1, ih2⟩ := Pr50b.mono_l k
 unfold Pr50b.f
 repeat' first
   | (with_reducible exact ih0 _ _ _ _ _ _ _ _ _ _)
   | (with_reducible exact ih1 _ _ _ _ _ _ _ _ _ _ _)
   | (with_reducible exact ih2 _ _ _ _ _ _ _ _ _ _ _ _ _)
   | (with_reducible exact Pr02a.mono _ _ _)
   | (with_reducible exact Pr50a.mono _ _ _ _ _ _ _)
   | (with_reducible exact LeO.refl _)
   | (with_reducible exact LeO.none _)
   | (with_reducible refine LeO.ite ?_ ?_)
   | (with_reducible refine LeO.bind ?_ (fun _ => ?_))
   | exact ih0 _ _ _ _ _ _ _ _ _ _
   | exact ih1 _ _ _ _ _ _ _ _ _ _ _
   | exact ih2 _ _ _ _ _ _ _ _ _ _ _ _ _
   | exact Pr02a.mono _ _ _
   | exact Pr50a.mono _ _ _ _ _ _ _
   | exact LeO.none _
   | refine LeO.ite ?_ ?_
   | refine LeO.bind ?_ (fun _ => ?_)
def Pr50b.T1 : Bool × List (List Nat × List Nat) := (true, [([], []), ([0], [0]), ([], []), ([2], [2]), ([1, 3], [1, 3]), ([], []), ([5], [5]), ([], []), ([7], [7]), ([6, 8], [6, 8]), ([4, 9], [4, 9]), ([], []), ([11, 10, 9, 0, 1, 2, 3, 4, 5, 6, 7, 8, 9, 10, 11], [10, 11])])
def Pr50b.B1 : List Nat := [0, 1, 0, 4, 15, 0, 32, 0, 128, 480, 1023, 0, 4095]
theorem Pr50b.tab1 : rtab .any (opsOf Try.f22 1) = Pr50b.T1 := by kernel_rfl
theorem Pr50b.bits1 : waitsOk Pr50b.T1.2 Pr50b.B1 = true := by kernel_rfl
def Pr50b.T12 : Bool × List (List Nat × List Nat) := (true, [([], []), ([], []), ([], []), ([], []), ([3], [3]), ([2, 4], [2, 4]), ([], []), ([], []), ([7], [7]), ([6, 8], [6, 8]), ([0, 1, 5, 9], [0, 1, 5, 9]), ([10, 10], [10]), ([11], [11]), ([11], [11]), ([11], [11]), ([11], [11]), ([15, 11], [11, 15]), ([14, 16, 11], [11, 14, 16]), ([11], [11]), ([11], [11]), ([19, 11], [11, 19]), ([18, 20, 11], [11, 18, 20]), ([12, 13, 17, 21, 11, 11], [11, 12, 13, 17, 21]), ([11, 22], [11, 22])])
def Pr50b.B12 : List Nat := [0, 0, 0, 0, 8, 28, 0, 0, 128, 448, 1023, 2047, 4095, 4095, 4095, 4095, 36863, 118783, 4095, 4095, 528383, 1839103, 4194303, 8388607]
theorem Pr50b.tab12 : rtab .any (opsOf Try.f22 12) = Pr50b.T12 := by kernel_rfl
theorem Pr50b.bits12 : waitsOk Pr50b.T12.2 Pr50b.B12 = true := by kernel_rfl
set_option maxHeartbeats 8000000 in
set_option maxRecDepth 100000 in
theorem Pr50b.calls (k : Nat) (a0_0 : Int) (A0_1 : Option Addr) (c0_1 : Nat) (l0_1 : List ByteArray) (A0_2 : Option Addr) (c0_2 : Nat) (l0_2 : List (S51)) (a1_0 : Int) (A1_1 : Option Addr) (c1_1 : Nat) (l1_1 : List ByteArray) (A1_2 : Option Addr) (c1_2 : Nat) (l1_2 : List (S51)) (r1 : Int) (r2 : List ByteArray) (r3 : List (S51)) (w : World) (hr0_1 : Kd.C Kd.string w A0_1 l0_1.length l0_1) (hc0_1 : l0_1.length ≤ c0_1) (hr0_2 : Kd.C k51 w A0_2 l0_2.length l0_2) (hc0_2 : l0_2.length ≤ c0_2) (hr1_1 : Kd.C Kd.string w A1_1 l1_1.length l1_1) (hc1_1 : l1_1.length ≤ c1_1) (hr1_2 : Kd.C k51 w A1_2 l1_2.length l1_2) (hc1_2 : l1_2.length ≤ c1_2) (h : Pr50b.f k a0_0 l0_1 l0_2 a1_0 l1_1 l1_2 = some (r1, r2, r3)) :
  Calls Try.prog 22 #[.agg #[.int .i64 a0_0, .slice A0_1 l0_1.length c0_1, .slice A0_2 l0_2.length c0_2], .agg #[.int .i64 a1_0, .slice A1_1 l1_1.length c1_1, .slice A1_2 l1_2.length c1_2]] w fun e w' => ∃ v1_ v2_ : Value, e = .returned (.agg #[.int .i64 r1, v1_, v2_]) ∧ Kd.R Kd.string 9 w' w.heap.size (fun _ => True) v1_ r2 ∧ Kd.R k51 51 w' w.heap.size (fun _ => True) v2_ r3 ∧ Below w.heap.size w w' := by
 have F8 := Try.underlying25
 have G0 := Try.underlying51
 have g2 := Aside0.mk hr0_1
 have g4 := Aside0.mk hc0_1
 clear hr0_1 hc0_1
 have i2 := Aside0.mk hr0_2
 have i5 := Aside0.mk hc0_2
 clear hr0_2 hc0_2
 have g9 := Aside0.mk hr1_1
 have g8 := Aside0.mk hc1_1
 clear hr1_1 hc1_1
 have k4 := Aside0.mk hr1_2
 have k6 := Aside0.mk hc1_2
 clear hr1_2 hc1_2
 have HB := Aside0.mk (Below.refl w.heap.size w)
 have H : ((Pr02a.f k l0_1 l1_1).bind fun a7 => (Pr50b.l0 k 0 a0_0 l0_1 l0_2 a1_0 l1_1 l1_2 (wrap64 (a0_0 * a1_0)) a7 ([] : List (S51)))) = some (r1, r2, r3) := h
 clear h
 replace H := Option.bind_eq_some_iff.mp H
 obtain ⟨a7, o7, H⟩ := H
 replace H : (Pr50b.l0 k 0 a0_0 l0_1 l0_2 a1_0 l1_1 l1_2 (wrap64 (a0_0 * a1_0)) a7 ([] : List (S51))) = some (r1, r2, r3) := H
 have A3 := Aside0.mk o7
 clear o7
 have H' := Aside0.mk H
 clear H
 go_enter Try.func22, Try.ntmps22
 try go_wp2_with (first | ((with_reducible refine gate_dst (N := 2) rfl ?_); refine box_event ?hg (N := 2) ?hd (cs := #[.int .i64 a0_0, .slice A0_1 l0_1.length c0_1, .slice A0_2 l0_2.length c0_2]) (t := 25) ?hr ?_; (case hd => rfl); (case hg => rfl); (case hr => first | (go_simp; done) | (go_simp; rfl)); intro a8 hg w4 hbox hb; have d1 := Aside0.mk (below_step (by repeat (first | (with_reducible first | exact HB.out | apply below_alloc | apply pw_below_drewN | apply below_drew1) | exact HB.out)) hb); have d2 := Aside0.mk (hbox); have d0 := Aside0.mk ((by rw [hg]; exact (below_size (by repeat (first | (with_reducible first | exact HB.out | apply below_alloc | apply pw_below_drewN | apply below_drew1) | exact HB.out))) : w.heap.size ≤ a8)); have d3 := Aside0.mk ((by rw [hg]; exact (below_size (by repeat (first | (with_reducible first | exact HB.out | apply below_alloc | apply pw_below_drewN | apply below_drew1) | exact HB.out))) : w.heap.size ≤ a8)); clear HB; have HB := d1; have a1 := d2; have A4 := d0; have b7 := d3; clear d1 d2 d0 d3; clear hb hbox hg) | ((with_reducible refine gate_dst (N := 3) rfl ?_); refine box_event ?hg (N := 3) ?hd (cs := #[.int .i64 a1_0, .slice A1_1 l1_1.length c1_1, .slice A1_2 l1_2.length c1_2]) (t := 25) ?hr ?_; (case hd => rfl); (case hg => rfl); (case hr => first | (go_simp; done) | (go_simp; rfl)); intro a9 hg w5 hbox hb; have d1 := Aside0.mk (blk_below (g := a8) (o := .cells #[.int .i64 a0_0, .slice A0_1 l0_1.length c0_1, .slice A0_2 l0_2.length c0_2] 25 (0, 0)) (by (with_reducible repeat (first | refine blk_drewN ?_ _ | refine blk_drew ?_ | refine blk_alloc ?_ _)); exact a1.out) hb); have d2 := Aside0.mk (below_step (by repeat (first | (with_reducible first | exact HB.out | apply below_alloc | apply pw_below_drewN | apply below_drew1 | refine below_set ?_ b7.out) | exact HB.out)) hb); have d0 := Aside0.mk (hbox); have d3 := Aside0.mk ((by rw [hg]; exact (below_size (by repeat (first | (with_reducible first | exact HB.out | apply below_alloc | apply pw_below_drewN | apply below_drew1 | refine below_set ?_ b7.out) | exact HB.out))) : w.heap.size ≤ a9)); have d6 := Aside0.mk ((by rw [hg]; exact (below_size (by repeat (first | (with_reducible first | exact HB.out | apply below_alloc | apply pw_below_drewN | apply below_drew1 | refine below_set ?_ b7.out) | exact HB.out))) : w.heap.size ≤ a9)); have e0 := Aside0.mk ((by rw [hg]; exact Nat.ne_of_lt (blk_lt (g := a8) (o := .cells #[.int .i64 a0_0, .slice A0_1 l0_1.length c0_1, .slice A0_2 l0_2.length c0_2] 25 (0, 0)) (by (with_reducible repeat (first | refine blk_drewN ?_ _ | refine blk_drew ?_ | refine blk_alloc ?_ _)); exact a1.out)) : a8 ≠ a9)); have e1 := Aside0.mk ((by rw [hg]; exact Nat.ne_of_gt (blk_lt (g := a8) (o := .cells #[.int .i64 a0_0, .slice A0_1 l0_1.length c0_1, .slice A0_2 l0_2.length c0_2] 25 (0, 0)) (by (with_reducible repeat (first | refine blk_drewN ?_ _ | refine blk_drew ?_ | refine blk_alloc ?_ _)); exact a1.out)) : a9 ≠ a8)); clear a1; clear HB; have a1 := d1; have HB := d2; have a2 := d0; have z6 := d3; have d4 := d6; have n4 := e0; have o3 := e1; clear d1 d2 d0 d3 d6 e0 e1; clear hb hbox hg) | ((with_reducible refine gate_dst (N := 4) rfl ?_); refine box_event ?hg (N := 4) ?hd (cs := #[.int .i64 0, .slice none 0 0, .slice none 0 0]) (t := 25) ?hr ?_; (case hd => rfl); (case hg => rfl); (case hr => first | (go_simp; done) | (go_simp; rfl)); intro b4 hg w6 hbox hb; have d1 := Aside0.mk (blk_below (g := a8) (o := .cells #[.int .i64 a0_0, .slice A0_1 l0_1.length c0_1, .slice A0_2 l0_2.length c0_2] 25 (0, 0)) (by (with_reducible repeat (first | refine blk_drewN ?_ _ | refine blk_drew ?_ | refine blk_alloc ?_ _)); exact a1.out) hb); have d2 := Aside0.mk (blk_below (g := a9) (o := .cells #[.int .i64 a1_0, .slice A1_1 l1_1.length c1_1, .slice A1_2 l1_2.length c1_2] 25 (0, 0)) (by (with_reducible repeat (first | refine blk_drewN ?_ _ | refine blk_drew ?_ | refine blk_alloc ?_ _)); exact a2.out) hb); have d0 := Aside0.mk (below_step (by repeat (first | (with_reducible first | exact HB.out | apply below_alloc | apply pw_below_drewN | apply below_drew1 | refine below_set ?_ b7.out | refine below_set ?_ d4.out) | exact HB.out)) hb); have d3 := Aside0.mk (hbox); have d6 := Aside0.mk ((by rw [hg]; exact (below_size (by repeat (first | (with_reducible first | exact HB.out | apply below_alloc | apply pw_below_drewN | apply below_drew1 | refine below_set ?_ b7.out | refine below_set ?_ d4.out) | exact HB.out))) : w.heap.size ≤ b4)); have e0 := Aside0.mk ((by rw [hg]; exact (below_size (by repeat (first | (with_reducible first | exact HB.out | apply below_alloc | apply pw_below_drewN | apply below_drew1 | refine below_set ?_ b7.out | refine below_set ?_ d4.out) | exact HB.out))) : w.heap.size ≤ b4)); have e1 := Aside0.mk ((by rw [hg]; exact Nat.ne_of_lt (blk_lt (g := a8) (o := .cells #[.int .i64 a0_0, .slice A0_1 l0_1.length c0_1, .slice A0_2 l0_2.length c0_2] 25 (0, 0)) (by (with_reducible repeat (first | refine blk_drewN ?_ _ | refine blk_drew ?_ | refine blk_alloc ?_ _)); exact a1.out)) : a8 ≠ b4)); have f4 := Aside0.mk ((by rw [hg]; exact Nat.ne_of_gt (blk_lt (g := a8) (o := .cells #[.int .i64 a0_0, .slice A0_1 l0_1.length c0_1, .slice A0_2 l0_2.length c0_2] 25 (0, 0)) (by (with_reducible repeat (first | refine blk_drewN ?_ _ | refine blk_drew ?_ | refine blk_alloc ?_ _)); exact a1.out)) : b4 ≠ a8)); have f1 := Aside0.mk ((by rw [hg]; exact Nat.ne_of_lt (blk_lt (g := a9) (o := .cells #[.int .i64 a1_0, .slice A1_1 l1_1.length c1_1, .slice A1_2 l1_2.length c1_2] 25 (0, 0)) (by (with_reducible repeat (first | refine blk_drewN ?_ _ | refine blk_drew ?_ | refine blk_alloc ?_ _)); exact a2.out)) : a9 ≠ b4)); have f5 := Aside0.mk ((by rw [hg]; exact Nat.ne_of_gt (blk_lt (g := a9) (o := .cells #[.int .i64 a1_0, .slice A1_1 l1_1.length c1_1, .slice A1_2 l1_2.length c1_2] 25 (0, 0)) (by (with_reducible repeat (first | refine blk_drewN ?_ _ | refine blk_drew ?_ | refine blk_alloc ?_ _)); exact a2.out)) : b4 ≠ a9)); clear a1; clear a2; clear HB; have a1 := d1; have a2 := d2; have HB := d0; have a5 := d3; have E5 := d6; have d5 := e0; have i9 := e1; have i8 := f4; have i7 := f1; have j3 := f5; clear d1 d2 d0 d3 d6 e0 e1 f4 f1 f5; clear hb hbox hg))
 have d1 := Aside0.mk (blk_drew a1.out)
 have d2 := Aside0.mk (blk_drew a2.out)
 have d0 := Aside0.mk (blk_drew a5.out)
 have d3 := Aside0.mk (below_drew1 HB.out)
 clear a1
 clear a2
 clear a5
 clear HB
 have a1 := d1
 have a2 := d2
 have a5 := d0
 have HB := d3
 clear d1 d2 d0 d3
 refine start_ (n := 13) (S := fun w' => w'.cell? ⟨a8, 0, none⟩ = some (.int .i64 a0_0) ∧ w'.cell? ⟨a8, 1, none⟩ = some (.slice A0_1 l0_1.length c0_1) ∧ w'.cell? ⟨a8, 2, none⟩ = some (.slice A0_2 l0_2.length c0_2) ∧ w'.cell? ⟨a9, 0, none⟩ = some (.int .i64 a1_0) ∧ w'.cell? ⟨a9, 1, none⟩ = some (.slice A1_1 l1_1.length c1_1) ∧ w'.cell? ⟨a9, 2, none⟩ = some (.slice A1_2 l1_2.length c1_2)) (ds := []) #[false, false, false, false, false, false, false, false, false, false, false, false, false] (by kernel_rfl) rfl rfl ⟨(blk_cell a1.out 0).trans rfl, (blk_cell a1.out 1).trans rfl, (blk_cell a1.out 2).trans rfl, (blk_cell a2.out 0).trans rfl, (blk_cell a2.out 1).trans rfl, (blk_cell a2.out 2).trans rfl⟩ (fun hHeld => ?_); refine with_tabW Pr50b.tab1 Pr50b.bits1 (fun HT_ HW_ => ?_)
 generalize w6.drew = w7 at a1 a2 a5 HB hHeld ⊢
 refine pure_ (i := 0) (N := some 10) (v := ?_) (a' := ?_) #[true, false, false, false, false, false, false, false, false, false, false, false, false] rfl rfl (any_of HT_.out (by kernel_rfl)) (fun _ _ _ h => h) (Or.inl ⟨by rfl, ?_⟩) ?_ ?_
 rotate_left
 ·intro w'
  go_simp
  with_reducible rfl
 rotate_left
 ·simp only [Act.put, List.setIfInBounds_toArray, List.set_cons_zero, List.set_cons_succ, i64_w, i32_w]
  rfl
 refine pure_ (i := 2) (N := some 12) (v := ?_) (a' := ?_) #[true, false, true, false, false, false, false, false, false, false, false, false, false] rfl rfl (any_of HT_.out (by kernel_rfl)) (fun _ _ _ h => h) (Or.inl ⟨by rfl, ?_⟩) ?_ ?_
 rotate_left
 ·intro w'
  go_simp
  with_reducible rfl
 rotate_left
 ·simp only [Act.put, List.setIfInBounds_toArray, List.set_cons_zero, List.set_cons_succ, i64_w, i32_w]
  rfl
 refine pure_ (i := 5) (N := some 15) (v := ?_) (a' := ?_) #[true, false, true, false, false, true, false, false, false, false, false, false, false] rfl rfl (any_of HT_.out (by kernel_rfl)) (fun _ _ _ h => h) (Or.inl ⟨by rfl, ?_⟩) ?_ ?_
 rotate_left
 ·intro w'
  go_simp
  with_reducible rfl
 rotate_left
 ·simp only [Act.put, List.setIfInBounds_toArray, List.set_cons_zero, List.set_cons_succ, i64_w, i32_w]
  rfl
 refine pure_ (i := 7) (N := some 17) (v := ?_) (a' := ?_) #[true, false, true, false, false, true, false, true, false, false, false, false, false] rfl rfl (any_of HT_.out (by kernel_rfl)) (fun _ _ _ h => h) (Or.inl ⟨by rfl, ?_⟩) ?_ ?_
 rotate_left
 ·intro w'
  go_simp
  with_reducible rfl
 rotate_left
 ·simp only [Act.put, List.setIfInBounds_toArray, List.set_cons_zero, List.set_cons_succ, i64_w, i32_w]
  rfl
 refine take_ (i := 1) (N := some 11) (v := ?_) (a' := ?_) #[true, true, true, false, false, true, false, true, false, false, false, false, false] rfl rfl (take_ofW HT_.out HW_.out (by kernel_rfl)) (fun _ _ _ h => h) (Or.inl ⟨by rfl, ?_⟩) hHeld ?_ ?_
 rotate_left
 ·rintro w' ⟨s0, s1, s2, s3, s4, s5⟩
  go_simp
  with_reducible rfl
 rotate_left
 ·simp only [Act.put, List.setIfInBounds_toArray, List.set_cons_zero, List.set_cons_succ, i64_w, i32_w]
  rfl
 refine take_ (i := 3) (N := some 13) (v := ?_) (a' := ?_) #[true, true, true, true, false, true, false, true, false, false, false, false, false] rfl rfl (take_ofW HT_.out HW_.out (by kernel_rfl)) (fun _ _ _ h => h) (Or.inl ⟨by rfl, ?_⟩) hHeld ?_ ?_
 rotate_left
 ·rintro w' ⟨s0, s1, s2, s3, s4, s5⟩
  go_simp
  with_reducible rfl
 rotate_left
 ·simp only [Act.put, List.setIfInBounds_toArray, List.set_cons_zero, List.set_cons_succ, i64_w, i32_w]
  rfl
 refine pure_ (i := 4) (N := some 14) (v := ?_) (a' := ?_) #[true, true, true, true, true, true, false, true, false, false, false, false, false] rfl rfl (any_of HT_.out (by kernel_rfl)) (fun _ _ _ h => h) (Or.inl ⟨by rfl, ?_⟩) ?_ ?_
 rotate_left
 ·intro w'
  go_simp
  with_reducible rfl
 rotate_left
 ·simp only [Act.put, List.setIfInBounds_toArray, List.set_cons_zero, List.set_cons_succ, i64_w, i32_w]
  rfl
 refine take_ (i := 6) (N := some 16) (v := ?_) (a' := ?_) #[true, true, true, true, true, true, true, true, false, false, false, false, false] rfl rfl (take_ofW HT_.out HW_.out (by kernel_rfl)) (fun _ _ _ h => h) (Or.inl ⟨by rfl, ?_⟩) hHeld ?_ ?_
 rotate_left
 ·rintro w' ⟨s0, s1, s2, s3, s4, s5⟩
  go_simp
  with_reducible rfl
 rotate_left
 ·simp only [Act.put, List.setIfInBounds_toArray, List.set_cons_zero, List.set_cons_succ, i64_w, i32_w]
  rfl
 refine take_ (i := 8) (N := some 18) (v := ?_) (a' := ?_) #[true, true, true, true, true, true, true, true, true, false, false, false, false] rfl rfl (take_ofW HT_.out HW_.out (by kernel_rfl)) (fun _ _ _ h => h) (Or.inl ⟨by rfl, ?_⟩) hHeld ?_ ?_
 rotate_left
 ·rintro w' ⟨s0, s1, s2, s3, s4, s5⟩
  go_simp
  with_reducible rfl
 rotate_left
 ·simp only [Act.put, List.setIfInBounds_toArray, List.set_cons_zero, List.set_cons_succ, i64_w, i32_w]
  rfl
 refine join_ (σ := Value × Nat) 1 #[true, true, true, true, true, true, true, true, true, true, true, true, false] (fun s_ => [(19, s_.1), (5, .pointer (some ⟨s_.2, 0, none⟩)), (20, .agg #[.int .i64 (wrap64 (a0_0 * a1_0)), s_.1, .slice none 0 0])]) (fun s_ w' => (w'.cell? ⟨a8, 0, none⟩ = some (.int .i64 a0_0) ∧ w'.cell? ⟨a8, 1, none⟩ = some (.slice A0_1 l0_1.length c0_1) ∧ w'.cell? ⟨a8, 2, none⟩ = some (.slice A0_2 l0_2.length c0_2) ∧ w'.cell? ⟨a9, 0, none⟩ = some (.int .i64 a1_0) ∧ w'.cell? ⟨a9, 1, none⟩ = some (.slice A1_1 l1_1.length c1_1) ∧ w'.cell? ⟨a9, 2, none⟩ = some (.slice A1_2 l1_2.length c1_2)) ∧ (Kd.R Kd.string 9 w' w.heap.size (fun _ => True) s_.1 a7) ∧ (w'.heap[a8]? = some (.cells #[.int .i64 a0_0, .slice A0_1 l0_1.length c0_1, .slice A0_2 l0_2.length c0_2] 25 (0, 0))) ∧ (w'.heap[a9]? = some (.cells #[.int .i64 a1_0, .slice A1_1 l1_1.length c1_1, .slice A1_2 l1_2.length c1_2] 25 (0, 0))) ∧ (w'.heap[b4]? = some (.cells #[.int .i64 0, .slice none 0 0, .slice none 0 0] 25 (0, 0))) ∧ (w'.heap[s_.2]? = some (.cells #[.int .i64 0, .slice none 0 0, .slice none 0 0] 25 (0, 0))) ∧ (w.heap.size ≤ s_.2) ∧ (w.heap.size ≤ s_.2) ∧ (a8 ≠ s_.2) ∧ (s_.2 ≠ a8) ∧ (a9 ≠ s_.2) ∧ (s_.2 ≠ a9) ∧ (b4 ≠ s_.2) ∧ (s_.2 ≠ b4) ∧ (Below w.heap.size w w')) ?_ ?_
 rotate_left
 ·intro hCont
  refine two_ (i := 9) (j := 11) (Ni := some 19) (Nj := some 5) #[true, true, true, true, true, true, true, true, true, true, false, false, false] #[true, true, true, true, true, true, true, true, true, false, false, true, false] rfl rfl rfl rfl (two_of HT_.out (by kernel_rfl)) (by decide) (by decide) (fun K hK => ?_) (fun K hK => ?_)
  ·skip
   refine goes_ Try.func45 (by kernel_rfl) rfl #[.slice A0_1 l0_1.length c0_1, .slice A1_1 l1_1.length c1_1] (by rfl) rfl rfl (by (try simp only [List.map_toArray, List.map_cons, List.map_nil]); first | done | rfl | (simp only [List.length_drop, List.length_take]; rfl)) ?_
   with_reducible refine (Pr02a.calls k _ _ l0_1 _ _ l1_1 a7 _ ?f8 ?f6 ?f7 ?f9 A3.out).mono ?_
   (case f8 => repeat (first | exact (Kd.C_below g2.out HB.out) | (with_reducible refine Kd.C_alloc ?_ _) | (with_reducible refine Kd.C_drewN ?_ _) | (with_reducible refine Kd.C_drew ?_)))
   (case f6 => exact g4.out)
   (case f7 => repeat (first | exact (Kd.C_below g9.out HB.out) | (with_reducible refine Kd.C_alloc ?_ _) | (with_reducible refine Kd.C_drewN ?_ _) | (with_reducible refine Kd.C_drew ?_)))
   (case f9 => exact g8.out)
   rintro e w8 ⟨j7, rfl, i6, hb⟩
   refine ⟨_, rfl, ?_⟩
   have d1 := Aside0.mk (Kd.R_lower i6 (below_size (by repeat (first | (with_reducible first | exact HB.out | apply below_alloc | apply pw_below_drewN | apply below_drew1 | refine below_set ?_ b7.out | refine below_set ?_ d4.out | refine below_set ?_ d5.out) | exact HB.out))))
   have d2 := Aside0.mk (blk_below (g := a8) (o := .cells #[.int .i64 a0_0, .slice A0_1 l0_1.length c0_1, .slice A0_2 l0_2.length c0_2] 25 (0, 0)) (by (with_reducible repeat (first | refine blk_drewN ?_ _ | refine blk_drew ?_ | refine blk_alloc ?_ _)); exact a1.out) hb)
   have d0 := Aside0.mk (blk_below (g := a9) (o := .cells #[.int .i64 a1_0, .slice A1_1 l1_1.length c1_1, .slice A1_2 l1_2.length c1_2] 25 (0, 0)) (by (with_reducible repeat (first | refine blk_drewN ?_ _ | refine blk_drew ?_ | refine blk_alloc ?_ _)); exact a2.out) hb)
   have d3 := Aside0.mk (blk_below (g := b4) (o := .cells #[.int .i64 0, .slice none 0 0, .slice none 0 0] 25 (0, 0)) (by (with_reducible repeat (first | refine blk_drewN ?_ _ | refine blk_drew ?_ | refine blk_alloc ?_ _)); exact a5.out) hb)
   have d6 := Aside0.mk (below_step (by repeat (first | (with_reducible first | exact HB.out | apply below_alloc | apply pw_below_drewN | apply below_drew1 | refine below_set ?_ b7.out | refine below_set ?_ d4.out | refine below_set ?_ d5.out) | exact HB.out)) hb)
   clear a1
   clear a2
   clear a5
   clear HB
   have e6 := d1
   have a1 := d2
   have a2 := d0
   have a5 := d3
   have HB := d6
   clear d1 d2 d0 d3 d6
   (try clear hb)
   (try clear h8)
   (try clear hk)
   (try clear hi)
   (try clear i6)
   obtain ⟨z2, z1, n9⟩ := Kd.R_slice e6.out
   (first | subst n9 | (injection n9 with f1_ f2_ f3_; have f4_ := f1_.symm; have f5_ := f3_.symm; clear f1_ f2_ f3_; subst f4_; subst f5_))
   refine hK.out _ _ ⟨(blk_cell a1.out 0).trans rfl, (blk_cell a1.out 1).trans rfl, (blk_cell a1.out 2).trans rfl, (blk_cell a2.out 0).trans rfl, (blk_cell a2.out 1).trans rfl, (blk_cell a2.out 2).trans rfl⟩ (fun hHeld => ?_)
   clear hK K
   refine norm_ (a' := ?_) ?_ ?_
   rotate_left
   ·show Act.put _ (some 19) _ = _
    simp only [Act.put, List.setIfInBounds_toArray, List.set_cons_zero, List.set_cons_succ, i64_w, i32_w]
    rfl
   refine pure_ (i := 10) (N := some 20) (v := ?_) (a' := ?_) #[true, true, true, true, true, true, true, true, true, true, true, false, false] rfl rfl (any_of HT_.out (by kernel_rfl)) (fun _ _ _ h => h) (Or.inl ⟨by rfl, ?_⟩) ?_ ?_
   rotate_left
   ·intro w'
    go_simp
    with_reducible rfl
   rotate_left
   ·simp only [Act.put, List.setIfInBounds_toArray, List.set_cons_zero, List.set_cons_succ, i64_w, i32_w]
    rfl
   refine one_ (i := 11) (N := some 5) #[true, true, true, true, true, true, true, true, true, true, true, true, false] rfl rfl (one_of HT_.out (by kernel_rfl)) (by decide) (fun K hK => ?_)
   refine box_step ?hg (N := 5) ?hd (cs := #[.int .i64 0, .slice none 0 0, .slice none 0 0]) (t := 25) ?hr ?_; (case hd => rfl); (case hg => rfl); (case hr => first | (go_simp; done) | (go_simp; rfl))
   intro a3 hg G6 hbox hb
   have d1 := Aside0.mk (Kd.R_below (by (with_reducible repeat (first | apply Kd.R_alloc | apply Kd.R_drewN | apply Kd.R_drew)); exact e6.out) hb)
   have d2 := Aside0.mk (blk_below (g := a8) (o := .cells #[.int .i64 a0_0, .slice A0_1 l0_1.length c0_1, .slice A0_2 l0_2.length c0_2] 25 (0, 0)) (by (with_reducible repeat (first | refine blk_drewN ?_ _ | refine blk_drew ?_ | refine blk_alloc ?_ _)); exact a1.out) hb)
   have d0 := Aside0.mk (blk_below (g := a9) (o := .cells #[.int .i64 a1_0, .slice A1_1 l1_1.length c1_1, .slice A1_2 l1_2.length c1_2] 25 (0, 0)) (by (with_reducible repeat (first | refine blk_drewN ?_ _ | refine blk_drew ?_ | refine blk_alloc ?_ _)); exact a2.out) hb)
   have d3 := Aside0.mk (blk_below (g := b4) (o := .cells #[.int .i64 0, .slice none 0 0, .slice none 0 0] 25 (0, 0)) (by (with_reducible repeat (first | refine blk_drewN ?_ _ | refine blk_drew ?_ | refine blk_alloc ?_ _)); exact a5.out) hb)
   have d6 := Aside0.mk (below_step (by repeat (first | (with_reducible first | exact HB.out | apply below_alloc | apply pw_below_drewN | apply below_drew1 | refine below_set ?_ b7.out | refine below_set ?_ d4.out | refine below_set ?_ d5.out) | exact HB.out)) hb)
   have e0 := Aside0.mk (hbox)
   have e1 := Aside0.mk ((by rw [hg]; exact (below_size (by repeat (first | (with_reducible first | exact HB.out | apply below_alloc | apply pw_below_drewN | apply below_drew1 | refine below_set ?_ b7.out | refine below_set ?_ d4.out | refine below_set ?_ d5.out) | exact HB.out))) : w.heap.size ≤ a3))
   have f4 := Aside0.mk ((by rw [hg]; exact (below_size (by repeat (first | (with_reducible first | exact HB.out | apply below_alloc | apply pw_below_drewN | apply below_drew1 | refine below_set ?_ b7.out | refine below_set ?_ d4.out | refine below_set ?_ d5.out) | exact HB.out))) : w.heap.size ≤ a3))
   have f1 := Aside0.mk ((by rw [hg]; exact Nat.ne_of_lt (blk_lt (g := a8) (o := .cells #[.int .i64 a0_0, .slice A0_1 l0_1.length c0_1, .slice A0_2 l0_2.length c0_2] 25 (0, 0)) (by (with_reducible repeat (first | refine blk_drewN ?_ _ | refine blk_drew ?_ | refine blk_alloc ?_ _)); exact a1.out)) : a8 ≠ a3))
   have f5 := Aside0.mk ((by rw [hg]; exact Nat.ne_of_gt (blk_lt (g := a8) (o := .cells #[.int .i64 a0_0, .slice A0_1 l0_1.length c0_1, .slice A0_2 l0_2.length c0_2] 25 (0, 0)) (by (with_reducible repeat (first | refine blk_drewN ?_ _ | refine blk_drew ?_ | refine blk_alloc ?_ _)); exact a1.out)) : a3 ≠ a8))
   have f0 := Aside0.mk ((by rw [hg]; exact Nat.ne_of_lt (blk_lt (g := a9) (o := .cells #[.int .i64 a1_0, .slice A1_1 l1_1.length c1_1, .slice A1_2 l1_2.length c1_2] 25 (0, 0)) (by (with_reducible repeat (first | refine blk_drewN ?_ _ | refine blk_drew ?_ | refine blk_alloc ?_ _)); exact a2.out)) : a9 ≠ a3))
   have f3 := Aside0.mk ((by rw [hg]; exact Nat.ne_of_gt (blk_lt (g := a9) (o := .cells #[.int .i64 a1_0, .slice A1_1 l1_1.length c1_1, .slice A1_2 l1_2.length c1_2] 25 (0, 0)) (by (with_reducible repeat (first | refine blk_drewN ?_ _ | refine blk_drew ?_ | refine blk_alloc ?_ _)); exact a2.out)) : a3 ≠ a9))
   have f2 := Aside0.mk ((by rw [hg]; exact Nat.ne_of_lt (blk_lt (g := b4) (o := .cells #[.int .i64 0, .slice none 0 0, .slice none 0 0] 25 (0, 0)) (by (with_reducible repeat (first | refine blk_drewN ?_ _ | refine blk_drew ?_ | refine blk_alloc ?_ _)); exact a5.out)) : b4 ≠ a3))
   have h2 := Aside0.mk ((by rw [hg]; exact Nat.ne_of_gt (blk_lt (g := b4) (o := .cells #[.int .i64 0, .slice none 0 0, .slice none 0 0] 25 (0, 0)) (by (with_reducible repeat (first | refine blk_drewN ?_ _ | refine blk_drew ?_ | refine blk_alloc ?_ _)); exact a5.out)) : a3 ≠ b4))
   clear e6
   clear a1
   clear a2
   clear a5
   clear HB
   have e6 := d1
   have a1 := d2
   have a2 := d0
   have a5 := d3
   have HB := d6
   have a0 := e0
   have h0 := e1
   have e2 := f4
   have b0 := f1
   have d9 := f5
   have b1 := f0
   have d7 := f3
   have b6 := f2
   have d8 := h2
   clear d1 d2 d0 d3 d6 e0 e1 f4 f1 f5 f0 f3 f2 h2
   clear hb hbox hg
   refine hK.out _ _ ⟨(blk_cell a1.out 0).trans rfl, (blk_cell a1.out 1).trans rfl, (blk_cell a1.out 2).trans rfl, (blk_cell a2.out 0).trans rfl, (blk_cell a2.out 1).trans rfl, (blk_cell a2.out 2).trans rfl⟩ (fun hHeld => ?_)
   clear hK K
   refine norm_ (a' := ?_) ?_ ?_
   rotate_left
   ·show Act.put _ (some 5) _ = _
    simp only [Act.put, List.setIfInBounds_toArray, List.set_cons_zero, List.set_cons_succ, i64_w, i32_w]
    rfl
   exact norm_ (by simp only [putAll, Act.put, List.setIfInBounds_toArray, List.set_cons_zero, List.set_cons_succ]) (hCont (.slice z2 a7.length z1, a3) _ ⟨hHeld, (by (with_reducible repeat (first | apply Kd.R_alloc | apply Kd.R_drewN | apply Kd.R_drew)); exact e6.out), (by (with_reducible repeat (first | refine blk_drewN ?_ _ | refine blk_drew ?_ | refine blk_alloc ?_ _)); exact a1.out), (by (with_reducible repeat (first | refine blk_drewN ?_ _ | refine blk_drew ?_ | refine blk_alloc ?_ _)); exact a2.out), (by (with_reducible repeat (first | refine blk_drewN ?_ _ | refine blk_drew ?_ | refine blk_alloc ?_ _)); exact a5.out), (by (with_reducible repeat (first | refine blk_drewN ?_ _ | refine blk_drew ?_ | refine blk_alloc ?_ _)); exact a0.out), h0.out, e2.out, b0.out, d9.out, b1.out, d7.out, b6.out, d8.out, (by repeat (first | (with_reducible first | exact HB.out | apply below_alloc | apply pw_below_drewN | apply below_drew1 | refine below_set ?_ b7.out | refine below_set ?_ d4.out | refine below_set ?_ d5.out | refine below_set ?_ e2.out) | exact HB.out))⟩)
  ·skip
   refine box_step ?hg (N := 5) ?hd (cs := #[.int .i64 0, .slice none 0 0, .slice none 0 0]) (t := 25) ?hr ?_; (case hd => rfl); (case hg => rfl); (case hr => first | (go_simp; done) | (go_simp; rfl))
   intro a3 hg w8 hbox hb
   have d1 := Aside0.mk (blk_below (g := a8) (o := .cells #[.int .i64 a0_0, .slice A0_1 l0_1.length c0_1, .slice A0_2 l0_2.length c0_2] 25 (0, 0)) (by (with_reducible repeat (first | refine blk_drewN ?_ _ | refine blk_drew ?_ | refine blk_alloc ?_ _)); exact a1.out) hb)
   have d2 := Aside0.mk (blk_below (g := a9) (o := .cells #[.int .i64 a1_0, .slice A1_1 l1_1.length c1_1, .slice A1_2 l1_2.length c1_2] 25 (0, 0)) (by (with_reducible repeat (first | refine blk_drewN ?_ _ | refine blk_drew ?_ | refine blk_alloc ?_ _)); exact a2.out) hb)
   have d0 := Aside0.mk (blk_below (g := b4) (o := .cells #[.int .i64 0, .slice none 0 0, .slice none 0 0] 25 (0, 0)) (by (with_reducible repeat (first | refine blk_drewN ?_ _ | refine blk_drew ?_ | refine blk_alloc ?_ _)); exact a5.out) hb)
   have d3 := Aside0.mk (below_step (by repeat (first | (with_reducible first | exact HB.out | apply below_alloc | apply pw_below_drewN | apply below_drew1 | refine below_set ?_ b7.out | refine below_set ?_ d4.out | refine below_set ?_ d5.out) | exact HB.out)) hb)
   have d6 := Aside0.mk (hbox)
   have e0 := Aside0.mk ((by rw [hg]; exact (below_size (by repeat (first | (with_reducible first | exact HB.out | apply below_alloc | apply pw_below_drewN | apply below_drew1 | refine below_set ?_ b7.out | refine below_set ?_ d4.out | refine below_set ?_ d5.out) | exact HB.out))) : w.heap.size ≤ a3))
   have e1 := Aside0.mk ((by rw [hg]; exact (below_size (by repeat (first | (with_reducible first | exact HB.out | apply below_alloc | apply pw_below_drewN | apply below_drew1 | refine below_set ?_ b7.out | refine below_set ?_ d4.out | refine below_set ?_ d5.out) | exact HB.out))) : w.heap.size ≤ a3))
   have f4 := Aside0.mk ((by rw [hg]; exact Nat.ne_of_lt (blk_lt (g := a8) (o := .cells #[.int .i64 a0_0, .slice A0_1 l0_1.length c0_1, .slice A0_2 l0_2.length c0_2] 25 (0, 0)) (by (with_reducible repeat (first | refine blk_drewN ?_ _ | refine blk_drew ?_ | refine blk_alloc ?_ _)); exact a1.out)) : a8 ≠ a3))
   have f1 := Aside0.mk ((by rw [hg]; exact Nat.ne_of_gt (blk_lt (g := a8) (o := .cells #[.int .i64 a0_0, .slice A0_1 l0_1.length c0_1, .slice A0_2 l0_2.length c0_2] 25 (0, 0)) (by (with_reducible repeat (first | refine blk_drewN ?_ _ | refine blk_drew ?_ | refine blk_alloc ?_ _)); exact a1.out)) : a3 ≠ a8))
   have f5 := Aside0.mk ((by rw [hg]; exact Nat.ne_of_lt (blk_lt (g := a9) (o := .cells #[.int .i64 a1_0, .slice A1_1 l1_1.length c1_1, .slice A1_2 l1_2.length c1_2] 25 (0, 0)) (by (with_reducible repeat (first | refine blk_drewN ?_ _ | refine blk_drew ?_ | refine blk_alloc ?_ _)); exact a2.out)) : a9 ≠ a3))
   have f0 := Aside0.mk ((by rw [hg]; exact Nat.ne_of_gt (blk_lt (g := a9) (o := .cells #[.int .i64 a1_0, .slice A1_1 l1_1.length c1_1, .slice A1_2 l1_2.length c1_2] 25 (0, 0)) (by (with_reducible repeat (first | refine blk_drewN ?_ _ | refine blk_drew ?_ | refine blk_alloc ?_ _)); exact a2.out)) : a3 ≠ a9))
   have f3 := Aside0.mk ((by rw [hg]; exact Nat.ne_of_lt (blk_lt (g := b4) (o := .cells #[.int .i64 0, .slice none 0 0, .slice none 0 0] 25 (0, 0)) (by (with_reducible repeat (first | refine blk_drewN ?_ _ | refine blk_drew ?_ | refine blk_alloc ?_ _)); exact a5.out)) : b4 ≠ a3))
   have f2 := Aside0.mk ((by rw [hg]; exact Nat.ne_of_gt (blk_lt (g := b4) (o := .cells #[.int .i64 0, .slice none 0 0, .slice none 0 0] 25 (0, 0)) (by (with_reducible repeat (first | refine blk_drewN ?_ _ | refine blk_drew ?_ | refine blk_alloc ?_ _)); exact a5.out)) : a3 ≠ b4))
   clear a1
   clear a2
   clear a5
   clear HB
   have a1 := d1
   have a2 := d2
   have a5 := d0
   have HB := d3
   have a0 := d6
   have h0 := e0
   have e2 := e1
   have b0 := f4
   have d9 := f1
   have b1 := f5
   have d7 := f0
   have b6 := f3
   have d8 := f2
   clear d1 d2 d0 d3 d6 e0 e1 f4 f1 f5 f0 f3 f2
   clear hb hbox hg
   refine hK.out _ _ ⟨(blk_cell a1.out 0).trans rfl, (blk_cell a1.out 1).trans rfl, (blk_cell a1.out 2).trans rfl, (blk_cell a2.out 0).trans rfl, (blk_cell a2.out 1).trans rfl, (blk_cell a2.out 2).trans rfl⟩ (fun hHeld => ?_)
   clear hK K
   refine norm_ (a' := ?_) ?_ ?_
   rotate_left
   ·show Act.put _ (some 5) _ = _
    simp only [Act.put, List.setIfInBounds_toArray, List.set_cons_zero, List.set_cons_succ, i64_w, i32_w]
    rfl
   refine one_ (i := 9) (N := some 19) #[true, true, true, true, true, true, true, true, true, true, false, true, false] rfl rfl (one_of HT_.out (by kernel_rfl)) (by decide) (fun K hK => ?_)
   refine goes_ Try.func45 (by kernel_rfl) rfl #[.slice A0_1 l0_1.length c0_1, .slice A1_1 l1_1.length c1_1] (by rfl) rfl rfl (by (try simp only [List.map_toArray, List.map_cons, List.map_nil]); first | done | rfl | (simp only [List.length_drop, List.length_take]; rfl)) ?_
   with_reducible refine (Pr02a.calls k _ _ l0_1 _ _ l1_1 a7 _ ?f8 ?f6 ?f7 ?f9 A3.out).mono ?_
   (case f8 => repeat (first | exact (Kd.C_below g2.out HB.out) | (with_reducible refine Kd.C_alloc ?_ _) | (with_reducible refine Kd.C_drewN ?_ _) | (with_reducible refine Kd.C_drew ?_)))
   (case f6 => exact g4.out)
   (case f7 => repeat (first | exact (Kd.C_below g9.out HB.out) | (with_reducible refine Kd.C_alloc ?_ _) | (with_reducible refine Kd.C_drewN ?_ _) | (with_reducible refine Kd.C_drew ?_)))
   (case f9 => exact g8.out)
   rintro e w9 ⟨j7, rfl, i6, hb⟩
   refine ⟨_, rfl, ?_⟩
   have d1 := Aside0.mk (Kd.R_lower i6 (below_size (by repeat (first | (with_reducible first | exact HB.out | apply below_alloc | apply pw_below_drewN | apply below_drew1 | refine below_set ?_ b7.out | refine below_set ?_ d4.out | refine below_set ?_ d5.out | refine below_set ?_ e2.out) | exact HB.out))))
   have d2 := Aside0.mk (blk_below (g := a8) (o := .cells #[.int .i64 a0_0, .slice A0_1 l0_1.length c0_1, .slice A0_2 l0_2.length c0_2] 25 (0, 0)) (by (with_reducible repeat (first | refine blk_drewN ?_ _ | refine blk_drew ?_ | refine blk_alloc ?_ _)); exact a1.out) hb)
   have d0 := Aside0.mk (blk_below (g := a9) (o := .cells #[.int .i64 a1_0, .slice A1_1 l1_1.length c1_1, .slice A1_2 l1_2.length c1_2] 25 (0, 0)) (by (with_reducible repeat (first | refine blk_drewN ?_ _ | refine blk_drew ?_ | refine blk_alloc ?_ _)); exact a2.out) hb)
   have d3 := Aside0.mk (blk_below (g := b4) (o := .cells #[.int .i64 0, .slice none 0 0, .slice none 0 0] 25 (0, 0)) (by (with_reducible repeat (first | refine blk_drewN ?_ _ | refine blk_drew ?_ | refine blk_alloc ?_ _)); exact a5.out) hb)
   have d6 := Aside0.mk (blk_below (g := a3) (o := .cells #[.int .i64 0, .slice none 0 0, .slice none 0 0] 25 (0, 0)) (by (with_reducible repeat (first | refine blk_drewN ?_ _ | refine blk_drew ?_ | refine blk_alloc ?_ _)); exact a0.out) hb)
   have e0 := Aside0.mk (below_step (by repeat (first | (with_reducible first | exact HB.out | apply below_alloc | apply pw_below_drewN | apply below_drew1 | refine below_set ?_ b7.out | refine below_set ?_ d4.out | refine below_set ?_ d5.out | refine below_set ?_ e2.out) | exact HB.out)) hb)
   clear a1
   clear a2
   clear a5
   clear a0
   clear HB
   have e6 := d1
   have a1 := d2
   have a2 := d0
   have a5 := d3
   have a0 := d6
   have HB := e0
   clear d1 d2 d0 d3 d6 e0
   (try clear hb)
   (try clear h8)
   (try clear hk)
   (try clear hi)
   (try clear i6)
   obtain ⟨p0, p3, m2⟩ := Kd.R_slice e6.out
   (first | subst m2 | (injection m2 with f1_ f2_ f3_; have f4_ := f1_.symm; have f5_ := f3_.symm; clear f1_ f2_ f3_; subst f4_; subst f5_))
   refine hK.out _ _ ⟨(blk_cell a1.out 0).trans rfl, (blk_cell a1.out 1).trans rfl, (blk_cell a1.out 2).trans rfl, (blk_cell a2.out 0).trans rfl, (blk_cell a2.out 1).trans rfl, (blk_cell a2.out 2).trans rfl⟩ (fun hHeld => ?_)
   clear hK K
   refine norm_ (a' := ?_) ?_ ?_
   rotate_left
   ·show Act.put _ (some 19) _ = _
    simp only [Act.put, List.setIfInBounds_toArray, List.set_cons_zero, List.set_cons_succ, i64_w, i32_w]
    rfl
   refine pure_ (i := 10) (N := some 20) (v := ?_) (a' := ?_) #[true, true, true, true, true, true, true, true, true, true, true, true, false] rfl rfl (any_of HT_.out (by kernel_rfl)) (fun _ _ _ h => h) (Or.inl ⟨by rfl, ?_⟩) ?_ ?_
   rotate_left
   ·intro w'
    go_simp
    with_reducible rfl
   rotate_left
   ·simp only [Act.put, List.setIfInBounds_toArray, List.set_cons_zero, List.set_cons_succ, i64_w, i32_w]
    rfl
   exact norm_ (by simp only [putAll, Act.put, List.setIfInBounds_toArray, List.set_cons_zero, List.set_cons_succ]) (hCont (.slice p0 a7.length p3, a3) _ ⟨hHeld, (by (with_reducible repeat (first | apply Kd.R_alloc | apply Kd.R_drewN | apply Kd.R_drew)); exact e6.out), (by (with_reducible repeat (first | refine blk_drewN ?_ _ | refine blk_drew ?_ | refine blk_alloc ?_ _)); exact a1.out), (by (with_reducible repeat (first | refine blk_drewN ?_ _ | refine blk_drew ?_ | refine blk_alloc ?_ _)); exact a2.out), (by (with_reducible repeat (first | refine blk_drewN ?_ _ | refine blk_drew ?_ | refine blk_alloc ?_ _)); exact a5.out), (by (with_reducible repeat (first | refine blk_drewN ?_ _ | refine blk_drew ?_ | refine blk_alloc ?_ _)); exact a0.out), h0.out, e2.out, b0.out, d9.out, b1.out, d7.out, b6.out, d8.out, (by repeat (first | (with_reducible first | exact HB.out | apply below_alloc | apply pw_below_drewN | apply below_drew1 | refine below_set ?_ b7.out | refine below_set ?_ d4.out | refine below_set ?_ d5.out | refine below_set ?_ e2.out) | exact HB.out))⟩)
 rintro ⟨j7, a3⟩ e9 ⟨hS_, n6, o0, n7, o8, o1, o6, n5, n8, o4, o5, n0, m5, m3, l9⟩
 have d1 : Aside0 (Kd.R Kd.string 9 e9 w.heap.size (fun _ => True) j7 a7) := ⟨n6⟩
 have d2 : Aside0 (e9.heap[a8]? = some (.cells #[.int .i64 a0_0, .slice A0_1 l0_1.length c0_1, .slice A0_2 l0_2.length c0_2] 25 (0, 0))) := ⟨o0⟩
 have d0 : Aside0 (e9.heap[a9]? = some (.cells #[.int .i64 a1_0, .slice A1_1 l1_1.length c1_1, .slice A1_2 l1_2.length c1_2] 25 (0, 0))) := ⟨n7⟩
 have d3 : Aside0 (e9.heap[b4]? = some (.cells #[.int .i64 0, .slice none 0 0, .slice none 0 0] 25 (0, 0))) := ⟨o8⟩
 have d6 : Aside0 (e9.heap[a3]? = some (.cells #[.int .i64 0, .slice none 0 0, .slice none 0 0] 25 (0, 0))) := ⟨o1⟩
 have e0 : Aside0 (w.heap.size ≤ a3) := ⟨o6⟩
 have e1 : Aside0 (w.heap.size ≤ a3) := ⟨n5⟩
 have f4 : Aside0 (a8 ≠ a3) := ⟨n8⟩
 have f1 : Aside0 (a3 ≠ a8) := ⟨o4⟩
 have f5 : Aside0 (a9 ≠ a3) := ⟨o5⟩
 have f0 : Aside0 (a3 ≠ a9) := ⟨n0⟩
 have f3 : Aside0 (b4 ≠ a3) := ⟨m5⟩
 have f2 : Aside0 (a3 ≠ b4) := ⟨m3⟩
 have h2 : Aside0 (Below w.heap.size w e9) := ⟨l9⟩
 clear a1
 clear a2
 clear a5
 clear HB
 clear n6 o0 n7 o8 o1 o6 n5 n8 o4 o5 n0 m5 m3 l9
 have e6 := d1
 have a1 := d2
 have a2 := d0
 have a5 := d3
 have a0 := d6
 have h0 := e0
 have e2 := e1
 have b0 := f4
 have d9 := f1
 have b1 := f5
 have d7 := f0
 have b6 := f3
 have d8 := f2
 have HB := h2
 clear d1 d2 d0 d3 d6 e0 e1 f4 f1 f5 f0 f3 f2 h2
 have hHeld : e9.cell? ⟨a8, 0, none⟩ = some (.int .i64 a0_0) ∧ e9.cell? ⟨a8, 1, none⟩ = some (.slice A0_1 l0_1.length c0_1) ∧ e9.cell? ⟨a8, 2, none⟩ = some (.slice A0_2 l0_2.length c0_2) ∧ e9.cell? ⟨a9, 0, none⟩ = some (.int .i64 a1_0) ∧ e9.cell? ⟨a9, 1, none⟩ = some (.slice A1_1 l1_1.length c1_1) ∧ e9.cell? ⟨a9, 2, none⟩ = some (.slice A1_2 l1_2.length c1_2) := hS_
 obtain ⟨e7, e3, m9⟩ := Kd.R_slice e6.out
 (first | subst m9 | (injection m9 with f1_ f2_ f3_; have f4_ := f1_.symm; have f5_ := f3_.symm; clear f1_ f2_ f3_; subst f4_; subst f5_))
 refine norm_ (a' := ?_) ?_ ?_
 rotate_left
 ·simp only [putAll, Act.put, List.setIfInBounds_toArray, List.set_cons_zero, List.set_cons_succ]
  rfl
 refine one_ (i := 12) (N := none) #[true, true, true, true, true, true, true, true, true, true, true, true, true] rfl rfl (one_of HT_.out (by kernel_rfl)) (by decide) (fun K hK => ?_)
 have G1 : e9.cell? ⟨a3, 0, none⟩ = some (.int .i64 0) := (blk_cell a0.out 0).trans rfl
 have C6 := blk_frozen a0.out 0
 have t5 := b0.out
 have v4 := b1.out
 have y2 := b6.out
 have u6 := d9.out
 have p7 := d7.out
 have t7 := d8.out
 have F6 : e9.cell? ⟨a3, 1, none⟩ = some (.slice none 0 0) := (blk_cell a0.out 1).trans rfl
 have C1 := blk_frozen a0.out 1
 have v2 := b0.out
 have t4 := b1.out
 have r9 := b6.out
 have u8 := d9.out
 have q7 := d7.out
 have q8 := d8.out
 have F9 : e9.cell? ⟨a3, 2, none⟩ = some (.slice none 0 0) := (blk_cell a0.out 2).trans rfl
 have A6 := blk_frozen a0.out 2
 have q1 := b0.out
 have u2 := b1.out
 have p9 := b6.out
 have s7 := d9.out
 have u0 := d7.out
 have s9 := d8.out
 refine skip_ (w1 := ?_) (by rfl) rfl ?_ ?_
 rotate_left
 ·go_simp
  rfl
 refine hK.out _ _ ⟨((cell_far (p := ⟨a3, _, none⟩) b0.out _).trans (((cell_far (p := ⟨a3, _, none⟩) b0.out _).trans (((cell_far (p := ⟨a3, _, none⟩) b0.out _).trans (hHeld.1)))))), ((cell_far (p := ⟨a3, _, none⟩) b0.out _).trans (((cell_far (p := ⟨a3, _, none⟩) b0.out _).trans (((cell_far (p := ⟨a3, _, none⟩) b0.out _).trans (hHeld.2.1)))))), ((cell_far (p := ⟨a3, _, none⟩) b0.out _).trans (((cell_far (p := ⟨a3, _, none⟩) b0.out _).trans (((cell_far (p := ⟨a3, _, none⟩) b0.out _).trans (hHeld.2.2.1)))))), ((cell_far (p := ⟨a3, _, none⟩) b1.out _).trans (((cell_far (p := ⟨a3, _, none⟩) b1.out _).trans (((cell_far (p := ⟨a3, _, none⟩) b1.out _).trans (hHeld.2.2.2.1)))))), ((cell_far (p := ⟨a3, _, none⟩) b1.out _).trans (((cell_far (p := ⟨a3, _, none⟩) b1.out _).trans (((cell_far (p := ⟨a3, _, none⟩) b1.out _).trans (hHeld.2.2.2.2.1)))))), ((cell_far (p := ⟨a3, _, none⟩) b1.out _).trans (((cell_far (p := ⟨a3, _, none⟩) b1.out _).trans (((cell_far (p := ⟨a3, _, none⟩) b1.out _).trans (hHeld.2.2.2.2.2))))))⟩ (fun hHeld => ?_)
 clear hK K
 refine done_ (done_of HT_.out (by kernel_rfl)) ?_
 try go_wp2
 go_loopg [6] k (fun kq v6 w' => ∃ (b8 : Int) (e5 : List (S51)) (b2 : Value), v6 = .int .i64 b8 ∧ Aside0 (Pr50b.l0 kq b8 a0_0 l0_1 l0_2 a1_0 l1_1 l1_2 (wrap64 (a0_0 * a1_0)) a7 e5 = some (r1, r2, r3)) ∧ Aside0 (kq ≤ k) ∧ Aside0 (Kd.R Kd.string 9 w' w.heap.size (fun _ => True) (.slice e7 a7.length e3) a7) ∧ Aside0 (Kd.R k51 51 w' w.heap.size (fun _ => True) b2 e5) ∧ Aside0 (w'.heap[a8]? = some (.cells #[.int .i64 a0_0, (.slice A0_1 l0_1.length c0_1), (.slice A0_2 l0_2.length c0_2)] 25 (0, 0))) ∧ Aside0 (w'.heap[a9]? = some (.cells #[.int .i64 a1_0, (.slice A1_1 l1_1.length c1_1), (.slice A1_2 l1_2.length c1_2)] 25 (0, 0))) ∧ Aside0 (w'.heap[b4]? = some (.cells #[.int .i64 0, (.slice none 0 0), (.slice none 0 0)] 25 (0, 0))) ∧ Aside0 (w'.heap[a3]? = some (.cells #[.int .i64 (wrap64 (a0_0 * a1_0)), (.slice e7 a7.length e3), b2] 25 (0, 0))) ∧ Aside0 (Below w.heap.size w w'))
 case atStart => exact ⟨(0), (([] : List (S51))), (.slice none 0 0), (by first | rfl | (simp; done) | (simp [*]; done)), H', ⟨Nat.le_refl _⟩, ⟨by (with_reducible repeat (first | apply Kd.R_alloc | apply Kd.R_drewN | apply Kd.R_drew)); exact Kd.R_mono (Kd.R_far (p := ⟨a3, 2, none⟩) (Kd.R_far (p := ⟨a3, 1, none⟩) (Kd.R_far (p := ⟨a3, 0, none⟩) (Kd.R_types e6.out a0.out (by decide)) (fun _ hk => hk.2) (.int .i64 (wrap64 (a0_0 * a1_0)))) (fun _ hk => hk.2) (.slice e7 a7.length e3)) (fun _ hk => hk.2) (.slice none 0 0)) (fun _ hk => trivial)⟩, ⟨by first | exact Kd.R_nil _ _ _ _ _ | exact Kd.N_nil _ _ _ _ _ | exact Kd.V_nil _ _ _ _ _ | exact Kd.Q_nil _ _ _ _ _ | exact Kd.S_nil _ _ _ _ _⟩, ⟨by (with_reducible repeat (first | refine blk_drewN ?_ _ | refine blk_drew ?_ | refine blk_alloc ?_ _)); refine blk_far ?_ b0.out _; (with_reducible repeat (first | refine blk_drewN ?_ _ | refine blk_drew ?_ | refine blk_alloc ?_ _)); refine blk_far ?_ b0.out _; (with_reducible repeat (first | refine blk_drewN ?_ _ | refine blk_drew ?_ | refine blk_alloc ?_ _)); refine blk_far ?_ b0.out _; (with_reducible repeat (first | refine blk_drewN ?_ _ | refine blk_drew ?_ | refine blk_alloc ?_ _)); exact a1.out⟩, ⟨by (with_reducible repeat (first | refine blk_drewN ?_ _ | refine blk_drew ?_ | refine blk_alloc ?_ _)); refine blk_far ?_ b1.out _; (with_reducible repeat (first | refine blk_drewN ?_ _ | refine blk_drew ?_ | refine blk_alloc ?_ _)); refine blk_far ?_ b1.out _; (with_reducible repeat (first | refine blk_drewN ?_ _ | refine blk_drew ?_ | refine blk_alloc ?_ _)); refine blk_far ?_ b1.out _; (with_reducible repeat (first | refine blk_drewN ?_ _ | refine blk_drew ?_ | refine blk_alloc ?_ _)); exact a2.out⟩, ⟨by (with_reducible repeat (first | refine blk_drewN ?_ _ | refine blk_drew ?_ | refine blk_alloc ?_ _)); refine blk_far ?_ b6.out _; (with_reducible repeat (first | refine blk_drewN ?_ _ | refine blk_drew ?_ | refine blk_alloc ?_ _)); refine blk_far ?_ b6.out _; (with_reducible repeat (first | refine blk_drewN ?_ _ | refine blk_drew ?_ | refine blk_alloc ?_ _)); refine blk_far ?_ b6.out _; (with_reducible repeat (first | refine blk_drewN ?_ _ | refine blk_drew ?_ | refine blk_alloc ?_ _)); exact a5.out⟩, ⟨by (with_reducible repeat (first | refine blk_drewN ?_ _ | refine blk_drew ?_ | refine blk_alloc ?_ _)); refine blk_put (cs := #[.int .i64 (wrap64 (a0_0 * a1_0)), .slice e7 a7.length e3, .slice none 0 0]) ?_ 2 _ rfl; (with_reducible repeat (first | refine blk_drewN ?_ _ | refine blk_drew ?_ | refine blk_alloc ?_ _)); refine blk_put (cs := #[.int .i64 (wrap64 (a0_0 * a1_0)), .slice none 0 0, .slice none 0 0]) ?_ 1 _ rfl; (with_reducible repeat (first | refine blk_drewN ?_ _ | refine blk_drew ?_ | refine blk_alloc ?_ _)); refine blk_put (cs := #[.int .i64 0, .slice none 0 0, .slice none 0 0]) ?_ 0 _ rfl; (with_reducible repeat (first | refine blk_drewN ?_ _ | refine blk_drew ?_ | refine blk_alloc ?_ _)); exact a0.out⟩, ⟨by repeat (first | (with_reducible first | exact HB.out | apply below_alloc | apply pw_below_drewN | apply below_drew1 | refine below_set ?_ b7.out | refine below_set ?_ d4.out | refine below_set ?_ d5.out | refine below_set ?_ e2.out) | exact HB.out)⟩⟩
 case round =>
  clear H'
  try clear c1
  try clear c2
  try clear p2
  try clear c4
  try clear p6
  obtain ⟨b8, e5, b2, rfl, HA, g1, a6, a4, a1, a2, a5, a0, HB⟩ := hrel
  cases gk with
  | zero => exact absurd HA.out (by simp [Pr50b.l0])
  | succ k1 =>
   have H := HA.out
   clear HA
   simp only [Pr50b.l0] at H
   by_cases g7 : b8 < (wrap64 (a0_0 * a1_0))
   ·rw [if_pos g7] at H
    have c16b0 : decide (b8 < (wrap64 (a0_0 * a1_0))) = true := decide_eq_true g7
    clear g7
    have H' := Aside0.mk H
    clear H
    have B8 := d9.out
    have E4 := b0.out
    have z5 := d7.out
    have E2 := b1.out
    have D2 := d8.out
    have z4 := b6.out
    have i1 : wr.cell? ⟨a3, 0, none⟩ = some (.int .i64 (wrap64 (a0_0 * a1_0))) := (blk_cell a0.out 0).trans rfl
    have h6 : wr.cell? ⟨a3, 1, none⟩ = some (.slice e7 a7.length e3) := (blk_cell a0.out 1).trans rfl
    have h5 : wr.cell? ⟨a3, 2, none⟩ = some (b2) := (blk_cell a0.out 2).trans rfl
    have i0 := blk_frozen a0.out 0
    have h9 := blk_frozen a0.out 1
    have h7 := blk_frozen a0.out 2
    go_wp2
    go_loopg [7] k1 (fun kq v7 w' => ∃ (b3 : Int) (e8 : List (S51)) (b2 : Value), v7 = .int .i64 b3 ∧ Aside0 (Pr50b.l1 kq b8 b3 a0_0 l0_1 l0_2 a1_0 l1_1 l1_2 (wrap64 (a0_0 * a1_0)) a7 e8 = some (r1, r2, r3)) ∧ Aside0 (kq ≤ k1) ∧ Aside0 (Kd.R Kd.string 9 w' w.heap.size (fun _ => True) (.slice e7 a7.length e3) a7) ∧ Aside0 (Kd.R k51 51 w' w.heap.size (fun _ => True) b2 e8) ∧ Aside0 (w'.heap[a8]? = some (.cells #[.int .i64 a0_0, (.slice A0_1 l0_1.length c0_1), (.slice A0_2 l0_2.length c0_2)] 25 (0, 0))) ∧ Aside0 (w'.heap[a9]? = some (.cells #[.int .i64 a1_0, (.slice A1_1 l1_1.length c1_1), (.slice A1_2 l1_2.length c1_2)] 25 (0, 0))) ∧ Aside0 (w'.heap[b4]? = some (.cells #[.int .i64 0, (.slice none 0 0), (.slice none 0 0)] 25 (0, 0))) ∧ Aside0 (w'.heap[a3]? = some (.cells #[.int .i64 (wrap64 (a0_0 * a1_0)), (.slice e7 a7.length e3), b2] 25 (0, 0))) ∧ Aside0 (Below w.heap.size w w'))
    case atStart => exact ⟨(0), (e5), (b2), (by first | rfl | (simp; done) | (simp [*]; done)), H', ⟨Nat.le_refl _⟩, ⟨by (with_reducible repeat (first | apply Kd.R_alloc | apply Kd.R_drewN | apply Kd.R_drew)); exact a6.out⟩, ⟨by (with_reducible repeat (first | apply Kd.R_alloc | apply Kd.R_drewN | apply Kd.R_drew)); exact a4.out⟩, ⟨by (with_reducible repeat (first | refine blk_drewN ?_ _ | refine blk_drew ?_ | refine blk_alloc ?_ _)); exact a1.out⟩, ⟨by (with_reducible repeat (first | refine blk_drewN ?_ _ | refine blk_drew ?_ | refine blk_alloc ?_ _)); exact a2.out⟩, ⟨by (with_reducible repeat (first | refine blk_drewN ?_ _ | refine blk_drew ?_ | refine blk_alloc ?_ _)); exact a5.out⟩, ⟨by (with_reducible repeat (first | refine blk_drewN ?_ _ | refine blk_drew ?_ | refine blk_alloc ?_ _)); exact a0.out⟩, ⟨by repeat (first | (with_reducible first | exact HB.out | apply below_alloc | apply pw_below_drewN | apply below_drew1 | refine below_set ?_ b7.out | refine below_set ?_ d4.out | refine below_set ?_ d5.out | refine below_set ?_ e2.out) | exact HB.out)⟩⟩
    case round =>
     clear H'
     try clear c1
     try clear c2
     try clear p2
     try clear c4
     try clear p6
     try clear g7
     try clear c16b0
     try clear z3
     try clear y9
     try clear z0
     try clear i1
     try clear h6
     try clear h5
     try clear i0
     try clear h9
     try clear h7
     try clear p2
     try clear p6
     obtain ⟨b3, e8, b2, rfl, HA, g0, a6, a4, a1, a2, a5, a0, HB⟩ := hrel
     cases gk with
     | zero => exact absurd HA.out (by simp [Pr50b.l1])
     | succ k2 =>
      have H := HA.out
      clear HA
      simp only [Pr50b.l1] at H
      by_cases h1 : b3 < (a7.length : Int)
      ·rw [if_pos h1] at H
       have c21b0 : decide (b3 < (a7.length : Int)) = true := decide_eq_true h1
       clear h1
       by_cases j4 : 0 ≤ b3
       ·rw [if_pos j4] at H
        have c22b0 : decide (0 ≤ b3) = true := decide_eq_true j4
        clear j4
        have H' := Aside0.mk H
        clear H
        have z8 := d9.out
        have E7 := b0.out
        have E9 := d7.out
        have z7 := b1.out
        have D4 := d8.out
        have D5 := b6.out
        have k9 : wr.cell? ⟨a3, 0, none⟩ = some (.int .i64 (wrap64 (a0_0 * a1_0))) := (blk_cell a0.out 0).trans rfl
        have l6 : wr.cell? ⟨a3, 1, none⟩ = some (.slice e7 a7.length e3) := (blk_cell a0.out 1).trans rfl
        have l3 : wr.cell? ⟨a3, 2, none⟩ = some (b2) := (blk_cell a0.out 2).trans rfl
        have l4 := blk_frozen a0.out 0
        have l5 := blk_frozen a0.out 1
        have l8 := blk_frozen a0.out 2
        have i4 : 0 ≤ (b3 : Int) := of_decide_eq_true (by first | (with_reducible assumption) | assumption)
        have i3 : b3 < (a7.length : Int) := of_decide_eq_true (by first | (with_reducible assumption) | assumption)
        obtain ⟨e4, p1, l7⟩ := Kd.at_string (Kd.R_reads' a6.out).2.2 b3 i4 i3
        cases p1
        replace i4 := eq_true i4
        replace i3 := eq_true i3
        go_wp2
        go_loopg [9] k2 (fun kq v9 w' => ∃ (b9 : Int) (b5 : List (S51)) (b2 : Value), v9 = .int .i64 b9 ∧ Aside0 (Pr50b.l2 kq b8 b3 (rdOf ByteArray.empty a7 b3) b9 a0_0 l0_1 l0_2 a1_0 l1_1 l1_2 (wrap64 (a0_0 * a1_0)) a7 b5 = some (r1, r2, r3)) ∧ Aside0 (kq ≤ k2) ∧ Aside0 (Kd.R Kd.string 9 w' w.heap.size (fun _ => True) (.slice (some e4) a7.length e3) a7) ∧ Aside0 (Kd.R k51 51 w' w.heap.size (fun _ => True) b2 b5) ∧ Aside0 (w'.heap[a8]? = some (.cells #[.int .i64 a0_0, (.slice A0_1 l0_1.length c0_1), (.slice A0_2 l0_2.length c0_2)] 25 (0, 0))) ∧ Aside0 (w'.heap[a9]? = some (.cells #[.int .i64 a1_0, (.slice A1_1 l1_1.length c1_1), (.slice A1_2 l1_2.length c1_2)] 25 (0, 0))) ∧ Aside0 (w'.heap[b4]? = some (.cells #[.int .i64 0, (.slice none 0 0), (.slice none 0 0)] 25 (0, 0))) ∧ Aside0 (w'.heap[a3]? = some (.cells #[.int .i64 (wrap64 (a0_0 * a1_0)), (.slice (some e4) a7.length e3), b2] 25 (0, 0))) ∧ Aside0 (Below w.heap.size w w'))
        case atStart => exact ⟨(0), (e8), (b2), (by first | rfl | (simp; done) | (simp [*]; done)), H', ⟨Nat.le_refl _⟩, ⟨by (with_reducible repeat (first | apply Kd.R_alloc | apply Kd.R_drewN | apply Kd.R_drew)); exact a6.out⟩, ⟨by (with_reducible repeat (first | apply Kd.R_alloc | apply Kd.R_drewN | apply Kd.R_drew)); exact a4.out⟩, ⟨by (with_reducible repeat (first | refine blk_drewN ?_ _ | refine blk_drew ?_ | refine blk_alloc ?_ _)); exact a1.out⟩, ⟨by (with_reducible repeat (first | refine blk_drewN ?_ _ | refine blk_drew ?_ | refine blk_alloc ?_ _)); exact a2.out⟩, ⟨by (with_reducible repeat (first | refine blk_drewN ?_ _ | refine blk_drew ?_ | refine blk_alloc ?_ _)); exact a5.out⟩, ⟨by (with_reducible repeat (first | refine blk_drewN ?_ _ | refine blk_drew ?_ | refine blk_alloc ?_ _)); exact a0.out⟩, ⟨by repeat (first | (with_reducible first | exact HB.out | apply below_alloc | apply pw_below_drewN | apply below_drew1 | refine below_set ?_ b7.out | refine below_set ?_ d4.out | refine below_set ?_ d5.out | refine below_set ?_ e2.out) | exact HB.out)⟩⟩
        case round =>
         clear H'
         try clear c1
         try clear c2
         try clear p2
         try clear q2
         try clear G4
         try clear c4
         try clear p6
         try clear g7
         try clear c16b0
         try clear z3
         try clear y9
         try clear z0
         try clear h1
         try clear c21b0
         try clear j4
         try clear c22b0
         try clear G7
         try clear G8
         try clear G3
         try clear H2
         try clear H3
         try clear F7
         try clear i1
         try clear h6
         try clear h5
         try clear k9
         try clear l6
         try clear l3
         try clear i0
         try clear h9
         try clear h7
         try clear l4
         try clear l5
         try clear l8
         try clear l7
         try clear p2
         try clear i4
         try clear p6
         try clear i3
         obtain ⟨b9, b5, b2, rfl, HA, g6, a6, a4, a1, a2, a5, a0, HB⟩ := hrel
         cases gk with
         | zero => exact absurd HA.out (by simp [Pr50b.l2])
         | succ k3 =>
          have H := HA.out
          clear HA
          simp only [Pr50b.l2] at H
          by_cases h4 : b9 < (wrap64 (a0_0 * a1_0))
          ·rw [if_pos h4] at H
           have c27b0 : decide (b9 < (wrap64 (a0_0 * a1_0))) = true := decide_eq_true h4
           clear h4
           by_cases c28 : a1_0 = 0
           ·rw [if_pos c28] at H
            exact absurd H (by simp)
           ·rw [if_neg c28] at H
            have c28b0 : (a1_0 == 0) = false := beq_eq_false_iff_ne.mpr c28
            have c28b1 : (a1_0 != 0) = true := bne_iff_ne.mpr c28
            replace H := Option.bind_eq_some_iff.mp H
            obtain ⟨n1, m0, H⟩ := H
            replace H : (if n1 = true then ((Pr50a.f k3 a1_0 l1_1 l1_2 (rdOf ByteArray.empty a7 b3) (Int.tmod b8 a1_0) (Int.tmod b9 a1_0)).bind fun g5 => (if g5 = true then (if b5.length < 5864062014805 then (Pr50b.l2 k3 b8 b3 (rdOf ByteArray.empty a7 b3) (wrap64 (b9 + 1)) a0_0 l0_1 l0_2 a1_0 l1_1 l1_2 (wrap64 (a0_0 * a1_0)) a7 (b5 ++ [(⟨b8, b3, b9⟩ : S51)])) else (none)) else (Pr50b.l2 k3 b8 b3 (rdOf ByteArray.empty a7 b3) (wrap64 (b9 + 1)) a0_0 l0_1 l0_2 a1_0 l1_1 l1_2 (wrap64 (a0_0 * a1_0)) a7 b5))) else (Pr50b.l2 k3 b8 b3 (rdOf ByteArray.empty a7 b3) (wrap64 (b9 + 1)) a0_0 l0_1 l0_2 a1_0 l1_1 l1_2 (wrap64 (a0_0 * a1_0)) a7 b5)) = some (r1, r2, r3) := H
            have m7 := Aside0.mk m0
            clear m0
            by_cases k8 : n1 = true
            ·subst k8
             have H1 : ((Pr50a.f k3 a1_0 l1_1 l1_2 (rdOf ByteArray.empty a7 b3) (Int.tmod b8 a1_0) (Int.tmod b9 a1_0)).bind fun g5 => (if g5 = true then (if b5.length < 5864062014805 then (Pr50b.l2 k3 b8 b3 (rdOf ByteArray.empty a7 b3) (wrap64 (b9 + 1)) a0_0 l0_1 l0_2 a1_0 l1_1 l1_2 (wrap64 (a0_0 * a1_0)) a7 (b5 ++ [(⟨b8, b3, b9⟩ : S51)])) else (none)) else (Pr50b.l2 k3 b8 b3 (rdOf ByteArray.empty a7 b3) (wrap64 (b9 + 1)) a0_0 l0_1 l0_2 a1_0 l1_1 l1_2 (wrap64 (a0_0 * a1_0)) a7 b5))) = some (r1, r2, r3) := by rw [if_pos rfl] at H; exact H
             clear H
             have H := H1
             clear H1
             replace H := Option.bind_eq_some_iff.mp H
             obtain ⟨g5, m1, H⟩ := H
             replace H : (if g5 = true then (if b5.length < 5864062014805 then (Pr50b.l2 k3 b8 b3 (rdOf ByteArray.empty a7 b3) (wrap64 (b9 + 1)) a0_0 l0_1 l0_2 a1_0 l1_1 l1_2 (wrap64 (a0_0 * a1_0)) a7 (b5 ++ [(⟨b8, b3, b9⟩ : S51)])) else (none)) else (Pr50b.l2 k3 b8 b3 (rdOf ByteArray.empty a7 b3) (wrap64 (b9 + 1)) a0_0 l0_1 l0_2 a1_0 l1_1 l1_2 (wrap64 (a0_0 * a1_0)) a7 b5)) = some (r1, r2, r3) := H
             have o2 := Aside0.mk m1
             clear m1
             by_cases k0 : g5 = true
             ·subst k0
              have H1 : (if b5.length < 5864062014805 then (Pr50b.l2 k3 b8 b3 (rdOf ByteArray.empty a7 b3) (wrap64 (b9 + 1)) a0_0 l0_1 l0_2 a1_0 l1_1 l1_2 (wrap64 (a0_0 * a1_0)) a7 (b5 ++ [(⟨b8, b3, b9⟩ : S51)])) else (none)) = some (r1, r2, r3) := by rw [if_pos rfl] at H; exact H
              clear H
              have H := H1
              clear H1
              by_cases k7 : b5.length < 5864062014805
              ·rw [if_pos k7] at H
               have n2 := Aside0.mk k7
               clear k7
               obtain ⟨h3, g3⟩ : ∃ y_ : List (S51), y_ = (b5 ++ [(⟨b8, b3, b9⟩ : S51)]) := ⟨_, rfl⟩
               replace H : (Pr50b.l2 k3 b8 b3 (rdOf ByteArray.empty a7 b3) (wrap64 (b9 + 1)) a0_0 l0_1 l0_2 a1_0 l1_1 l1_2 (wrap64 (a0_0 * a1_0)) a7 h3) = some (r1, r2, r3) := by first | (rw [g3]; with_reducible exact H) | (have m4 := (Option.bind_some _ _).symm.trans H; rw [g3]; with_reducible exact m4) | (have m4 := (Option.bind_some _ _).symm.trans H; with_reducible exact m4) | with_reducible exact H | (rw [g3]; exact H) | exact H
               have n3 := Aside0.mk g3
               clear g3
               have H' := Aside0.mk H
               clear H
               have E1 := d9.out
               have C9 := b0.out
               have F3 := d7.out
               have A9 := b1.out
               have C4 := d8.out
               have A1 := b6.out
               have t1 : wr.cell? ⟨a3, 0, none⟩ = some (.int .i64 (wrap64 (a0_0 * a1_0))) := (blk_cell a0.out 0).trans rfl
               have r0 : wr.cell? ⟨a3, 1, none⟩ = some (.slice (some e4) a7.length e3) := (blk_cell a0.out 1).trans rfl
               have u7 : wr.cell? ⟨a3, 2, none⟩ = some (b2) := (blk_cell a0.out 2).trans rfl
               have p5 := blk_frozen a0.out 0
               have t6 := blk_frozen a0.out 1
               have y7 := blk_frozen a0.out 2
               try go_wp2
               have d1 := Aside0.mk (Kd.R_drew a6.out)
               have d2 := Aside0.mk (Kd.R_drew a4.out)
               have d0 := Aside0.mk (blk_drew a1.out)
               have d3 := Aside0.mk (blk_drew a2.out)
               have d6 := Aside0.mk (blk_drew a5.out)
               have e0 := Aside0.mk (blk_drew a0.out)
               have e1 := Aside0.mk (below_drew1 HB.out)
               clear a6
               clear a4
               clear a1
               clear a2
               clear a5
               clear a0
               clear HB
               have a6 := d1
               have a4 := d2
               have a1 := d0
               have a2 := d3
               have a5 := d6
               have a0 := e0
               have HB := e1
               clear d1 d2 d0 d3 d6 e0 e1
               refine start_ (n := 24) (S := fun w' => w'.cell? ⟨a8, 0, none⟩ = some (.int .i64 a0_0) ∧ w'.cell? ⟨a8, 1, none⟩ = some (.slice A0_1 l0_1.length c0_1) ∧ w'.cell? ⟨a8, 2, none⟩ = some (.slice A0_2 l0_2.length c0_2) ∧ w'.cell? ⟨a9, 0, none⟩ = some (.int .i64 a1_0) ∧ w'.cell? ⟨a9, 1, none⟩ = some (.slice A1_1 l1_1.length c1_1) ∧ w'.cell? ⟨a9, 2, none⟩ = some (.slice A1_2 l1_2.length c1_2)) (ds := []) #[false, false, false, false, false, false, false, false, false, false, false, false, false, false, false, false, false, false, false, false, false, false, false, false] (by kernel_rfl) rfl rfl ⟨(blk_cell a1.out 0).trans rfl, (blk_cell a1.out 1).trans rfl, (blk_cell a1.out 2).trans rfl, (blk_cell a2.out 0).trans rfl, (blk_cell a2.out 1).trans rfl, (blk_cell a2.out 2).trans rfl⟩ (fun hHeld => ?_); refine with_tabW Pr50b.tab12 Pr50b.bits12 (fun HT_ HW_ => ?_)
               generalize wr.drew = w38 at a6 a4 a1 a2 a5 a0 HB hHeld ⊢
               refine pure_ (i := 1) (N := some 46) (v := ?_) (a' := ?_) #[false, true, false, false, false, false, false, false, false, false, false, false, false, false, false, false, false, false, false, false, false, false, false, false] rfl rfl (any_of HT_.out (by kernel_rfl)) (fun _ _ _ h => h) (Or.inl ⟨by rfl, ?_⟩) ?_ ?_
               rotate_left
               ·intro w'
                go_simp
                with_reducible rfl
               rotate_left
               ·simp only [Act.put, List.setIfInBounds_toArray, List.set_cons_zero, List.set_cons_succ, i64_w, i32_w]
                rfl
               refine pure_ (i := 2) (N := some 47) (v := ?_) (a' := ?_) #[false, true, true, false, false, false, false, false, false, false, false, false, false, false, false, false, false, false, false, false, false, false, false, false] rfl rfl (any_of HT_.out (by kernel_rfl)) (fun _ _ _ h => h) (Or.inl ⟨by rfl, ?_⟩) ?_ ?_
               rotate_left
               ·intro w'
                go_simp
                with_reducible rfl
               rotate_left
               ·simp only [Act.put, List.setIfInBounds_toArray, List.set_cons_zero, List.set_cons_succ, i64_w, i32_w]
                rfl
               refine pure_ (i := 3) (N := some 48) (v := ?_) (a' := ?_) #[false, true, true, true, false, false, false, false, false, false, false, false, false, false, false, false, false, false, false, false, false, false, false, false] rfl rfl (any_of HT_.out (by kernel_rfl)) (fun _ _ _ h => h) (Or.inl ⟨by rfl, ?_⟩) ?_ ?_
               rotate_left
               ·intro w'
                go_simp
                with_reducible rfl
               rotate_left
               ·simp only [Act.put, List.setIfInBounds_toArray, List.set_cons_zero, List.set_cons_succ, i64_w, i32_w]
                rfl
               refine pure_ (i := 6) (N := some 51) (v := ?_) (a' := ?_) #[false, true, true, true, false, false, true, false, false, false, false, false, false, false, false, false, false, false, false, false, false, false, false, false] rfl rfl (any_of HT_.out (by kernel_rfl)) (fun _ _ _ h => h) (Or.inl ⟨by rfl, ?_⟩) ?_ ?_
               rotate_left
               ·intro w'
                go_simp
                with_reducible rfl
               rotate_left
               ·simp only [Act.put, List.setIfInBounds_toArray, List.set_cons_zero, List.set_cons_succ, i64_w, i32_w]
                rfl
               refine pure_ (i := 7) (N := some 52) (v := ?_) (a' := ?_) #[false, true, true, true, false, false, true, true, false, false, false, false, false, false, false, false, false, false, false, false, false, false, false, false] rfl rfl (any_of HT_.out (by kernel_rfl)) (fun _ _ _ h => h) (Or.inl ⟨by rfl, ?_⟩) ?_ ?_
               rotate_left
               ·intro w'
                go_simp
                with_reducible rfl
               rotate_left
               ·simp only [Act.put, List.setIfInBounds_toArray, List.set_cons_zero, List.set_cons_succ, i64_w, i32_w]
                rfl
               refine take_ (i := 0) (N := some 45) (v := ?_) (a' := ?_) #[true, true, true, true, false, false, true, true, false, false, false, false, false, false, false, false, false, false, false, false, false, false, false, false] rfl rfl (take_ofW HT_.out HW_.out (by kernel_rfl)) (fun _ _ _ h => h) (Or.inl ⟨by rfl, ?_⟩) hHeld ?_ ?_
               rotate_left
               ·rintro w' ⟨s0, s1, s2, s3, s4, s5⟩
                go_simp
                with_reducible rfl
               rotate_left
               ·simp only [Act.put, List.setIfInBounds_toArray, List.set_cons_zero, List.set_cons_succ, i64_w, i32_w]
                rfl
               refine take_ (i := 4) (N := some 49) (v := ?_) (a' := ?_) #[true, true, true, true, true, false, true, true, false, false, false, false, false, false, false, false, false, false, false, false, false, false, false, false] rfl rfl (take_ofW HT_.out HW_.out (by kernel_rfl)) (fun _ _ _ h => h) (Or.inl ⟨by rfl, ?_⟩) hHeld ?_ ?_
               rotate_left
               ·rintro w' ⟨s0, s1, s2, s3, s4, s5⟩
                go_simp
                with_reducible rfl
               rotate_left
               ·simp only [Act.put, List.setIfInBounds_toArray, List.set_cons_zero, List.set_cons_succ, i64_w, i32_w]
                rfl
               refine pure_ (i := 5) (N := some 50) (v := ?_) (a' := ?_) #[true, true, true, true, true, true, true, true, false, false, false, false, false, false, false, false, false, false, false, false, false, false, false, false] rfl rfl (any_of HT_.out (by kernel_rfl)) (fun _ _ _ h => h) (Or.inl ⟨by rfl, ?_⟩) ?_ ?_
               rotate_left
               ·intro w'
                go_simp
                with_reducible rfl
               rotate_left
               ·simp only [Act.put, List.setIfInBounds_toArray, List.set_cons_zero, List.set_cons_succ, i64_w, i32_w]
                rfl
               refine take_ (i := 8) (N := some 53) (v := ?_) (a' := ?_) #[true, true, true, true, true, true, true, true, true, false, false, false, false, false, false, false, false, false, false, false, false, false, false, false] rfl rfl (take_ofW HT_.out HW_.out (by kernel_rfl)) (fun _ _ _ h => h) (Or.inl ⟨by rfl, ?_⟩) hHeld ?_ ?_
               rotate_left
               ·rintro w' ⟨s0, s1, s2, s3, s4, s5⟩
                go_simp
                with_reducible rfl
               rotate_left
               ·simp only [Act.put, List.setIfInBounds_toArray, List.set_cons_zero, List.set_cons_succ, i64_w, i32_w]
                rfl
               refine pure_ (i := 9) (N := some 54) (v := ?_) (a' := ?_) #[true, true, true, true, true, true, true, true, true, true, false, false, false, false, false, false, false, false, false, false, false, false, false, false] rfl rfl (any_of HT_.out (by kernel_rfl)) (fun _ _ _ h => h) (Or.inl ⟨by rfl, ?_⟩) ?_ ?_
               rotate_left
               ·intro w'
                go_simp
                with_reducible rfl
               rotate_left
               ·simp only [Act.put, List.setIfInBounds_toArray, List.set_cons_zero, List.set_cons_succ, i64_w, i32_w]
                rfl
               refine one_ (i := 10) (N := some 55) #[true, true, true, true, true, true, true, true, true, true, true, false, false, false, false, false, false, false, false, false, false, false, false, false] rfl rfl (one_of HT_.out (by kernel_rfl)) (by decide) (fun K hK => ?_)
               refine goes_ Try.func48 (by kernel_rfl) rfl #[.agg #[.int .i64 a0_0, .slice A0_1 l0_1.length c0_1, .slice A0_2 l0_2.length c0_2], .string (rdOf ByteArray.empty a7 b3), .int .i64 (wrap64 (Int.tdiv b8 a1_0)), .int .i64 (wrap64 (Int.tdiv b9 a1_0))] (by rfl) rfl rfl (by (try simp only [List.map_toArray, List.map_cons, List.map_nil]); first | done | rfl | (simp only [List.length_drop, List.length_take]; rfl)) ?_
               with_reducible refine (Pr50a.calls k3 a0_0 _ _ l0_1 _ _ l0_2 (rdOf ByteArray.empty a7 b3) (wrap64 (Int.tdiv b8 a1_0)) (wrap64 (Int.tdiv b9 a1_0)) true _ ?f8 ?f6 ?f7 ?f9 m7.out).mono ?_
               (case f8 => repeat (first | exact (Kd.C_below g2.out HB.out) | (with_reducible refine Kd.C_alloc ?_ _) | (with_reducible refine Kd.C_drewN ?_ _) | (with_reducible refine Kd.C_drew ?_)))
               (case f6 => exact g4.out)
               (case f7 => repeat (first | exact (Kd.C_below i2.out HB.out) | (with_reducible refine Kd.C_alloc ?_ _) | (with_reducible refine Kd.C_drewN ?_ _) | (with_reducible refine Kd.C_drew ?_)))
               (case f9 => exact i5.out)
               rintro e G9 ⟨rfl, hb⟩
               refine ⟨_, rfl, ?_⟩
               have d1 := Aside0.mk (Kd.R_below (by (with_reducible repeat (first | apply Kd.R_alloc | apply Kd.R_drewN | apply Kd.R_drew)); exact a6.out) hb)
               have d2 := Aside0.mk (Kd.R_below (by (with_reducible repeat (first | apply Kd.R_alloc | apply Kd.R_drewN | apply Kd.R_drew)); exact a4.out) hb)
               have d0 := Aside0.mk (blk_below (g := a8) (o := .cells #[.int .i64 a0_0, .slice A0_1 l0_1.length c0_1, .slice A0_2 l0_2.length c0_2] 25 (0, 0)) (by (with_reducible repeat (first | refine blk_drewN ?_ _ | refine blk_drew ?_ | refine blk_alloc ?_ _)); exact a1.out) hb)
               have d3 := Aside0.mk (blk_below (g := a9) (o := .cells #[.int .i64 a1_0, .slice A1_1 l1_1.length c1_1, .slice A1_2 l1_2.length c1_2] 25 (0, 0)) (by (with_reducible repeat (first | refine blk_drewN ?_ _ | refine blk_drew ?_ | refine blk_alloc ?_ _)); exact a2.out) hb)
               have d6 := Aside0.mk (blk_below (g := b4) (o := .cells #[.int .i64 0, .slice none 0 0, .slice none 0 0] 25 (0, 0)) (by (with_reducible repeat (first | refine blk_drewN ?_ _ | refine blk_drew ?_ | refine blk_alloc ?_ _)); exact a5.out) hb)
               have e0 := Aside0.mk (blk_below (g := a3) (o := .cells #[.int .i64 (wrap64 (a0_0 * a1_0)), .slice (some e4) a7.length e3, b2] 25 (0, 0)) (by (with_reducible repeat (first | refine blk_drewN ?_ _ | refine blk_drew ?_ | refine blk_alloc ?_ _)); exact a0.out) hb)
               have e1 := Aside0.mk (below_step (by repeat (first | (with_reducible first | exact HB.out | apply below_alloc | apply pw_below_drewN | apply below_drew1 | refine below_set ?_ b7.out | refine below_set ?_ d4.out | refine below_set ?_ d5.out | refine below_set ?_ e2.out) | exact HB.out)) hb)
               clear a6
               clear a4
               clear a1
               clear a2
               clear a5
               clear a0
               clear HB
               have a6 := d1
               have a4 := d2
               have a1 := d0
               have a2 := d3
               have a5 := d6
               have a0 := e0
               have HB := e1
               clear d1 d2 d0 d3 d6 e0 e1
               (try clear hb)
               (try clear h8)
               (try clear hk)
               (try clear hi)
               refine hK.out _ _ ⟨(blk_cell a1.out 0).trans rfl, (blk_cell a1.out 1).trans rfl, (blk_cell a1.out 2).trans rfl, (blk_cell a2.out 0).trans rfl, (blk_cell a2.out 1).trans rfl, (blk_cell a2.out 2).trans rfl⟩ (fun hHeld => ?_)
               clear hK K
               refine norm_ (a' := ?_) ?_ ?_
               rotate_left
               ·show Act.put _ (some 55) _ = _
                simp only [Act.put, List.setIfInBounds_toArray, List.set_cons_zero, List.set_cons_succ, i64_w, i32_w]
                rfl
               refine pure_ (i := 11) (N := some 56) (v := ?_) (a' := ?_) #[true, true, true, true, true, true, true, true, true, true, true, true, false, false, false, false, false, false, false, false, false, false, false, false] rfl rfl (any_of HT_.out (by kernel_rfl)) (fun _ _ _ h => h) (Or.inl ⟨by rfl, ?_⟩) ?_ ?_
               rotate_left
               ·intro w'
                go_simp
                with_reducible rfl
               rotate_left
               ·simp only [Act.put, List.setIfInBounds_toArray, List.set_cons_zero, List.set_cons_succ, i64_w, i32_w]
                rfl
               refine pure_ (i := 13) (N := some 58) (v := ?_) (a' := ?_) #[true, true, true, true, true, true, true, true, true, true, true, true, false, true, false, false, false, false, false, false, false, false, false, false] rfl rfl (any_of HT_.out (by kernel_rfl)) (fun _ _ _ h => h) (Or.inl ⟨by rfl, ?_⟩) ?_ ?_
               rotate_left
               ·intro w'
                go_simp
                with_reducible rfl
               rotate_left
               ·simp only [Act.put, List.setIfInBounds_toArray, List.set_cons_zero, List.set_cons_succ, i64_w, i32_w]
                rfl
               refine pure_ (i := 14) (N := some 59) (v := ?_) (a' := ?_) #[true, true, true, true, true, true, true, true, true, true, true, true, false, true, true, false, false, false, false, false, false, false, false, false] rfl rfl (any_of HT_.out (by kernel_rfl)) (fun _ _ _ h => h) (Or.inl ⟨by rfl, ?_⟩) ?_ ?_
               rotate_left
               ·intro w'
                go_simp
                with_reducible rfl
               rotate_left
               ·simp only [Act.put, List.setIfInBounds_toArray, List.set_cons_zero, List.set_cons_succ, i64_w, i32_w]
                rfl
               refine pure_ (i := 15) (N := some 60) (v := ?_) (a' := ?_) #[true, true, true, true, true, true, true, true, true, true, true, true, false, true, true, true, false, false, false, false, false, false, false, false] rfl rfl (any_of HT_.out (by kernel_rfl)) (fun _ _ _ h => h) (Or.inl ⟨by rfl, ?_⟩) ?_ ?_
               rotate_left
               ·intro w'
                go_simp
                with_reducible rfl
               rotate_left
               ·simp only [Act.put, List.setIfInBounds_toArray, List.set_cons_zero, List.set_cons_succ, i64_w, i32_w]
                rfl
               refine pure_ (i := 18) (N := some 63) (v := ?_) (a' := ?_) #[true, true, true, true, true, true, true, true, true, true, true, true, false, true, true, true, false, false, true, false, false, false, false, false] rfl rfl (any_of HT_.out (by kernel_rfl)) (fun _ _ _ h => h) (Or.inl ⟨by rfl, ?_⟩) ?_ ?_
               rotate_left
               ·intro w'
                go_simp
                with_reducible rfl
               rotate_left
               ·simp only [Act.put, List.setIfInBounds_toArray, List.set_cons_zero, List.set_cons_succ, i64_w, i32_w]
                rfl
               refine pure_ (i := 19) (N := some 64) (v := ?_) (a' := ?_) #[true, true, true, true, true, true, true, true, true, true, true, true, false, true, true, true, false, false, true, true, false, false, false, false] rfl rfl (any_of HT_.out (by kernel_rfl)) (fun _ _ _ h => h) (Or.inl ⟨by rfl, ?_⟩) ?_ ?_
               rotate_left
               ·intro w'
                go_simp
                with_reducible rfl
               rotate_left
               ·simp only [Act.put, List.setIfInBounds_toArray, List.set_cons_zero, List.set_cons_succ, i64_w, i32_w]
                rfl
               refine take_ (i := 12) (N := some 57) (v := ?_) (a' := ?_) #[true, true, true, true, true, true, true, true, true, true, true, true, true, true, true, true, false, false, true, true, false, false, false, false] rfl rfl (take_ofW HT_.out HW_.out (by kernel_rfl)) (fun _ _ _ h => h) (Or.inl ⟨by rfl, ?_⟩) hHeld ?_ ?_
               rotate_left
               ·rintro w' ⟨s0, s1, s2, s3, s4, s5⟩
                go_simp
                with_reducible rfl
               rotate_left
               ·simp only [Act.put, List.setIfInBounds_toArray, List.set_cons_zero, List.set_cons_succ, i64_w, i32_w]
                rfl
               refine take_ (i := 16) (N := some 61) (v := ?_) (a' := ?_) #[true, true, true, true, true, true, true, true, true, true, true, true, true, true, true, true, true, false, true, true, false, false, false, false] rfl rfl (take_ofW HT_.out HW_.out (by kernel_rfl)) (fun _ _ _ h => h) (Or.inl ⟨by rfl, ?_⟩) hHeld ?_ ?_
               rotate_left
               ·rintro w' ⟨s0, s1, s2, s3, s4, s5⟩
                go_simp
                with_reducible rfl
               rotate_left
               ·simp only [Act.put, List.setIfInBounds_toArray, List.set_cons_zero, List.set_cons_succ, i64_w, i32_w]
                rfl
               refine pure_ (i := 17) (N := some 62) (v := ?_) (a' := ?_) #[true, true, true, true, true, true, true, true, true, true, true, true, true, true, true, true, true, true, true, true, false, false, false, false] rfl rfl (any_of HT_.out (by kernel_rfl)) (fun _ _ _ h => h) (Or.inl ⟨by rfl, ?_⟩) ?_ ?_
               rotate_left
               ·intro w'
                go_simp
                with_reducible rfl
               rotate_left
               ·simp only [Act.put, List.setIfInBounds_toArray, List.set_cons_zero, List.set_cons_succ, i64_w, i32_w]
                rfl
               refine take_ (i := 20) (N := some 65) (v := ?_) (a' := ?_) #[true, true, true, true, true, true, true, true, true, true, true, true, true, true, true, true, true, true, true, true, true, false, false, false] rfl rfl (take_ofW HT_.out HW_.out (by kernel_rfl)) (fun _ _ _ h => h) (Or.inl ⟨by rfl, ?_⟩) hHeld ?_ ?_
               rotate_left
               ·rintro w' ⟨s0, s1, s2, s3, s4, s5⟩
                go_simp
                with_reducible rfl
               rotate_left
               ·simp only [Act.put, List.setIfInBounds_toArray, List.set_cons_zero, List.set_cons_succ, i64_w, i32_w]
                rfl
               refine pure_ (i := 21) (N := some 66) (v := ?_) (a' := ?_) #[true, true, true, true, true, true, true, true, true, true, true, true, true, true, true, true, true, true, true, true, true, true, false, false] rfl rfl (any_of HT_.out (by kernel_rfl)) (fun _ _ _ h => h) (Or.inl ⟨by rfl, ?_⟩) ?_ ?_
               rotate_left
               ·intro w'
                go_simp
                with_reducible rfl
               rotate_left
               ·simp only [Act.put, List.setIfInBounds_toArray, List.set_cons_zero, List.set_cons_succ, i64_w, i32_w]
                rfl
               refine one_ (i := 22) (N := some 67) #[true, true, true, true, true, true, true, true, true, true, true, true, true, true, true, true, true, true, true, true, true, true, true, false] rfl rfl (one_of HT_.out (by kernel_rfl)) (by decide) (fun K hK => ?_)
               refine goes_ Try.func48 (by kernel_rfl) rfl #[.agg #[.int .i64 a1_0, .slice A1_1 l1_1.length c1_1, .slice A1_2 l1_2.length c1_2], .string (rdOf ByteArray.empty a7 b3), .int .i64 (Int.tmod b8 a1_0), .int .i64 (Int.tmod b9 a1_0)] (by rfl) rfl rfl (by (try simp only [List.map_toArray, List.map_cons, List.map_nil]); first | done | rfl | (simp only [List.length_drop, List.length_take]; rfl)) ?_
               with_reducible refine (Pr50a.calls k3 a1_0 _ _ l1_1 _ _ l1_2 (rdOf ByteArray.empty a7 b3) (Int.tmod b8 a1_0) (Int.tmod b9 a1_0) true _ ?f8 ?f6 ?f7 ?f9 o2.out).mono ?_
               (case f8 => repeat (first | exact (Kd.C_below g9.out HB.out) | (with_reducible refine Kd.C_alloc ?_ _) | (with_reducible refine Kd.C_drewN ?_ _) | (with_reducible refine Kd.C_drew ?_)))
               (case f6 => exact g8.out)
               (case f7 => repeat (first | exact (Kd.C_below k4.out HB.out) | (with_reducible refine Kd.C_alloc ?_ _) | (with_reducible refine Kd.C_drewN ?_ _) | (with_reducible refine Kd.C_drew ?_)))
               (case f9 => exact k6.out)
               rintro e m8 ⟨rfl, hb⟩
               refine ⟨_, rfl, ?_⟩
               have d1 := Aside0.mk (Kd.R_below (by (with_reducible repeat (first | apply Kd.R_alloc | apply Kd.R_drewN | apply Kd.R_drew)); exact a6.out) hb)
               have d2 := Aside0.mk (Kd.R_below (by (with_reducible repeat (first | apply Kd.R_alloc | apply Kd.R_drewN | apply Kd.R_drew)); exact a4.out) hb)
               have d0 := Aside0.mk (blk_below (g := a8) (o := .cells #[.int .i64 a0_0, .slice A0_1 l0_1.length c0_1, .slice A0_2 l0_2.length c0_2] 25 (0, 0)) (by (with_reducible repeat (first | refine blk_drewN ?_ _ | refine blk_drew ?_ | refine blk_alloc ?_ _)); exact a1.out) hb)
               have d3 := Aside0.mk (blk_below (g := a9) (o := .cells #[.int .i64 a1_0, .slice A1_1 l1_1.length c1_1, .slice A1_2 l1_2.length c1_2] 25 (0, 0)) (by (with_reducible repeat (first | refine blk_drewN ?_ _ | refine blk_drew ?_ | refine blk_alloc ?_ _)); exact a2.out) hb)
               have d6 := Aside0.mk (blk_below (g := b4) (o := .cells #[.int .i64 0, .slice none 0 0, .slice none 0 0] 25 (0, 0)) (by (with_reducible repeat (first | refine blk_drewN ?_ _ | refine blk_drew ?_ | refine blk_alloc ?_ _)); exact a5.out) hb)
               have e0 := Aside0.mk (blk_below (g := a3) (o := .cells #[.int .i64 (wrap64 (a0_0 * a1_0)), .slice (some e4) a7.length e3, b2] 25 (0, 0)) (by (with_reducible repeat (first | refine blk_drewN ?_ _ | refine blk_drew ?_ | refine blk_alloc ?_ _)); exact a0.out) hb)
               have e1 := Aside0.mk (below_step (by repeat (first | (with_reducible first | exact HB.out | apply below_alloc | apply pw_below_drewN | apply below_drew1 | refine below_set ?_ b7.out | refine below_set ?_ d4.out | refine below_set ?_ d5.out | refine below_set ?_ e2.out) | exact HB.out)) hb)
               clear a6
               clear a4
               clear a1
               clear a2
               clear a5
               clear a0
               clear HB
               have a6 := d1
               have a4 := d2
               have a1 := d0
               have a2 := d3
               have a5 := d6
               have a0 := e0
               have HB := e1
               clear d1 d2 d0 d3 d6 e0 e1
               (try clear hb)
               (try clear h8)
               (try clear hk)
               (try clear hi)
               refine hK.out _ _ ⟨(blk_cell a1.out 0).trans rfl, (blk_cell a1.out 1).trans rfl, (blk_cell a1.out 2).trans rfl, (blk_cell a2.out 0).trans rfl, (blk_cell a2.out 1).trans rfl, (blk_cell a2.out 2).trans rfl⟩ (fun hHeld => ?_)
               clear hK K
               refine norm_ (a' := ?_) ?_ ?_
               rotate_left
               ·show Act.put _ (some 67) _ = _
                simp only [Act.put, List.setIfInBounds_toArray, List.set_cons_zero, List.set_cons_succ, i64_w, i32_w]
                rfl
               refine pure_ (i := 23) (N := some 68) (v := ?_) (a' := ?_) #[true, true, true, true, true, true, true, true, true, true, true, true, true, true, true, true, true, true, true, true, true, true, true, true] rfl rfl (any_of HT_.out (by kernel_rfl)) (fun _ _ _ h => h) (Or.inl ⟨by rfl, ?_⟩) ?_ ?_
               rotate_left
               ·intro w'
                go_simp
                with_reducible rfl
               rotate_left
               ·simp only [Act.put, List.setIfInBounds_toArray, List.set_cons_zero, List.set_cons_succ, i64_w, i32_w]
                rfl
               refine done_ (done_of HT_.out (by kernel_rfl)) ?_
               have q3 : m8.cell? ⟨a3, 0, none⟩ = some (.int .i64 (wrap64 (a0_0 * a1_0))) := (blk_cell a0.out 0).trans rfl
               have v0 : m8.cell? ⟨a3, 1, none⟩ = some (.slice (some e4) a7.length e3) := (blk_cell a0.out 1).trans rfl
               have w3 : m8.cell? ⟨a3, 2, none⟩ = some (b2) := (blk_cell a0.out 2).trans rfl
               have v5 := blk_frozen a0.out 0
               have u3 := blk_frozen a0.out 1
               have q0 := blk_frozen a0.out 2
               try go_wp2_with (first | ((with_reducible refine gate_builtin (b := .append) (xs := #[.tmp 70, .tmp 75]) rfl ?_); at_builtin; refine Kd.R_append k51 (w0 := w) w.heap.size rfl (.tmp 70) (.tmp 75) 23 51 (.agg #[(.int .i64 0), (.int .i64 0), (.int .i64 0)]) 24 rfl Try.underlying23 info51 rfl (by decide) (by omega) b2 b5 (⟨b8, b3, b9⟩ : S51) [.int .i64 b8, .int .i64 b3, .int .i64 b9] (fun _ => True) (fun _ => False) rfl rfl ?aP (fun _ hk => hk.elim) ?aF ?aO ?aB ?aS ?aL ?_; (case aP => exact k51_mkM _ _ _ (⟨b8, b3, b9⟩ : S51)); (case aB => exact (by repeat (first | (with_reducible first | exact HB.out | apply below_alloc | apply pw_below_drewN | apply below_drew1 | refine below_set ?_ b7.out | refine below_set ?_ d4.out | refine below_set ?_ d5.out | refine below_set ?_ e2.out) | exact HB.out))); (case aF => exact (fun _ _ => trivial)); (case aO => exact (by (with_reducible repeat (first | apply Kd.R_alloc | apply Kd.R_drewN | apply Kd.R_drew)); exact a4.out)); (case aS => exact (below_size (by repeat (first | (with_reducible first | exact HB.out | apply below_alloc | apply pw_below_drewN | apply below_drew1 | refine below_set ?_ b7.out | refine below_set ?_ d4.out | refine below_set ?_ d5.out | refine below_set ?_ e2.out) | exact HB.out)))); (case aL => have := n2.out; omega); intro G2 m6 ho hb hg hat; rw [← n3.out] at ho; have d1 := Aside0.mk (Kd.R_over' (by (with_reducible repeat (first | apply Kd.R_alloc | apply Kd.R_drewN | apply Kd.R_drew)); exact a6.out) (Kd.R_typed (by (with_reducible repeat (first | apply Kd.R_alloc | apply Kd.R_drewN | apply Kd.R_drew)); exact a4.out)) (by decide) hg); have d2 := Aside0.mk (blk_grown (g := a8) (o := .cells #[.int .i64 a0_0, .slice A0_1 l0_1.length c0_1, .slice A0_2 l0_2.length c0_2] 25 (0, 0)) (by (with_reducible repeat (first | refine blk_drewN ?_ _ | refine blk_drew ?_ | refine blk_alloc ?_ _)); exact a1.out) hg (Kd.R_ne a4.out a1.out (by decide))); have d0 := Aside0.mk (blk_grown (g := a9) (o := .cells #[.int .i64 a1_0, .slice A1_1 l1_1.length c1_1, .slice A1_2 l1_2.length c1_2] 25 (0, 0)) (by (with_reducible repeat (first | refine blk_drewN ?_ _ | refine blk_drew ?_ | refine blk_alloc ?_ _)); exact a2.out) hg (Kd.R_ne a4.out a2.out (by decide))); have d3 := Aside0.mk (blk_grown (g := b4) (o := .cells #[.int .i64 0, .slice none 0 0, .slice none 0 0] 25 (0, 0)) (by (with_reducible repeat (first | refine blk_drewN ?_ _ | refine blk_drew ?_ | refine blk_alloc ?_ _)); exact a5.out) hg (Kd.R_ne a4.out a5.out (by decide))); have d6 := Aside0.mk (blk_grown (g := a3) (o := .cells #[.int .i64 (wrap64 (a0_0 * a1_0)), .slice (some e4) a7.length e3, b2] 25 (0, 0)) (by (with_reducible repeat (first | refine blk_drewN ?_ _ | refine blk_drew ?_ | refine blk_alloc ?_ _)); exact a0.out) hg (Kd.R_ne a4.out a0.out (by decide))); have e0 := Aside0.mk (hb); have e1 := Aside0.mk (ho); clear a6; clear a1; clear a2; clear a5; clear a0; clear HB; clear a4; have a6 := d1; have a1 := d2; have a2 := d0; have a5 := d3; have a0 := d6; have HB := e0; have k5 := e1; clear d1 d2 d0 d3 d6 e0 e1; clear ho hb hg hat; obtain ⟨j6, j5, o9⟩ := Kd.R_slice k5.out; subst o9; have v8 : m6.cell? ⟨a3, 0, none⟩ = some (.int .i64 (wrap64 (a0_0 * a1_0))) := (blk_cell a0.out 0).trans rfl; have r7 : m6.cell? ⟨a3, 1, none⟩ = some (.slice (some e4) a7.length e3) := (blk_cell a0.out 1).trans rfl; have v1 : m6.cell? ⟨a3, 2, none⟩ = some (b2) := (blk_cell a0.out 2).trans rfl; have q5 := blk_frozen a0.out 0; have q4 := blk_frozen a0.out 1; have t2 := blk_frozen a0.out 2))
               go_roundg k3
               case measure => have := g1.out; have := g0.out; have := g6.out; omega
               case rel => exact ⟨(wrap64 (b9 + 1)), (h3), (.slice j6 h3.length j5), (by first | rfl | (simp; done) | (simp [*]; done)), H', ⟨by have := g1.out; have := g0.out; have := g6.out; omega⟩, ⟨by (with_reducible repeat (first | apply Kd.R_alloc | apply Kd.R_drewN | apply Kd.R_drew)); exact Kd.R_mono (Kd.R_far (p := ⟨a3, 2, none⟩) (Kd.R_types a6.out a0.out (by decide)) (fun _ hk => hk.2) (.slice j6 h3.length j5)) (fun _ hk => trivial)⟩, ⟨by (with_reducible repeat (first | apply Kd.R_alloc | apply Kd.R_drewN | apply Kd.R_drew)); exact Kd.R_mono (Kd.R_far (p := ⟨a3, 2, none⟩) (Kd.R_types k5.out a0.out (by decide)) (fun _ hk => hk.2) (.slice j6 h3.length j5)) (fun _ hk => trivial)⟩, ⟨by (with_reducible repeat (first | refine blk_drewN ?_ _ | refine blk_drew ?_ | refine blk_alloc ?_ _)); refine blk_far ?_ b0.out _; (with_reducible repeat (first | refine blk_drewN ?_ _ | refine blk_drew ?_ | refine blk_alloc ?_ _)); exact a1.out⟩, ⟨by (with_reducible repeat (first | refine blk_drewN ?_ _ | refine blk_drew ?_ | refine blk_alloc ?_ _)); refine blk_far ?_ b1.out _; (with_reducible repeat (first | refine blk_drewN ?_ _ | refine blk_drew ?_ | refine blk_alloc ?_ _)); exact a2.out⟩, ⟨by (with_reducible repeat (first | refine blk_drewN ?_ _ | refine blk_drew ?_ | refine blk_alloc ?_ _)); refine blk_far ?_ b6.out _; (with_reducible repeat (first | refine blk_drewN ?_ _ | refine blk_drew ?_ | refine blk_alloc ?_ _)); exact a5.out⟩, ⟨by (with_reducible repeat (first | refine blk_drewN ?_ _ | refine blk_drew ?_ | refine blk_alloc ?_ _)); refine blk_put (cs := #[.int .i64 (wrap64 (a0_0 * a1_0)), .slice (some e4) a7.length e3, b2]) ?_ 2 _ rfl; (with_reducible repeat (first | refine blk_drewN ?_ _ | refine blk_drew ?_ | refine blk_alloc ?_ _)); exact a0.out⟩, ⟨by repeat (first | (with_reducible first | exact HB.out | apply below_alloc | apply pw_below_drewN | apply below_drew1 | refine below_set ?_ b7.out | refine below_set ?_ d4.out | refine below_set ?_ d5.out | refine below_set ?_ e2.out) | exact HB.out)⟩⟩
              ·rw [if_neg k7] at H
               exact absurd H (by simp)
             ·replace k0 := Bool.eq_false_iff.mpr k0
              subst k0
              have H1 : (Pr50b.l2 k3 b8 b3 (rdOf ByteArray.empty a7 b3) (wrap64 (b9 + 1)) a0_0 l0_1 l0_2 a1_0 l1_1 l1_2 (wrap64 (a0_0 * a1_0)) a7 b5) = some (r1, r2, r3) := by rw [if_neg (show ¬ (false = true) by decide)] at H; exact H
              clear H
              have H := H1
              clear H1
              have H' := Aside0.mk H
              clear H
              have B9 := d9.out
              have F4 := b0.out
              have F1 := d7.out
              have D8 := b1.out
              have D9 := d8.out
              have F5 := b6.out
              have y1 : wr.cell? ⟨a3, 0, none⟩ = some (.int .i64 (wrap64 (a0_0 * a1_0))) := (blk_cell a0.out 0).trans rfl
              have y5 : wr.cell? ⟨a3, 1, none⟩ = some (.slice (some e4) a7.length e3) := (blk_cell a0.out 1).trans rfl
              have r4 : wr.cell? ⟨a3, 2, none⟩ = some (b2) := (blk_cell a0.out 2).trans rfl
              have t3 := blk_frozen a0.out 0
              have y0 := blk_frozen a0.out 1
              have t0 := blk_frozen a0.out 2
              try go_wp2
              have d1 := Aside0.mk (Kd.R_drew a6.out)
              have d2 := Aside0.mk (Kd.R_drew a4.out)
              have d0 := Aside0.mk (blk_drew a1.out)
              have d3 := Aside0.mk (blk_drew a2.out)
              have d6 := Aside0.mk (blk_drew a5.out)
              have e0 := Aside0.mk (blk_drew a0.out)
              have e1 := Aside0.mk (below_drew1 HB.out)
              clear a6
              clear a4
              clear a1
              clear a2
              clear a5
              clear a0
              clear HB
              have a6 := d1
              have a4 := d2
              have a1 := d0
              have a2 := d3
              have a5 := d6
              have a0 := e0
              have HB := e1
              clear d1 d2 d0 d3 d6 e0 e1
              refine start_ (n := 24) (S := fun w' => w'.cell? ⟨a8, 0, none⟩ = some (.int .i64 a0_0) ∧ w'.cell? ⟨a8, 1, none⟩ = some (.slice A0_1 l0_1.length c0_1) ∧ w'.cell? ⟨a8, 2, none⟩ = some (.slice A0_2 l0_2.length c0_2) ∧ w'.cell? ⟨a9, 0, none⟩ = some (.int .i64 a1_0) ∧ w'.cell? ⟨a9, 1, none⟩ = some (.slice A1_1 l1_1.length c1_1) ∧ w'.cell? ⟨a9, 2, none⟩ = some (.slice A1_2 l1_2.length c1_2)) (ds := []) #[false, false, false, false, false, false, false, false, false, false, false, false, false, false, false, false, false, false, false, false, false, false, false, false] (by kernel_rfl) rfl rfl ⟨(blk_cell a1.out 0).trans rfl, (blk_cell a1.out 1).trans rfl, (blk_cell a1.out 2).trans rfl, (blk_cell a2.out 0).trans rfl, (blk_cell a2.out 1).trans rfl, (blk_cell a2.out 2).trans rfl⟩ (fun hHeld => ?_); refine with_tabW Pr50b.tab12 Pr50b.bits12 (fun HT_ HW_ => ?_)
              generalize wr.drew = w49 at a6 a4 a1 a2 a5 a0 HB hHeld ⊢
              refine pure_ (i := 1) (N := some 46) (v := ?_) (a' := ?_) #[false, true, false, false, false, false, false, false, false, false, false, false, false, false, false, false, false, false, false, false, false, false, false, false] rfl rfl (any_of HT_.out (by kernel_rfl)) (fun _ _ _ h => h) (Or.inl ⟨by rfl, ?_⟩) ?_ ?_
              rotate_left
              ·intro w'
               go_simp
               with_reducible rfl
              rotate_left
              ·simp only [Act.put, List.setIfInBounds_toArray, List.set_cons_zero, List.set_cons_succ, i64_w, i32_w]
               rfl
              refine pure_ (i := 2) (N := some 47) (v := ?_) (a' := ?_) #[false, true, true, false, false, false, false, false, false, false, false, false, false, false, false, false, false, false, false, false, false, false, false, false] rfl rfl (any_of HT_.out (by kernel_rfl)) (fun _ _ _ h => h) (Or.inl ⟨by rfl, ?_⟩) ?_ ?_
              rotate_left
              ·intro w'
               go_simp
               with_reducible rfl
              rotate_left
              ·simp only [Act.put, List.setIfInBounds_toArray, List.set_cons_zero, List.set_cons_succ, i64_w, i32_w]
               rfl
              refine pure_ (i := 3) (N := some 48) (v := ?_) (a' := ?_) #[false, true, true, true, false, false, false, false, false, false, false, false, false, false, false, false, false, false, false, false, false, false, false, false] rfl rfl (any_of HT_.out (by kernel_rfl)) (fun _ _ _ h => h) (Or.inl ⟨by rfl, ?_⟩) ?_ ?_
              rotate_left
              ·intro w'
               go_simp
               with_reducible rfl
              rotate_left
              ·simp only [Act.put, List.setIfInBounds_toArray, List.set_cons_zero, List.set_cons_succ, i64_w, i32_w]
               rfl
              refine pure_ (i := 6) (N := some 51) (v := ?_) (a' := ?_) #[false, true, true, true, false, false, true, false, false, false, false, false, false, false, false, false, false, false, false, false, false, false, false, false] rfl rfl (any_of HT_.out (by kernel_rfl)) (fun _ _ _ h => h) (Or.inl ⟨by rfl, ?_⟩) ?_ ?_
              rotate_left
              ·intro w'
               go_simp
               with_reducible rfl
              rotate_left
              ·simp only [Act.put, List.setIfInBounds_toArray, List.set_cons_zero, List.set_cons_succ, i64_w, i32_w]
               rfl
              refine pure_ (i := 7) (N := some 52) (v := ?_) (a' := ?_) #[false, true, true, true, false, false, true, true, false, false, false, false, false, false, false, false, false, false, false, false, false, false, false, false] rfl rfl (any_of HT_.out (by kernel_rfl)) (fun _ _ _ h => h) (Or.inl ⟨by rfl, ?_⟩) ?_ ?_
              rotate_left
              ·intro w'
               go_simp
               with_reducible rfl
              rotate_left
              ·simp only [Act.put, List.setIfInBounds_toArray, List.set_cons_zero, List.set_cons_succ, i64_w, i32_w]
               rfl
              refine take_ (i := 0) (N := some 45) (v := ?_) (a' := ?_) #[true, true, true, true, false, false, true, true, false, false, false, false, false, false, false, false, false, false, false, false, false, false, false, false] rfl rfl (take_ofW HT_.out HW_.out (by kernel_rfl)) (fun _ _ _ h => h) (Or.inl ⟨by rfl, ?_⟩) hHeld ?_ ?_
              rotate_left
              ·rintro w' ⟨s0, s1, s2, s3, s4, s5⟩
               go_simp
               with_reducible rfl
              rotate_left
              ·simp only [Act.put, List.setIfInBounds_toArray, List.set_cons_zero, List.set_cons_succ, i64_w, i32_w]
               rfl
              refine take_ (i := 4) (N := some 49) (v := ?_) (a' := ?_) #[true, true, true, true, true, false, true, true, false, false, false, false, false, false, false, false, false, false, false, false, false, false, false, false] rfl rfl (take_ofW HT_.out HW_.out (by kernel_rfl)) (fun _ _ _ h => h) (Or.inl ⟨by rfl, ?_⟩) hHeld ?_ ?_
              rotate_left
              ·rintro w' ⟨s0, s1, s2, s3, s4, s5⟩
               go_simp
               with_reducible rfl
              rotate_left
              ·simp only [Act.put, List.setIfInBounds_toArray, List.set_cons_zero, List.set_cons_succ, i64_w, i32_w]
               rfl
              refine pure_ (i := 5) (N := some 50) (v := ?_) (a' := ?_) #[true, true, true, true, true, true, true, true, false, false, false, false, false, false, false, false, false, false, false, false, false, false, false, false] rfl rfl (any_of HT_.out (by kernel_rfl)) (fun _ _ _ h => h) (Or.inl ⟨by rfl, ?_⟩) ?_ ?_
              rotate_left
              ·intro w'
               go_simp
               with_reducible rfl
              rotate_left
              ·simp only [Act.put, List.setIfInBounds_toArray, List.set_cons_zero, List.set_cons_succ, i64_w, i32_w]
               rfl
              refine take_ (i := 8) (N := some 53) (v := ?_) (a' := ?_) #[true, true, true, true, true, true, true, true, true, false, false, false, false, false, false, false, false, false, false, false, false, false, false, false] rfl rfl (take_ofW HT_.out HW_.out (by kernel_rfl)) (fun _ _ _ h => h) (Or.inl ⟨by rfl, ?_⟩) hHeld ?_ ?_
              rotate_left
              ·rintro w' ⟨s0, s1, s2, s3, s4, s5⟩
               go_simp
               with_reducible rfl
              rotate_left
              ·simp only [Act.put, List.setIfInBounds_toArray, List.set_cons_zero, List.set_cons_succ, i64_w, i32_w]
               rfl
              refine pure_ (i := 9) (N := some 54) (v := ?_) (a' := ?_) #[true, true, true, true, true, true, true, true, true, true, false, false, false, false, false, false, false, false, false, false, false, false, false, false] rfl rfl (any_of HT_.out (by kernel_rfl)) (fun _ _ _ h => h) (Or.inl ⟨by rfl, ?_⟩) ?_ ?_
              rotate_left
              ·intro w'
               go_simp
               with_reducible rfl
              rotate_left
              ·simp only [Act.put, List.setIfInBounds_toArray, List.set_cons_zero, List.set_cons_succ, i64_w, i32_w]
               rfl
              refine one_ (i := 10) (N := some 55) #[true, true, true, true, true, true, true, true, true, true, true, false, false, false, false, false, false, false, false, false, false, false, false, false] rfl rfl (one_of HT_.out (by kernel_rfl)) (by decide) (fun K hK => ?_)
              refine goes_ Try.func48 (by kernel_rfl) rfl #[.agg #[.int .i64 a0_0, .slice A0_1 l0_1.length c0_1, .slice A0_2 l0_2.length c0_2], .string (rdOf ByteArray.empty a7 b3), .int .i64 (wrap64 (Int.tdiv b8 a1_0)), .int .i64 (wrap64 (Int.tdiv b9 a1_0))] (by rfl) rfl rfl (by (try simp only [List.map_toArray, List.map_cons, List.map_nil]); first | done | rfl | (simp only [List.length_drop, List.length_take]; rfl)) ?_
              with_reducible refine (Pr50a.calls k3 a0_0 _ _ l0_1 _ _ l0_2 (rdOf ByteArray.empty a7 b3) (wrap64 (Int.tdiv b8 a1_0)) (wrap64 (Int.tdiv b9 a1_0)) true _ ?f8 ?f6 ?f7 ?f9 m7.out).mono ?_
              (case f8 => repeat (first | exact (Kd.C_below g2.out HB.out) | (with_reducible refine Kd.C_alloc ?_ _) | (with_reducible refine Kd.C_drewN ?_ _) | (with_reducible refine Kd.C_drew ?_)))
              (case f6 => exact g4.out)
              (case f7 => repeat (first | exact (Kd.C_below i2.out HB.out) | (with_reducible refine Kd.C_alloc ?_ _) | (with_reducible refine Kd.C_drewN ?_ _) | (with_reducible refine Kd.C_drew ?_)))
              (case f9 => exact i5.out)
              rintro e H4 ⟨rfl, hb⟩
              refine ⟨_, rfl, ?_⟩
              have d1 := Aside0.mk (Kd.R_below (by (with_reducible repeat (first | apply Kd.R_alloc | apply Kd.R_drewN | apply Kd.R_drew)); exact a6.out) hb)
              have d2 := Aside0.mk (Kd.R_below (by (with_reducible repeat (first | apply Kd.R_alloc | apply Kd.R_drewN | apply Kd.R_drew)); exact a4.out) hb)
              have d0 := Aside0.mk (blk_below (g := a8) (o := .cells #[.int .i64 a0_0, .slice A0_1 l0_1.length c0_1, .slice A0_2 l0_2.length c0_2] 25 (0, 0)) (by (with_reducible repeat (first | refine blk_drewN ?_ _ | refine blk_drew ?_ | refine blk_alloc ?_ _)); exact a1.out) hb)
              have d3 := Aside0.mk (blk_below (g := a9) (o := .cells #[.int .i64 a1_0, .slice A1_1 l1_1.length c1_1, .slice A1_2 l1_2.length c1_2] 25 (0, 0)) (by (with_reducible repeat (first | refine blk_drewN ?_ _ | refine blk_drew ?_ | refine blk_alloc ?_ _)); exact a2.out) hb)
              have d6 := Aside0.mk (blk_below (g := b4) (o := .cells #[.int .i64 0, .slice none 0 0, .slice none 0 0] 25 (0, 0)) (by (with_reducible repeat (first | refine blk_drewN ?_ _ | refine blk_drew ?_ | refine blk_alloc ?_ _)); exact a5.out) hb)
              have e0 := Aside0.mk (blk_below (g := a3) (o := .cells #[.int .i64 (wrap64 (a0_0 * a1_0)), .slice (some e4) a7.length e3, b2] 25 (0, 0)) (by (with_reducible repeat (first | refine blk_drewN ?_ _ | refine blk_drew ?_ | refine blk_alloc ?_ _)); exact a0.out) hb)
              have e1 := Aside0.mk (below_step (by repeat (first | (with_reducible first | exact HB.out | apply below_alloc | apply pw_below_drewN | apply below_drew1 | refine below_set ?_ b7.out | refine below_set ?_ d4.out | refine below_set ?_ d5.out | refine below_set ?_ e2.out) | exact HB.out)) hb)
              clear a6
              clear a4
              clear a1
              clear a2
              clear a5
              clear a0
              clear HB
              have a6 := d1
              have a4 := d2
              have a1 := d0
              have a2 := d3
              have a5 := d6
              have a0 := e0
              have HB := e1
              clear d1 d2 d0 d3 d6 e0 e1
              (try clear hb)
              (try clear h8)
              (try clear hk)
              (try clear hi)
              refine hK.out _ _ ⟨(blk_cell a1.out 0).trans rfl, (blk_cell a1.out 1).trans rfl, (blk_cell a1.out 2).trans rfl, (blk_cell a2.out 0).trans rfl, (blk_cell a2.out 1).trans rfl, (blk_cell a2.out 2).trans rfl⟩ (fun hHeld => ?_)
              clear hK K
              refine norm_ (a' := ?_) ?_ ?_
              rotate_left
              ·show Act.put _ (some 55) _ = _
               simp only [Act.put, List.setIfInBounds_toArray, List.set_cons_zero, List.set_cons_succ, i64_w, i32_w]
               rfl
              refine pure_ (i := 11) (N := some 56) (v := ?_) (a' := ?_) #[true, true, true, true, true, true, true, true, true, true, true, true, false, false, false, false, false, false, false, false, false, false, false, false] rfl rfl (any_of HT_.out (by kernel_rfl)) (fun _ _ _ h => h) (Or.inl ⟨by rfl, ?_⟩) ?_ ?_
              rotate_left
              ·intro w'
               go_simp
               with_reducible rfl
              rotate_left
              ·simp only [Act.put, List.setIfInBounds_toArray, List.set_cons_zero, List.set_cons_succ, i64_w, i32_w]
               rfl
              refine pure_ (i := 13) (N := some 58) (v := ?_) (a' := ?_) #[true, true, true, true, true, true, true, true, true, true, true, true, false, true, false, false, false, false, false, false, false, false, false, false] rfl rfl (any_of HT_.out (by kernel_rfl)) (fun _ _ _ h => h) (Or.inl ⟨by rfl, ?_⟩) ?_ ?_
              rotate_left
              ·intro w'
               go_simp
               with_reducible rfl
              rotate_left
              ·simp only [Act.put, List.setIfInBounds_toArray, List.set_cons_zero, List.set_cons_succ, i64_w, i32_w]
               rfl
              refine pure_ (i := 14) (N := some 59) (v := ?_) (a' := ?_) #[true, true, true, true, true, true, true, true, true, true, true, true, false, true, true, false, false, false, false, false, false, false, false, false] rfl rfl (any_of HT_.out (by kernel_rfl)) (fun _ _ _ h => h) (Or.inl ⟨by rfl, ?_⟩) ?_ ?_
              rotate_left
              ·intro w'
               go_simp
               with_reducible rfl
              rotate_left
              ·simp only [Act.put, List.setIfInBounds_toArray, List.set_cons_zero, List.set_cons_succ, i64_w, i32_w]
               rfl
              refine pure_ (i := 15) (N := some 60) (v := ?_) (a' := ?_) #[true, true, true, true, true, true, true, true, true, true, true, true, false, true, true, true, false, false, false, false, false, false, false, false] rfl rfl (any_of HT_.out (by kernel_rfl)) (fun _ _ _ h => h) (Or.inl ⟨by rfl, ?_⟩) ?_ ?_
              rotate_left
              ·intro w'
               go_simp
               with_reducible rfl
              rotate_left
              ·simp only [Act.put, List.setIfInBounds_toArray, List.set_cons_zero, List.set_cons_succ, i64_w, i32_w]
               rfl
              refine pure_ (i := 18) (N := some 63) (v := ?_) (a' := ?_) #[true, true, true, true, true, true, true, true, true, true, true, true, false, true, true, true, false, false, true, false, false, false, false, false] rfl rfl (any_of HT_.out (by kernel_rfl)) (fun _ _ _ h => h) (Or.inl ⟨by rfl, ?_⟩) ?_ ?_
              rotate_left
              ·intro w'
               go_simp
               with_reducible rfl
              rotate_left
              ·simp only [Act.put, List.setIfInBounds_toArray, List.set_cons_zero, List.set_cons_succ, i64_w, i32_w]
               rfl
              refine pure_ (i := 19) (N := some 64) (v := ?_) (a' := ?_) #[true, true, true, true, true, true, true, true, true, true, true, true, false, true, true, true, false, false, true, true, false, false, false, false] rfl rfl (any_of HT_.out (by kernel_rfl)) (fun _ _ _ h => h) (Or.inl ⟨by rfl, ?_⟩) ?_ ?_
              rotate_left
              ·intro w'
               go_simp
               with_reducible rfl
              rotate_left
              ·simp only [Act.put, List.setIfInBounds_toArray, List.set_cons_zero, List.set_cons_succ, i64_w, i32_w]
               rfl
              refine take_ (i := 12) (N := some 57) (v := ?_) (a' := ?_) #[true, true, true, true, true, true, true, true, true, true, true, true, true, true, true, true, false, false, true, true, false, false, false, false] rfl rfl (take_ofW HT_.out HW_.out (by kernel_rfl)) (fun _ _ _ h => h) (Or.inl ⟨by rfl, ?_⟩) hHeld ?_ ?_
              rotate_left
              ·rintro w' ⟨s0, s1, s2, s3, s4, s5⟩
               go_simp
               with_reducible rfl
              rotate_left
              ·simp only [Act.put, List.setIfInBounds_toArray, List.set_cons_zero, List.set_cons_succ, i64_w, i32_w]
               rfl
              refine take_ (i := 16) (N := some 61) (v := ?_) (a' := ?_) #[true, true, true, true, true, true, true, true, true, true, true, true, true, true, true, true, true, false, true, true, false, false, false, false] rfl rfl (take_ofW HT_.out HW_.out (by kernel_rfl)) (fun _ _ _ h => h) (Or.inl ⟨by rfl, ?_⟩) hHeld ?_ ?_
              rotate_left
              ·rintro w' ⟨s0, s1, s2, s3, s4, s5⟩
               go_simp
               with_reducible rfl
              rotate_left
              ·simp only [Act.put, List.setIfInBounds_toArray, List.set_cons_zero, List.set_cons_succ, i64_w, i32_w]
               rfl
              refine pure_ (i := 17) (N := some 62) (v := ?_) (a' := ?_) #[true, true, true, true, true, true, true, true, true, true, true, true, true, true, true, true, true, true, true, true, false, false, false, false] rfl rfl (any_of HT_.out (by kernel_rfl)) (fun _ _ _ h => h) (Or.inl ⟨by rfl, ?_⟩) ?_ ?_
              rotate_left
              ·intro w'
               go_simp
               with_reducible rfl
              rotate_left
              ·simp only [Act.put, List.setIfInBounds_toArray, List.set_cons_zero, List.set_cons_succ, i64_w, i32_w]
               rfl
              refine take_ (i := 20) (N := some 65) (v := ?_) (a' := ?_) #[true, true, true, true, true, true, true, true, true, true, true, true, true, true, true, true, true, true, true, true, true, false, false, false] rfl rfl (take_ofW HT_.out HW_.out (by kernel_rfl)) (fun _ _ _ h => h) (Or.inl ⟨by rfl, ?_⟩) hHeld ?_ ?_
              rotate_left
              ·rintro w' ⟨s0, s1, s2, s3, s4, s5⟩
               go_simp
               with_reducible rfl
              rotate_left
              ·simp only [Act.put, List.setIfInBounds_toArray, List.set_cons_zero, List.set_cons_succ, i64_w, i32_w]
               rfl
              refine pure_ (i := 21) (N := some 66) (v := ?_) (a' := ?_) #[true, true, true, true, true, true, true, true, true, true, true, true, true, true, true, true, true, true, true, true, true, true, false, false] rfl rfl (any_of HT_.out (by kernel_rfl)) (fun _ _ _ h => h) (Or.inl ⟨by rfl, ?_⟩) ?_ ?_
              rotate_left
              ·intro w'
               go_simp
               with_reducible rfl
              rotate_left
              ·simp only [Act.put, List.setIfInBounds_toArray, List.set_cons_zero, List.set_cons_succ, i64_w, i32_w]
               rfl
              refine one_ (i := 22) (N := some 67) #[true, true, true, true, true, true, true, true, true, true, true, true, true, true, true, true, true, true, true, true, true, true, true, false] rfl rfl (one_of HT_.out (by kernel_rfl)) (by decide) (fun K hK => ?_)
              refine goes_ Try.func48 (by kernel_rfl) rfl #[.agg #[.int .i64 a1_0, .slice A1_1 l1_1.length c1_1, .slice A1_2 l1_2.length c1_2], .string (rdOf ByteArray.empty a7 b3), .int .i64 (Int.tmod b8 a1_0), .int .i64 (Int.tmod b9 a1_0)] (by rfl) rfl rfl (by (try simp only [List.map_toArray, List.map_cons, List.map_nil]); first | done | rfl | (simp only [List.length_drop, List.length_take]; rfl)) ?_
              with_reducible refine (Pr50a.calls k3 a1_0 _ _ l1_1 _ _ l1_2 (rdOf ByteArray.empty a7 b3) (Int.tmod b8 a1_0) (Int.tmod b9 a1_0) false _ ?f8 ?f6 ?f7 ?f9 o2.out).mono ?_
              (case f8 => repeat (first | exact (Kd.C_below g9.out HB.out) | (with_reducible refine Kd.C_alloc ?_ _) | (with_reducible refine Kd.C_drewN ?_ _) | (with_reducible refine Kd.C_drew ?_)))
              (case f6 => exact g8.out)
              (case f7 => repeat (first | exact (Kd.C_below k4.out HB.out) | (with_reducible refine Kd.C_alloc ?_ _) | (with_reducible refine Kd.C_drewN ?_ _) | (with_reducible refine Kd.C_drew ?_)))
              (case f9 => exact k6.out)
              rintro e G5 ⟨rfl, hb⟩
              refine ⟨_, rfl, ?_⟩
              have d1 := Aside0.mk (Kd.R_below (by (with_reducible repeat (first | apply Kd.R_alloc | apply Kd.R_drewN | apply Kd.R_drew)); exact a6.out) hb)
              have d2 := Aside0.mk (Kd.R_below (by (with_reducible repeat (first | apply Kd.R_alloc | apply Kd.R_drewN | apply Kd.R_drew)); exact a4.out) hb)
              have d0 := Aside0.mk (blk_below (g := a8) (o := .cells #[.int .i64 a0_0, .slice A0_1 l0_1.length c0_1, .slice A0_2 l0_2.length c0_2] 25 (0, 0)) (by (with_reducible repeat (first | refine blk_drewN ?_ _ | refine blk_drew ?_ | refine blk_alloc ?_ _)); exact a1.out) hb)
              have d3 := Aside0.mk (blk_below (g := a9) (o := .cells #[.int .i64 a1_0, .slice A1_1 l1_1.length c1_1, .slice A1_2 l1_2.length c1_2] 25 (0, 0)) (by (with_reducible repeat (first | refine blk_drewN ?_ _ | refine blk_drew ?_ | refine blk_alloc ?_ _)); exact a2.out) hb)
              have d6 := Aside0.mk (blk_below (g := b4) (o := .cells #[.int .i64 0, .slice none 0 0, .slice none 0 0] 25 (0, 0)) (by (with_reducible repeat (first | refine blk_drewN ?_ _ | refine blk_drew ?_ | refine blk_alloc ?_ _)); exact a5.out) hb)
              have e0 := Aside0.mk (blk_below (g := a3) (o := .cells #[.int .i64 (wrap64 (a0_0 * a1_0)), .slice (some e4) a7.length e3, b2] 25 (0, 0)) (by (with_reducible repeat (first | refine blk_drewN ?_ _ | refine blk_drew ?_ | refine blk_alloc ?_ _)); exact a0.out) hb)
              have e1 := Aside0.mk (below_step (by repeat (first | (with_reducible first | exact HB.out | apply below_alloc | apply pw_below_drewN | apply below_drew1 | refine below_set ?_ b7.out | refine below_set ?_ d4.out | refine below_set ?_ d5.out | refine below_set ?_ e2.out) | exact HB.out)) hb)
              clear a6
              clear a4
              clear a1
              clear a2
              clear a5
              clear a0
              clear HB
              have a6 := d1
              have a4 := d2
              have a1 := d0
              have a2 := d3
              have a5 := d6
              have a0 := e0
              have HB := e1
              clear d1 d2 d0 d3 d6 e0 e1
              (try clear hb)
              (try clear h8)
              (try clear hk)
              (try clear hi)
              refine hK.out _ _ ⟨(blk_cell a1.out 0).trans rfl, (blk_cell a1.out 1).trans rfl, (blk_cell a1.out 2).trans rfl, (blk_cell a2.out 0).trans rfl, (blk_cell a2.out 1).trans rfl, (blk_cell a2.out 2).trans rfl⟩ (fun hHeld => ?_)
              clear hK K
              refine norm_ (a' := ?_) ?_ ?_
              rotate_left
              ·show Act.put _ (some 67) _ = _
               simp only [Act.put, List.setIfInBounds_toArray, List.set_cons_zero, List.set_cons_succ, i64_w, i32_w]
               rfl
              refine pure_ (i := 23) (N := some 68) (v := ?_) (a' := ?_) #[true, true, true, true, true, true, true, true, true, true, true, true, true, true, true, true, true, true, true, true, true, true, true, true] rfl rfl (any_of HT_.out (by kernel_rfl)) (fun _ _ _ h => h) (Or.inl ⟨by rfl, ?_⟩) ?_ ?_
              rotate_left
              ·intro w'
               go_simp
               with_reducible rfl
              rotate_left
              ·simp only [Act.put, List.setIfInBounds_toArray, List.set_cons_zero, List.set_cons_succ, i64_w, i32_w]
               rfl
              refine done_ (done_of HT_.out (by kernel_rfl)) ?_
              try go_wp2
              go_roundg k3
              case measure => have := g1.out; have := g0.out; have := g6.out; omega
              case rel => exact ⟨(wrap64 (b9 + 1)), (b5), (b2), (by first | rfl | (simp; done) | (simp [*]; done)), H', ⟨by have := g1.out; have := g0.out; have := g6.out; omega⟩, ⟨by (with_reducible repeat (first | apply Kd.R_alloc | apply Kd.R_drewN | apply Kd.R_drew)); exact a6.out⟩, ⟨by (with_reducible repeat (first | apply Kd.R_alloc | apply Kd.R_drewN | apply Kd.R_drew)); exact a4.out⟩, ⟨by (with_reducible repeat (first | refine blk_drewN ?_ _ | refine blk_drew ?_ | refine blk_alloc ?_ _)); exact a1.out⟩, ⟨by (with_reducible repeat (first | refine blk_drewN ?_ _ | refine blk_drew ?_ | refine blk_alloc ?_ _)); exact a2.out⟩, ⟨by (with_reducible repeat (first | refine blk_drewN ?_ _ | refine blk_drew ?_ | refine blk_alloc ?_ _)); exact a5.out⟩, ⟨by (with_reducible repeat (first | refine blk_drewN ?_ _ | refine blk_drew ?_ | refine blk_alloc ?_ _)); exact a0.out⟩, ⟨by repeat (first | (with_reducible first | exact HB.out | apply below_alloc | apply pw_below_drewN | apply below_drew1 | refine below_set ?_ b7.out | refine below_set ?_ d4.out | refine below_set ?_ d5.out | refine below_set ?_ e2.out) | exact HB.out)⟩⟩
            ·replace k8 := Bool.eq_false_iff.mpr k8
             subst k8
             have H1 : (Pr50b.l2 k3 b8 b3 (rdOf ByteArray.empty a7 b3) (wrap64 (b9 + 1)) a0_0 l0_1 l0_2 a1_0 l1_1 l1_2 (wrap64 (a0_0 * a1_0)) a7 b5) = some (r1, r2, r3) := by rw [if_neg (show ¬ (false = true) by decide)] at H; exact H
             clear H
             have H := H1
             clear H1
             have H' := Aside0.mk H
             clear H
             have C2 := d9.out
             have A5 := b0.out
             have E8 := d7.out
             have A7 := b1.out
             have C7 := d8.out
             have B6 := b6.out
             have y3 : wr.cell? ⟨a3, 0, none⟩ = some (.int .i64 (wrap64 (a0_0 * a1_0))) := (blk_cell a0.out 0).trans rfl
             have x8 : wr.cell? ⟨a3, 1, none⟩ = some (.slice (some e4) a7.length e3) := (blk_cell a0.out 1).trans rfl
             have y6 : wr.cell? ⟨a3, 2, none⟩ = some (b2) := (blk_cell a0.out 2).trans rfl
             have r5 := blk_frozen a0.out 0
             have p8 := blk_frozen a0.out 1
             have x2 := blk_frozen a0.out 2
             try go_wp2
             have d1 := Aside0.mk (Kd.R_drew a6.out)
             have d2 := Aside0.mk (Kd.R_drew a4.out)
             have d0 := Aside0.mk (blk_drew a1.out)
             have d3 := Aside0.mk (blk_drew a2.out)
             have d6 := Aside0.mk (blk_drew a5.out)
             have e0 := Aside0.mk (blk_drew a0.out)
             have e1 := Aside0.mk (below_drew1 HB.out)
             clear a6
             clear a4
             clear a1
             clear a2
             clear a5
             clear a0
             clear HB
             have a6 := d1
             have a4 := d2
             have a1 := d0
             have a2 := d3
             have a5 := d6
             have a0 := e0
             have HB := e1
             clear d1 d2 d0 d3 d6 e0 e1
             refine start_ (n := 24) (S := fun w' => w'.cell? ⟨a8, 0, none⟩ = some (.int .i64 a0_0) ∧ w'.cell? ⟨a8, 1, none⟩ = some (.slice A0_1 l0_1.length c0_1) ∧ w'.cell? ⟨a8, 2, none⟩ = some (.slice A0_2 l0_2.length c0_2) ∧ w'.cell? ⟨a9, 0, none⟩ = some (.int .i64 a1_0) ∧ w'.cell? ⟨a9, 1, none⟩ = some (.slice A1_1 l1_1.length c1_1) ∧ w'.cell? ⟨a9, 2, none⟩ = some (.slice A1_2 l1_2.length c1_2)) (ds := []) #[false, false, false, false, false, false, false, false, false, false, false, false, false, false, false, false, false, false, false, false, false, false, false, false] (by kernel_rfl) rfl rfl ⟨(blk_cell a1.out 0).trans rfl, (blk_cell a1.out 1).trans rfl, (blk_cell a1.out 2).trans rfl, (blk_cell a2.out 0).trans rfl, (blk_cell a2.out 1).trans rfl, (blk_cell a2.out 2).trans rfl⟩ (fun hHeld => ?_); refine with_tabW Pr50b.tab12 Pr50b.bits12 (fun HT_ HW_ => ?_)
             generalize wr.drew = w56 at a6 a4 a1 a2 a5 a0 HB hHeld ⊢
             refine pure_ (i := 1) (N := some 46) (v := ?_) (a' := ?_) #[false, true, false, false, false, false, false, false, false, false, false, false, false, false, false, false, false, false, false, false, false, false, false, false] rfl rfl (any_of HT_.out (by kernel_rfl)) (fun _ _ _ h => h) (Or.inl ⟨by rfl, ?_⟩) ?_ ?_
             rotate_left
             ·intro w'
              go_simp
              with_reducible rfl
             rotate_left
             ·simp only [Act.put, List.setIfInBounds_toArray, List.set_cons_zero, List.set_cons_succ, i64_w, i32_w]
              rfl
             refine pure_ (i := 2) (N := some 47) (v := ?_) (a' := ?_) #[false, true, true, false, false, false, false, false, false, false, false, false, false, false, false, false, false, false, false, false, false, false, false, false] rfl rfl (any_of HT_.out (by kernel_rfl)) (fun _ _ _ h => h) (Or.inl ⟨by rfl, ?_⟩) ?_ ?_
             rotate_left
             ·intro w'
              go_simp
              with_reducible rfl
             rotate_left
             ·simp only [Act.put, List.setIfInBounds_toArray, List.set_cons_zero, List.set_cons_succ, i64_w, i32_w]
              rfl
             refine pure_ (i := 3) (N := some 48) (v := ?_) (a' := ?_) #[false, true, true, true, false, false, false, false, false, false, false, false, false, false, false, false, false, false, false, false, false, false, false, false] rfl rfl (any_of HT_.out (by kernel_rfl)) (fun _ _ _ h => h) (Or.inl ⟨by rfl, ?_⟩) ?_ ?_
             rotate_left
             ·intro w'
              go_simp
              with_reducible rfl
             rotate_left
             ·simp only [Act.put, List.setIfInBounds_toArray, List.set_cons_zero, List.set_cons_succ, i64_w, i32_w]
              rfl
             refine pure_ (i := 6) (N := some 51) (v := ?_) (a' := ?_) #[false, true, true, true, false, false, true, false, false, false, false, false, false, false, false, false, false, false, false, false, false, false, false, false] rfl rfl (any_of HT_.out (by kernel_rfl)) (fun _ _ _ h => h) (Or.inl ⟨by rfl, ?_⟩) ?_ ?_
             rotate_left
             ·intro w'
              go_simp
              with_reducible rfl
             rotate_left
             ·simp only [Act.put, List.setIfInBounds_toArray, List.set_cons_zero, List.set_cons_succ, i64_w, i32_w]
              rfl
             refine pure_ (i := 7) (N := some 52) (v := ?_) (a' := ?_) #[false, true, true, true, false, false, true, true, false, false, false, false, false, false, false, false, false, false, false, false, false, false, false, false] rfl rfl (any_of HT_.out (by kernel_rfl)) (fun _ _ _ h => h) (Or.inl ⟨by rfl, ?_⟩) ?_ ?_
             rotate_left
             ·intro w'
              go_simp
              with_reducible rfl
             rotate_left
             ·simp only [Act.put, List.setIfInBounds_toArray, List.set_cons_zero, List.set_cons_succ, i64_w, i32_w]
              rfl
             refine take_ (i := 0) (N := some 45) (v := ?_) (a' := ?_) #[true, true, true, true, false, false, true, true, false, false, false, false, false, false, false, false, false, false, false, false, false, false, false, false] rfl rfl (take_ofW HT_.out HW_.out (by kernel_rfl)) (fun _ _ _ h => h) (Or.inl ⟨by rfl, ?_⟩) hHeld ?_ ?_
             rotate_left
             ·rintro w' ⟨s0, s1, s2, s3, s4, s5⟩
              go_simp
              with_reducible rfl
             rotate_left
             ·simp only [Act.put, List.setIfInBounds_toArray, List.set_cons_zero, List.set_cons_succ, i64_w, i32_w]
              rfl
             refine take_ (i := 4) (N := some 49) (v := ?_) (a' := ?_) #[true, true, true, true, true, false, true, true, false, false, false, false, false, false, false, false, false, false, false, false, false, false, false, false] rfl rfl (take_ofW HT_.out HW_.out (by kernel_rfl)) (fun _ _ _ h => h) (Or.inl ⟨by rfl, ?_⟩) hHeld ?_ ?_
             rotate_left
             ·rintro w' ⟨s0, s1, s2, s3, s4, s5⟩
              go_simp
              with_reducible rfl
             rotate_left
             ·simp only [Act.put, List.setIfInBounds_toArray, List.set_cons_zero, List.set_cons_succ, i64_w, i32_w]
              rfl
             refine pure_ (i := 5) (N := some 50) (v := ?_) (a' := ?_) #[true, true, true, true, true, true, true, true, false, false, false, false, false, false, false, false, false, false, false, false, false, false, false, false] rfl rfl (any_of HT_.out (by kernel_rfl)) (fun _ _ _ h => h) (Or.inl ⟨by rfl, ?_⟩) ?_ ?_
             rotate_left
             ·intro w'
              go_simp
              with_reducible rfl
             rotate_left
             ·simp only [Act.put, List.setIfInBounds_toArray, List.set_cons_zero, List.set_cons_succ, i64_w, i32_w]
              rfl
             refine take_ (i := 8) (N := some 53) (v := ?_) (a' := ?_) #[true, true, true, true, true, true, true, true, true, false, false, false, false, false, false, false, false, false, false, false, false, false, false, false] rfl rfl (take_ofW HT_.out HW_.out (by kernel_rfl)) (fun _ _ _ h => h) (Or.inl ⟨by rfl, ?_⟩) hHeld ?_ ?_
             rotate_left
             ·rintro w' ⟨s0, s1, s2, s3, s4, s5⟩
              go_simp
              with_reducible rfl
             rotate_left
             ·simp only [Act.put, List.setIfInBounds_toArray, List.set_cons_zero, List.set_cons_succ, i64_w, i32_w]
              rfl
             refine pure_ (i := 9) (N := some 54) (v := ?_) (a' := ?_) #[true, true, true, true, true, true, true, true, true, true, false, false, false, false, false, false, false, false, false, false, false, false, false, false] rfl rfl (any_of HT_.out (by kernel_rfl)) (fun _ _ _ h => h) (Or.inl ⟨by rfl, ?_⟩) ?_ ?_
             rotate_left
             ·intro w'
              go_simp
              with_reducible rfl
             rotate_left
             ·simp only [Act.put, List.setIfInBounds_toArray, List.set_cons_zero, List.set_cons_succ, i64_w, i32_w]
              rfl
             refine one_ (i := 10) (N := some 55) #[true, true, true, true, true, true, true, true, true, true, true, false, false, false, false, false, false, false, false, false, false, false, false, false] rfl rfl (one_of HT_.out (by kernel_rfl)) (by decide) (fun K hK => ?_)
             refine goes_ Try.func48 (by kernel_rfl) rfl #[.agg #[.int .i64 a0_0, .slice A0_1 l0_1.length c0_1, .slice A0_2 l0_2.length c0_2], .string (rdOf ByteArray.empty a7 b3), .int .i64 (wrap64 (Int.tdiv b8 a1_0)), .int .i64 (wrap64 (Int.tdiv b9 a1_0))] (by rfl) rfl rfl (by (try simp only [List.map_toArray, List.map_cons, List.map_nil]); first | done | rfl | (simp only [List.length_drop, List.length_take]; rfl)) ?_
             with_reducible refine (Pr50a.calls k3 a0_0 _ _ l0_1 _ _ l0_2 (rdOf ByteArray.empty a7 b3) (wrap64 (Int.tdiv b8 a1_0)) (wrap64 (Int.tdiv b9 a1_0)) false _ ?f8 ?f6 ?f7 ?f9 m7.out).mono ?_
             (case f8 => repeat (first | exact (Kd.C_below g2.out HB.out) | (with_reducible refine Kd.C_alloc ?_ _) | (with_reducible refine Kd.C_drewN ?_ _) | (with_reducible refine Kd.C_drew ?_)))
             (case f6 => exact g4.out)
             (case f7 => repeat (first | exact (Kd.C_below i2.out HB.out) | (with_reducible refine Kd.C_alloc ?_ _) | (with_reducible refine Kd.C_drewN ?_ _) | (with_reducible refine Kd.C_drew ?_)))
             (case f9 => exact i5.out)
             rintro e H0 ⟨rfl, hb⟩
             refine ⟨_, rfl, ?_⟩
             have d1 := Aside0.mk (Kd.R_below (by (with_reducible repeat (first | apply Kd.R_alloc | apply Kd.R_drewN | apply Kd.R_drew)); exact a6.out) hb)
             have d2 := Aside0.mk (Kd.R_below (by (with_reducible repeat (first | apply Kd.R_alloc | apply Kd.R_drewN | apply Kd.R_drew)); exact a4.out) hb)
             have d0 := Aside0.mk (blk_below (g := a8) (o := .cells #[.int .i64 a0_0, .slice A0_1 l0_1.length c0_1, .slice A0_2 l0_2.length c0_2] 25 (0, 0)) (by (with_reducible repeat (first | refine blk_drewN ?_ _ | refine blk_drew ?_ | refine blk_alloc ?_ _)); exact a1.out) hb)
             have d3 := Aside0.mk (blk_below (g := a9) (o := .cells #[.int .i64 a1_0, .slice A1_1 l1_1.length c1_1, .slice A1_2 l1_2.length c1_2] 25 (0, 0)) (by (with_reducible repeat (first | refine blk_drewN ?_ _ | refine blk_drew ?_ | refine blk_alloc ?_ _)); exact a2.out) hb)
             have d6 := Aside0.mk (blk_below (g := b4) (o := .cells #[.int .i64 0, .slice none 0 0, .slice none 0 0] 25 (0, 0)) (by (with_reducible repeat (first | refine blk_drewN ?_ _ | refine blk_drew ?_ | refine blk_alloc ?_ _)); exact a5.out) hb)
             have e0 := Aside0.mk (blk_below (g := a3) (o := .cells #[.int .i64 (wrap64 (a0_0 * a1_0)), .slice (some e4) a7.length e3, b2] 25 (0, 0)) (by (with_reducible repeat (first | refine blk_drewN ?_ _ | refine blk_drew ?_ | refine blk_alloc ?_ _)); exact a0.out) hb)
             have e1 := Aside0.mk (below_step (by repeat (first | (with_reducible first | exact HB.out | apply below_alloc | apply pw_below_drewN | apply below_drew1 | refine below_set ?_ b7.out | refine below_set ?_ d4.out | refine below_set ?_ d5.out | refine below_set ?_ e2.out) | exact HB.out)) hb)
             clear a6
             clear a4
             clear a1
             clear a2
             clear a5
             clear a0
             clear HB
             have a6 := d1
             have a4 := d2
             have a1 := d0
             have a2 := d3
             have a5 := d6
             have a0 := e0
             have HB := e1
             clear d1 d2 d0 d3 d6 e0 e1
             (try clear hb)
             (try clear h8)
             (try clear hk)
             (try clear hi)
             refine hK.out _ _ ⟨(blk_cell a1.out 0).trans rfl, (blk_cell a1.out 1).trans rfl, (blk_cell a1.out 2).trans rfl, (blk_cell a2.out 0).trans rfl, (blk_cell a2.out 1).trans rfl, (blk_cell a2.out 2).trans rfl⟩ (fun hHeld => ?_)
             clear hK K
             refine norm_ (a' := ?_) ?_ ?_
             rotate_left
             ·show Act.put _ (some 55) _ = _
              simp only [Act.put, List.setIfInBounds_toArray, List.set_cons_zero, List.set_cons_succ, i64_w, i32_w]
              rfl
             refine pure_ (i := 11) (N := some 56) (v := ?_) (a' := ?_) #[true, true, true, true, true, true, true, true, true, true, true, true, false, false, false, false, false, false, false, false, false, false, false, false] rfl rfl (any_of HT_.out (by kernel_rfl)) (fun _ _ _ h => h) (Or.inl ⟨by rfl, ?_⟩) ?_ ?_
             rotate_left
             ·intro w'
              go_simp
              with_reducible rfl
             rotate_left
             ·simp only [Act.put, List.setIfInBounds_toArray, List.set_cons_zero, List.set_cons_succ, i64_w, i32_w]
              rfl
             refine pure_ (i := 12) (N := some 57) (v := undef) (a' := ?_) #[true, true, true, true, true, true, true, true, true, true, true, true, true, false, false, false, false, false, false, false, false, false, false, false] rfl rfl (any_of HT_.out (by kernel_rfl)) (fun _ _ _ h => h) (Or.inr ⟨by rfl, rfl⟩) ?_ ?_
             rotate_left
             ·simp only [Act.put, List.setIfInBounds_toArray, List.set_cons_zero, List.set_cons_succ, i64_w, i32_w]
              rfl
             refine pure_ (i := 13) (N := some 58) (v := undef) (a' := ?_) #[true, true, true, true, true, true, true, true, true, true, true, true, true, true, false, false, false, false, false, false, false, false, false, false] rfl rfl (any_of HT_.out (by kernel_rfl)) (fun _ _ _ h => h) (Or.inr ⟨by rfl, rfl⟩) ?_ ?_
             rotate_left
             ·simp only [Act.put, List.setIfInBounds_toArray, List.set_cons_zero, List.set_cons_succ, i64_w, i32_w]
              rfl
             refine pure_ (i := 14) (N := some 59) (v := undef) (a' := ?_) #[true, true, true, true, true, true, true, true, true, true, true, true, true, true, true, false, false, false, false, false, false, false, false, false] rfl rfl (any_of HT_.out (by kernel_rfl)) (fun _ _ _ h => h) (Or.inr ⟨by rfl, rfl⟩) ?_ ?_
             rotate_left
             ·simp only [Act.put, List.setIfInBounds_toArray, List.set_cons_zero, List.set_cons_succ, i64_w, i32_w]
              rfl
             refine pure_ (i := 15) (N := some 60) (v := undef) (a' := ?_) #[true, true, true, true, true, true, true, true, true, true, true, true, true, true, true, true, false, false, false, false, false, false, false, false] rfl rfl (any_of HT_.out (by kernel_rfl)) (fun _ _ _ h => h) (Or.inr ⟨by rfl, rfl⟩) ?_ ?_
             rotate_left
             ·simp only [Act.put, List.setIfInBounds_toArray, List.set_cons_zero, List.set_cons_succ, i64_w, i32_w]
              rfl
             refine pure_ (i := 16) (N := some 61) (v := undef) (a' := ?_) #[true, true, true, true, true, true, true, true, true, true, true, true, true, true, true, true, true, false, false, false, false, false, false, false] rfl rfl (any_of HT_.out (by kernel_rfl)) (fun _ _ _ h => h) (Or.inr ⟨by rfl, rfl⟩) ?_ ?_
             rotate_left
             ·simp only [Act.put, List.setIfInBounds_toArray, List.set_cons_zero, List.set_cons_succ, i64_w, i32_w]
              rfl
             refine pure_ (i := 17) (N := some 62) (v := undef) (a' := ?_) #[true, true, true, true, true, true, true, true, true, true, true, true, true, true, true, true, true, true, false, false, false, false, false, false] rfl rfl (any_of HT_.out (by kernel_rfl)) (fun _ _ _ h => h) (Or.inr ⟨by rfl, rfl⟩) ?_ ?_
             rotate_left
             ·simp only [Act.put, List.setIfInBounds_toArray, List.set_cons_zero, List.set_cons_succ, i64_w, i32_w]
              rfl
             refine pure_ (i := 18) (N := some 63) (v := undef) (a' := ?_) #[true, true, true, true, true, true, true, true, true, true, true, true, true, true, true, true, true, true, true, false, false, false, false, false] rfl rfl (any_of HT_.out (by kernel_rfl)) (fun _ _ _ h => h) (Or.inr ⟨by rfl, rfl⟩) ?_ ?_
             rotate_left
             ·simp only [Act.put, List.setIfInBounds_toArray, List.set_cons_zero, List.set_cons_succ, i64_w, i32_w]
              rfl
             refine pure_ (i := 19) (N := some 64) (v := undef) (a' := ?_) #[true, true, true, true, true, true, true, true, true, true, true, true, true, true, true, true, true, true, true, true, false, false, false, false] rfl rfl (any_of HT_.out (by kernel_rfl)) (fun _ _ _ h => h) (Or.inr ⟨by rfl, rfl⟩) ?_ ?_
             rotate_left
             ·simp only [Act.put, List.setIfInBounds_toArray, List.set_cons_zero, List.set_cons_succ, i64_w, i32_w]
              rfl
             refine pure_ (i := 20) (N := some 65) (v := undef) (a' := ?_) #[true, true, true, true, true, true, true, true, true, true, true, true, true, true, true, true, true, true, true, true, true, false, false, false] rfl rfl (any_of HT_.out (by kernel_rfl)) (fun _ _ _ h => h) (Or.inr ⟨by rfl, rfl⟩) ?_ ?_
             rotate_left
             ·simp only [Act.put, List.setIfInBounds_toArray, List.set_cons_zero, List.set_cons_succ, i64_w, i32_w]
              rfl
             refine pure_ (i := 21) (N := some 66) (v := undef) (a' := ?_) #[true, true, true, true, true, true, true, true, true, true, true, true, true, true, true, true, true, true, true, true, true, true, false, false] rfl rfl (any_of HT_.out (by kernel_rfl)) (fun _ _ _ h => h) (Or.inr ⟨by rfl, rfl⟩) ?_ ?_
             rotate_left
             ·simp only [Act.put, List.setIfInBounds_toArray, List.set_cons_zero, List.set_cons_succ, i64_w, i32_w]
              rfl
             refine pure_ (i := 22) (N := some 67) (v := undef) (a' := ?_) #[true, true, true, true, true, true, true, true, true, true, true, true, true, true, true, true, true, true, true, true, true, true, true, false] rfl rfl (any_of HT_.out (by kernel_rfl)) (fun _ _ _ h => h) (Or.inr ⟨by rfl, rfl⟩) ?_ ?_
             rotate_left
             ·simp only [Act.put, List.setIfInBounds_toArray, List.set_cons_zero, List.set_cons_succ, i64_w, i32_w]
              rfl
             refine pure_ (i := 23) (N := some 68) (v := ?_) (a' := ?_) #[true, true, true, true, true, true, true, true, true, true, true, true, true, true, true, true, true, true, true, true, true, true, true, true] rfl rfl (any_of HT_.out (by kernel_rfl)) (fun _ _ _ h => h) (Or.inl ⟨by rfl, ?_⟩) ?_ ?_
             rotate_left
             ·intro w'
              go_simp
              with_reducible rfl
             rotate_left
             ·simp only [Act.put, List.setIfInBounds_toArray, List.set_cons_zero, List.set_cons_succ, i64_w, i32_w]
              rfl
             refine done_ (done_of HT_.out (by kernel_rfl)) ?_
             try go_wp2
             go_roundg k3
             case measure => have := g1.out; have := g0.out; have := g6.out; omega
             case rel => exact ⟨(wrap64 (b9 + 1)), (b5), (b2), (by first | rfl | (simp; done) | (simp [*]; done)), H', ⟨by have := g1.out; have := g0.out; have := g6.out; omega⟩, ⟨by (with_reducible repeat (first | apply Kd.R_alloc | apply Kd.R_drewN | apply Kd.R_drew)); exact a6.out⟩, ⟨by (with_reducible repeat (first | apply Kd.R_alloc | apply Kd.R_drewN | apply Kd.R_drew)); exact a4.out⟩, ⟨by (with_reducible repeat (first | refine blk_drewN ?_ _ | refine blk_drew ?_ | refine blk_alloc ?_ _)); exact a1.out⟩, ⟨by (with_reducible repeat (first | refine blk_drewN ?_ _ | refine blk_drew ?_ | refine blk_alloc ?_ _)); exact a2.out⟩, ⟨by (with_reducible repeat (first | refine blk_drewN ?_ _ | refine blk_drew ?_ | refine blk_alloc ?_ _)); exact a5.out⟩, ⟨by (with_reducible repeat (first | refine blk_drewN ?_ _ | refine blk_drew ?_ | refine blk_alloc ?_ _)); exact a0.out⟩, ⟨by repeat (first | (with_reducible first | exact HB.out | apply below_alloc | apply pw_below_drewN | apply below_drew1 | refine below_set ?_ b7.out | refine below_set ?_ d4.out | refine below_set ?_ d5.out | refine below_set ?_ e2.out) | exact HB.out)⟩⟩
          ·rw [if_neg h4] at H
           have c27b0 : decide (b9 < (wrap64 (a0_0 * a1_0))) = false := decide_eq_false h4
           clear h4
           have H' := Aside0.mk H
           clear H
           have F2 := d9.out
           have A8 := b0.out
           have E0 := d7.out
           have B2 := b1.out
           have C8 := d8.out
           have F0 := b6.out
           have u4 : wr.cell? ⟨a3, 0, none⟩ = some (.int .i64 (wrap64 (a0_0 * a1_0))) := (blk_cell a0.out 0).trans rfl
           have x7 : wr.cell? ⟨a3, 1, none⟩ = some (.slice (some e4) a7.length e3) := (blk_cell a0.out 1).trans rfl
           have v3 : wr.cell? ⟨a3, 2, none⟩ = some (b2) := (blk_cell a0.out 2).trans rfl
           have x0 := blk_frozen a0.out 0
           have t9 := blk_frozen a0.out 1
           have r8 := blk_frozen a0.out 2
           go_wp2
           go_roundg k3
           case measure => have := g1.out; have := g0.out; have := g6.out; omega
           case rel => exact ⟨(wrap64 (b3 + 1)), (b5), (b2), (by first | rfl | (simp; done) | (simp [*]; done)), H', ⟨by have := g1.out; have := g0.out; have := g6.out; omega⟩, ⟨by (with_reducible repeat (first | apply Kd.R_alloc | apply Kd.R_drewN | apply Kd.R_drew)); exact a6.out⟩, ⟨by (with_reducible repeat (first | apply Kd.R_alloc | apply Kd.R_drewN | apply Kd.R_drew)); exact a4.out⟩, ⟨by (with_reducible repeat (first | refine blk_drewN ?_ _ | refine blk_drew ?_ | refine blk_alloc ?_ _)); exact a1.out⟩, ⟨by (with_reducible repeat (first | refine blk_drewN ?_ _ | refine blk_drew ?_ | refine blk_alloc ?_ _)); exact a2.out⟩, ⟨by (with_reducible repeat (first | refine blk_drewN ?_ _ | refine blk_drew ?_ | refine blk_alloc ?_ _)); exact a5.out⟩, ⟨by (with_reducible repeat (first | refine blk_drewN ?_ _ | refine blk_drew ?_ | refine blk_alloc ?_ _)); exact a0.out⟩, ⟨by repeat (first | (with_reducible first | exact HB.out | apply below_alloc | apply pw_below_drewN | apply below_drew1 | refine below_set ?_ b7.out | refine below_set ?_ d4.out | refine below_set ?_ d5.out | refine below_set ?_ e2.out) | exact HB.out)⟩⟩
       ·rw [if_neg j4] at H
        exact absurd H (by simp)
      ·rw [if_neg h1] at H
       have c21b0 : decide (b3 < (a7.length : Int)) = false := decide_eq_false h1
       clear h1
       have H' := Aside0.mk H
       clear H
       have B4 := d9.out
       have C5 := b0.out
       have B0 := d7.out
       have D1 := b1.out
       have D7 := d8.out
       have E6 := b6.out
       have u9 : wr.cell? ⟨a3, 0, none⟩ = some (.int .i64 (wrap64 (a0_0 * a1_0))) := (blk_cell a0.out 0).trans rfl
       have y4 : wr.cell? ⟨a3, 1, none⟩ = some (.slice e7 a7.length e3) := (blk_cell a0.out 1).trans rfl
       have r6 : wr.cell? ⟨a3, 2, none⟩ = some (b2) := (blk_cell a0.out 2).trans rfl
       have q9 := blk_frozen a0.out 0
       have x1 := blk_frozen a0.out 1
       have x4 := blk_frozen a0.out 2
       go_wp2
       go_roundg k2
       case measure => have := g1.out; have := g0.out; omega
       case rel => exact ⟨(wrap64 (b8 + 1)), (e8), (b2), (by first | rfl | (simp; done) | (simp [*]; done)), H', ⟨by have := g1.out; have := g0.out; omega⟩, ⟨by (with_reducible repeat (first | apply Kd.R_alloc | apply Kd.R_drewN | apply Kd.R_drew)); exact a6.out⟩, ⟨by (with_reducible repeat (first | apply Kd.R_alloc | apply Kd.R_drewN | apply Kd.R_drew)); exact a4.out⟩, ⟨by (with_reducible repeat (first | refine blk_drewN ?_ _ | refine blk_drew ?_ | refine blk_alloc ?_ _)); exact a1.out⟩, ⟨by (with_reducible repeat (first | refine blk_drewN ?_ _ | refine blk_drew ?_ | refine blk_alloc ?_ _)); exact a2.out⟩, ⟨by (with_reducible repeat (first | refine blk_drewN ?_ _ | refine blk_drew ?_ | refine blk_alloc ?_ _)); exact a5.out⟩, ⟨by (with_reducible repeat (first | refine blk_drewN ?_ _ | refine blk_drew ?_ | refine blk_alloc ?_ _)); exact a0.out⟩, ⟨by repeat (first | (with_reducible first | exact HB.out | apply below_alloc | apply pw_below_drewN | apply below_drew1 | refine below_set ?_ b7.out | refine below_set ?_ d4.out | refine below_set ?_ d5.out | refine below_set ?_ e2.out) | exact HB.out)⟩⟩
   ·rw [if_neg g7] at H
    have c16b0 : decide (b8 < (wrap64 (a0_0 * a1_0))) = false := decide_eq_false g7
    clear g7
    simp only [Option.some.injEq, Prod.mk.injEq] at H
    obtain ⟨rfl, rfl, rfl⟩ := H
    have C0 := d9.out
    have B5 := b0.out
    have A0 := d7.out
    have E3 := b1.out
    have D3 := d8.out
    have D6 := b6.out
    have y8 : wr.cell? ⟨a3, 0, none⟩ = some (.int .i64 (wrap64 (a0_0 * a1_0))) := (blk_cell a0.out 0).trans rfl
    have x5 : wr.cell? ⟨a3, 1, none⟩ = some (.slice e7 a7.length e3) := (blk_cell a0.out 1).trans rfl
    have t8 : wr.cell? ⟨a3, 2, none⟩ = some (b2) := (blk_cell a0.out 2).trans rfl
    have u5 := blk_frozen a0.out 0
    have s8 := blk_frozen a0.out 1
    have w2 := blk_frozen a0.out 2
    have z9 := i8.out
    have C3 := i9.out
    have D0 := j3.out
    have A2 := i7.out
    have q6 : wr.cell? ⟨b4, 0, none⟩ = some (.int .i64 0) := (blk_cell a5.out 0).trans rfl
    have x6 : wr.cell? ⟨b4, 1, none⟩ = some (.slice none 0 0) := (blk_cell a5.out 1).trans rfl
    have x3 : wr.cell? ⟨b4, 2, none⟩ = some (.slice none 0 0) := (blk_cell a5.out 2).trans rfl
    have x9 := blk_frozen a5.out 0
    have s6 := blk_frozen a5.out 1
    have u1 := blk_frozen a5.out 2
    obtain ⟨j9, j8, p4⟩ := Kd.R_slice a4.out
    subst p4
    go_wp2
    refine bodyPost_ret (results_cell_row rfl _ _ b4 25 #[.int .i64 (wrap64 (a0_0 * a1_0)), .slice e7 a7.length e3, .slice j9 e5.length j8] (0, 0) _ rfl (by (with_reducible repeat (first | refine blk_drewN ?_ _ | refine blk_drew ?_ | refine blk_alloc ?_ _)); refine blk_put (cs := #[.int .i64 (wrap64 (a0_0 * a1_0)), .slice e7 a7.length e3, .slice none 0 0]) ?_ 2 _ rfl; (with_reducible repeat (first | refine blk_drewN ?_ _ | refine blk_drew ?_ | refine blk_alloc ?_ _)); refine blk_put (cs := #[.int .i64 (wrap64 (a0_0 * a1_0)), .slice none 0 0, .slice none 0 0]) ?_ 1 _ rfl; (with_reducible repeat (first | refine blk_drewN ?_ _ | refine blk_drew ?_ | refine blk_alloc ?_ _)); refine blk_put (cs := #[.int .i64 0, .slice none 0 0, .slice none 0 0]) ?_ 0 _ rfl; (with_reducible repeat (first | refine blk_drewN ?_ _ | refine blk_drew ?_ | refine blk_alloc ?_ _)); exact a5.out) Try.underlying25 rfl (by kernel_rfl)) rfl ?_
    exact ⟨_, _, by first | rfl | (simp [errW_none, errW_some] <;> rfl) | (simp [*, errW_none, errW_some] <;> rfl), by (with_reducible repeat (first | apply Kd.R_alloc | apply Kd.R_drewN | apply Kd.R_drew)); exact Kd.R_mono (Kd.R_far (p := ⟨b4, 2, none⟩) (Kd.R_far (p := ⟨b4, 1, none⟩) (Kd.R_far (p := ⟨b4, 0, none⟩) (Kd.R_types a6.out a5.out (by decide)) (fun _ hk => hk.2) (.int .i64 (wrap64 (a0_0 * a1_0)))) (fun _ hk => hk.2) (.slice e7 a7.length e3)) (fun _ hk => hk.2) (.slice j9 e5.length j8)) (fun _ hk => trivial), by (with_reducible repeat (first | apply Kd.R_alloc | apply Kd.R_drewN | apply Kd.R_drew)); exact Kd.R_mono (Kd.R_far (p := ⟨b4, 2, none⟩) (Kd.R_far (p := ⟨b4, 1, none⟩) (Kd.R_far (p := ⟨b4, 0, none⟩) (Kd.R_types a4.out a5.out (by decide)) (fun _ hk => hk.2) (.int .i64 (wrap64 (a0_0 * a1_0)))) (fun _ hk => hk.2) (.slice e7 a7.length e3)) (fun _ hk => hk.2) (.slice j9 e5.length j8)) (fun _ hk => trivial), by repeat (first | (with_reducible first | exact HB.out | apply below_alloc | apply pw_below_drewN | apply below_drew1 | refine below_set ?_ b7.out | refine below_set ?_ d4.out | refine below_set ?_ d5.out | refine below_set ?_ e2.out) | exact HB.out)⟩
end Go.Proofs.Ythaaockbapbooaa.Pr
