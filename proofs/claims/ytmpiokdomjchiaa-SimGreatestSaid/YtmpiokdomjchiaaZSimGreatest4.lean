/-
  Parts of the proof of SimGreatest (joined by wip/tools/bundle.py), part 4: plain words and walks of the functions that the law reaches.
-/
import Derived.Test.YtmpiokdomjchiaaZSimGreatest3
namespace Go.Proofs.Ytmpiokdomjchiaa.Pr
open Go.RowKit Go.Proofs.YtmpiokdomjchiaaW.PrintWords Go.Proofs.YtmpiokdomjchiaaW.PrintLast Go.Proofs.YtmpiokdomjchiaaW.PrintMore
attribute [local go_sem] max2_int min2_int max_two min_two max_three min_three max_four min_four
set_option linter.unusedVariables false
set_option linter.unusedSimpArgs false
mutual
def semblanceref41_Pairs.l0 : Nat → Int → List Bool → Int → Int → List ByteArray → List (S81) → Option (List Bool)
 | 0, _, _, _, _, _, _ => none
 | k + 1, x3, x4, x5, x149000, x149001, x149002 => if x5 < (wrap64 (x3 * x3)) then (if 0 ≤ x5 then (if x5 < (x4.length : Int) then (semblanceref41_Pairs.l0 k x3 (x4.set (x5 : Int).toNat true) (wrap64 (x5 + 1)) x149000 x149001 x149002) else (none)) else (none)) else (semblanceref41_Pairs.l1 k x3 x4 true x149000 x149001 x149002)
def semblanceref41_Pairs.l1 : Nat → Int → List Bool → Bool → Int → List ByteArray → List (S81) → Option (List Bool)
 | 0, _, _, _, _, _, _ => none
 | k + 1, x3, x4, x6, x149000, x149001, x149002 => if x6 = true then (semblanceref41_Pairs.l2 k x3 x4 false 0 x149000 x149001 x149002) else (some x4)
def semblanceref41_Pairs.l2 : Nat → Int → List Bool → Bool → Int → Int → List ByteArray → List (S81) → Option (List Bool)
 | 0, _, _, _, _, _, _, _ => none
 | k + 1, x3, x4, x6, x7, x149000, x149001, x149002 => if x7 < (wrap64 (x3 * x3)) then (if 0 ≤ x7 then (if x7 < (x4.length : Int) then (if rdOf false x4 x7 = true then (if x3 = 0 then (none) else ((semblanceref34_Follows.f k x149000 x149001 x149002 x4 (wrap64 (Int.tdiv x7 x3)) (Int.tmod x7 x3)).bind fun t154 => (if t154 = true then (semblanceref41_Pairs.l2 k x3 x4 x6 (wrap64 (x7 + 1)) x149000 x149001 x149002) else (semblanceref41_Pairs.l2 k x3 (x4.set (x7 : Int).toNat false) true (wrap64 (x7 + 1)) x149000 x149001 x149002)))) else (semblanceref41_Pairs.l2 k x3 x4 x6 (wrap64 (x7 + 1)) x149000 x149001 x149002)) else (none)) else (none)) else (semblanceref41_Pairs.l1 k x3 x4 x6 x149000 x149001 x149002)
end
def semblanceref41_Pairs.f (k : Nat) (a0_0 : Int) (l0_1 : List ByteArray) (l0_2 : List (S81)) : Option (List Bool) := if 0 ≤ (wrap64 (a0_0 * a0_0)) then (if (wrap64 (a0_0 * a0_0) : Int).toNat ≤ 281474976710656 then (semblanceref41_Pairs.l0 k a0_0 (List.replicate (wrap64 (a0_0 * a0_0) : Int).toNat false) 0 a0_0 l0_1 l0_2) else (none)) else (none)
theorem semblanceref41_Pairs.mono_l : ∀ k, (∀ y0 y1 y2 y3 y4 y5, LeO (semblanceref41_Pairs.l0 k y0 y1 y2 y3 y4 y5) (semblanceref41_Pairs.l0 (k + 1) y0 y1 y2 y3 y4 y5)) ∧ (∀ y0 y1 y2 y3 y4 y5, LeO (semblanceref41_Pairs.l1 k y0 y1 y2 y3 y4 y5) (semblanceref41_Pairs.l1 (k + 1) y0 y1 y2 y3 y4 y5)) ∧ (∀ y0 y1 y2 y3 y4 y5 y6, LeO (semblanceref41_Pairs.l2 k y0 y1 y2 y3 y4 y5 y6) (semblanceref41_Pairs.l2 (k + 1) y0 y1 y2 y3 y4 y5 y6))
 | 0 => ⟨fun _ _ _ _ _ _ r h => by simp [semblanceref41_Pairs.l0] at h, fun _ _ _ _ _ _ r h => by simp [semblanceref41_Pairs.l1] at h, fun _ _ _ _ _ _ _ r h => by simp [semblanceref41_Pairs.l2] at h⟩
 | k + 1 => by
  obtain ⟨ih0, ih1, ih2⟩ := semblanceref41_Pairs.mono_l k
  refine ⟨?_, ?_, ?_⟩
  ·intro y0 y1 y2 y3 y4 y5
   unfold semblanceref41_Pairs.l0
   repeat' first
   | (with_reducible exact ih0 _ _ _ _ _ _)
   | (with_reducible exact ih1 _ _ _ _ _ _)
   | (with_reducible exact ih2 _ _ _ _ _ _ _)
   | (with_reducible exact semblanceref34_Follows.mono _ _ _ _ _ _ _)
   | (with_reducible exact LeO.refl _)
   | (with_reducible exact LeO.none _)
   | (with_reducible refine LeO.ite ?_ ?_)
   | (with_reducible refine LeO.bind ?_ (fun _ => ?_))
   | exact ih0 _ _ _ _ _ _
   | exact ih1 _ _ _ _ _ _
   | exact ih2 _ _ _ _ _ _ _
   | exact semblanceref34_Follows.mono _ _ _ _ _ _ _
   | exact LeO.none _
   | refine LeO.ite ?_ ?_
   | refine LeO.bind ?_ (fun _ => ?_)
  ·intro y0 y1 y2 y3 y4 y5
   unfold semblanceref41_Pairs.l1
   repeat' first
   | (with_reducible exact ih0 _ _ _ _ _ _)
   | (with_reducible exact ih1 _ _ _ _ _ _)
   | (with_reducible exact ih2 _ _ _ _ _ _ _)
   | (with_reducible exact semblanceref34_Follows.mono _ _ _ _ _ _ _)
   | (with_reducible exact LeO.refl _)
   | (with_reducible exact LeO.none _)
   | (with_reducible refine LeO.ite ?_ ?_)
   | (with_reducible refine LeO.bind ?_ (fun _ => ?_))
   | exact ih0 _ _ _ _ _ _
   | exact ih1 _ _ _ _ _ _
   | exact ih2 _ _ _ _ _ _ _
   | exact semblanceref34_Follows.mono _ _ _ _ _ _ _
   | exact LeO.none _
   | refine LeO.ite ?_ ?_
   | refine LeO.bind ?_ (fun _ => ?_)
  ·intro y0 y1 y2 y3 y4 y5 y6
   unfold semblanceref41_Pairs.l2
   repeat' first
   | (with_reducible exact ih0 _ _ _ _ _ _)
   | (with_reducible exact ih1 _ _ _ _ _ _)
   | (with_reducible exact ih2 _ _ _ _ _ _ _)
   | (with_reducible exact semblanceref34_Follows.mono _ _ _ _ _ _ _)
   | (with_reducible exact LeO.refl _)
   | (with_reducible exact LeO.none _)
   | (with_reducible refine LeO.ite ?_ ?_)
   | (with_reducible refine LeO.bind ?_ (fun _ => ?_))
   | exact ih0 _ _ _ _ _ _
   | exact ih1 _ _ _ _ _ _
   | exact ih2 _ _ _ _ _ _ _
   | exact semblanceref34_Follows.mono _ _ _ _ _ _ _
   | exact LeO.none _
   | refine LeO.ite ?_ ?_
   | refine LeO.bind ?_ (fun _ => ?_)
theorem semblanceref41_Pairs.mono : ∀ a0 a1 a2 k, LeO (semblanceref41_Pairs.f k a0 a1 a2) (semblanceref41_Pairs.f (k + 1) a0 a1 a2) := by
 intro a0 a1 a2 k
 obtain ⟨ih0, ih1, ih2⟩ := semblanceref41_Pairs.mono_l k
 unfold semblanceref41_Pairs.f
 repeat' first
   | (with_reducible exact ih0 _ _ _ _ _ _)
   | (with_reducible exact ih1 _ _ _ _ _ _)
   | (with_reducible exact ih2 _ _ _ _ _ _ _)
   | (with_reducible exact semblanceref34_Follows.mono _ _ _ _ _ _ _)
   | (with_reducible exact LeO.refl _)
   | (with_reducible exact LeO.none _)
   | (with_reducible refine LeO.ite ?_ ?_)
   | (with_reducible refine LeO.bind ?_ (fun _ => ?_))
   | exact ih0 _ _ _ _ _ _
   | exact ih1 _ _ _ _ _ _
   | exact ih2 _ _ _ _ _ _ _
   | exact semblanceref34_Follows.mono _ _ _ _ _ _ _
   | exact LeO.none _
   | refine LeO.ite ?_ ?_
   | refine LeO.bind ?_ (fun _ => ?_)
def semblanceref41_Pairs.T13 : Bool × List (List Nat × List Nat) := (true, [([], []), ([], []), ([0, 1], [0, 1]), ([2], [2]), ([3], [3]), ([4], [4]), ([4], [4]), ([4], [4]), ([4], [4]), ([7, 8, 4], [4, 7, 8]), ([4], [4]), ([4], [4]), ([10, 11, 4], [4, 10, 11]), ([5, 6, 9, 12, 4, 4], [4, 5, 6, 9, 12]), ([13, 4], [4, 13]), ([4, 14], [4, 14])])
def semblanceref41_Pairs.B13 : List Nat := [0, 0, 3, 7, 15, 31, 31, 31, 31, 415, 31, 31, 3103, 8191, 16383, 32767]
theorem semblanceref41_Pairs.tab13 : rtab .any (opsOf Try.f51 13) = semblanceref41_Pairs.T13 := by kernel_rfl
theorem semblanceref41_Pairs.bits13 : waitsOk semblanceref41_Pairs.T13.2 semblanceref41_Pairs.B13 = true := by kernel_rfl
set_option maxHeartbeats 8000000 in
set_option maxRecDepth 100000 in
theorem semblanceref41_Pairs.calls (k : Nat) (a0_0 : Int) (A0_1 : Option Addr) (c0_1 : Nat) (l0_1 : List ByteArray) (A0_2 : Option Addr) (c0_2 : Nat) (l0_2 : List (S81)) (r : List Bool) (w : World) (hr0_1 : Kd.C Kd.string w A0_1 l0_1.length l0_1) (hc0_1 : l0_1.length ≤ c0_1) (hr0_2 : Kd.C k81 w A0_2 l0_2.length l0_2) (hc0_2 : l0_2.length ≤ c0_2) (h : semblanceref41_Pairs.f k a0_0 l0_1 l0_2 = some r) :
  Calls Try.prog 51 #[.agg #[.int .i64 a0_0, .slice A0_1 l0_1.length c0_1, .slice A0_2 l0_2.length c0_2]] w fun e w' => ∃ v0_ : Value, e = .returned (v0_) ∧ Kd.R Kd.bool 4 w' w.heap.size (fun _ => True) v0_ r ∧ Below w.heap.size w w' := by
 have hu25 := Try.underlying25
 have HR0_1 := Aside0.mk hr0_1
 have HC0_1 := Aside0.mk hc0_1
 clear hr0_1 hc0_1
 have HR0_2 := Aside0.mk hr0_2
 have HC0_2 := Aside0.mk hc0_2
 clear hr0_2 hc0_2
 have HB := Aside0.mk (Below.refl w.heap.size w)
 have H : (if 0 ≤ (wrap64 (a0_0 * a0_0)) then (if (wrap64 (a0_0 * a0_0) : Int).toNat ≤ 281474976710656 then (semblanceref41_Pairs.l0 k a0_0 (List.replicate (wrap64 (a0_0 * a0_0) : Int).toNat false) 0 a0_0 l0_1 l0_2) else (none)) else (none)) = some r := h
 clear h
 obtain ⟨ji2, hji2⟩ : ∃ j_ : Int, (wrap64 (a0_0 * a0_0)) = j_ := ⟨_, rfl⟩
 replace H : (if 0 ≤ (ji2) then (if (ji2 : Int).toNat ≤ 281474976710656 then (semblanceref41_Pairs.l0 k a0_0 (List.replicate (ji2 : Int).toNat false) 0 a0_0 l0_1 l0_2) else (none)) else (none)) = some r := by first | (rw [hji2] at H; exact H) | (simp only [hji2] at H ⊢; exact H)
 have hji2w : (IntKind.i64.wrap (a0_0 * a0_0)) = ji2 := (i64_w _).trans hji2
 by_cases c3 : 0 ≤ (ji2)
 ·rw [if_pos c3] at H
  have c3b0 := eq_true c3
  have c3b1 : decide (0 ≤ (ji2)) = true := decide_eq_true c3
  clear c3
  by_cases c4 : (ji2 : Int).toNat ≤ 281474976710656
  ·rw [if_pos c4] at H
   have c4b0 := eq_true c4
   have c4b1 : decide ((ji2 : Int).toNat ≤ 281474976710656) = true := decide_eq_true c4
   clear c4
   obtain ⟨y149, hy149⟩ : ∃ y_ : List Bool, y_ = (List.replicate (ji2 : Int).toNat false) := ⟨_, rfl⟩
   replace H : (semblanceref41_Pairs.l0 k a0_0 y149 0 a0_0 l0_1 l0_2) = some r := by first | (rw [hy149]; with_reducible exact H) | (have H2_ := (Option.bind_some _ _).symm.trans H; rw [hy149]; with_reducible exact H2_) | (have H2_ := (Option.bind_some _ _).symm.trans H; with_reducible exact H2_) | with_reducible exact H | (rw [hy149]; exact H) | exact H
   have Ny149 := Aside0.mk hy149
   clear hy149
   have H' := Aside0.mk H
   clear H
   go_enter Try.func51, Try.ntmps51
   go_wp2_with (first | ((with_reducible refine gate_dst (N := 1) rfl ?_); refine box_event ?hg (N := 1) ?hd (cs := #[.int .i64 a0_0, .slice A0_1 l0_1.length c0_1, .slice A0_2 l0_2.length c0_2]) (t := 25) ?hr ?_; (case hd => rfl); (case hg => rfl); (case hr => first | (go_simp; done) | (go_simp; rfl)); intro gb148 hg w5 hbox hb; have n0_ := Aside0.mk (below_step (by repeat (first | (with_reducible first | exact HB.out | apply below_alloc | apply pw_below_drewN | apply below_drew1) | exact HB.out)) hb); have n1_ := Aside0.mk (hbox); have n2_ := Aside0.mk ((by rw [hg]; exact (below_size (by repeat (first | (with_reducible first | exact HB.out | apply below_alloc | apply pw_below_drewN | apply below_drew1) | exact HB.out))) : w.heap.size ≤ gb148)); have n3_ := Aside0.mk ((by rw [hg]; exact (below_size (by repeat (first | (with_reducible first | exact HB.out | apply below_alloc | apply pw_below_drewN | apply below_drew1) | exact HB.out))) : w.heap.size ≤ gb148)); clear HB; have HB := n0_; have BK148 := n1_; have GW148 := n2_; have GE148 := n3_; clear n0_ n1_ n2_ n3_; clear hb hbox hg; have hcz6_0 : w5.cell? ⟨gb148, 0, none⟩ = some (.int .i64 a0_0) := (blk_cell BK148.out 0).trans rfl; have hcz6_1 : w5.cell? ⟨gb148, 1, none⟩ = some (.slice A0_1 l0_1.length c0_1) := (blk_cell BK148.out 1).trans rfl; have hcz6_2 : w5.cell? ⟨gb148, 2, none⟩ = some (.slice A0_2 l0_2.length c0_2) := (blk_cell BK148.out 2).trans rfl; have hfz6_0 := blk_frozen BK148.out 0; have hfz6_1 := blk_frozen BK148.out 1; have hfz6_2 := blk_frozen BK148.out 2) | ((with_reducible refine gate_dst (N := 13) rfl ?_); refine Kd.R_make Kd.bool _ 4 rfl (N := 13) rfl 64 _ _ rfl ji2 rfl rfl Try.underlying64 (.bool false) 1 info4 rfl (by decide) (by omega) false (ok := fun _ => True) (okp := fun _ => True) rfl (fun _ hk => hk) trivial (of_decide_eq_true (by first | (with_reducible assumption) | assumption)) (Nat.le_trans (Nat.mul_le_mul_right _ (of_decide_eq_true (by first | (with_reducible assumption) | assumption) : ji2.toNat ≤ 281474976710656)) (by omega)) (Below.refl _ _) (Nat.le_refl _) ?_; intro v150 w7 ho8 hb hg_ hnew_; clear hg_ hnew_; (first | rw [← Ny149.out] at ho8 | (simp only [Int.reduceToNat] at ho8; rw [← Ny149.out] at ho8)); have n0_ := Aside0.mk (Kd.R_lower ho8 (below_size (by repeat (first | (with_reducible first | exact HB.out | apply below_alloc | apply pw_below_drewN | apply below_drew1 | refine below_set ?_ GE148.out) | exact HB.out)))); have n1_ := Aside0.mk (blk_below (g := gb148) (o := .cells #[.int .i64 a0_0, .slice A0_1 l0_1.length c0_1, .slice A0_2 l0_2.length c0_2] 25 (0, 0)) (by (with_reducible repeat (first | refine blk_drewN ?_ _ | refine blk_drew ?_ | refine blk_alloc ?_ _)); exact BK148.out) hb); have n2_ := Aside0.mk (below_step (by repeat (first | (with_reducible first | exact HB.out | apply below_alloc | apply pw_below_drewN | apply below_drew1 | refine below_set ?_ GE148.out) | exact HB.out)) hb); clear BK148; clear HB; have HO151 := n0_; have BK148 := n1_; have HB := n2_; clear n0_ n1_ n2_; clear hb ho8))
   go_loopg [5] k (fun kq v5 w' => ∃ (x4_1 : List Bool) (x5_1 : Int), v5 = .int .i64 x5_1 ∧ Aside0 (semblanceref41_Pairs.l0 kq a0_0 x4_1 x5_1 a0_0 l0_1 l0_2 = some r) ∧ Aside0 (kq ≤ k) ∧ Aside0 (Kd.R Kd.bool 4 w' w.heap.size (fun _ => True) v150 x4_1) ∧ Aside0 (w'.heap[gb148]? = some (.cells #[.int .i64 a0_0, (.slice A0_1 l0_1.length c0_1), (.slice A0_2 l0_2.length c0_2)] 25 (0, 0))) ∧ Aside0 (Below w.heap.size w w'))
   case atStart => exact ⟨(y149), (0), (by first | rfl | (simp; done) | (simp [*]; done)), H', ⟨Nat.le_refl _⟩, ⟨by (with_reducible repeat (first | apply Kd.R_alloc | apply Kd.R_drewN | apply Kd.R_drew)); exact HO151.out⟩, ⟨by (with_reducible repeat (first | refine blk_drewN ?_ _ | refine blk_drew ?_ | refine blk_alloc ?_ _)); exact BK148.out⟩, ⟨by repeat (first | (with_reducible first | exact HB.out | apply below_alloc | apply pw_below_drewN | apply below_drew1 | refine below_set ?_ GE148.out) | exact HB.out)⟩⟩
   case round =>
    try clear hji2w
    try clear hji2
    clear H'
    try clear p2
    try clear c3
    try clear c3b0
    try clear c3b1
    try clear c4
    try clear c4b0
    try clear c4b1
    try clear c5
    try clear p6
    try clear hcz6_0
    try clear hcz6_1
    try clear hcz6_2
    try clear hfz6_0
    try clear hfz6_1
    try clear hfz6_2
    obtain ⟨x4_1, x5_1, rfl, HA, HK1, HO_4, BK148, HB⟩ := hrel
    cases gk with
    | zero => exact absurd HA.out (by simp [semblanceref41_Pairs.l0])
    | succ k1 =>
     have H := HA.out
     clear HA
     simp only [semblanceref41_Pairs.l0] at H
     by_cases c9 : x5_1 < (wrap64 (a0_0 * a0_0))
     ·rw [if_pos c9] at H
      have c9b0 : decide (x5_1 < (wrap64 (a0_0 * a0_0))) = true := decide_eq_true c9
      clear c9
      by_cases c10 : 0 ≤ x5_1
      ·rw [if_pos c10] at H
       have c10b0 : decide (0 ≤ x5_1) = true := decide_eq_true c10
       clear c10
       by_cases c11 : x5_1 < (x4_1.length : Int)
       ·rw [if_pos c11] at H
        have c11b0 : decide (x5_1 < (x4_1.length : Int)) = true := decide_eq_true c11
        clear c11
        obtain ⟨y152, hy152⟩ : ∃ y_ : List Bool, y_ = (x4_1.set (x5_1 : Int).toNat true) := ⟨_, rfl⟩
        replace H : (semblanceref41_Pairs.l0 k1 a0_0 y152 (wrap64 (x5_1 + 1)) a0_0 l0_1 l0_2) = some r := by first | (rw [hy152]; with_reducible exact H) | (have H2_ := (Option.bind_some _ _).symm.trans H; rw [hy152]; with_reducible exact H2_) | (have H2_ := (Option.bind_some _ _).symm.trans H; with_reducible exact H2_) | with_reducible exact H | (rw [hy152]; exact H) | exact H
        have Ny152 := Aside0.mk hy152
        clear hy152
        have H' := Aside0.mk H
        clear H
        have p12 : 0 ≤ (x5_1 : Int) := of_decide_eq_true (by first | (with_reducible assumption) | assumption)
        have q12 : (x5_1 : Int) < ((x4_1.length : Int) : Int) := of_decide_eq_true (by first | (with_reducible assumption) | assumption)
        obtain ⟨go12, co12, eo12, gb12, gl12, cl12, HG12⟩ := Kd.R_form HO_4.out (by omega)
        (first | cases eo12 | (injection eo12 with ea_ en_ ec_; (first | subst ea_ | (injection ea_ with ea_; subst ea_)); subst ec_; clear en_))
        have GB12 := Aside0.mk gb12
        have GG12 := Aside0.mk HG12
        clear gb12 gl12 HG12
        obtain ⟨hx12_0, hf12_0⟩ := Kd.R_celln false HO_4.out (x5_1 : Int) p12 q12
        replace p12 := eq_true p12
        replace q12 := eq_true q12
        have HP13 := Kd.R_putg HO_4.out (x5_1 : Int) true
        go_wp2_with (first | ((with_reducible refine gate_store (t := 4) (p := 23) rfl ?_); refine store_event (t := 4) (p := 23) (v := ?vo_w14) (w1 := (wr.setCell ⟨go12, (x5_1 : Int).toNat, none⟩ (.bool true))) ?hg ?ho ?hn ?hr ?_; (case ho => rfl); (case hg => rfl); (case hn => rfl); (case hr => first | (go_simp; done) | (go_simp; rfl)); intro w14 hw; have hg : wr.grownBy w14 (some go12) := (by rw [hw]; exact HP13.2); have hp_ : Kd.R Kd.bool 4 w14 w.heap.size (fun _ => True) (.slice (some ⟨go12, 0, none⟩) x4_1.length co12) y152 := (by rw [hw, Ny152.out]; exact HP13.1); clear HP13; have n0_ := Aside0.mk (hp_); have n1_ := Aside0.mk (blk_grown (g := gb148) (o := .cells #[.int .i64 a0_0, .slice A0_1 l0_1.length c0_1, .slice A0_2 l0_2.length c0_2] 25 (0, 0)) (by (with_reducible repeat (first | refine blk_drewN ?_ _ | refine blk_drew ?_ | refine blk_alloc ?_ _)); exact BK148.out) hg (Kd.R_ne HO_4.out BK148.out (by decide))); have n2_ := Aside0.mk ((by rw [hw]; exact below_set (HB.out) GB12.out : Below w.heap.size w w14)); clear HO_4; clear BK148; clear HB; have HO_4 := n0_; have BK148 := n1_; have HB := n2_; clear n0_ n1_ n2_; clear hg hw hp_))
        go_roundg k1
        case measure => have := HK1.out; omega
        case rel => exact ⟨(y152), (wrap64 (x5_1 + 1)), (by first | rfl | (simp; done) | (simp [*]; done)), H', ⟨by have := HK1.out; omega⟩, ⟨by (with_reducible repeat (first | apply Kd.R_alloc | apply Kd.R_drewN | apply Kd.R_drew)); exact HO_4.out⟩, ⟨by (with_reducible repeat (first | refine blk_drewN ?_ _ | refine blk_drew ?_ | refine blk_alloc ?_ _)); exact BK148.out⟩, ⟨by repeat (first | (with_reducible first | exact HB.out | apply below_alloc | apply pw_below_drewN | apply below_drew1 | refine below_set ?_ GE148.out) | exact HB.out)⟩⟩
       ·rw [if_neg c11] at H
        exact absurd H (by simp)
      ·rw [if_neg c10] at H
       exact absurd H (by simp)
     ·rw [if_neg c9] at H
      have c9b0 : decide (x5_1 < (wrap64 (a0_0 * a0_0))) = false := decide_eq_false c9
      clear c9
      have H' := Aside0.mk H
      clear H
      go_wp2
      go_loopg [6] k1 (fun kq v6 w' => ∃ (x4_2 : List Bool) (x6_2 : Bool), v6 = .bool x6_2 ∧ Aside0 (semblanceref41_Pairs.l1 kq a0_0 x4_2 x6_2 a0_0 l0_1 l0_2 = some r) ∧ Aside0 (kq ≤ k1) ∧ Aside0 (Kd.R Kd.bool 4 w' w.heap.size (fun _ => True) v150 x4_2) ∧ Aside0 (w'.heap[gb148]? = some (.cells #[.int .i64 a0_0, (.slice A0_1 l0_1.length c0_1), (.slice A0_2 l0_2.length c0_2)] 25 (0, 0))) ∧ Aside0 (Below w.heap.size w w'))
      case atStart => exact ⟨(x4_1), (true), (by first | rfl | (simp; done) | (simp [*]; done)), H', ⟨Nat.le_refl _⟩, ⟨by (with_reducible repeat (first | apply Kd.R_alloc | apply Kd.R_drewN | apply Kd.R_drew)); exact HO_4.out⟩, ⟨by (with_reducible repeat (first | refine blk_drewN ?_ _ | refine blk_drew ?_ | refine blk_alloc ?_ _)); exact BK148.out⟩, ⟨by repeat (first | (with_reducible first | exact HB.out | apply below_alloc | apply pw_below_drewN | apply below_drew1 | refine below_set ?_ GE148.out) | exact HB.out)⟩⟩
      case round =>
       try clear hji2w
       try clear hji2
       clear H'
       try clear c1
       try clear p1
       try clear q1
       try clear hx1
       try clear hf1
       try clear p2
       try clear c3
       try clear c3b0
       try clear c3b1
       try clear c4
       try clear c4b0
       try clear c4b1
       try clear c5
       try clear p6
       try clear c9
       try clear c9b0
       try clear c10
       try clear c10b0
       try clear c11
       try clear c11b0
       try clear p12
       try clear q12
       try clear hx12
       try clear hf12
       try clear hcz6_0
       try clear hcz6_1
       try clear hcz6_2
       try clear hfz6_0
       try clear hfz6_1
       try clear hfz6_2
       try clear hx12_0
       try clear p12
       try clear p2
       try clear p6
       try clear q12
       obtain ⟨x4_2, x6_2, rfl, HA, HK2, HO_4, BK148, HB⟩ := hrel
       cases gk with
       | zero => exact absurd HA.out (by simp [semblanceref41_Pairs.l1])
       | succ k2 =>
        have H := HA.out
        clear HA
        simp only [semblanceref41_Pairs.l1] at H
        by_cases c15 : x6_2 = true
        ·subst c15
         have H1 : (semblanceref41_Pairs.l2 k2 a0_0 x4_2 false 0 a0_0 l0_1 l0_2) = some r := by rw [if_pos rfl] at H; exact H
         clear H
         have H := H1
         clear H1
         have H' := Aside0.mk H
         clear H
         go_wp2
         go_loopg [6, 7] k2 (fun kq v6 v7 w' => ∃ (x4_3 : List Bool) (x6_3 : Bool) (x7_3 : Int), v6 = .bool x6_3 ∧ v7 = .int .i64 x7_3 ∧ Aside0 (semblanceref41_Pairs.l2 kq a0_0 x4_3 x6_3 x7_3 a0_0 l0_1 l0_2 = some r) ∧ Aside0 (kq ≤ k2) ∧ Aside0 (Kd.R Kd.bool 4 w' w.heap.size (fun _ => True) v150 x4_3) ∧ Aside0 (w'.heap[gb148]? = some (.cells #[.int .i64 a0_0, (.slice A0_1 l0_1.length c0_1), (.slice A0_2 l0_2.length c0_2)] 25 (0, 0))) ∧ Aside0 (Below w.heap.size w w'))
         case atStart => exact ⟨(x4_2), (false), (0), (by first | rfl | (simp; done) | (simp [*]; done)), (by first | rfl | (simp; done) | (simp [*]; done)), H', ⟨Nat.le_refl _⟩, ⟨by (with_reducible repeat (first | apply Kd.R_alloc | apply Kd.R_drewN | apply Kd.R_drew)); exact HO_4.out⟩, ⟨by (with_reducible repeat (first | refine blk_drewN ?_ _ | refine blk_drew ?_ | refine blk_alloc ?_ _)); exact BK148.out⟩, ⟨by repeat (first | (with_reducible first | exact HB.out | apply below_alloc | apply pw_below_drewN | apply below_drew1 | refine below_set ?_ GE148.out) | exact HB.out)⟩⟩
         case round =>
          try clear hji2w
          try clear hji2
          clear H'
          try clear c1
          try clear p1
          try clear q1
          try clear hx1
          try clear hf1
          try clear p2
          try clear c3
          try clear c3b0
          try clear c3b1
          try clear c4
          try clear c4b0
          try clear c4b1
          try clear c5
          try clear p6
          try clear c9
          try clear c9b0
          try clear c10
          try clear c10b0
          try clear c11
          try clear c11b0
          try clear p12
          try clear q12
          try clear hx12
          try clear hf12
          try clear c15
          try clear hcz6_0
          try clear hcz6_1
          try clear hcz6_2
          try clear hfz6_0
          try clear hfz6_1
          try clear hfz6_2
          try clear hx12_0
          try clear p1
          try clear p12
          try clear p2
          try clear p6
          try clear q1
          try clear q12
          obtain ⟨x4_3, x6_3, x7_3, rfl, rfl, HA, HK3, HO_4, BK148, HB⟩ := hrel
          cases gk with
          | zero => exact absurd HA.out (by simp [semblanceref41_Pairs.l2])
          | succ k3 =>
           have H := HA.out
           clear HA
           simp only [semblanceref41_Pairs.l2] at H
           by_cases c16 : x7_3 < (wrap64 (a0_0 * a0_0))
           ·rw [if_pos c16] at H
            have c16b0 : decide (x7_3 < (wrap64 (a0_0 * a0_0))) = true := decide_eq_true c16
            clear c16
            by_cases c17 : 0 ≤ x7_3
            ·rw [if_pos c17] at H
             have c17b0 : decide (0 ≤ x7_3) = true := decide_eq_true c17
             clear c17
             by_cases c18 : x7_3 < (x4_3.length : Int)
             ·rw [if_pos c18] at H
              have c18b0 : decide (x7_3 < (x4_3.length : Int)) = true := decide_eq_true c18
              clear c18
              obtain ⟨bq19, hbq19⟩ : ∃ b_ : Bool, b_ = (rdOf false x4_3 x7_3) := ⟨_, rfl⟩
              replace H : (if bq19 = true then (if a0_0 = 0 then (none) else ((semblanceref34_Follows.f k3 a0_0 l0_1 l0_2 x4_3 (wrap64 (Int.tdiv x7_3 a0_0)) (Int.tmod x7_3 a0_0)).bind fun t154 => (if t154 = true then (semblanceref41_Pairs.l2 k3 a0_0 x4_3 x6_3 (wrap64 (x7_3 + 1)) a0_0 l0_1 l0_2) else (semblanceref41_Pairs.l2 k3 a0_0 (x4_3.set (x7_3 : Int).toNat false) true (wrap64 (x7_3 + 1)) a0_0 l0_1 l0_2)))) else (semblanceref41_Pairs.l2 k3 a0_0 x4_3 x6_3 (wrap64 (x7_3 + 1)) a0_0 l0_1 l0_2)) = some r := by rw [← hbq19] at H; exact H
              have Nbq19 := Aside0.mk hbq19
              clear hbq19
              by_cases c20 : bq19 = true
              ·subst c20
               have H1 : (if a0_0 = 0 then (none) else ((semblanceref34_Follows.f k3 a0_0 l0_1 l0_2 x4_3 (wrap64 (Int.tdiv x7_3 a0_0)) (Int.tmod x7_3 a0_0)).bind fun t154 => (if t154 = true then (semblanceref41_Pairs.l2 k3 a0_0 x4_3 x6_3 (wrap64 (x7_3 + 1)) a0_0 l0_1 l0_2) else (semblanceref41_Pairs.l2 k3 a0_0 (x4_3.set (x7_3 : Int).toNat false) true (wrap64 (x7_3 + 1)) a0_0 l0_1 l0_2)))) = some r := by rw [if_pos rfl] at H; exact H
               clear H
               have H := H1
               clear H1
               by_cases c21 : a0_0 = 0
               ·rw [if_pos c21] at H
                exact absurd H (by simp)
               ·rw [if_neg c21] at H
                have c21b0 : (a0_0 == 0) = false := beq_eq_false_iff_ne.mpr c21
                have c21b1 : (a0_0 != 0) = true := bne_iff_ne.mpr c21
                replace H := Option.bind_eq_some_iff.mp H
                obtain ⟨t154, A220, H⟩ := H
                replace H : (if t154 = true then (semblanceref41_Pairs.l2 k3 a0_0 x4_3 x6_3 (wrap64 (x7_3 + 1)) a0_0 l0_1 l0_2) else (semblanceref41_Pairs.l2 k3 a0_0 (x4_3.set (x7_3 : Int).toNat false) true (wrap64 (x7_3 + 1)) a0_0 l0_1 l0_2)) = some r := H
                have A22 := Aside0.mk A220
                clear A220
                by_cases c23 : t154 = true
                ·subst c23
                 have H1 : (semblanceref41_Pairs.l2 k3 a0_0 x4_3 x6_3 (wrap64 (x7_3 + 1)) a0_0 l0_1 l0_2) = some r := by rw [if_pos rfl] at H; exact H
                 clear H
                 have H := H1
                 clear H1
                 have H' := Aside0.mk H
                 clear H
                 try go_wp2
                 have n0_ := Aside0.mk (Kd.R_drew HO_4.out)
                 have n1_ := Aside0.mk (blk_drew BK148.out)
                 have n2_ := Aside0.mk (below_drew1 HB.out)
                 clear HO_4
                 clear BK148
                 clear HB
                 have HO_4 := n0_
                 have BK148 := n1_
                 have HB := n2_
                 clear n0_ n1_ n2_
                 obtain ⟨Ao25, co25, eo25⟩ := Kd.R_slice HO_4.out
                 (first | subst eo25 | (injection eo25 with f1_ f2_ f3_; have f4_ := f1_.symm; have f5_ := f3_.symm; clear f1_ f2_ f3_; subst f4_; subst f5_))
                 have p153 : 0 ≤ (x7_3 : Int) := of_decide_eq_true (by first | (with_reducible assumption) | assumption)
                 have q153 : x7_3 < (x4_3.length : Int) := of_decide_eq_true (by first | (with_reducible assumption) | assumption)
                 obtain ⟨ad153, e153, hx153_0⟩ := Kd.at_bool (Kd.R_reads' HO_4.out).2.2 x7_3 p153 q153
                 (try rw [← Nbq19.out] at hx153_0)
                 cases e153
                 replace p153 := eq_true p153
                 replace q153 := eq_true q153
                 refine start_ (n := 16) (S := fun w' => w'.cell? ⟨gb148, 0, none⟩ = some (.int .i64 a0_0) ∧ w'.cell? ⟨gb148, 1, none⟩ = some (.slice A0_1 l0_1.length c0_1) ∧ w'.cell? ⟨gb148, 2, none⟩ = some (.slice A0_2 l0_2.length c0_2) ∧ w'.cell? (ad153.add (x7_3).toNat) = some (.bool true)) (ds := []) #[false, false, false, false, false, false, false, false, false, false, false, false, false, false, false, false] (by kernel_rfl) rfl rfl ⟨(blk_cell BK148.out 0).trans rfl, (blk_cell BK148.out 1).trans rfl, (blk_cell BK148.out 2).trans rfl, hx153_0⟩ (fun hHeld => ?_); refine with_tabW semblanceref41_Pairs.tab13 semblanceref41_Pairs.bits13 (fun HT_ HW_ => ?_)
                 generalize wr.drew = w24 at HO_4 BK148 HB hx153_0 hHeld ⊢
                 refine pure_ (i := 0) (N := some 32) (v := ?_) (a' := ?_) #[true, false, false, false, false, false, false, false, false, false, false, false, false, false, false, false] rfl rfl (any_of HT_.out (by kernel_rfl)) (fun _ _ _ h => h) (Or.inl ⟨by rfl, ?_⟩) ?_ ?_
                 rotate_left
                 ·intro w'
                  go_simp
                  with_reducible rfl
                 rotate_left
                 ·simp only [Act.put, List.setIfInBounds_toArray, List.set_cons_zero, List.set_cons_succ, i64_w, i32_w]
                  rfl
                 refine pure_ (i := 1) (N := some 33) (v := ?_) (a' := ?_) #[true, true, false, false, false, false, false, false, false, false, false, false, false, false, false, false] rfl rfl (any_of HT_.out (by kernel_rfl)) (fun _ _ _ h => h) (Or.inl ⟨by rfl, ?_⟩) ?_ ?_
                 rotate_left
                 ·intro w'
                  go_simp
                  with_reducible rfl
                 rotate_left
                 ·simp only [Act.put, List.setIfInBounds_toArray, List.set_cons_zero, List.set_cons_succ, i64_w, i32_w]
                  rfl
                 refine pure_ (i := 2) (N := some 34) (v := ?_) (a' := ?_) #[true, true, true, false, false, false, false, false, false, false, false, false, false, false, false, false] rfl rfl (any_of HT_.out (by kernel_rfl)) (fun _ _ _ h => h) (Or.inl ⟨by rfl, ?_⟩) ?_ ?_
                 rotate_left
                 ·intro w'
                  go_simp
                  with_reducible rfl
                 rotate_left
                 ·simp only [Act.put, List.setIfInBounds_toArray, List.set_cons_zero, List.set_cons_succ, i64_w, i32_w]
                  rfl
                 refine take_ (i := 3) (N := some 35) (v := ?_) (a' := ?_) #[true, true, true, true, false, false, false, false, false, false, false, false, false, false, false, false] rfl rfl (take_ofW HT_.out HW_.out (by kernel_rfl)) (fun _ _ _ h => h) (Or.inl ⟨by rfl, ?_⟩) hHeld ?_ ?_
                 rotate_left
                 ·rintro w' ⟨s0, s1, s2, s3⟩
                  go_simp
                  with_reducible rfl
                 rotate_left
                 ·simp only [Act.put, List.setIfInBounds_toArray, List.set_cons_zero, List.set_cons_succ, i64_w, i32_w]
                  rfl
                 refine pure_ (i := 4) (N := some 36) (v := ?_) (a' := ?_) #[true, true, true, true, true, false, false, false, false, false, false, false, false, false, false, false] rfl rfl (any_of HT_.out (by kernel_rfl)) (fun _ _ _ h => h) (Or.inl ⟨by rfl, ?_⟩) ?_ ?_
                 rotate_left
                 ·intro w'
                  go_simp
                  with_reducible rfl
                 rotate_left
                 ·simp only [Act.put, List.setIfInBounds_toArray, List.set_cons_zero, List.set_cons_succ, i64_w, i32_w]
                  rfl
                 refine pure_ (i := 6) (N := some 38) (v := ?_) (a' := ?_) #[true, true, true, true, true, false, true, false, false, false, false, false, false, false, false, false] rfl rfl (any_of HT_.out (by kernel_rfl)) (fun _ _ _ h => h) (Or.inl ⟨by rfl, ?_⟩) ?_ ?_
                 rotate_left
                 ·intro w'
                  go_simp
                  with_reducible rfl
                 rotate_left
                 ·simp only [Act.put, List.setIfInBounds_toArray, List.set_cons_zero, List.set_cons_succ, i64_w, i32_w]
                  rfl
                 refine pure_ (i := 7) (N := some 39) (v := ?_) (a' := ?_) #[true, true, true, true, true, false, true, true, false, false, false, false, false, false, false, false] rfl rfl (any_of HT_.out (by kernel_rfl)) (fun _ _ _ h => h) (Or.inl ⟨by rfl, ?_⟩) ?_ ?_
                 rotate_left
                 ·intro w'
                  go_simp
                  with_reducible rfl
                 rotate_left
                 ·simp only [Act.put, List.setIfInBounds_toArray, List.set_cons_zero, List.set_cons_succ, i64_w, i32_w]
                  rfl
                 refine pure_ (i := 8) (N := some 40) (v := ?_) (a' := ?_) #[true, true, true, true, true, false, true, true, true, false, false, false, false, false, false, false] rfl rfl (any_of HT_.out (by kernel_rfl)) (fun _ _ _ h => h) (Or.inl ⟨by rfl, ?_⟩) ?_ ?_
                 rotate_left
                 ·intro w'
                  go_simp
                  with_reducible rfl
                 rotate_left
                 ·simp only [Act.put, List.setIfInBounds_toArray, List.set_cons_zero, List.set_cons_succ, i64_w, i32_w]
                  rfl
                 refine pure_ (i := 9) (N := some 41) (v := ?_) (a' := ?_) #[true, true, true, true, true, false, true, true, true, true, false, false, false, false, false, false] rfl rfl (any_of HT_.out (by kernel_rfl)) (fun _ _ _ h => h) (Or.inl ⟨by rfl, ?_⟩) ?_ ?_
                 rotate_left
                 ·intro w'
                  go_simp
                  with_reducible rfl
                 rotate_left
                 ·simp only [Act.put, List.setIfInBounds_toArray, List.set_cons_zero, List.set_cons_succ, i64_w, i32_w]
                  rfl
                 refine pure_ (i := 10) (N := some 42) (v := ?_) (a' := ?_) #[true, true, true, true, true, false, true, true, true, true, true, false, false, false, false, false] rfl rfl (any_of HT_.out (by kernel_rfl)) (fun _ _ _ h => h) (Or.inl ⟨by rfl, ?_⟩) ?_ ?_
                 rotate_left
                 ·intro w'
                  go_simp
                  with_reducible rfl
                 rotate_left
                 ·simp only [Act.put, List.setIfInBounds_toArray, List.set_cons_zero, List.set_cons_succ, i64_w, i32_w]
                  rfl
                 refine pure_ (i := 11) (N := some 43) (v := ?_) (a' := ?_) #[true, true, true, true, true, false, true, true, true, true, true, true, false, false, false, false] rfl rfl (any_of HT_.out (by kernel_rfl)) (fun _ _ _ h => h) (Or.inl ⟨by rfl, ?_⟩) ?_ ?_
                 rotate_left
                 ·intro w'
                  go_simp
                  with_reducible rfl
                 rotate_left
                 ·simp only [Act.put, List.setIfInBounds_toArray, List.set_cons_zero, List.set_cons_succ, i64_w, i32_w]
                  rfl
                 refine pure_ (i := 12) (N := some 44) (v := ?_) (a' := ?_) #[true, true, true, true, true, false, true, true, true, true, true, true, true, false, false, false] rfl rfl (any_of HT_.out (by kernel_rfl)) (fun _ _ _ h => h) (Or.inl ⟨by rfl, ?_⟩) ?_ ?_
                 rotate_left
                 ·intro w'
                  go_simp
                  with_reducible rfl
                 rotate_left
                 ·simp only [Act.put, List.setIfInBounds_toArray, List.set_cons_zero, List.set_cons_succ, i64_w, i32_w]
                  rfl
                 refine take_ (i := 5) (N := some 37) (v := ?_) (a' := ?_) #[true, true, true, true, true, true, true, true, true, true, true, true, true, false, false, false] rfl rfl (take_ofW HT_.out HW_.out (by kernel_rfl)) (fun _ _ _ h => h) (Or.inl ⟨by rfl, ?_⟩) hHeld ?_ ?_
                 rotate_left
                 ·rintro w' ⟨s0, s1, s2, s3⟩
                  go_simp
                  with_reducible rfl
                 rotate_left
                 ·simp only [Act.put, List.setIfInBounds_toArray, List.set_cons_zero, List.set_cons_succ, i64_w, i32_w]
                  rfl
                 refine one_ (i := 13) (N := some 45) #[true, true, true, true, true, true, true, true, true, true, true, true, true, true, false, false] rfl rfl (one_of HT_.out (by kernel_rfl)) (by decide) (fun K hK => ?_)
                 refine goes_ Try.func90 (by kernel_rfl) rfl #[.agg #[.int .i64 a0_0, .slice A0_1 l0_1.length c0_1, .slice A0_2 l0_2.length c0_2], .slice (some ad153) x4_3.length co25, .int .i64 (wrap64 (Int.tdiv x7_3 a0_0)), .int .i64 (Int.tmod x7_3 a0_0)] (by rfl) rfl rfl (by (try simp only [List.map_toArray, List.map_cons, List.map_nil]); first | done | rfl | (simp only [List.length_drop, List.length_take]; rfl)) ?_
                 with_reducible refine (semblanceref34_Follows.calls k3 a0_0 _ _ l0_1 _ _ l0_2 _ _ x4_3 (wrap64 (Int.tdiv x7_3 a0_0)) (Int.tmod x7_3 a0_0) true _ ?side1 ?side2 ?side3 ?side4 ?side5 ?side6 A22.out).mono ?_
                 (case side1 => repeat (first | exact (Kd.C_below HR0_1.out HB.out) | (with_reducible refine Kd.C_alloc ?_ _) | (with_reducible refine Kd.C_drewN ?_ _) | (with_reducible refine Kd.C_drew ?_)))
                 (case side2 => exact HC0_1.out)
                 (case side3 => repeat (first | exact (Kd.C_below HR0_2.out HB.out) | (with_reducible refine Kd.C_alloc ?_ _) | (with_reducible refine Kd.C_drewN ?_ _) | (with_reducible refine Kd.C_drew ?_)))
                 (case side4 => exact HC0_2.out)
                 (case side5 => repeat (first | exact (Kd.R_reads' HO_4.out).2.2 | (with_reducible refine Kd.C_alloc ?_ _) | (with_reducible refine Kd.C_drewN ?_ _) | (with_reducible refine Kd.C_drew ?_)))
                 (case side6 => exact (Kd.R_reads' HO_4.out).2.1)
                 rintro e w26 ⟨rfl, hb⟩
                 have HS3_ := (hb.cell (World.block_lt_of_cell? _ _ (hHeld.2.2.2))).trans (hHeld.2.2.2)
                 refine ⟨_, rfl, ?_⟩
                 have n0_ := Aside0.mk (Kd.R_below (by (with_reducible repeat (first | apply Kd.R_alloc | apply Kd.R_drewN | apply Kd.R_drew)); exact HO_4.out) hb)
                 have n1_ := Aside0.mk (blk_below (g := gb148) (o := .cells #[.int .i64 a0_0, .slice A0_1 l0_1.length c0_1, .slice A0_2 l0_2.length c0_2] 25 (0, 0)) (by (with_reducible repeat (first | refine blk_drewN ?_ _ | refine blk_drew ?_ | refine blk_alloc ?_ _)); exact BK148.out) hb)
                 have n2_ := Aside0.mk (below_step (by repeat (first | (with_reducible first | exact HB.out | apply below_alloc | apply pw_below_drewN | apply below_drew1 | refine below_set ?_ GE148.out) | exact HB.out)) hb)
                 clear HO_4
                 clear BK148
                 clear HB
                 have HO_4 := n0_
                 have BK148 := n1_
                 have HB := n2_
                 clear n0_ n1_ n2_
                 (try clear hb)
                 (try clear hb2)
                 (try clear hk)
                 (try clear hi)
                 refine hK.out _ _ ⟨(blk_cell BK148.out 0).trans rfl, (blk_cell BK148.out 1).trans rfl, (blk_cell BK148.out 2).trans rfl, HS3_⟩ (fun hHeld => ?_)
                 clear hK K
                 refine norm_ (a' := ?_) ?_ ?_
                 rotate_left
                 ·show Act.put _ (some 45) _ = _
                  simp only [Act.put, List.setIfInBounds_toArray, List.set_cons_zero, List.set_cons_succ, i64_w, i32_w]
                  rfl
                 refine pure_ (i := 14) (N := some 46) (v := ?_) (a' := ?_) #[true, true, true, true, true, true, true, true, true, true, true, true, true, true, true, false] rfl rfl (any_of HT_.out (by kernel_rfl)) (fun _ _ _ h => h) (Or.inl ⟨by rfl, ?_⟩) ?_ ?_
                 rotate_left
                 ·intro w'
                  go_simp
                  with_reducible rfl
                 rotate_left
                 ·simp only [Act.put, List.setIfInBounds_toArray, List.set_cons_zero, List.set_cons_succ, i64_w, i32_w]
                  rfl
                 refine pure_ (i := 15) (N := some 47) (v := ?_) (a' := ?_) #[true, true, true, true, true, true, true, true, true, true, true, true, true, true, true, true] rfl rfl (any_of HT_.out (by kernel_rfl)) (fun _ _ _ h => h) (Or.inl ⟨by rfl, ?_⟩) ?_ ?_
                 rotate_left
                 ·intro w'
                  go_simp
                  with_reducible rfl
                 rotate_left
                 ·simp only [Act.put, List.setIfInBounds_toArray, List.set_cons_zero, List.set_cons_succ, i64_w, i32_w]
                  rfl
                 refine done_ (done_of HT_.out (by kernel_rfl)) ?_
                 try go_wp2
                 go_roundg k3
                 case measure => have := HK1.out; have := HK2.out; have := HK3.out; omega
                 case rel => exact ⟨(x4_3), (x6_3), (wrap64 (x7_3 + 1)), (by first | rfl | (simp; done) | (simp [*]; done)), (by first | rfl | (simp; done) | (simp [*]; done)), H', ⟨by have := HK1.out; have := HK2.out; have := HK3.out; omega⟩, ⟨by (with_reducible repeat (first | apply Kd.R_alloc | apply Kd.R_drewN | apply Kd.R_drew)); exact HO_4.out⟩, ⟨by (with_reducible repeat (first | refine blk_drewN ?_ _ | refine blk_drew ?_ | refine blk_alloc ?_ _)); exact BK148.out⟩, ⟨by repeat (first | (with_reducible first | exact HB.out | apply below_alloc | apply pw_below_drewN | apply below_drew1 | refine below_set ?_ GE148.out) | exact HB.out)⟩⟩
                ·replace c23 := Bool.eq_false_iff.mpr c23
                 subst c23
                 have H1 : (semblanceref41_Pairs.l2 k3 a0_0 (x4_3.set (x7_3 : Int).toNat false) true (wrap64 (x7_3 + 1)) a0_0 l0_1 l0_2) = some r := by rw [if_neg (show ¬ (false = true) by decide)] at H; exact H
                 clear H
                 have H := H1
                 clear H1
                 obtain ⟨y155, hy155⟩ : ∃ y_ : List Bool, y_ = (x4_3.set (x7_3 : Int).toNat false) := ⟨_, rfl⟩
                 replace H : (semblanceref41_Pairs.l2 k3 a0_0 y155 true (wrap64 (x7_3 + 1)) a0_0 l0_1 l0_2) = some r := by first | (rw [hy155]; with_reducible exact H) | (have H2_ := (Option.bind_some _ _).symm.trans H; rw [hy155]; with_reducible exact H2_) | (have H2_ := (Option.bind_some _ _).symm.trans H; with_reducible exact H2_) | with_reducible exact H | (rw [hy155]; exact H) | exact H
                 have Ny155 := Aside0.mk hy155
                 clear hy155
                 have H' := Aside0.mk H
                 clear H
                 try go_wp2
                 have n0_ := Aside0.mk (Kd.R_drew HO_4.out)
                 have n1_ := Aside0.mk (blk_drew BK148.out)
                 have n2_ := Aside0.mk (below_drew1 HB.out)
                 clear HO_4
                 clear BK148
                 clear HB
                 have HO_4 := n0_
                 have BK148 := n1_
                 have HB := n2_
                 clear n0_ n1_ n2_
                 obtain ⟨Ao29, co29, eo29⟩ := Kd.R_slice HO_4.out
                 (first | subst eo29 | (injection eo29 with f1_ f2_ f3_; have f4_ := f1_.symm; have f5_ := f3_.symm; clear f1_ f2_ f3_; subst f4_; subst f5_))
                 have p153 : 0 ≤ (x7_3 : Int) := of_decide_eq_true (by first | (with_reducible assumption) | assumption)
                 have q153 : x7_3 < (x4_3.length : Int) := of_decide_eq_true (by first | (with_reducible assumption) | assumption)
                 obtain ⟨ad153, e153, hx153_0⟩ := Kd.at_bool (Kd.R_reads' HO_4.out).2.2 x7_3 p153 q153
                 (try rw [← Nbq19.out] at hx153_0)
                 cases e153
                 replace p153 := eq_true p153
                 replace q153 := eq_true q153
                 refine start_ (n := 16) (S := fun w' => w'.cell? ⟨gb148, 0, none⟩ = some (.int .i64 a0_0) ∧ w'.cell? ⟨gb148, 1, none⟩ = some (.slice A0_1 l0_1.length c0_1) ∧ w'.cell? ⟨gb148, 2, none⟩ = some (.slice A0_2 l0_2.length c0_2) ∧ w'.cell? (ad153.add (x7_3).toNat) = some (.bool true)) (ds := []) #[false, false, false, false, false, false, false, false, false, false, false, false, false, false, false, false] (by kernel_rfl) rfl rfl ⟨(blk_cell BK148.out 0).trans rfl, (blk_cell BK148.out 1).trans rfl, (blk_cell BK148.out 2).trans rfl, hx153_0⟩ (fun hHeld => ?_); refine with_tabW semblanceref41_Pairs.tab13 semblanceref41_Pairs.bits13 (fun HT_ HW_ => ?_)
                 generalize wr.drew = w28 at HO_4 BK148 HB hx153_0 hHeld ⊢
                 refine pure_ (i := 0) (N := some 32) (v := ?_) (a' := ?_) #[true, false, false, false, false, false, false, false, false, false, false, false, false, false, false, false] rfl rfl (any_of HT_.out (by kernel_rfl)) (fun _ _ _ h => h) (Or.inl ⟨by rfl, ?_⟩) ?_ ?_
                 rotate_left
                 ·intro w'
                  go_simp
                  with_reducible rfl
                 rotate_left
                 ·simp only [Act.put, List.setIfInBounds_toArray, List.set_cons_zero, List.set_cons_succ, i64_w, i32_w]
                  rfl
                 refine pure_ (i := 1) (N := some 33) (v := ?_) (a' := ?_) #[true, true, false, false, false, false, false, false, false, false, false, false, false, false, false, false] rfl rfl (any_of HT_.out (by kernel_rfl)) (fun _ _ _ h => h) (Or.inl ⟨by rfl, ?_⟩) ?_ ?_
                 rotate_left
                 ·intro w'
                  go_simp
                  with_reducible rfl
                 rotate_left
                 ·simp only [Act.put, List.setIfInBounds_toArray, List.set_cons_zero, List.set_cons_succ, i64_w, i32_w]
                  rfl
                 refine pure_ (i := 2) (N := some 34) (v := ?_) (a' := ?_) #[true, true, true, false, false, false, false, false, false, false, false, false, false, false, false, false] rfl rfl (any_of HT_.out (by kernel_rfl)) (fun _ _ _ h => h) (Or.inl ⟨by rfl, ?_⟩) ?_ ?_
                 rotate_left
                 ·intro w'
                  go_simp
                  with_reducible rfl
                 rotate_left
                 ·simp only [Act.put, List.setIfInBounds_toArray, List.set_cons_zero, List.set_cons_succ, i64_w, i32_w]
                  rfl
                 refine take_ (i := 3) (N := some 35) (v := ?_) (a' := ?_) #[true, true, true, true, false, false, false, false, false, false, false, false, false, false, false, false] rfl rfl (take_ofW HT_.out HW_.out (by kernel_rfl)) (fun _ _ _ h => h) (Or.inl ⟨by rfl, ?_⟩) hHeld ?_ ?_
                 rotate_left
                 ·rintro w' ⟨s0, s1, s2, s3⟩
                  go_simp
                  with_reducible rfl
                 rotate_left
                 ·simp only [Act.put, List.setIfInBounds_toArray, List.set_cons_zero, List.set_cons_succ, i64_w, i32_w]
                  rfl
                 refine pure_ (i := 4) (N := some 36) (v := ?_) (a' := ?_) #[true, true, true, true, true, false, false, false, false, false, false, false, false, false, false, false] rfl rfl (any_of HT_.out (by kernel_rfl)) (fun _ _ _ h => h) (Or.inl ⟨by rfl, ?_⟩) ?_ ?_
                 rotate_left
                 ·intro w'
                  go_simp
                  with_reducible rfl
                 rotate_left
                 ·simp only [Act.put, List.setIfInBounds_toArray, List.set_cons_zero, List.set_cons_succ, i64_w, i32_w]
                  rfl
                 refine pure_ (i := 6) (N := some 38) (v := ?_) (a' := ?_) #[true, true, true, true, true, false, true, false, false, false, false, false, false, false, false, false] rfl rfl (any_of HT_.out (by kernel_rfl)) (fun _ _ _ h => h) (Or.inl ⟨by rfl, ?_⟩) ?_ ?_
                 rotate_left
                 ·intro w'
                  go_simp
                  with_reducible rfl
                 rotate_left
                 ·simp only [Act.put, List.setIfInBounds_toArray, List.set_cons_zero, List.set_cons_succ, i64_w, i32_w]
                  rfl
                 refine pure_ (i := 7) (N := some 39) (v := ?_) (a' := ?_) #[true, true, true, true, true, false, true, true, false, false, false, false, false, false, false, false] rfl rfl (any_of HT_.out (by kernel_rfl)) (fun _ _ _ h => h) (Or.inl ⟨by rfl, ?_⟩) ?_ ?_
                 rotate_left
                 ·intro w'
                  go_simp
                  with_reducible rfl
                 rotate_left
                 ·simp only [Act.put, List.setIfInBounds_toArray, List.set_cons_zero, List.set_cons_succ, i64_w, i32_w]
                  rfl
                 refine pure_ (i := 8) (N := some 40) (v := ?_) (a' := ?_) #[true, true, true, true, true, false, true, true, true, false, false, false, false, false, false, false] rfl rfl (any_of HT_.out (by kernel_rfl)) (fun _ _ _ h => h) (Or.inl ⟨by rfl, ?_⟩) ?_ ?_
                 rotate_left
                 ·intro w'
                  go_simp
                  with_reducible rfl
                 rotate_left
                 ·simp only [Act.put, List.setIfInBounds_toArray, List.set_cons_zero, List.set_cons_succ, i64_w, i32_w]
                  rfl
                 refine pure_ (i := 9) (N := some 41) (v := ?_) (a' := ?_) #[true, true, true, true, true, false, true, true, true, true, false, false, false, false, false, false] rfl rfl (any_of HT_.out (by kernel_rfl)) (fun _ _ _ h => h) (Or.inl ⟨by rfl, ?_⟩) ?_ ?_
                 rotate_left
                 ·intro w'
                  go_simp
                  with_reducible rfl
                 rotate_left
                 ·simp only [Act.put, List.setIfInBounds_toArray, List.set_cons_zero, List.set_cons_succ, i64_w, i32_w]
                  rfl
                 refine pure_ (i := 10) (N := some 42) (v := ?_) (a' := ?_) #[true, true, true, true, true, false, true, true, true, true, true, false, false, false, false, false] rfl rfl (any_of HT_.out (by kernel_rfl)) (fun _ _ _ h => h) (Or.inl ⟨by rfl, ?_⟩) ?_ ?_
                 rotate_left
                 ·intro w'
                  go_simp
                  with_reducible rfl
                 rotate_left
                 ·simp only [Act.put, List.setIfInBounds_toArray, List.set_cons_zero, List.set_cons_succ, i64_w, i32_w]
                  rfl
                 refine pure_ (i := 11) (N := some 43) (v := ?_) (a' := ?_) #[true, true, true, true, true, false, true, true, true, true, true, true, false, false, false, false] rfl rfl (any_of HT_.out (by kernel_rfl)) (fun _ _ _ h => h) (Or.inl ⟨by rfl, ?_⟩) ?_ ?_
                 rotate_left
                 ·intro w'
                  go_simp
                  with_reducible rfl
                 rotate_left
                 ·simp only [Act.put, List.setIfInBounds_toArray, List.set_cons_zero, List.set_cons_succ, i64_w, i32_w]
                  rfl
                 refine pure_ (i := 12) (N := some 44) (v := ?_) (a' := ?_) #[true, true, true, true, true, false, true, true, true, true, true, true, true, false, false, false] rfl rfl (any_of HT_.out (by kernel_rfl)) (fun _ _ _ h => h) (Or.inl ⟨by rfl, ?_⟩) ?_ ?_
                 rotate_left
                 ·intro w'
                  go_simp
                  with_reducible rfl
                 rotate_left
                 ·simp only [Act.put, List.setIfInBounds_toArray, List.set_cons_zero, List.set_cons_succ, i64_w, i32_w]
                  rfl
                 refine take_ (i := 5) (N := some 37) (v := ?_) (a' := ?_) #[true, true, true, true, true, true, true, true, true, true, true, true, true, false, false, false] rfl rfl (take_ofW HT_.out HW_.out (by kernel_rfl)) (fun _ _ _ h => h) (Or.inl ⟨by rfl, ?_⟩) hHeld ?_ ?_
                 rotate_left
                 ·rintro w' ⟨s0, s1, s2, s3⟩
                  go_simp
                  with_reducible rfl
                 rotate_left
                 ·simp only [Act.put, List.setIfInBounds_toArray, List.set_cons_zero, List.set_cons_succ, i64_w, i32_w]
                  rfl
                 refine one_ (i := 13) (N := some 45) #[true, true, true, true, true, true, true, true, true, true, true, true, true, true, false, false] rfl rfl (one_of HT_.out (by kernel_rfl)) (by decide) (fun K hK => ?_)
                 refine goes_ Try.func90 (by kernel_rfl) rfl #[.agg #[.int .i64 a0_0, .slice A0_1 l0_1.length c0_1, .slice A0_2 l0_2.length c0_2], .slice (some ad153) x4_3.length co29, .int .i64 (wrap64 (Int.tdiv x7_3 a0_0)), .int .i64 (Int.tmod x7_3 a0_0)] (by rfl) rfl rfl (by (try simp only [List.map_toArray, List.map_cons, List.map_nil]); first | done | rfl | (simp only [List.length_drop, List.length_take]; rfl)) ?_
                 with_reducible refine (semblanceref34_Follows.calls k3 a0_0 _ _ l0_1 _ _ l0_2 _ _ x4_3 (wrap64 (Int.tdiv x7_3 a0_0)) (Int.tmod x7_3 a0_0) false _ ?side1 ?side2 ?side3 ?side4 ?side5 ?side6 A22.out).mono ?_
                 (case side1 => repeat (first | exact (Kd.C_below HR0_1.out HB.out) | (with_reducible refine Kd.C_alloc ?_ _) | (with_reducible refine Kd.C_drewN ?_ _) | (with_reducible refine Kd.C_drew ?_)))
                 (case side2 => exact HC0_1.out)
                 (case side3 => repeat (first | exact (Kd.C_below HR0_2.out HB.out) | (with_reducible refine Kd.C_alloc ?_ _) | (with_reducible refine Kd.C_drewN ?_ _) | (with_reducible refine Kd.C_drew ?_)))
                 (case side4 => exact HC0_2.out)
                 (case side5 => repeat (first | exact (Kd.R_reads' HO_4.out).2.2 | (with_reducible refine Kd.C_alloc ?_ _) | (with_reducible refine Kd.C_drewN ?_ _) | (with_reducible refine Kd.C_drew ?_)))
                 (case side6 => exact (Kd.R_reads' HO_4.out).2.1)
                 rintro e w30 ⟨rfl, hb⟩
                 have HS3_ := (hb.cell (World.block_lt_of_cell? _ _ (hHeld.2.2.2))).trans (hHeld.2.2.2)
                 refine ⟨_, rfl, ?_⟩
                 have n0_ := Aside0.mk (Kd.R_below (by (with_reducible repeat (first | apply Kd.R_alloc | apply Kd.R_drewN | apply Kd.R_drew)); exact HO_4.out) hb)
                 have n1_ := Aside0.mk (blk_below (g := gb148) (o := .cells #[.int .i64 a0_0, .slice A0_1 l0_1.length c0_1, .slice A0_2 l0_2.length c0_2] 25 (0, 0)) (by (with_reducible repeat (first | refine blk_drewN ?_ _ | refine blk_drew ?_ | refine blk_alloc ?_ _)); exact BK148.out) hb)
                 have n2_ := Aside0.mk (below_step (by repeat (first | (with_reducible first | exact HB.out | apply below_alloc | apply pw_below_drewN | apply below_drew1 | refine below_set ?_ GE148.out) | exact HB.out)) hb)
                 clear HO_4
                 clear BK148
                 clear HB
                 have HO_4 := n0_
                 have BK148 := n1_
                 have HB := n2_
                 clear n0_ n1_ n2_
                 (try clear hb)
                 (try clear hb2)
                 (try clear hk)
                 (try clear hi)
                 refine hK.out _ _ ⟨(blk_cell BK148.out 0).trans rfl, (blk_cell BK148.out 1).trans rfl, (blk_cell BK148.out 2).trans rfl, HS3_⟩ (fun hHeld => ?_)
                 clear hK K
                 refine norm_ (a' := ?_) ?_ ?_
                 rotate_left
                 ·show Act.put _ (some 45) _ = _
                  simp only [Act.put, List.setIfInBounds_toArray, List.set_cons_zero, List.set_cons_succ, i64_w, i32_w]
                  rfl
                 refine pure_ (i := 14) (N := some 46) (v := ?_) (a' := ?_) #[true, true, true, true, true, true, true, true, true, true, true, true, true, true, true, false] rfl rfl (any_of HT_.out (by kernel_rfl)) (fun _ _ _ h => h) (Or.inl ⟨by rfl, ?_⟩) ?_ ?_
                 rotate_left
                 ·intro w'
                  go_simp
                  with_reducible rfl
                 rotate_left
                 ·simp only [Act.put, List.setIfInBounds_toArray, List.set_cons_zero, List.set_cons_succ, i64_w, i32_w]
                  rfl
                 refine pure_ (i := 15) (N := some 47) (v := ?_) (a' := ?_) #[true, true, true, true, true, true, true, true, true, true, true, true, true, true, true, true] rfl rfl (any_of HT_.out (by kernel_rfl)) (fun _ _ _ h => h) (Or.inl ⟨by rfl, ?_⟩) ?_ ?_
                 rotate_left
                 ·intro w'
                  go_simp
                  with_reducible rfl
                 rotate_left
                 ·simp only [Act.put, List.setIfInBounds_toArray, List.set_cons_zero, List.set_cons_succ, i64_w, i32_w]
                  rfl
                 refine done_ (done_of HT_.out (by kernel_rfl)) ?_
                 have p27 : 0 ≤ (x7_3 : Int) := of_decide_eq_true (by first | (with_reducible assumption) | assumption)
                 have q27 : (x7_3 : Int) < ((x4_3.length : Int) : Int) := of_decide_eq_true (by first | (with_reducible assumption) | assumption)
                 obtain ⟨go27, co27, eo27, gb27, gl27, cl27, HG27⟩ := Kd.R_form HO_4.out (by omega)
                 (first | cases eo27 | (injection eo27 with ea_ en_ ec_; (first | subst ea_ | (injection ea_ with ea_; subst ea_)); subst ec_; clear en_))
                 have GB27 := Aside0.mk gb27
                 have GG27 := Aside0.mk HG27
                 clear gb27 gl27 HG27
                 (first | simp only [add_plain] at hx153_0 | skip)
                 obtain ⟨hx27_0, hf27_0⟩ := Kd.R_celln false HO_4.out (x7_3 : Int) p27 q27
                 replace p27 := eq_true p27
                 replace q27 := eq_true q27
                 obtain ⟨hy31_, hz31_⟩ := Kd.R_celln false HO_4.out (x7_3 : Int) (of_decide_eq_true (by first | (with_reducible assumption) | assumption)) (of_decide_eq_true (by first | (with_reducible assumption) | assumption))
                 have HP31 := Kd.R_putg HO_4.out (x7_3 : Int) false
                 try go_wp2_with (first | ((with_reducible refine gate_store (t := 4) (p := 50) rfl ?_); refine store_event (t := 4) (p := 50) (v := ?vo_w32) (w1 := (w30.setCell ⟨go27, (x7_3 : Int).toNat, none⟩ (.bool false))) ?hg ?ho ?hn ?hr ?_; (case ho => rfl); (case hg => rfl); (case hn => rfl); (case hr => first | (go_simp; done) | (go_simp; rfl)); intro w32 hw; have hg : w30.grownBy w32 (some go27) := (by rw [hw]; exact HP31.2); have hp_ : Kd.R Kd.bool 4 w32 w.heap.size (fun _ => True) (.slice (some ⟨go27, 0, none⟩) x4_3.length co29) y155 := (by rw [hw, Ny155.out]; exact HP31.1); clear HP31; have n0_ := Aside0.mk (hp_); have n1_ := Aside0.mk (blk_grown (g := gb148) (o := .cells #[.int .i64 a0_0, .slice A0_1 l0_1.length c0_1, .slice A0_2 l0_2.length c0_2] 25 (0, 0)) (by (with_reducible repeat (first | refine blk_drewN ?_ _ | refine blk_drew ?_ | refine blk_alloc ?_ _)); exact BK148.out) hg (Kd.R_ne HO_4.out BK148.out (by decide))); have n2_ := Aside0.mk ((by rw [hw]; exact below_set (HB.out) GB27.out : Below w.heap.size w w32)); clear HO_4; clear BK148; clear HB; have HO_4 := n0_; have BK148 := n1_; have HB := n2_; clear n0_ n1_ n2_; clear hg hw hp_))
                 go_roundg k3
                 case measure => have := HK1.out; have := HK2.out; have := HK3.out; omega
                 case rel => exact ⟨(y155), (true), (wrap64 (x7_3 + 1)), (by first | rfl | (simp; done) | (simp [*]; done)), (by first | rfl | (simp; done) | (simp [*]; done)), H', ⟨by have := HK1.out; have := HK2.out; have := HK3.out; omega⟩, ⟨by (with_reducible repeat (first | apply Kd.R_alloc | apply Kd.R_drewN | apply Kd.R_drew)); exact HO_4.out⟩, ⟨by (with_reducible repeat (first | refine blk_drewN ?_ _ | refine blk_drew ?_ | refine blk_alloc ?_ _)); exact BK148.out⟩, ⟨by repeat (first | (with_reducible first | exact HB.out | apply below_alloc | apply pw_below_drewN | apply below_drew1 | refine below_set ?_ GE148.out) | exact HB.out)⟩⟩
              ·replace c20 := Bool.eq_false_iff.mpr c20
               subst c20
               have H1 : (semblanceref41_Pairs.l2 k3 a0_0 x4_3 x6_3 (wrap64 (x7_3 + 1)) a0_0 l0_1 l0_2) = some r := by rw [if_neg (show ¬ (false = true) by decide)] at H; exact H
               clear H
               have H := H1
               clear H1
               have H' := Aside0.mk H
               clear H
               try go_wp2
               have n0_ := Aside0.mk (Kd.R_drew HO_4.out)
               have n1_ := Aside0.mk (blk_drew BK148.out)
               have n2_ := Aside0.mk (below_drew1 HB.out)
               clear HO_4
               clear BK148
               clear HB
               have HO_4 := n0_
               have BK148 := n1_
               have HB := n2_
               clear n0_ n1_ n2_
               obtain ⟨Ao34, co34, eo34⟩ := Kd.R_slice HO_4.out
               (first | subst eo34 | (injection eo34 with f1_ f2_ f3_; have f4_ := f1_.symm; have f5_ := f3_.symm; clear f1_ f2_ f3_; subst f4_; subst f5_))
               have p153 : 0 ≤ (x7_3 : Int) := of_decide_eq_true (by first | (with_reducible assumption) | assumption)
               have q153 : x7_3 < (x4_3.length : Int) := of_decide_eq_true (by first | (with_reducible assumption) | assumption)
               obtain ⟨ad153, e153, hx153_0⟩ := Kd.at_bool (Kd.R_reads' HO_4.out).2.2 x7_3 p153 q153
               (try rw [← Nbq19.out] at hx153_0)
               cases e153
               replace p153 := eq_true p153
               replace q153 := eq_true q153
               refine start_ (n := 16) (S := fun w' => w'.cell? (ad153.add (x7_3).toNat) = some (.bool false)) (ds := []) #[false, false, false, false, false, false, false, false, false, false, false, false, false, false, false, false] (by kernel_rfl) rfl rfl (hx153_0) (fun hHeld => ?_); refine with_tabW semblanceref41_Pairs.tab13 semblanceref41_Pairs.bits13 (fun HT_ HW_ => ?_)
               generalize wr.drew = w33 at HO_4 BK148 HB hx153_0 hHeld ⊢
               refine pure_ (i := 0) (N := some 32) (v := ?_) (a' := ?_) #[true, false, false, false, false, false, false, false, false, false, false, false, false, false, false, false] rfl rfl (any_of HT_.out (by kernel_rfl)) (fun _ _ _ h => h) (Or.inl ⟨by rfl, ?_⟩) ?_ ?_
               rotate_left
               ·intro w'
                go_simp
                with_reducible rfl
               rotate_left
               ·simp only [Act.put, List.setIfInBounds_toArray, List.set_cons_zero, List.set_cons_succ, i64_w, i32_w]
                rfl
               refine pure_ (i := 1) (N := some 33) (v := ?_) (a' := ?_) #[true, true, false, false, false, false, false, false, false, false, false, false, false, false, false, false] rfl rfl (any_of HT_.out (by kernel_rfl)) (fun _ _ _ h => h) (Or.inl ⟨by rfl, ?_⟩) ?_ ?_
               rotate_left
               ·intro w'
                go_simp
                with_reducible rfl
               rotate_left
               ·simp only [Act.put, List.setIfInBounds_toArray, List.set_cons_zero, List.set_cons_succ, i64_w, i32_w]
                rfl
               refine pure_ (i := 2) (N := some 34) (v := ?_) (a' := ?_) #[true, true, true, false, false, false, false, false, false, false, false, false, false, false, false, false] rfl rfl (any_of HT_.out (by kernel_rfl)) (fun _ _ _ h => h) (Or.inl ⟨by rfl, ?_⟩) ?_ ?_
               rotate_left
               ·intro w'
                go_simp
                with_reducible rfl
               rotate_left
               ·simp only [Act.put, List.setIfInBounds_toArray, List.set_cons_zero, List.set_cons_succ, i64_w, i32_w]
                rfl
               refine take_ (i := 3) (N := some 35) (v := ?_) (a' := ?_) #[true, true, true, true, false, false, false, false, false, false, false, false, false, false, false, false] rfl rfl (take_ofW HT_.out HW_.out (by kernel_rfl)) (fun _ _ _ h => h) (Or.inl ⟨by rfl, ?_⟩) hHeld ?_ ?_
               rotate_left
               ·intro w' s0
                go_simp
                with_reducible rfl
               rotate_left
               ·simp only [Act.put, List.setIfInBounds_toArray, List.set_cons_zero, List.set_cons_succ, i64_w, i32_w]
                rfl
               refine pure_ (i := 4) (N := some 36) (v := ?_) (a' := ?_) #[true, true, true, true, true, false, false, false, false, false, false, false, false, false, false, false] rfl rfl (any_of HT_.out (by kernel_rfl)) (fun _ _ _ h => h) (Or.inl ⟨by rfl, ?_⟩) ?_ ?_
               rotate_left
               ·intro w'
                go_simp
                with_reducible rfl
               rotate_left
               ·simp only [Act.put, List.setIfInBounds_toArray, List.set_cons_zero, List.set_cons_succ, i64_w, i32_w]
                rfl
               refine pure_ (i := 5) (N := some 37) (v := undef) (a' := ?_) #[true, true, true, true, true, true, false, false, false, false, false, false, false, false, false, false] rfl rfl (any_of HT_.out (by kernel_rfl)) (fun _ _ _ h => h) (Or.inr ⟨by rfl, rfl⟩) ?_ ?_
               rotate_left
               ·simp only [Act.put, List.setIfInBounds_toArray, List.set_cons_zero, List.set_cons_succ, i64_w, i32_w]
                rfl
               refine pure_ (i := 6) (N := some 38) (v := undef) (a' := ?_) #[true, true, true, true, true, true, true, false, false, false, false, false, false, false, false, false] rfl rfl (any_of HT_.out (by kernel_rfl)) (fun _ _ _ h => h) (Or.inr ⟨by rfl, rfl⟩) ?_ ?_
               rotate_left
               ·simp only [Act.put, List.setIfInBounds_toArray, List.set_cons_zero, List.set_cons_succ, i64_w, i32_w]
                rfl
               refine pure_ (i := 7) (N := some 39) (v := undef) (a' := ?_) #[true, true, true, true, true, true, true, true, false, false, false, false, false, false, false, false] rfl rfl (any_of HT_.out (by kernel_rfl)) (fun _ _ _ h => h) (Or.inr ⟨by rfl, rfl⟩) ?_ ?_
               rotate_left
               ·simp only [Act.put, List.setIfInBounds_toArray, List.set_cons_zero, List.set_cons_succ, i64_w, i32_w]
                rfl
               refine pure_ (i := 8) (N := some 40) (v := undef) (a' := ?_) #[true, true, true, true, true, true, true, true, true, false, false, false, false, false, false, false] rfl rfl (any_of HT_.out (by kernel_rfl)) (fun _ _ _ h => h) (Or.inr ⟨by rfl, rfl⟩) ?_ ?_
               rotate_left
               ·simp only [Act.put, List.setIfInBounds_toArray, List.set_cons_zero, List.set_cons_succ, i64_w, i32_w]
                rfl
               refine pure_ (i := 9) (N := some 41) (v := undef) (a' := ?_) #[true, true, true, true, true, true, true, true, true, true, false, false, false, false, false, false] rfl rfl (any_of HT_.out (by kernel_rfl)) (fun _ _ _ h => h) (Or.inr ⟨by rfl, rfl⟩) ?_ ?_
               rotate_left
               ·simp only [Act.put, List.setIfInBounds_toArray, List.set_cons_zero, List.set_cons_succ, i64_w, i32_w]
                rfl
               refine pure_ (i := 10) (N := some 42) (v := undef) (a' := ?_) #[true, true, true, true, true, true, true, true, true, true, true, false, false, false, false, false] rfl rfl (any_of HT_.out (by kernel_rfl)) (fun _ _ _ h => h) (Or.inr ⟨by rfl, rfl⟩) ?_ ?_
               rotate_left
               ·simp only [Act.put, List.setIfInBounds_toArray, List.set_cons_zero, List.set_cons_succ, i64_w, i32_w]
                rfl
               refine pure_ (i := 11) (N := some 43) (v := undef) (a' := ?_) #[true, true, true, true, true, true, true, true, true, true, true, true, false, false, false, false] rfl rfl (any_of HT_.out (by kernel_rfl)) (fun _ _ _ h => h) (Or.inr ⟨by rfl, rfl⟩) ?_ ?_
               rotate_left
               ·simp only [Act.put, List.setIfInBounds_toArray, List.set_cons_zero, List.set_cons_succ, i64_w, i32_w]
                rfl
               refine pure_ (i := 12) (N := some 44) (v := undef) (a' := ?_) #[true, true, true, true, true, true, true, true, true, true, true, true, true, false, false, false] rfl rfl (any_of HT_.out (by kernel_rfl)) (fun _ _ _ h => h) (Or.inr ⟨by rfl, rfl⟩) ?_ ?_
               rotate_left
               ·simp only [Act.put, List.setIfInBounds_toArray, List.set_cons_zero, List.set_cons_succ, i64_w, i32_w]
                rfl
               refine pure_ (i := 13) (N := some 45) (v := undef) (a' := ?_) #[true, true, true, true, true, true, true, true, true, true, true, true, true, true, false, false] rfl rfl (any_of HT_.out (by kernel_rfl)) (fun _ _ _ h => h) (Or.inr ⟨by rfl, rfl⟩) ?_ ?_
               rotate_left
               ·simp only [Act.put, List.setIfInBounds_toArray, List.set_cons_zero, List.set_cons_succ, i64_w, i32_w]
                rfl
               refine pure_ (i := 14) (N := some 46) (v := undef) (a' := ?_) #[true, true, true, true, true, true, true, true, true, true, true, true, true, true, true, false] rfl rfl (any_of HT_.out (by kernel_rfl)) (fun _ _ _ h => h) (Or.inr ⟨by rfl, rfl⟩) ?_ ?_
               rotate_left
               ·simp only [Act.put, List.setIfInBounds_toArray, List.set_cons_zero, List.set_cons_succ, i64_w, i32_w]
                rfl
               refine pure_ (i := 15) (N := some 47) (v := ?_) (a' := ?_) #[true, true, true, true, true, true, true, true, true, true, true, true, true, true, true, true] rfl rfl (any_of HT_.out (by kernel_rfl)) (fun _ _ _ h => h) (Or.inl ⟨by rfl, ?_⟩) ?_ ?_
               rotate_left
               ·intro w'
                go_simp
                with_reducible rfl
               rotate_left
               ·simp only [Act.put, List.setIfInBounds_toArray, List.set_cons_zero, List.set_cons_succ, i64_w, i32_w]
                rfl
               refine done_ (done_of HT_.out (by kernel_rfl)) ?_
               try go_wp2
               go_roundg k3
               case measure => have := HK1.out; have := HK2.out; have := HK3.out; omega
               case rel => exact ⟨(x4_3), (x6_3), (wrap64 (x7_3 + 1)), (by first | rfl | (simp; done) | (simp [*]; done)), (by first | rfl | (simp; done) | (simp [*]; done)), H', ⟨by have := HK1.out; have := HK2.out; have := HK3.out; omega⟩, ⟨by (with_reducible repeat (first | apply Kd.R_alloc | apply Kd.R_drewN | apply Kd.R_drew)); exact HO_4.out⟩, ⟨by (with_reducible repeat (first | refine blk_drewN ?_ _ | refine blk_drew ?_ | refine blk_alloc ?_ _)); exact BK148.out⟩, ⟨by repeat (first | (with_reducible first | exact HB.out | apply below_alloc | apply pw_below_drewN | apply below_drew1 | refine below_set ?_ GE148.out) | exact HB.out)⟩⟩
             ·rw [if_neg c18] at H
              exact absurd H (by simp)
            ·rw [if_neg c17] at H
             exact absurd H (by simp)
           ·rw [if_neg c16] at H
            have c16b0 : decide (x7_3 < (wrap64 (a0_0 * a0_0))) = false := decide_eq_false c16
            clear c16
            have H' := Aside0.mk H
            clear H
            go_wp2
            go_roundg k3
            case measure => have := HK1.out; have := HK2.out; have := HK3.out; omega
            case rel => exact ⟨(x4_3), (x6_3), (by first | rfl | (simp; done) | (simp [*]; done)), H', ⟨by have := HK1.out; have := HK2.out; have := HK3.out; omega⟩, ⟨by (with_reducible repeat (first | apply Kd.R_alloc | apply Kd.R_drewN | apply Kd.R_drew)); exact HO_4.out⟩, ⟨by (with_reducible repeat (first | refine blk_drewN ?_ _ | refine blk_drew ?_ | refine blk_alloc ?_ _)); exact BK148.out⟩, ⟨by repeat (first | (with_reducible first | exact HB.out | apply below_alloc | apply pw_below_drewN | apply below_drew1 | refine below_set ?_ GE148.out) | exact HB.out)⟩⟩
        ·replace c15 := Bool.eq_false_iff.mpr c15
         subst c15
         have H1 : (some x4_2) = some r := by rw [if_neg (show ¬ (false = true) by decide)] at H; exact H
         clear H
         have H := H1
         clear H1
         obtain rfl := Option.some.inj H
         go_wp2
         go_ret
         exact ⟨_, by first | rfl | (simp [errW_none, errW_some] <;> rfl) | (simp only [← hji2]; first | rfl | (simp [errW_none, errW_some] <;> rfl)) | (simp [*, errW_none, errW_some] <;> rfl), by (with_reducible repeat (first | apply Kd.R_alloc | apply Kd.R_drewN | apply Kd.R_drew)); exact HO_4.out, by repeat (first | (with_reducible first | exact HB.out | apply below_alloc | apply pw_below_drewN | apply below_drew1 | refine below_set ?_ GE148.out) | exact HB.out)⟩
  ·rw [if_neg c4] at H
   exact absurd H (by simp)
 ·rw [if_neg c3] at H
  exact absurd H (by simp)
end Go.Proofs.Ytmpiokdomjchiaa.Pr
set_option linter.unusedVariables false
set_option linter.unusedSimpArgs false
namespace Go.Proofs.Ytmpiokdomjchiaa.H
open Go.RowKit Go.Proofs.Ytmpiokdomjchiaa.Pr Go.Proofs.YtmpiokdomjchiaaW.PrintWords Go.Proofs.Ytmpiokdomjchiaa.Sem
def SmallL (n : Int) (ls : List ByteArray) (es : List Ed) : Prop := (n ≤ 16 ∨ 2048 < n) ∧ es.length ≤ 60 ∧ ls.length ≤ 8
theorem ite_ev {α : Type} (c : Prop) [Decidable c] {a b : Nat → Option α} (h1 : c → ∃ r, Ev a r) (h2 : ¬ c → ∃ r, Ev b r) : ∃ r, Ev (fun k => if c then a k else b k) r := by
 by_cases h : c
 ·obtain ⟨r, e⟩ := h1 h
  exact ⟨r, Ev.pos h e⟩
 ·obtain ⟨r, e⟩ := h2 h
  exact ⟨r, Ev.neg h e⟩
theorem light26_end (n : Int) (ls : List ByteArray) (es : List Ed) (i : Int) : ∃ b, Ev (fun k => semblanceref26_Light.j1 k i false n ls es) b := by
 obtain ⟨b, h⟩ : ∃ b, Ev (fun _ : Nat => if (ls.length : Int) < 70 then (if (es.length : Int) ≤ 200 then (if n ≤ 60 then some true else some (decide (n > 2048))) else some false) else some false) b := by
  refine ite_ev _ (fun _ => ite_ev _ (fun _ => ite_ev _ (fun _ => ⟨_, Ev.now _⟩) fun _ => ⟨_, Ev.now _⟩) fun _ => ⟨_, Ev.now _⟩) fun _ => ⟨_, Ev.now _⟩
 exact ⟨b, Ev.step (fun k => semblanceref26_Light.j1.eq_2 ..) (Ev.neg (by simp) h)⟩
theorem light26_ev (n : Int) (ls : List ByteArray) (es : List Ed) : ∀ d i : Nat, i + d = 70 → ∃ b, Ev (fun k => semblanceref26_Light.l0 k (i : Int) n ls es) b
 | 0, i, h => by
  obtain ⟨b, e⟩ := light26_end n ls es (i : Int)
  refine ⟨b, Ev.step (fun k => semblanceref26_Light.l0.eq_2 ..) ?_⟩
  rw [decide_eq_false (show ¬ (i : Int) < 70 by omega)]
  simp only [ite_self]
  exact e
 | d + 1, i, h => by
  by_cases hl : (i : Int) < (ls.length : Int)
  ·by_cases hs : ((rdOf ByteArray.empty ls (i : Int)).size : Int) > 300
   ·refine ⟨false, Ev.step (fun k => semblanceref26_Light.l0.eq_2 ..) (Ev.pos hl ?_)⟩
    rw [decide_eq_true (show (i : Int) < 70 by omega)]
    exact Ev.step (fun k => semblanceref26_Light.j1.eq_2 ..) (Ev.pos rfl (Ev.pos (by omega) (Ev.pos hl (Ev.pos hs (Ev.now _)))))
   ·obtain ⟨b, e⟩ := light26_ev n ls es d (i + 1) (by omega)
    refine ⟨b, Ev.step (fun k => semblanceref26_Light.l0.eq_2 ..) (Ev.pos hl ?_)⟩
    rw [decide_eq_true (show (i : Int) < 70 by omega)]
    refine Ev.step (fun k => semblanceref26_Light.j1.eq_2 ..) (Ev.pos rfl (Ev.pos (by omega) (Ev.pos hl (Ev.neg hs ?_))))
    rw [w1n (by omega)]
    exact e
  ·obtain ⟨b, e⟩ := light26_end n ls es (i : Int)
   exact ⟨b, Ev.step (fun k => semblanceref26_Light.l0.eq_2 ..) (Ev.neg hl e)⟩
theorem light33_ev (n : Int) (ls : List ByteArray) (es : List Ed) : ∃ b, Ev (fun k => semblancelaw33_Light.f k n ls es) b ∧ (b = true → SmallL n ls es) := by
 obtain ⟨b, e⟩ := light26_ev n ls es 70 0 rfl
 have e' : Ev (fun k => semblanceref26_Light.f k n ls es) b := e
 cases b with
 | false => exact ⟨false, Ev.bind e' (Ev.neg (by simp) (Ev.now _)), fun h => by cases h⟩
 | true =>
  by_cases h1 : n ≤ 16
  ·by_cases h2 : (es.length : Int) ≤ 60
   ·exact ⟨_, Ev.bind e' (Ev.pos rfl (Ev.pos h1 (Ev.pos h2 (Ev.now _)))), fun h => ⟨.inl h1, by omega, by have := of_decide_eq_true h; omega⟩⟩
   ·exact ⟨_, Ev.bind e' (Ev.pos rfl (Ev.pos h1 (Ev.neg h2 (Ev.now _)))), fun h => by cases h⟩
  ·by_cases h3 : n > 2048
   ·by_cases h2 : (es.length : Int) ≤ 60
    ·exact ⟨_, Ev.bind e' (Ev.pos rfl (Ev.neg h1 (Ev.pos h3 (Ev.pos h2 (Ev.now _))))), fun h => ⟨.inr h3, by omega, by have := of_decide_eq_true h; omega⟩⟩
    ·exact ⟨_, Ev.bind e' (Ev.pos rfl (Ev.neg h1 (Ev.pos h3 (Ev.neg h2 (Ev.now _))))), fun h => by cases h⟩
   ·exact ⟨_, Ev.bind e' (Ev.pos rfl (Ev.neg h1 (Ev.neg h3 (Ev.now _)))), fun h => by cases h⟩
def succP (es : List Ed) (a l : Int) : List Int := (es.filter fun e => decide (e.f0 = a) && decide (e.f1 = l)).map (·.f2)
theorem succP_len (es : List Ed) (a l : Int) : (succP es a l).length ≤ es.length := by unfold succP; rw [List.length_map]; exact List.length_filter_le _ _
theorem succP_mem {es : List Ed} {a l q : Int} : q ∈ succP es a l ↔ ∃ f ∈ es, f.f0 = a ∧ f.f1 = l ∧ f.f2 = q := by
 unfold succP
 simp only [List.mem_map, List.mem_filter, Bool.and_eq_true, decide_eq_true_eq]
 constructor
 ·rintro ⟨f, ⟨h1, h2, h3⟩, h4⟩; exact ⟨f, h1, h2, h3, h4⟩
 ·rintro ⟨f, h1, h2, h3, h4⟩; exact ⟨f, ⟨h1, h2, h3⟩, h4⟩
theorem succP_snoc (es : List Ed) (e : Ed) (a b : Int) : succP (es ++ [e]) a b = if e.f0 = a ∧ e.f1 = b then succP es a b ++ [e.f2] else succP es a b := by
 unfold succP
 by_cases h : e.f0 = a ∧ e.f1 = b
 ·rw [if_pos h]; simp [h.1, h.2]
 ·rw [if_neg h]
  have : (decide (e.f0 = a) && decide (e.f1 = b)) = false := by simpa using h
  simp [this]
theorem rd81 (es : List Ed) (i : Nat) : rd_T81 es (i : Int) = es.getD i z81 := rfl
theorem succ_ev (n : Int) (ls : List ByteArray) (es : List Ed) (a l : Int) (hl : es.length ≤ 1000000) : Ev (fun k => semblanceref26_Succ.f k n ls es a l) (succP es a l) := by
 have key : ∀ d i : Nat, i + d = es.length → Ev (fun k => semblanceref26_Succ.l0 k a l (succP (es.take i) a l) (i : Int) n ls es) (succP es a l) := by
  intro d
  induction d with
  | zero =>
   intro i h
   rw [List.take_of_length_le (by omega)]
   exact Ev.step (fun k => semblanceref26_Succ.l0.eq_2 ..) (Ev.neg (by omega) (Ev.now _))
  | succ d ih =>
   intro i h
   have ih' := ih (i + 1) (by omega)
   rw [take_snocD z81 (show i < es.length by omega), succP_snoc] at ih'
   have hlen : (succP (es.take i) a l).length < 17592186044416 := by
    have := succP_len (es.take i) a l
    rw [List.length_take] at this
    omega
   refine Ev.step (fun k => semblanceref26_Succ.l0.eq_2 ..) (Ev.pos (by omega) (Ev.pos (by omega) ?_))
   rw [w1n (by omega), rd81]
   by_cases h1 : (es.getD i z81).f0 = a
   ·by_cases h2 : (es.getD i z81).f1 = l
    ·rw [if_pos ⟨h1, h2⟩] at ih'
     exact Ev.pos h1 (Ev.pos h2 (Ev.pos hlen ih'))
    ·rw [if_neg (fun h => h2 h.2)] at ih'
     exact Ev.pos h1 (Ev.neg h2 ih')
   ·rw [if_neg (fun h => h1 h.1)] at ih'
    exact Ev.neg h1 ih'
 exact key es.length 0 (by omega)
def folP (n : Nat) (es : List Ed) (P : List Bool) (s t : Int) : Bool := es.all fun e => !decide (e.f0 = s) || (succP es t e.f1).any fun q => P.getD (e.f2 * n + q).toNat false
theorem any_take_snoc {α : Type} (d : α) (p : α → Bool) {xs : List α} {j : Nat} (h : j < xs.length) : (xs.take (j + 1)).any p = ((xs.take j).any p || p (xs.getD j d)) := by
 rw [take_snocD d h, List.any_append]
 simp
theorem all_take_snoc {α : Type} (d : α) (p : α → Bool) {xs : List α} {j : Nat} (h : j < xs.length) : (xs.take (j + 1)).all p = ((xs.take j).all p && p (xs.getD j d)) := by
 rw [take_snocD d h, List.all_append]
 simp
theorem getD_mem' {α : Type} (d : α) {xs : List α} {k : Nat} (h : k < xs.length) : xs.getD k d ∈ xs := by
 rw [List.getD_eq_getElem?_getD, List.getElem?_eq_getElem h]
 exact List.getElem_mem h
theorem fol_in (n : Nat) (ls : List ByteArray) (es : List Ed) (P : List Bool) (s t : Int) (i : Int) (L : List Int) (e : Ed) (r : Bool) (hn : n ≤ 16) (hP : P.length = n * n) (he : 0 ≤ e.f2 ∧ e.f2 < n) (hL : ∀ q ∈ L, 0 ≤ q ∧ q < n) (hll : L.length ≤ 1000000)
  (hend : Ev (fun k => if (L.any fun q => P.getD (e.f2 * n + q).toNat false) = true then semblanceref34_Follows.l0 k P s t n (wrap64 (i + 1)) n ls es else some false) r) :
  Ev (fun k => semblanceref34_Follows.l1 k P s t n i L false 0 n ls es e.f0 e.f1 e.f2) r := by
 have key : ∀ d j : Nat, j + d = L.length → Ev (fun k => semblanceref34_Follows.l1 k P s t n i L ((L.take j).any fun q => P.getD (e.f2 * n + q).toNat false) (j : Int) n ls es e.f0 e.f1 e.f2) r := by
  intro d
  induction d with
  | zero =>
   intro j h
   rw [List.take_of_length_le (by omega)]
   exact Ev.step (fun k => semblanceref34_Follows.l1.eq_2 ..) (Ev.neg (by omega) hend)
  | succ d ih =>
   intro j h
   have ih' := ih (j + 1) (by omega)
   have hj : j < L.length := by omega
   rw [any_take_snoc 0 _ hj] at ih'
   obtain ⟨b, hb⟩ : ∃ b, b = (L.take j).any fun q => P.getD (e.f2 * n + q).toNat false := ⟨_, rfl⟩
   rw [← hb] at ih' ⊢
   have hq := hL _ (getD_mem' 0 hj)
   obtain ⟨q, hqd⟩ : ∃ q, q = L.getD j 0 := ⟨_, rfl⟩
   rw [← hqd] at ih' hq
   have hrd : rd L (j : Int) = q := by rw [hqd]; rfl
   obtain ⟨x, hx⟩ : ∃ x : Nat, e.f2 = (x : Int) := ⟨e.f2.toNat, by omega⟩
   obtain ⟨y, hy⟩ : ∃ y : Nat, q = (y : Int) := ⟨q.toNat, by omega⟩
   have hx' : x < n := by omega
   have hy' : y < n := by omega
   have hlt : x * n + y < n * n := by
    have : (x + 1) * n ≤ n * n := Nat.mul_le_mul_right n hx'
    rw [Nat.succ_mul] at this
    omega
   have hnn : n * n ≤ 16 * 16 := Nat.mul_le_mul hn hn
   have hcast : e.f2 * (n : Int) + q = ((x * n + y : Nat) : Int) := by rw [hx, hy]; simp
   have hcast2 : e.f2 * (n : Int) = ((x * n : Nat) : Int) := by rw [hx]; simp
   have hw : wrap64 (wrap64 (e.f2 * (n : Int)) + rd L (j : Int)) = e.f2 * (n : Int) + q := by
    rw [hrd, wid (i := e.f2 * (n : Int)) (by rw [hcast2]; omega) (by rw [hcast2]; omega), wid (by rw [hcast]; omega) (by rw [hcast]; omega)]
   refine Ev.step (fun k => semblanceref34_Follows.l1.eq_2 ..) (Ev.pos (by omega) ?_)
   rw [w1n (by omega), hw]
   cases b with
   | true => exact Ev.pos rfl (by simpa using ih')
   | false =>
    refine Ev.neg (by simp) (Ev.pos (by omega) (Ev.pos (by rw [hcast]; omega) (Ev.pos (by rw [hcast, hP]; omega) ?_)))
    simpa [rdOf] using ih'
 have := key L.length 0 (by omega)
 simpa using this
theorem fol_ev (n : Nat) (ls : List ByteArray) (es : List Ed) (P : List Bool) (s t : Int) (hn : n ≤ 16) (hP : P.length = n * n) (hes : ∀ e ∈ es, (0 ≤ e.f0 ∧ e.f0 < n) ∧ (0 ≤ e.f2 ∧ e.f2 < n)) (hl : es.length ≤ 1000000) : Ev (fun k => semblanceref34_Follows.f k n ls es P s t) (folP n es P s t) := by
 have key : ∀ d i : Nat, i + d = es.length → ((es.take i).all fun e => !decide (e.f0 = s) || (succP es t e.f1).any fun q => P.getD (e.f2 * n + q).toNat false) = true → Ev (fun k => semblanceref34_Follows.l0 k P s t n (i : Int) n ls es) (folP n es P s t) := by
  intro d
  induction d with
  | zero =>
   intro i h hall
   rw [List.take_of_length_le (by omega)] at hall
   have hr : folP n es P s t = true := hall
   rw [hr]
   exact Ev.step (fun k => semblanceref34_Follows.l0.eq_2 ..) (Ev.neg (by omega) (Ev.now _))
  | succ d ih =>
   intro i h hall
   have hi : i < es.length := by omega
   have ih' := ih (i + 1) (by omega)
   rw [all_take_snoc z81 _ hi, hall, Bool.true_and] at ih'
   have he := hes _ (getD_mem' z81 hi)
   obtain ⟨e, hed⟩ : ∃ e, e = es.getD i z81 := ⟨_, rfl⟩
   have hmem : e ∈ es := by rw [hed]; exact getD_mem' _ hi
   rw [← hed] at ih' he
   refine Ev.step (fun k => semblanceref34_Follows.l0.eq_2 ..) (Ev.pos (by omega) (Ev.pos (by omega) ?_))
   rw [rd81, ← hed]
   by_cases h1 : e.f0 = s
   ·refine Ev.pos h1 (Ev.bind (succ_ev (n : Int) ls es t e.f1 hl) ?_)
    refine fol_in n ls es P s t (i : Int) (succP es t e.f1) e _ hn hP he.2 (fun q hq => ?_) (Nat.le_trans (succP_len _ _ _) hl) ?_
    ·obtain ⟨f, hf, _, _, rfl⟩ := succP_mem.1 hq
     exact (hes f hf).2
    ·cases hb : (succP es t e.f1).any fun q => P.getD (e.f2 * n + q).toNat false with
     | true =>
      refine Ev.pos rfl ?_
      rw [w1n (by omega)]
      exact ih' (by rw [hb]; simp)
     | false =>
      have hr : folP n es P s t = false := by
       unfold folP
       rw [Bool.eq_false_iff]
       intro hall
       have := List.all_eq_true.1 hall e hmem
       rw [hb, decide_eq_true h1] at this
       simp at this
      rw [hr]
      exact Ev.neg (by simp) (Ev.now _)
   ·refine Ev.neg h1 ?_
    rw [w1n (by omega)]
    exact ih' (by rw [decide_eq_false h1]; rfl)
 have := key es.length 0 (by omega) (by simp)
 exact this
def cntP (m : Nat) (P : List Bool) : Nat := ((List.range m).filter fun i => P.getD i false).length
theorem set_getD (P : List Bool) (i j : Nat) : (P.set i false).getD j false = (P.getD j false && !decide (j = i)) := by
 rw [List.getD_eq_getElem?_getD, List.getD_eq_getElem?_getD, List.getElem?_set]
 by_cases e : i = j
 ·subst e
  rw [if_pos rfl, decide_eq_true rfl]
  split <;> simp
 ·rw [if_neg e, decide_eq_false (fun h => e h.symm)]
  simp
def InvP (n : Nat) (es : List Ed) (P : List Bool) : Prop := ∀ X : Nat → Nat → Bool, Sim es n X → (∀ a b, X a b = true → a < n ∧ b < n) → ∀ a b, X a b = true → P.getD (a * n + b) false = true
theorem fol_of {n : Nat} {es : List Ed} {P : List Bool} (hI : InvP n es P) (hes : ∀ e ∈ es, (0 ≤ e.f0 ∧ e.f0 < n) ∧ (0 ≤ e.f2 ∧ e.f2 < n)) {X : Nat → Nat → Bool} (hX : Sim es n X) (hN : ∀ a b, X a b = true → a < n ∧ b < n) {s t : Nat} (h : X s t = true) : folP n es P s t = true := by
 unfold folP
 rw [List.all_eq_true]
 intro e he
 by_cases h1 : e.f0 = (s : Int)
 ·rw [decide_eq_true h1, Bool.not_true, Bool.false_or, List.any_eq_true]
  have h2 := hX e he t (hN s t h).2 (by rw [h1, Int.toNat_natCast]; exact h)
  unfold leadsB at h2
  rw [List.any_eq_true] at h2
  obtain ⟨f, hf, h3⟩ := h2
  rw [Bool.and_eq_true, beq_iff_eq] at h3
  obtain ⟨hfm, hf0⟩ := outE_mem hf
  refine ⟨f.f2, succP_mem.2 ⟨f, hfm, hf0, h3.1, rfl⟩, ?_⟩
  have h4 := hI X hX hN _ _ h3.2
  have he2 := (hes e he).2
  have hf2 := (hes f hfm).2
  obtain ⟨x, hx⟩ : ∃ x : Nat, e.f2 = (x : Int) := ⟨e.f2.toNat, by omega⟩
  obtain ⟨y, hy⟩ : ∃ y : Nat, f.f2 = (y : Int) := ⟨f.f2.toNat, by omega⟩
  rw [hx, hy, Int.toNat_natCast, Int.toNat_natCast] at h4
  rw [hx, hy, show ((x : Int) * (n : Int) + (y : Int)).toNat = x * n + y by rw [show (x : Int) * (n : Int) + (y : Int) = ((x * n + y : Nat) : Int) by simp, Int.toNat_natCast]]
  exact h4
 ·rw [decide_eq_false h1]
  rfl
theorem inv_set {n : Nat} {es : List Ed} {P : List Bool} (hI : InvP n es P) (hes : ∀ e ∈ es, (0 ≤ e.f0 ∧ e.f0 < n) ∧ (0 ≤ e.f2 ∧ e.f2 < n)) {i : Nat} (hn : 0 < n) (h : folP n es P ((i / n : Nat) : Int) ((i % n : Nat) : Int) = false) : InvP n es (P.set i false) := by
 intro X hX hN a b hab
 rw [set_getD, hI X hX hN a b hab, Bool.true_and]
 have : a * n + b ≠ i := by
  intro e
  have hb := (hN a b hab).2
  have e1 : i / n = a := by rw [← e, Nat.mul_comm, Nat.mul_add_div hn, Nat.div_eq_of_lt hb]; rfl
  have e2 : i % n = b := by rw [← e, Nat.mul_comm, Nat.mul_add_mod, Nat.mod_eq_of_lt hb]
  rw [e1, e2, fol_of hI hes hX hN hab] at h
  cases h
 simpa using this
structure Swept (n : Nat) (es : List Ed) (P P' : List Bool) (i : Nat) (m m' : Bool) : Prop where
  len : P'.length = n * n
  inv : InvP n es P'
  no : m' = false → m = false ∧ P' = P ∧ ∀ j, i ≤ j → j < n * n → P.getD j false = true → folP n es P ((j / n : Nat) : Int) ((j % n : Nat) : Int) = true
  yes : m' = true → m = true ∨ cntP (n * n) P' < cntP (n * n) P
  le : cntP (n * n) P' ≤ cntP (n * n) P
theorem cnt_set {m i : Nat} {P : List Bool} (hi : i < m) (h : P.getD i false = true) : cntP m (P.set i false) + 1 ≤ cntP m P :=
 filter_drop (p := fun i => P.getD i false) (q := fun j => (P.set i false).getD j false) (v := i) _ List.nodup_range (List.mem_range.2 hi) (fun x => set_getD P i x) h
theorem sweep_ev (n : Nat) (ls : List ByteArray) (es : List Ed) (hn : n ≤ 16) (hn0 : 0 < n) (hes : ∀ e ∈ es, (0 ≤ e.f0 ∧ e.f0 < n) ∧ (0 ≤ e.f2 ∧ e.f2 < n)) (hl : es.length ≤ 1000000) : ∀ (d i : Nat) (P : List Bool) (m : Bool), i + d = n * n → P.length = n * n → InvP n es P →
  ∃ P' m', Swept n es P P' i m m' ∧ ∀ r, Ev (fun k => semblanceref41_Pairs.l1 k n P' m' n ls es) r → Ev (fun k => semblanceref41_Pairs.l2 k n P m (i : Int) n ls es) r := by
 have hnn : n * n ≤ 16 * 16 := Nat.mul_le_mul hn hn
 have hw : wrap64 ((n : Int) * (n : Int)) = ((n * n : Nat) : Int) := by
  rw [show (n : Int) * (n : Int) = ((n * n : Nat) : Int) by simp]
  exact wid (by omega) (by omega)
 intro d
 induction d with
 | zero =>
  intro i P m h hP hI
  refine ⟨P, m, ⟨hP, hI, fun e => ⟨e, rfl, fun j h1 h2 => by omega⟩, fun e => .inl e, Nat.le_refl _⟩, fun r hr => ?_⟩
  exact Ev.step (fun k => semblanceref41_Pairs.l2.eq_2 ..) (Ev.neg (by rw [hw]; omega) hr)
 | succ d ih =>
  intro i P m h hP hI
  have hi : (i : Int) < wrap64 ((n : Int) * (n : Int)) := by rw [hw]; omega
  have hi2 : (i : Int) < (P.length : Int) := by rw [hP]; omega
  have hdiv : wrap64 (Int.tdiv (i : Int) (n : Int)) = ((i / n : Nat) : Int) := by
   rw [Int.tdiv_eq_ediv_of_nonneg (by omega), show (i : Int) / (n : Int) = ((i / n : Nat) : Int) by simp]
   have hq : i / n ≤ i := Nat.div_le_self _ _
   generalize i / n = q at hq ⊢
   exact wid (by omega) (by omega)
  have hmod : Int.tmod (i : Int) (n : Int) = ((i % n : Nat) : Int) := by
   rw [Int.tmod_eq_emod_of_nonneg (by omega)]; simp
  have hrd : rdOf false P (i : Int) = P.getD i false := rfl
  have hnz : ¬ (n : Int) = 0 := by omega
  cases hb : P.getD i false with
  | false =>
   obtain ⟨P', m', hs, hc⟩ := ih (i + 1) P m (by omega) hP hI
   refine ⟨P', m', ⟨hs.len, hs.inv, fun e => ?_, hs.yes, hs.le⟩, fun r hr => ?_⟩
   ·obtain ⟨a, b, c⟩ := hs.no e
    refine ⟨a, b, fun j h1 h2 h3 => ?_⟩
    by_cases e1 : j = i
    ·subst e1; rw [hb] at h3; cases h3
    ·exact c j (by omega) h2 h3
   ·refine Ev.step (fun k => semblanceref41_Pairs.l2.eq_2 ..) (Ev.pos hi (Ev.pos (by omega) (Ev.pos hi2 (Ev.neg (by rw [hrd, hb]; simp) ?_))))
    rw [w1n (by omega)]
    exact hc r hr
  | true =>
   cases hf : folP n es P ((i / n : Nat) : Int) ((i % n : Nat) : Int) with
   | true =>
    obtain ⟨P', m', hs, hc⟩ := ih (i + 1) P m (by omega) hP hI
    refine ⟨P', m', ⟨hs.len, hs.inv, fun e => ?_, hs.yes, hs.le⟩, fun r hr => ?_⟩
    ·obtain ⟨a, b, c⟩ := hs.no e
     refine ⟨a, b, fun j h1 h2 h3 => ?_⟩
     by_cases e1 : j = i
     ·subst e1; exact hf
     ·exact c j (by omega) h2 h3
    ·refine Ev.step (fun k => semblanceref41_Pairs.l2.eq_2 ..) (Ev.pos hi (Ev.pos (by omega) (Ev.pos hi2 (Ev.pos (by rw [hrd, hb]) (Ev.neg hnz ?_)))))
     rw [hdiv, hmod]
     refine Ev.bind (fol_ev n ls es P _ _ hn hP hes hl) ?_
     rw [hf, w1n (by omega)]
     exact Ev.pos rfl (hc r hr)
   | false =>
    obtain ⟨P', m', hs, hc⟩ := ih (i + 1) (P.set i false) true (by omega) (by rw [List.length_set]; exact hP) (inv_set hI hes hn0 hf)
    have hcs := cnt_set (m := n * n) (show i < n * n by omega) hb
    refine ⟨P', m', ⟨hs.len, hs.inv, fun e => ?_, fun _ => .inr (by have := hs.le; omega), by have := hs.le; omega⟩, fun r hr => ?_⟩
    ·obtain ⟨a, _, _⟩ := hs.no e
     cases a
    ·refine Ev.step (fun k => semblanceref41_Pairs.l2.eq_2 ..) (Ev.pos hi (Ev.pos (by omega) (Ev.pos hi2 (Ev.pos (by rw [hrd, hb]) (Ev.neg hnz ?_)))))
     rw [hdiv, hmod]
     refine Ev.bind (fol_ev n ls es P _ _ hn hP hes hl) ?_
     rw [hf, w1n (by omega)]
     exact Ev.neg (by simp) (hc r hr)
def StableP (n : Nat) (es : List Ed) (P : List Bool) : Prop := ∀ j, j < n * n → P.getD j false = true → folP n es P ((j / n : Nat) : Int) ((j % n : Nat) : Int) = true
theorem rounds_ev (n : Nat) (ls : List ByteArray) (es : List Ed) (hn : n ≤ 16) (hn0 : 0 < n) (hes : ∀ e ∈ es, (0 ≤ e.f0 ∧ e.f0 < n) ∧ (0 ≤ e.f2 ∧ e.f2 < n)) (hl : es.length ≤ 1000000) : ∀ (c : Nat) (P : List Bool), cntP (n * n) P < c → P.length = n * n → InvP n es P →
  ∃ Q, Q.length = n * n ∧ InvP n es Q ∧ StableP n es Q ∧ Ev (fun k => semblanceref41_Pairs.l1 k n P true n ls es) Q := by
 intro c
 induction c with
 | zero => intro P h; omega
 | succ c ih =>
  intro P h hP hI
  obtain ⟨P', m', hs, hc⟩ := sweep_ev n ls es hn hn0 hes hl (n * n) 0 P false (by omega) hP hI
  cases hm : m' with
  | false =>
   obtain ⟨_, e, hst⟩ := hs.no hm
   subst e
   refine ⟨P', hP, hI, fun j hj h => hst j (by omega) hj h, ?_⟩
   refine Ev.step (fun k => semblanceref41_Pairs.l1.eq_2 ..) (Ev.pos rfl (hc _ ?_))
   rw [hm]
   exact Ev.step (fun k => semblanceref41_Pairs.l1.eq_2 ..) (Ev.neg (by simp) (Ev.now _))
  | true =>
   rcases hs.yes hm with h1 | h1
   ·cases h1
   ·obtain ⟨Q, q1, q2, q3, q4⟩ := ih P' (by omega) hs.len hs.inv
    refine ⟨Q, q1, q2, q3, Ev.step (fun k => semblanceref41_Pairs.l1.eq_2 ..) (Ev.pos rfl (hc _ ?_))⟩
    rw [hm]
    exact q4
theorem pairs41_ev (n : Nat) (ls : List ByteArray) (es : List Ed) (hn : n ≤ 16) (hn0 : 0 < n) (hes : ∀ e ∈ es, (0 ≤ e.f0 ∧ e.f0 < n) ∧ (0 ≤ e.f2 ∧ e.f2 < n)) (hl : es.length ≤ 1000000) : ∃ Q, Q.length = n * n ∧ (∀ a b, a < n → b < n → Q.getD (a * n + b) false = simF n es a b) ∧ Ev (fun k => semblanceref41_Pairs.f k n ls es) Q := by
 have hnn : n * n ≤ 16 * 16 := Nat.mul_le_mul hn hn
 have hw : wrap64 ((n : Int) * (n : Int)) = ((n * n : Nat) : Int) := by
  rw [show (n : Int) * (n : Int) = ((n * n : Nat) : Int) by simp]
  exact wid (by omega) (by omega)
 have hI : InvP n es (List.replicate (n * n) true) := by
  intro X hX hN a b hab
  obtain ⟨h1, h2⟩ := hN a b hab
  have : a * n + b < n * n := by
   have : (a + 1) * n ≤ n * n := Nat.mul_le_mul_right n h1
   rw [Nat.succ_mul] at this
   omega
  simp [List.getD_eq_getElem?_getD, List.getElem?_replicate, this]
 obtain ⟨Q, q1, q2, q3, q4⟩ := rounds_ev n ls es hn hn0 hes hl _ (List.replicate (n * n) true) (Nat.lt_succ_self _) (by simp) hI
 have fill : ∀ d i : Nat, i + d = n * n → Ev (fun k => semblanceref41_Pairs.l0 k n (List.replicate i true ++ List.replicate d false) (i : Int) n ls es) Q := by
  intro d
  induction d with
  | zero =>
   intro i h
   rw [List.replicate_zero, List.append_nil, show i = n * n by omega]
   exact Ev.step (fun k => semblanceref41_Pairs.l0.eq_2 ..) (Ev.neg (by rw [hw]; omega) q4)
  | succ d ih =>
   intro i h
   have ih' := ih (i + 1) (by omega)
   refine Ev.step (fun k => semblanceref41_Pairs.l0.eq_2 ..) (Ev.pos (by rw [hw]; omega) (Ev.pos (by omega) (Ev.pos (by simp; omega) ?_)))
   rw [w1n (by omega), Int.toNat_natCast]
   have e : (List.replicate i true ++ List.replicate (d + 1) false).set i true = List.replicate (i + 1) true ++ List.replicate d false := by
    rw [List.set_append_right _ _ (by simp), List.length_replicate, Nat.sub_self, List.replicate_succ, List.set_cons_zero, List.replicate_succ', List.append_assoc]
    rfl
   rw [e]
   exact ih'
 refine ⟨Q, q1, fun a b ha hb => ?_, ?_⟩
 ·obtain ⟨s1, s2⟩ := simF_spec hes
  rw [Bool.eq_iff_iff]
  constructor
  ·intro h
   refine s2 (fun s t => decide (s < n) && (decide (t < n) && Q.getD (s * n + t) false)) ?_ (fun a b h => ?_) a b (by show (decide (a < n) && (decide (b < n) && Q.getD (a * n + b) false)) = true; rw [decide_eq_true ha, decide_eq_true hb, h]; rfl)
   ·intro e he v hv hx
    simp only [Bool.and_eq_true, decide_eq_true_eq] at hx
    have he' := hes e he
    obtain ⟨s, hs⟩ : ∃ s : Nat, e.f0 = (s : Int) := ⟨e.f0.toNat, by omega⟩
    rw [hs, Int.toNat_natCast] at hx
    have hlt : s * n + v < n * n := by
     have : (s + 1) * n ≤ n * n := Nat.mul_le_mul_right n hx.1
     rw [Nat.succ_mul] at this
     omega
    have e1 : (s * n + v) / n = s := by rw [Nat.mul_comm, Nat.mul_add_div hn0, Nat.div_eq_of_lt hv]; rfl
    have e2 : (s * n + v) % n = v := by rw [Nat.mul_comm, Nat.mul_add_mod, Nat.mod_eq_of_lt hv]
    have h3 := q3 _ hlt hx.2.2
    rw [e1, e2] at h3
    unfold folP at h3
    have h4 := List.all_eq_true.1 h3 e he
    rw [decide_eq_true hs, Bool.not_true, Bool.false_or, List.any_eq_true] at h4
    obtain ⟨q, hq, h5⟩ := h4
    obtain ⟨f, hf, hf0, hf1, rfl⟩ := succP_mem.1 hq
    unfold leadsB
    rw [List.any_eq_true]
    have hf' := hes f hf
    refine ⟨f, by unfold outE; simpa using ⟨hf, hf0⟩, ?_⟩
    obtain ⟨x, hx2⟩ : ∃ x : Nat, e.f2 = (x : Int) := ⟨e.f2.toNat, by omega⟩
    obtain ⟨y, hy2⟩ : ∃ y : Nat, f.f2 = (y : Int) := ⟨f.f2.toNat, by omega⟩
    rw [hx2, hy2, show ((x : Int) * (n : Int) + (y : Int)).toNat = x * n + y by rw [show (x : Int) * (n : Int) + (y : Int) = ((x * n + y : Nat) : Int) by simp, Int.toNat_natCast]] at h5
    rw [hx2, hy2, Int.toNat_natCast, Int.toNat_natCast, hf1]
    show (e.f1 == e.f1 && (decide (x < n) && (decide (y < n) && Q.getD (x * n + y) false))) = true
    rw [h5, decide_eq_true (show x < n by omega), decide_eq_true (show y < n by omega)]
    simp
   ·simp only [Bool.and_eq_true, decide_eq_true_eq] at h
    exact h.2.1
  ·intro h
   refine q2 (fun s t => decide (s < n) && (decide (t < n) && simF n es s t)) ?_ (fun a b h => ?_) a b (by simp [ha, hb, h])
   ·intro e he v hv hx
    simp only [Bool.and_eq_true, decide_eq_true_eq] at hx
    have h1 := s1 e he v hv hx.2.2
    have he' := hes e he
    unfold leadsB at h1 ⊢
    rw [List.any_eq_true] at h1 ⊢
    obtain ⟨f, hf, h2⟩ := h1
    rw [Bool.and_eq_true] at h2
    have hf' := hes f (outE_mem hf).1
    refine ⟨f, hf, ?_⟩
    show (f.f1 == e.f1 && (decide (e.f2.toNat < n) && (decide (f.f2.toNat < n) && simF n es e.f2.toNat f.f2.toNat))) = true
    rw [h2.1, h2.2, decide_eq_true (show e.f2.toNat < n by omega), decide_eq_true (show f.f2.toNat < n by omega)]
    rfl
   ·simp only [Bool.and_eq_true, decide_eq_true_eq] at h
    exact ⟨h.1, h.2.1⟩
 ·have h0 := fill (n * n) 0 (by omega)
  show Ev (fun k => if 0 ≤ (wrap64 ((n : Int) * (n : Int))) then (if (wrap64 ((n : Int) * (n : Int)) : Int).toNat ≤ 281474976710656 then (semblanceref41_Pairs.l0 k n (List.replicate (wrap64 ((n : Int) * (n : Int)) : Int).toNat false) 0 n ls es) else none) else none) Q
  rw [hw, Int.toNat_natCast]
  exact Ev.pos (by omega) (Ev.pos (by omega) (by simpa using h0))
theorem rd31 (xs : List Pair) (i : Nat) : rd_T31 xs (i : Int) = xs.getD i z31 := rfl
theorem in35_ev (rel : List Pair) (a b : Int) (hl : rel.length ≤ 1000000000) : Ev (fun k => semblanceref35_In.f k rel a b) (relS rel a b) := by
 have key : ∀ d i : Nat, i + d = rel.length → ((rel.take i).any fun p => decide (p.f0 = a) && decide (p.f1 = b)) = false → Ev (fun k => semblanceref35_In.l0 k rel a b (i : Int)) (relS rel a b) := by
  intro d
  induction d with
  | zero =>
   intro i h hall
   rw [List.take_of_length_le (by omega)] at hall
   have hr : relS rel a b = false := hall
   rw [hr]
   exact Ev.step (fun k => semblanceref35_In.l0.eq_2 ..) (Ev.neg (by omega) (Ev.now _))
  | succ d ih =>
   intro i h hall
   have hi : i < rel.length := by omega
   have ih' := ih (i + 1) (by omega)
   rw [any_take_snoc z31 _ hi, hall, Bool.false_or] at ih'
   refine Ev.step (fun k => semblanceref35_In.l0.eq_2 ..) (Ev.pos (by omega) (Ev.pos (by omega) ?_))
   rw [rd31, w1n (by omega)]
   obtain ⟨x, hx⟩ : ∃ x, x = rel.getD i z31 := ⟨_, rfl⟩
   rw [← hx] at ih' ⊢
   by_cases h1 : x.f0 = a ∧ x.f1 = b
   ·have hr : relS rel a b = true := by
     unfold relS
     rw [List.any_eq_true]
     exact ⟨x, by rw [hx]; exact getD_mem' _ hi, by simp [h1.1, h1.2]⟩
    rw [hr]
    exact Ev.pos (by simp [h1.1, h1.2]) (Ev.now _)
   ·exact Ev.neg (by simpa using h1) (ih' (by simpa using h1))
 exact key rel.length 0 (by omega) (by simp)
theorem pair_ext {x y : Pair} (h0 : x.f0 = y.f0) (h1 : x.f1 = y.f1) : x = y := by cases x; cases y; simp_all
theorem same35_ev (xs : List Pair) (hl : xs.length ≤ 1000000000) : Ev (fun k => semblanceref35_Same.f k xs xs) true := by
 have key : ∀ d i : Nat, i + d = xs.length → Ev (fun k => semblanceref35_Same.l0 k xs xs (i : Int)) true := by
  intro d
  induction d with
  | zero => exact fun i h => Ev.step (fun k => semblanceref35_Same.l0.eq_2 ..) (Ev.neg (by omega) (Ev.now _))
  | succ d ih =>
   intro i h
   have ih' := ih (i + 1) (by omega)
   refine Ev.step (fun k => semblanceref35_Same.l0.eq_2 ..) (Ev.pos (by omega) (Ev.pos (by omega) (Ev.pos (by omega) (Ev.neg (by simp) ?_))))
   rw [w1n (by omega)]
   exact ih'
 exact Ev.pos rfl (key xs.length 0 (by omega))
end Go.Proofs.Ytmpiokdomjchiaa.H
set_option linter.unusedVariables false
set_option linter.unusedSimpArgs false
namespace Go.Proofs.Ytmpiokdomjchiaa.Sem
open Go.Proofs.Ytmpiokdomjchiaa.Pr Go.Proofs.Ytmpiokdomjchiaa.H
instance : DecidableEq Ed := fun x y => decidable_of_iff (x.f0 = y.f0 ∧ x.f1 = y.f1 ∧ x.f2 = y.f2) (by cases x; cases y; simp)
end Go.Proofs.Ytmpiokdomjchiaa.Sem
set_option linter.unusedVariables false
set_option linter.unusedSimpArgs false
namespace Go.Proofs.Ytmpiokdomjchiaa.H
open Go.RowKit Go.Proofs.Ytmpiokdomjchiaa.Pr Go.Proofs.YtmpiokdomjchiaaW.PrintWords Go.Proofs.Ytmpiokdomjchiaa.Sem
open Go.Maps (Keyed)
section
variable {w w1 : World} {m n : Nat} {S : List Nat → Bool}
end
end Go.Proofs.Ytmpiokdomjchiaa.H
set_option linter.unusedVariables false
set_option linter.unusedSimpArgs false
namespace Go.Proofs.Ytmpiokdomjchiaa.H
open Go.RowKit Go.Proofs.Ytmpiokdomjchiaa.Pr Go.Proofs.YtmpiokdomjchiaaW.PrintWords Go.Proofs.Ytmpiokdomjchiaa.Sem Go.Proofs.YtmpiokdomjchiaaW.PrintLast
end Go.Proofs.Ytmpiokdomjchiaa.H
