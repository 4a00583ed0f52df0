/-
  Parts of the proof of QuotFollows (joined by wip/tools/bundle.py), part 5: plain words and walks of the functions that the law reaches.
-/
import Derived.Test.YtmcbkmfpmcbdpaaZQuotFollows4
namespace Go.Proofs.Ytmcbkmfpmcbdpaa.Pr
open Go.RowKit Go.Proofs.YtmcbkmfpmcbdpaaW.PrintWords Go.Proofs.YtmcbkmfpmcbdpaaW.PrintLast Go.Proofs.YtmcbkmfpmcbdpaaW.PrintMore
attribute [local go_sem] max2_int min2_int max_two min_two max_three min_three max_four min_four
set_option linter.unusedVariables false
set_option linter.unusedSimpArgs false
def Pr01a.l0 : Nat → List ByteArray → List ByteArray → Int → Option (Bool)
 | 0, _, _, _ => none
 | k + 1, x0, x1, x5 => if x5 < (x0.length : Int) then (if 0 ≤ x5 then (if x5 < (x1.length : Int) then (if (rdOf ByteArray.empty x0 x5).toList = (rdOf ByteArray.empty x1 x5).toList then (Pr01a.l0 k x0 x1 (wrap64 (x5 + 1))) else (some false)) else (none)) else (none)) else (some true)
def Pr01a.f (k : Nat) (l0 : List ByteArray) (l1 : List ByteArray) : Option (Bool) := if (l0.length : Int) = (l1.length : Int) then (Pr01a.l0 k l0 l1 0) else (some false)
theorem Pr01a.mono_l : ∀ k, (∀ y0 y1 y2, LeO (Pr01a.l0 k y0 y1 y2) (Pr01a.l0 (k + 1) y0 y1 y2))
 | 0 => fun _ _ _ r h => by simp [Pr01a.l0] at h
 | k + 1 => by
  have ih0 := Pr01a.mono_l k
  ·intro y0 y1 y2
   unfold Pr01a.l0
   repeat' first
   | (with_reducible exact ih0 _ _ _)
   | (with_reducible exact LeO.refl _)
   | (with_reducible exact LeO.none _)
   | (with_reducible refine LeO.ite ?_ ?_)
   | (with_reducible refine LeO.bind ?_ (fun _ => ?_))
   | exact ih0 _ _ _
   | exact LeO.none _
   | refine LeO.ite ?_ ?_
   | refine LeO.bind ?_ (fun _ => ?_)
theorem Pr01a.mono : ∀ a0 a1 k, LeO (Pr01a.f k a0 a1) (Pr01a.f (k + 1) a0 a1) := by
 intro a0 a1 k
 have ih0 := Pr01a.mono_l k
 unfold Pr01a.f
 repeat' first
   | (with_reducible exact ih0 _ _ _)
   | (with_reducible exact LeO.refl _)
   | (with_reducible exact LeO.none _)
   | (with_reducible refine LeO.ite ?_ ?_)
   | (with_reducible refine LeO.bind ?_ (fun _ => ?_))
   | exact ih0 _ _ _
   | exact LeO.none _
   | refine LeO.ite ?_ ?_
   | refine LeO.bind ?_ (fun _ => ?_)
set_option maxHeartbeats 8000000 in
set_option maxRecDepth 100000 in
theorem Pr01a.calls (k : Nat) (A0 : Option Addr) (c0 : Nat) (l0 : List ByteArray) (A1 : Option Addr) (c1 : Nat) (l1 : List ByteArray) (r : Bool) (w : World) (hr0 : Kd.C Kd.string w A0 l0.length l0) (hc0 : l0.length ≤ c0) (hr1 : Kd.C Kd.string w A1 l1.length l1) (hc1 : l1.length ≤ c1) (h : Pr01a.f k l0 l1 = some r) :
  Calls Try.prog 28 #[.slice A0 l0.length c0, .slice A1 l1.length c1] w fun e w' => e = .returned (.bool r) ∧ Drawn0 w w' := by
 have b3 := Aside0.mk hr0;have b5 := Aside0.mk hc0;clear hr0 hc0;have b1 := Aside0.mk hr1;have b4 := Aside0.mk hc1;clear hr1 hc1;have H : (if (l0.length : Int) = (l1.length : Int) then (Pr01a.l0 k l0 l1 0) else (some false)) = some r := h;clear h;by_cases c3 : (l0.length : Int) = (l1.length : Int)
 ·rw [if_pos c3] at H;have c3b0 : ((l0.length : Int) == (l1.length : Int)) = true := beq_iff_eq.mpr c3;have c3b1 : ((l0.length : Int) != (l1.length : Int)) = false := bne_eq_false_iff_eq.mpr c3;have c3b2 : (l0.length == l1.length) = true := by first | simpa using c3 | (simp at c3 ⊢; omega)
  clear c3;have H' := Aside0.mk H;clear H;go_enter Try.func28, Try.ntmps28
  go_wp2
  repeat (go_quiet (fail); try go_wp2)
  go_loopg [5] k (fun kq v5 w' => ∃ (a0 : Int), v5 = .int .i64 a0 ∧ Aside0 (Pr01a.l0 kq l0 l1 a0 = some r) ∧ Aside0 (kq ≤ k) ∧ Drawn0 w w')
  case atStart => exact ⟨(0), (by first | rfl | (simp; done) | (simp [*]; done)), H', ⟨Nat.le_refl _⟩, by repeat (first | exact Drawn0.refl _ | apply Drawn0.step)⟩
  case round =>
   clear H';(try clear c1);(try clear c3);(try clear c3b0);(try clear c3b1);(try clear c3b2);obtain ⟨a0, rfl, HA, b2, ⟨m1, rfl⟩⟩ := hrel
   cases gk with
   | zero => exact absurd HA.out (by simp [Pr01a.l0])
   | succ k1 =>
    have H := HA.out;clear HA;simp only [Pr01a.l0] at H;by_cases c4 : a0 < (l0.length : Int)
    ·rw [if_pos c4] at H;have c4b0 : decide (a0 < (l0.length : Int)) = true := decide_eq_true c4;clear c4;by_cases c5 : 0 ≤ a0
     ·rw [if_pos c5] at H;have c5b0 : decide (0 ≤ a0) = true := decide_eq_true c5;clear c5;by_cases c6 : a0 < (l1.length : Int)
      ·rw [if_pos c6] at H;have c6b0 : decide (a0 < (l1.length : Int)) = true := decide_eq_true c6;clear c6;by_cases c7 : (rdOf ByteArray.empty l0 a0).toList = (rdOf ByteArray.empty l1 a0).toList
       ·rw [if_pos c7] at H;have c7b0 : ((rdOf ByteArray.empty l0 a0).toList == (rdOf ByteArray.empty l1 a0).toList) = true := beq_iff_eq.mpr c7;have c7b1 : ((rdOf ByteArray.empty l0 a0).toList != (rdOf ByteArray.empty l1 a0).toList) = false := bne_eq_false_iff_eq.mpr c7;clear c7;have H' := Aside0.mk H;clear H;have a3 : 0 ≤ (a0 : Int) := of_decide_eq_true (by first | (with_reducible assumption) | assumption);have a1 : a0 < (l0.length : Int) := of_decide_eq_true (by first | (with_reducible assumption) | assumption);obtain ⟨a9, a6, a8⟩ := Kd.at_string b3.out a0 a3 a1
        cases a6;replace a3 := eq_true a3;replace a1 := eq_true a1;have a4 : 0 ≤ (a0 : Int) := of_decide_eq_true (by first | (with_reducible assumption) | assumption);have a2 : a0 < (l1.length : Int) := of_decide_eq_true (by first | (with_reducible assumption) | assumption);obtain ⟨b0, a5, a7⟩ := Kd.at_string b1.out a0 a4 a2
        cases a5;replace a4 := eq_true a4;replace a2 := eq_true a2;go_wp2
        repeat (go_quiet (fail); try go_wp2)
        go_roundg k1
        case measure => have := b2.out; omega
        case rel => exact ⟨(wrap64 (a0 + 1)), (by first | rfl | (simp; done) | (simp [*]; done)), H', ⟨by have := b2.out; omega⟩, by repeat (first | exact Drawn0.refl _ | apply Drawn0.step)⟩
       ·rw [if_neg c7] at H;have c7b0 : ((rdOf ByteArray.empty l0 a0).toList == (rdOf ByteArray.empty l1 a0).toList) = false := beq_eq_false_iff_ne.mpr c7;have c7b1 : ((rdOf ByteArray.empty l0 a0).toList != (rdOf ByteArray.empty l1 a0).toList) = true := bne_iff_ne.mpr c7;obtain rfl := Option.some.inj H;have a3 : 0 ≤ (a0 : Int) := of_decide_eq_true (by first | (with_reducible assumption) | assumption);have a1 : a0 < (l0.length : Int) := of_decide_eq_true (by first | (with_reducible assumption) | assumption);obtain ⟨a9, a6, a8⟩ := Kd.at_string b3.out a0 a3 a1
        cases a6;replace a3 := eq_true a3;replace a1 := eq_true a1;have a4 : 0 ≤ (a0 : Int) := of_decide_eq_true (by first | (with_reducible assumption) | assumption);have a2 : a0 < (l1.length : Int) := of_decide_eq_true (by first | (with_reducible assumption) | assumption);obtain ⟨b0, a5, a7⟩ := Kd.at_string b1.out a0 a4 a2
        cases a5;replace a4 := eq_true a4;replace a2 := eq_true a2;go_wp2
        repeat (go_quiet (fail); try go_wp2)
        go_ret
        exact ⟨by first | rfl | (simp; done) | (simp [*]; done), by repeat (first | exact Drawn0.refl _ | apply Drawn0.step)⟩
      ·rw [if_neg c6] at H;exact absurd H (by simp)
     ·rw [if_neg c5] at H;exact absurd H (by simp)
    ·rw [if_neg c4] at H;have c4b0 : decide (a0 < (l0.length : Int)) = false := decide_eq_false c4;clear c4;obtain rfl := Option.some.inj H;go_wp2
     repeat (go_quiet (fail); try go_wp2)
     go_ret
     exact ⟨by first | rfl | (simp; done) | (simp [*]; done), by repeat (first | exact Drawn0.refl _ | apply Drawn0.step)⟩
 ·rw [if_neg c3] at H;have c3b0 : ((l0.length : Int) == (l1.length : Int)) = false := beq_eq_false_iff_ne.mpr c3;have c3b1 : ((l0.length : Int) != (l1.length : Int)) = true := bne_iff_ne.mpr c3;have c3b2 : (l0.length == l1.length) = false := by first | simpa using c3 | (simp at c3 ⊢; omega)
  obtain rfl := Option.some.inj H;go_enter Try.func28, Try.ntmps28
  go_wp2
  repeat (go_quiet (fail); try go_wp2)
  go_ret
  exact ⟨by first | rfl | (simp; done) | (simp [*]; done), by repeat (first | exact Drawn0.refl _ | apply Drawn0.step)⟩
attribute [local go_sem high] eqA80
mutual
def Pr26b.j0 : Nat → Bool → Int → List ByteArray → List (S80) → Int → List ByteArray → List (S80) → Option (Bool)
 | 0, _, _, _, _, _, _, _ => none
 | k + 1, x27, x258000, x258001, x258002, x259000, x259001, x259002 => if x27 = true then (some false) else (Pr26b.l0 k 0 x258000 x258001 x258002 x259000 x259001 x259002)
def Pr26b.l0 : Nat → Int → Int → List ByteArray → List (S80) → Int → List ByteArray → List (S80) → Option (Bool)
 | 0, _, _, _, _, _, _, _ => none
 | k + 1, x5, x258000, x258001, x258002, x259000, x259001, x259002 => if x5 < (x258002.length : Int) then (if 0 ≤ x5 then (if x5 < (x259002.length : Int) then (if (!(((rd_T80 x258002 x5).f0) == ((rd_T80 x259002 x5).f0)) || (!(((rd_T80 x258002 x5).f1) == ((rd_T80 x259002 x5).f1)) || (!(((rd_T80 x258002 x5).f2) == ((rd_T80 x259002 x5).f2))))) = true then (some false) else (Pr26b.l0 k (wrap64 (x5 + 1)) x258000 x258001 x258002 x259000 x259001 x259002)) else (none)) else (none)) else (some true)
end
def Pr26b.f (k : Nat) (a0_0 : Int) (l0_1 : List ByteArray) (l0_2 : List (S80)) (a1_0 : Int) (l1_1 : List ByteArray) (l1_2 : List (S80)) : Option (Bool) := if a0_0 = a1_0 then ((Pr01a.f k l0_1 l1_1).bind fun t259 => (if t259 = true then (Pr26b.j0 k ((l0_2.length : Int) != (l1_2.length : Int)) a0_0 l0_1 l0_2 a1_0 l1_1 l1_2) else (Pr26b.j0 k true a0_0 l0_1 l0_2 a1_0 l1_1 l1_2))) else (Pr26b.j0 k true a0_0 l0_1 l0_2 a1_0 l1_1 l1_2)
theorem Pr26b.mono_l : ∀ k, (∀ y0 y1 y2 y3 y4 y5 y6, LeO (Pr26b.j0 k y0 y1 y2 y3 y4 y5 y6) (Pr26b.j0 (k + 1) y0 y1 y2 y3 y4 y5 y6)) ∧ (∀ y0 y1 y2 y3 y4 y5 y6, LeO (Pr26b.l0 k y0 y1 y2 y3 y4 y5 y6) (Pr26b.l0 (k + 1) y0 y1 y2 y3 y4 y5 y6))
 | 0 => ⟨fun _ _ _ _ _ _ _ r h => by simp [Pr26b.j0] at h, fun _ _ _ _ _ _ _ r h => by simp [Pr26b.l0] at h⟩
 | k + 1 => by
  obtain ⟨ih0, ih1⟩ := Pr26b.mono_l k
  refine ⟨?_, ?_⟩
  ·intro y0 y1 y2 y3 y4 y5 y6
   unfold Pr26b.j0
   repeat' first
   | (with_reducible exact ih0 _ _ _ _ _ _ _)
   | (with_reducible exact ih1 _ _ _ _ _ _ _)
   | (with_reducible exact Pr01a.mono _ _ _)
   | (with_reducible exact LeO.refl _)
   | (with_reducible exact LeO.none _)
   | (with_reducible refine LeO.ite ?_ ?_)
   | (with_reducible refine LeO.bind ?_ (fun _ => ?_))
   | exact ih0 _ _ _ _ _ _ _
   | exact ih1 _ _ _ _ _ _ _
   | exact Pr01a.mono _ _ _
   | exact LeO.none _
   | refine LeO.ite ?_ ?_
   | refine LeO.bind ?_ (fun _ => ?_)
  ·intro y0 y1 y2 y3 y4 y5 y6
   unfold Pr26b.l0
   repeat' first
   | (with_reducible exact ih0 _ _ _ _ _ _ _)
   | (with_reducible exact ih1 _ _ _ _ _ _ _)
   | (with_reducible exact Pr01a.mono _ _ _)
   | (with_reducible exact LeO.refl _)
   | (with_reducible exact LeO.none _)
   | (with_reducible refine LeO.ite ?_ ?_)
   | (with_reducible refine LeO.bind ?_ (fun _ => ?_))
   | exact ih0 _ _ _ _ _ _ _
   | exact ih1 _ _ _ _ _ _ _
   | exact Pr01a.mono _ _ _
   | exact LeO.none _
   | refine LeO.ite ?_ ?_
   | refine LeO.bind ?_ (fun _ => ?_)
theorem Pr26b.mono : ∀ a0 a1 a2 a3 a4 a5 k, LeO (Pr26b.f k a0 a1 a2 a3 a4 a5) (Pr26b.f (k + 1) a0 a1 a2 a3 a4 a5) := by
 intro a0 a1 a2 a3 a4 a5 k
 obtain ⟨ih0, ih1⟩ := Pr26b.mono_l k
 unfold Pr26b.f
 repeat' first
   | (with_reducible exact ih0 _ _ _ _ _ _ _)
   | (with_reducible exact ih1 _ _ _ _ _ _ _)
   | (with_reducible exact Pr01a.mono _ _ _)
   | (with_reducible exact LeO.refl _)
   | (with_reducible exact LeO.none _)
   | (with_reducible refine LeO.ite ?_ ?_)
   | (with_reducible refine LeO.bind ?_ (fun _ => ?_))
   | exact ih0 _ _ _ _ _ _ _
   | exact ih1 _ _ _ _ _ _ _
   | exact Pr01a.mono _ _ _
   | exact LeO.none _
   | refine LeO.ite ?_ ?_
   | refine LeO.bind ?_ (fun _ => ?_)
set_option maxHeartbeats 8000000 in
set_option maxRecDepth 100000 in
theorem Pr26b.calls (k : Nat) (a0_0 : Int) (A0_1 : Option Addr) (c0_1 : Nat) (l0_1 : List ByteArray) (A0_2 : Option Addr) (c0_2 : Nat) (l0_2 : List (S80)) (a1_0 : Int) (A1_1 : Option Addr) (c1_1 : Nat) (l1_1 : List ByteArray) (A1_2 : Option Addr) (c1_2 : Nat) (l1_2 : List (S80)) (r : Bool) (w : World) (hr0_1 : Kd.C Kd.string w A0_1 l0_1.length l0_1) (hc0_1 : l0_1.length ≤ c0_1) (hr0_2 : Kd.C k80 w A0_2 l0_2.length l0_2) (hc0_2 : l0_2.length ≤ c0_2) (hr1_1 : Kd.C Kd.string w A1_1 l1_1.length l1_1) (hc1_1 : l1_1.length ≤ c1_1) (hr1_2 : Kd.C k80 w A1_2 l1_2.length l1_2) (hc1_2 : l1_2.length ≤ c1_2) (h : Pr26b.f k a0_0 l0_1 l0_2 a1_0 l1_1 l1_2 = some r) :
  Calls Try.prog 44 #[.agg #[.int .i64 a0_0, .slice A0_1 l0_1.length c0_1, .slice A0_2 l0_2.length c0_2], .agg #[.int .i64 a1_0, .slice A1_1 l1_1.length c1_1, .slice A1_2 l1_2.length c1_2]] w fun e w' => e = .returned (.bool r) ∧ Below w.heap.size w w' := by
 have p4 := Try.underlying25;have p3 := Try.underlying80;have b8 := Aside0.mk hr0_1;have d0 := Aside0.mk hc0_1;clear hr0_1 hc0_1;have j4 := Aside0.mk hr0_2;have p1 := Aside0.mk hc0_2;clear hr0_2 hc0_2;have b9 := Aside0.mk hr1_1;have b7 := Aside0.mk hc1_1;clear hr1_1 hc1_1;have j2 := Aside0.mk hr1_2;have o4 := Aside0.mk hc1_2;clear hr1_2 hc1_2;have HB := Aside0.mk (Below.refl w.heap.size w);have H : (if a0_0 = a1_0 then ((Pr01a.f k l0_1 l1_1).bind fun i4 => (if i4 = true then (Pr26b.j0 k ((l0_2.length : Int) != (l1_2.length : Int)) a0_0 l0_1 l0_2 a1_0 l1_1 l1_2) else (Pr26b.j0 k true a0_0 l0_1 l0_2 a1_0 l1_1 l1_2))) else (Pr26b.j0 k true a0_0 l0_1 l0_2 a1_0 l1_1 l1_2)) = some r := h;clear h;have j9 := Aside0.mk H;clear H;go_enter Try.func44, Try.ntmps44
 go_upto_region 1 with (first | ((with_reducible refine gate_dst (N := 2) rfl ?_); (try (refine gate_guard (by rfl) ?_; dsimp only)); refine box_event ?hg (N := 2) ?hd (cs := #[.int .i64 a0_0, .slice A0_1 l0_1.length c0_1, .slice A0_2 l0_2.length c0_2]) (t := 25) ?hr ?_; (case hd => rfl); (case hg => rfl); (case hr => first | (go_simp; done) | (go_simp; rfl)); intro a1 hg w4 hbox hb; have b4 := Aside0.mk (below_step (wz HB.out) hb); have b3 := Aside0.mk (hbox); have b6 := Aside0.mk ((by rw [hg]; exact (below_size (wz HB.out)) : w.heap.size ≤ a1)); have b5 := Aside0.mk ((by rw [hg]; exact (below_size (wz HB.out)) : w.heap.size ≤ a1)); clear HB; have HB := b4; have a0 := b3; have i9 := b6; have j5 := b5; clear b4 b3 b6 b5 hb hbox hg) | ((with_reducible refine gate_dst (N := 3) rfl ?_); (try (refine gate_guard (by rfl) ?_; dsimp only)); refine box_event ?hg (N := 3) ?hd (cs := #[.int .i64 a1_0, .slice A1_1 l1_1.length c1_1, .slice A1_2 l1_2.length c1_2]) (t := 25) ?hr ?_; (case hd => rfl); (case hg => rfl); (case hr => first | (go_simp; done) | (go_simp; rfl)); intro a4 hg w5 hbox hb; have b4 := Aside0.mk (blk_below (bz a0.out) hb); have b3 := Aside0.mk (below_step (wz HB.out) hb); have b6 := Aside0.mk (hbox); have b5 := Aside0.mk ((by rw [hg]; exact (below_size (wz HB.out)) : w.heap.size ≤ a4)); have e0 := Aside0.mk ((by rw [hg]; exact (below_size (wz HB.out)) : w.heap.size ≤ a4)); have d9 := Aside0.mk ((by rw [hg]; exact Nat.ne_of_lt (blk_lt (g := a1) (o := .cells #[.int .i64 a0_0, .slice A0_1 l0_1.length c0_1, .slice A0_2 l0_2.length c0_2] 25 (0, 0)) (bz a0.out)) : a1 ≠ a4)); have e1 := Aside0.mk ((by rw [hg]; exact Nat.ne_of_gt (blk_lt (g := a1) (o := .cells #[.int .i64 a0_0, .slice A0_1 l0_1.length c0_1, .slice A0_2 l0_2.length c0_2] 25 (0, 0)) (bz a0.out)) : a4 ≠ a1)); clear a0 HB; have a0 := b4; have HB := b3; have a2 := b6; have j6 := b5; have j8 := e0; have a5 := d9; have a6 := e1; clear b4 b3 b6 b5 e0 d9 e1 hb hbox hg))
 repeat (go_quiet (first | ((with_reducible refine gate_dst (N := 2) rfl ?_); (try (refine gate_guard (by rfl) ?_; dsimp only)); refine box_event ?hg (N := 2) ?hd (cs := #[.int .i64 a0_0, .slice A0_1 l0_1.length c0_1, .slice A0_2 l0_2.length c0_2]) (t := 25) ?hr ?_; (case hd => rfl); (case hg => rfl); (case hr => first | (go_simp; done) | (go_simp; rfl)); intro a1 hg w4 hbox hb; have b4 := Aside0.mk (below_step (wz HB.out) hb); have b3 := Aside0.mk (hbox); have b6 := Aside0.mk ((by rw [hg]; exact (below_size (wz HB.out)) : w.heap.size ≤ a1)); have b5 := Aside0.mk ((by rw [hg]; exact (below_size (wz HB.out)) : w.heap.size ≤ a1)); clear HB; have HB := b4; have a0 := b3; have i9 := b6; have j5 := b5; clear b4 b3 b6 b5 hb hbox hg) | ((with_reducible refine gate_dst (N := 3) rfl ?_); (try (refine gate_guard (by rfl) ?_; dsimp only)); refine box_event ?hg (N := 3) ?hd (cs := #[.int .i64 a1_0, .slice A1_1 l1_1.length c1_1, .slice A1_2 l1_2.length c1_2]) (t := 25) ?hr ?_; (case hd => rfl); (case hg => rfl); (case hr => first | (go_simp; done) | (go_simp; rfl)); intro a4 hg w5 hbox hb; have b4 := Aside0.mk (blk_below (bz a0.out) hb); have b3 := Aside0.mk (below_step (wz HB.out) hb); have b6 := Aside0.mk (hbox); have b5 := Aside0.mk ((by rw [hg]; exact (below_size (wz HB.out)) : w.heap.size ≤ a4)); have e0 := Aside0.mk ((by rw [hg]; exact (below_size (wz HB.out)) : w.heap.size ≤ a4)); have d9 := Aside0.mk ((by rw [hg]; exact Nat.ne_of_lt (blk_lt (g := a1) (o := .cells #[.int .i64 a0_0, .slice A0_1 l0_1.length c0_1, .slice A0_2 l0_2.length c0_2] 25 (0, 0)) (bz a0.out)) : a1 ≠ a4)); have e1 := Aside0.mk ((by rw [hg]; exact Nat.ne_of_gt (blk_lt (g := a1) (o := .cells #[.int .i64 a0_0, .slice A0_1 l0_1.length c0_1, .slice A0_2 l0_2.length c0_2] 25 (0, 0)) (bz a0.out)) : a4 ≠ a1)); clear a0 HB; have a0 := b4; have HB := b3; have a2 := b6; have j6 := b5; have j8 := e0; have a5 := d9; have a6 := e1; clear b4 b3 b6 b5 e0 d9 e1 hb hbox hg)); go_upto_region 1 with (first | ((with_reducible refine gate_dst (N := 2) rfl ?_); (try (refine gate_guard (by rfl) ?_; dsimp only)); refine box_event ?hg (N := 2) ?hd (cs := #[.int .i64 a0_0, .slice A0_1 l0_1.length c0_1, .slice A0_2 l0_2.length c0_2]) (t := 25) ?hr ?_; (case hd => rfl); (case hg => rfl); (case hr => first | (go_simp; done) | (go_simp; rfl)); intro a1 hg w4 hbox hb; have b4 := Aside0.mk (below_step (wz HB.out) hb); have b3 := Aside0.mk (hbox); have b6 := Aside0.mk ((by rw [hg]; exact (below_size (wz HB.out)) : w.heap.size ≤ a1)); have b5 := Aside0.mk ((by rw [hg]; exact (below_size (wz HB.out)) : w.heap.size ≤ a1)); clear HB; have HB := b4; have a0 := b3; have i9 := b6; have j5 := b5; clear b4 b3 b6 b5 hb hbox hg) | ((with_reducible refine gate_dst (N := 3) rfl ?_); (try (refine gate_guard (by rfl) ?_; dsimp only)); refine box_event ?hg (N := 3) ?hd (cs := #[.int .i64 a1_0, .slice A1_1 l1_1.length c1_1, .slice A1_2 l1_2.length c1_2]) (t := 25) ?hr ?_; (case hd => rfl); (case hg => rfl); (case hr => first | (go_simp; done) | (go_simp; rfl)); intro a4 hg w5 hbox hb; have b4 := Aside0.mk (blk_below (bz a0.out) hb); have b3 := Aside0.mk (below_step (wz HB.out) hb); have b6 := Aside0.mk (hbox); have b5 := Aside0.mk ((by rw [hg]; exact (below_size (wz HB.out)) : w.heap.size ≤ a4)); have e0 := Aside0.mk ((by rw [hg]; exact (below_size (wz HB.out)) : w.heap.size ≤ a4)); have d9 := Aside0.mk ((by rw [hg]; exact Nat.ne_of_lt (blk_lt (g := a1) (o := .cells #[.int .i64 a0_0, .slice A0_1 l0_1.length c0_1, .slice A0_2 l0_2.length c0_2] 25 (0, 0)) (bz a0.out)) : a1 ≠ a4)); have e1 := Aside0.mk ((by rw [hg]; exact Nat.ne_of_gt (blk_lt (g := a1) (o := .cells #[.int .i64 a0_0, .slice A0_1 l0_1.length c0_1, .slice A0_2 l0_2.length c0_2] 25 (0, 0)) (bz a0.out)) : a4 ≠ a1)); clear a0 HB; have a0 := b4; have HB := b3; have a2 := b6; have j6 := b5; have j8 := e0; have a5 := d9; have a6 := e1; clear b4 b3 b6 b5 e0 d9 e1 hb hbox hg)))
 (try simp only [Act.put, qz1, qz2, qz3])
 go_cut [27] (fun n9 wc => ∃ (kq : Nat) (e2 : Bool), n9 = .bool e2 ∧ Aside0 (Pr26b.j0 kq e2 a0_0 l0_1 l0_2 a1_0 l1_1 l1_2 = some r) ∧ Aside0 (kq ≤ k) ∧ Aside0 (wc.heap[a1]? = some (.cells #[.int .i64 a0_0, (.slice A0_1 l0_1.length c0_1), (.slice A0_2 l0_2.length c0_2)] 25 (0, 0))) ∧ Aside0 (wc.heap[a4]? = some (.cells #[.int .i64 a1_0, (.slice A1_1 l1_1.length c1_1), (.slice A1_2 l1_2.length c1_2)] 25 (0, 0))) ∧ Aside0 (Below w.heap.size w wc))
 case first =>
  have H := j9.out;clear j9;by_cases c6 : a0_0 = a1_0
  ·rw [if_pos c6] at H;have c6b0 : (a0_0 == a1_0) = true := beq_iff_eq.mpr c6;have c6b1 : (a0_0 != a1_0) = false := bne_eq_false_iff_eq.mpr c6;clear c6
   (first | rw [c6b0] | (simp only [i64_w, i32_w]; rw [c6b0]) | skip)
   replace H := Option.bind_eq_some_iff.mp H;obtain ⟨i4, k5, H⟩ := H;replace H : (if i4 = true then (Pr26b.j0 k ((l0_2.length : Int) != (l1_2.length : Int)) a0_0 l0_1 l0_2 a1_0 l1_1 l1_2) else (Pr26b.j0 k true a0_0 l0_1 l0_2 a1_0 l1_1 l1_2)) = some r := H;have A7 := Aside0.mk k5;clear k5;by_cases c8 : i4 = true
   ·subst c8;have H1 : (Pr26b.j0 k ((l0_2.length : Int) != (l1_2.length : Int)) a0_0 l0_1 l0_2 a1_0 l1_1 l1_2) = some r := by rw [if_pos rfl] at H; exact H
    clear H;have H := H1;clear H1;have H' := Aside0.mk H;clear H;have p5 := a5.out;have p2 := a6.out;have i3 : w5.cell? ⟨a1, 0, none⟩ = some (.int .i64 a0_0) := bcz a0 0 rfl;have h9 : w5.cell? ⟨a1, 1, none⟩ = some (.slice A0_1 l0_1.length c0_1) := bcz a0 1 rfl;have h5 : w5.cell? ⟨a1, 2, none⟩ = some (.slice A0_2 l0_2.length c0_2) := bcz a0 2 rfl;have g5 := blk_frozen a0.out 0;have e4 := blk_frozen a0.out 1;have f7 := blk_frozen a0.out 2;have h8 : w5.cell? ⟨a4, 0, none⟩ = some (.int .i64 a1_0) := bcz a2 0 rfl;have f4 : w5.cell? ⟨a4, 1, none⟩ = some (.slice A1_1 l1_1.length c1_1) := bcz a2 1 rfl;have e3 : w5.cell? ⟨a4, 2, none⟩ = some (.slice A1_2 l1_2.length c1_2) := bcz a2 2 rfl;have g3 := blk_frozen a2.out 0;have h1 := blk_frozen a2.out 1;have g8 := blk_frozen a2.out 2;go_wp2_with (first | (go_at_call 28; (with_reducible refine (Pr01a.calls k _ _ l0_1 _ _ l1_1 true _ ?d7 ?d8 ?d6 ?d5 A7.out).mono ?_); (case d7 => exact cz b8.out HB.out); (case d8 => exact d0.out); (case d6 => exact cz b9.out HB.out); (case d5 => exact b7.out); rintro e w' ⟨rfl, ⟨nd, rfl⟩⟩; (try first | exact ⟨rfl, _, World.drewN_drewN _ _ _⟩ | exact ⟨rfl, _, Eq.trans (World.drewN_drewN _ _ _) (congrArg (World.drewN _) (Nat.add_assoc _ _ _))⟩)))
    repeat (go_quiet (first | (go_at_call 28; (with_reducible refine (Pr01a.calls k _ _ l0_1 _ _ l1_1 true _ ?d7 ?d8 ?d6 ?d5 A7.out).mono ?_); (case d7 => exact cz b8.out HB.out); (case d8 => exact d0.out); (case d6 => exact cz b9.out HB.out); (case d5 => exact b7.out); rintro e w' ⟨rfl, ⟨nd, rfl⟩⟩; (try first | exact ⟨rfl, _, World.drewN_drewN _ _ _⟩ | exact ⟨rfl, _, Eq.trans (World.drewN_drewN _ _ _) (congrArg (World.drewN _) (Nat.add_assoc _ _ _))⟩))); try go_wp2_with (first | (go_at_call 28; (with_reducible refine (Pr01a.calls k _ _ l0_1 _ _ l1_1 true _ ?d7 ?d8 ?d6 ?d5 A7.out).mono ?_); (case d7 => exact cz b8.out HB.out); (case d8 => exact d0.out); (case d6 => exact cz b9.out HB.out); (case d5 => exact b7.out); rintro e w' ⟨rfl, ⟨nd, rfl⟩⟩; (try first | exact ⟨rfl, _, World.drewN_drewN _ _ _⟩ | exact ⟨rfl, _, Eq.trans (World.drewN_drewN _ _ _) (congrArg (World.drewN _) (Nat.add_assoc _ _ _))⟩))))
    go_meet
    case rel => exact ⟨_, (((l0_2.length : Int) != (l1_2.length : Int))), (by first | rfl | (simp; done) | (simp [*]; done)), H', ⟨by first | omega | exact Nat.le_refl _⟩, ⟨bz a0.out⟩, ⟨bz a2.out⟩, ⟨wz HB.out⟩⟩
   ·replace c8 := Bool.eq_false_iff.mpr c8;subst c8;have H1 : (Pr26b.j0 k true a0_0 l0_1 l0_2 a1_0 l1_1 l1_2) = some r := by rw [if_neg (show ¬ (false = true) by decide)] at H; exact H
    clear H;have H := H1;clear H1;have H' := Aside0.mk H;clear H;have o6 := a5.out;have o5 := a6.out;have h0 : w5.cell? ⟨a1, 0, none⟩ = some (.int .i64 a0_0) := bcz a0 0 rfl;have e9 : w5.cell? ⟨a1, 1, none⟩ = some (.slice A0_1 l0_1.length c0_1) := bcz a0 1 rfl;have g2 : w5.cell? ⟨a1, 2, none⟩ = some (.slice A0_2 l0_2.length c0_2) := bcz a0 2 rfl;have h6 := blk_frozen a0.out 0;have e5 := blk_frozen a0.out 1;have f5 := blk_frozen a0.out 2;have f3 : w5.cell? ⟨a4, 0, none⟩ = some (.int .i64 a1_0) := bcz a2 0 rfl;have e6 : w5.cell? ⟨a4, 1, none⟩ = some (.slice A1_1 l1_1.length c1_1) := bcz a2 1 rfl;have f8 : w5.cell? ⟨a4, 2, none⟩ = some (.slice A1_2 l1_2.length c1_2) := bcz a2 2 rfl;have g9 := blk_frozen a2.out 0;have g4 := blk_frozen a2.out 1;have h4 := blk_frozen a2.out 2;go_wp2_with (first | (go_at_call 28; (with_reducible refine (Pr01a.calls k _ _ l0_1 _ _ l1_1 false _ ?d7 ?d8 ?d6 ?d5 A7.out).mono ?_); (case d7 => exact cz b8.out HB.out); (case d8 => exact d0.out); (case d6 => exact cz b9.out HB.out); (case d5 => exact b7.out); rintro e w' ⟨rfl, ⟨nd, rfl⟩⟩; (try first | exact ⟨rfl, _, World.drewN_drewN _ _ _⟩ | exact ⟨rfl, _, Eq.trans (World.drewN_drewN _ _ _) (congrArg (World.drewN _) (Nat.add_assoc _ _ _))⟩)))
    repeat (go_quiet (first | (go_at_call 28; (with_reducible refine (Pr01a.calls k _ _ l0_1 _ _ l1_1 false _ ?d7 ?d8 ?d6 ?d5 A7.out).mono ?_); (case d7 => exact cz b8.out HB.out); (case d8 => exact d0.out); (case d6 => exact cz b9.out HB.out); (case d5 => exact b7.out); rintro e w' ⟨rfl, ⟨nd, rfl⟩⟩; (try first | exact ⟨rfl, _, World.drewN_drewN _ _ _⟩ | exact ⟨rfl, _, Eq.trans (World.drewN_drewN _ _ _) (congrArg (World.drewN _) (Nat.add_assoc _ _ _))⟩))); try go_wp2_with (first | (go_at_call 28; (with_reducible refine (Pr01a.calls k _ _ l0_1 _ _ l1_1 false _ ?d7 ?d8 ?d6 ?d5 A7.out).mono ?_); (case d7 => exact cz b8.out HB.out); (case d8 => exact d0.out); (case d6 => exact cz b9.out HB.out); (case d5 => exact b7.out); rintro e w' ⟨rfl, ⟨nd, rfl⟩⟩; (try first | exact ⟨rfl, _, World.drewN_drewN _ _ _⟩ | exact ⟨rfl, _, Eq.trans (World.drewN_drewN _ _ _) (congrArg (World.drewN _) (Nat.add_assoc _ _ _))⟩))))
    go_meet
    case rel => exact ⟨_, (true), (by first | rfl | (simp; done) | (simp [*]; done)), H', ⟨by first | omega | exact Nat.le_refl _⟩, ⟨bz a0.out⟩, ⟨bz a2.out⟩, ⟨wz HB.out⟩⟩
  ·rw [if_neg c6] at H;have c6b0 : (a0_0 == a1_0) = false := beq_eq_false_iff_ne.mpr c6;have c6b1 : (a0_0 != a1_0) = true := bne_iff_ne.mpr c6
   (first | rw [c6b0] | (simp only [i64_w, i32_w]; rw [c6b0]) | skip)
   have H' := Aside0.mk H;clear H;have o3 := a5.out;have o8 := a6.out;have f9 : w5.cell? ⟨a1, 0, none⟩ = some (.int .i64 a0_0) := bcz a0 0 rfl;have e7 : w5.cell? ⟨a1, 1, none⟩ = some (.slice A0_1 l0_1.length c0_1) := bcz a0 1 rfl;have i2 : w5.cell? ⟨a1, 2, none⟩ = some (.slice A0_2 l0_2.length c0_2) := bcz a0 2 rfl;have g7 := blk_frozen a0.out 0;have g6 := blk_frozen a0.out 1;have h3 := blk_frozen a0.out 2;have e8 : w5.cell? ⟨a4, 0, none⟩ = some (.int .i64 a1_0) := bcz a2 0 rfl;have h7 : w5.cell? ⟨a4, 1, none⟩ = some (.slice A1_1 l1_1.length c1_1) := bcz a2 1 rfl;have g1 : w5.cell? ⟨a4, 2, none⟩ = some (.slice A1_2 l1_2.length c1_2) := bcz a2 2 rfl;have h2 := blk_frozen a2.out 0;have i1 := blk_frozen a2.out 1;have f6 := blk_frozen a2.out 2;go_wp2
   repeat (go_quiet (fail); try go_wp2)
   go_meet
   case rel => exact ⟨_, (true), (by first | rfl | (simp; done) | (simp [*]; done)), H', ⟨by first | omega | exact Nat.le_refl _⟩, ⟨bz a0.out⟩, ⟨bz a2.out⟩, ⟨wz HB.out⟩⟩
 case rest =>
  clear j9;(try clear c6);(try clear c6b0);(try clear c6b1);(try clear c8);(try clear i3);(try clear h9);(try clear h5);(try clear h8);(try clear f4);(try clear e3);(try clear h0);(try clear e9);(try clear g2);(try clear f3);(try clear e6);(try clear f8);(try clear f9);(try clear e7);(try clear i2);(try clear e8);(try clear h7);(try clear g1);(try clear g5);(try clear e4);(try clear f7);(try clear g3);(try clear h1);(try clear g8);(try clear h6);(try clear e5);(try clear f5);(try clear g9);(try clear g4);(try clear h4);(try clear g7);(try clear g6);(try clear h3);(try clear h2);(try clear i1);(try clear f6);obtain ⟨kq, e2, rfl, HA, k3, a0, a2, HB⟩ := hcut
  cases kq with
  | zero => exact absurd HA.out (by simp [Pr26b.j0])
  | succ kj2 =>
   have H := HA.out;clear HA;simp only [Pr26b.j0] at H;by_cases i5 : e2 = true
   ·subst i5;have H1 : (some false) = some r := by rw [if_pos rfl] at H; exact H
    clear H;have H := H1;clear H1;obtain rfl := Option.some.inj H;go_wp2
    repeat (go_quiet (fail); try go_wp2)
    go_ret
    exact ⟨by first | rfl | (simp [errW_none, errW_some] <;> rfl) | (simp [*, errW_none, errW_some] <;> rfl), wz HB.out⟩
   ·replace i5 := Bool.eq_false_iff.mpr i5;subst i5;have H1 : (Pr26b.l0 kj2 0 a0_0 l0_1 l0_2 a1_0 l1_1 l1_2) = some r := by rw [if_neg (show ¬ (false = true) by decide)] at H; exact H
    clear H;have H := H1;clear H1;have H' := Aside0.mk H;clear H;go_wp2
    repeat (go_quiet (fail); try go_wp2)
    go_loopg [5] kj2 (fun kq v5 w' => ∃ (a3 : Int), v5 = .int .i64 a3 ∧ Aside0 (Pr26b.l0 kq a3 a0_0 l0_1 l0_2 a1_0 l1_1 l1_2 = some r) ∧ Aside0 (kq ≤ kj2) ∧ Aside0 (w'.heap[a1]? = some (.cells #[.int .i64 a0_0, (.slice A0_1 l0_1.length c0_1), (.slice A0_2 l0_2.length c0_2)] 25 (0, 0))) ∧ Aside0 (w'.heap[a4]? = some (.cells #[.int .i64 a1_0, (.slice A1_1 l1_1.length c1_1), (.slice A1_2 l1_2.length c1_2)] 25 (0, 0))) ∧ Aside0 (Below w.heap.size w w'))
    case atStart => exact ⟨(0), (by first | rfl | (simp; done) | (simp [*]; done)), H', ⟨Nat.le_refl _⟩, ⟨bz a0.out⟩, ⟨bz a2.out⟩, ⟨wz HB.out⟩⟩
    case round =>
     clear H';(try clear c6);(try clear c6b0);(try clear c6b1);(try clear c8);(try clear i5);(try clear i3);(try clear h9);(try clear h5);(try clear h8);(try clear f4);(try clear e3);(try clear h0);(try clear e9);(try clear g2);(try clear f3);(try clear e6);(try clear f8);(try clear f9);(try clear e7);(try clear i2);(try clear e8);(try clear h7);(try clear g1);(try clear g5);(try clear e4);(try clear f7);(try clear g3);(try clear h1);(try clear g8);(try clear h6);(try clear e5);(try clear f5);(try clear g9);(try clear g4);(try clear h4);(try clear g7);(try clear g6);(try clear h3);(try clear h2);(try clear i1);(try clear f6);obtain ⟨a3, rfl, HA, k4, a0, a2, HB⟩ := hrel
     cases gk with
     | zero => exact absurd HA.out (by simp [Pr26b.l0])
     | succ k2 =>
      have H := HA.out;clear HA;simp only [Pr26b.l0] at H;by_cases i0 : a3 < (l0_2.length : Int)
      ·rw [if_pos i0] at H;have c19b0 : decide (a3 < (l0_2.length : Int)) = true := decide_eq_true i0;clear i0;by_cases j7 : 0 ≤ a3
       ·rw [if_pos j7] at H;have c20b0 : decide (0 ≤ a3) = true := decide_eq_true j7;clear j7;by_cases j3 : a3 < (l1_2.length : Int)
        ·rw [if_pos j3] at H;have c21b0 : decide (a3 < (l1_2.length : Int)) = true := decide_eq_true j3;clear j3;by_cases g0 : (!(((rd_T80 l0_2 a3).f0) == ((rd_T80 l1_2 a3).f0)) || (!(((rd_T80 l0_2 a3).f1) == ((rd_T80 l1_2 a3).f1)) || (!(((rd_T80 l0_2 a3).f2) == ((rd_T80 l1_2 a3).f2))))) = true
         ·rw [if_pos g0] at H;have c22b0 : (!(((rd_T80 l0_2 a3).f0) == ((rd_T80 l1_2 a3).f0)) || (!(((rd_T80 l0_2 a3).f1) == ((rd_T80 l1_2 a3).f1)) || (!(((rd_T80 l0_2 a3).f2) == ((rd_T80 l1_2 a3).f2))))) = true := g0;clear g0;obtain rfl := Option.some.inj H;have o0 := a5.out;have p0 := a6.out;have n3 : wr.cell? ⟨a1, 0, none⟩ = some (.int .i64 a0_0) := bcz a0 0 rfl;have l4 : wr.cell? ⟨a1, 1, none⟩ = some (.slice A0_1 l0_1.length c0_1) := bcz a0 1 rfl;have l6 : wr.cell? ⟨a1, 2, none⟩ = some (.slice A0_2 l0_2.length c0_2) := bcz a0 2 rfl;have k6 := blk_frozen a0.out 0;have m5 := blk_frozen a0.out 1;have n5 := blk_frozen a0.out 2;have d2 : 0 ≤ (a3 : Int) := of_decide_eq_true (by first | (with_reducible assumption) | assumption);have d4 : a3 < (l0_2.length : Int) := of_decide_eq_true (by first | (with_reducible assumption) | assumption);obtain ⟨k0, i7, b1, b0, a7⟩ := at_T80 j4.out a3 d2 d4
          cases i7;replace b1 := (HB.out.cell (World.block_lt_of_cell? w _ b1)).trans b1;replace b0 := (HB.out.cell (World.block_lt_of_cell? w _ b0)).trans b0;replace a7 := (HB.out.cell (World.block_lt_of_cell? w _ a7)).trans a7;replace d2 := eq_true d2;replace d4 := eq_true d4;have l8 : wr.cell? ⟨a4, 0, none⟩ = some (.int .i64 a1_0) := bcz a2 0 rfl;have n8 : wr.cell? ⟨a4, 1, none⟩ = some (.slice A1_1 l1_1.length c1_1) := bcz a2 1 rfl;have m8 : wr.cell? ⟨a4, 2, none⟩ = some (.slice A1_2 l1_2.length c1_2) := bcz a2 2 rfl;have n1 := blk_frozen a2.out 0;have m1 := blk_frozen a2.out 1;have m2 := blk_frozen a2.out 2;have d3 : 0 ≤ (a3 : Int) := of_decide_eq_true (by first | (with_reducible assumption) | assumption);have d1 : a3 < (l1_2.length : Int) := of_decide_eq_true (by first | (with_reducible assumption) | assumption);obtain ⟨k1, i8, a8, b2, a9⟩ := at_T80 j2.out a3 d3 d1
          cases i8;replace a8 := (HB.out.cell (World.block_lt_of_cell? w _ a8)).trans a8;replace b2 := (HB.out.cell (World.block_lt_of_cell? w _ b2)).trans b2;replace a9 := (HB.out.cell (World.block_lt_of_cell? w _ a9)).trans a9;replace d3 := eq_true d3;replace d1 := eq_true d1;go_wp2
          repeat (go_quiet (fail); try go_wp2)
          go_ret
          exact ⟨by first | rfl | (simp [errW_none, errW_some] <;> rfl) | (simp [*, errW_none, errW_some] <;> rfl), wz HB.out⟩
         ·rw [if_neg g0] at H;have c22b0 : (!(((rd_T80 l0_2 a3).f0) == ((rd_T80 l1_2 a3).f0)) || (!(((rd_T80 l0_2 a3).f1) == ((rd_T80 l1_2 a3).f1)) || (!(((rd_T80 l0_2 a3).f2) == ((rd_T80 l1_2 a3).f2))))) = false := by simpa using g0
          clear g0;have H' := Aside0.mk H;clear H;have o1 := a5.out;have o7 := a6.out;have k8 : wr.cell? ⟨a1, 0, none⟩ = some (.int .i64 a0_0) := bcz a0 0 rfl;have m9 : wr.cell? ⟨a1, 1, none⟩ = some (.slice A0_1 l0_1.length c0_1) := bcz a0 1 rfl;have l5 : wr.cell? ⟨a1, 2, none⟩ = some (.slice A0_2 l0_2.length c0_2) := bcz a0 2 rfl;have n0 := blk_frozen a0.out 0;have m3 := blk_frozen a0.out 1;have n4 := blk_frozen a0.out 2;have d2 : 0 ≤ (a3 : Int) := of_decide_eq_true (by first | (with_reducible assumption) | assumption);have d4 : a3 < (l0_2.length : Int) := of_decide_eq_true (by first | (with_reducible assumption) | assumption);obtain ⟨k0, i7, b1, b0, a7⟩ := at_T80 j4.out a3 d2 d4
          cases i7;replace b1 := (HB.out.cell (World.block_lt_of_cell? w _ b1)).trans b1;replace b0 := (HB.out.cell (World.block_lt_of_cell? w _ b0)).trans b0;replace a7 := (HB.out.cell (World.block_lt_of_cell? w _ a7)).trans a7;replace d2 := eq_true d2;replace d4 := eq_true d4;have m6 : wr.cell? ⟨a4, 0, none⟩ = some (.int .i64 a1_0) := bcz a2 0 rfl;have m4 : wr.cell? ⟨a4, 1, none⟩ = some (.slice A1_1 l1_1.length c1_1) := bcz a2 1 rfl;have m0 : wr.cell? ⟨a4, 2, none⟩ = some (.slice A1_2 l1_2.length c1_2) := bcz a2 2 rfl;have l7 := blk_frozen a2.out 0;have k7 := blk_frozen a2.out 1;have k9 := blk_frozen a2.out 2;have d3 : 0 ≤ (a3 : Int) := of_decide_eq_true (by first | (with_reducible assumption) | assumption);have d1 : a3 < (l1_2.length : Int) := of_decide_eq_true (by first | (with_reducible assumption) | assumption);obtain ⟨k1, i8, a8, b2, a9⟩ := at_T80 j2.out a3 d3 d1
          cases i8;replace a8 := (HB.out.cell (World.block_lt_of_cell? w _ a8)).trans a8;replace b2 := (HB.out.cell (World.block_lt_of_cell? w _ b2)).trans b2;replace a9 := (HB.out.cell (World.block_lt_of_cell? w _ a9)).trans a9;replace d3 := eq_true d3;replace d1 := eq_true d1;go_wp2
          repeat (go_quiet (fail); try go_wp2)
          go_roundg k2
          case measure => have := k3.out; have := k4.out; omega
          case rel => exact ⟨(wrap64 (a3 + 1)), (by first | rfl | (simp; done) | (simp [*]; done)), H', ⟨by have := k3.out; have := k4.out; omega⟩, ⟨bz a0.out⟩, ⟨bz a2.out⟩, ⟨wz HB.out⟩⟩
        ·rw [if_neg j3] at H;exact absurd H (by simp)
       ·rw [if_neg j7] at H;exact absurd H (by simp)
      ·rw [if_neg i0] at H;have c19b0 : decide (a3 < (l0_2.length : Int)) = false := decide_eq_false i0;clear i0;obtain rfl := Option.some.inj H;have o2 := a5.out;have o9 := a6.out;have l9 : wr.cell? ⟨a1, 0, none⟩ = some (.int .i64 a0_0) := bcz a0 0 rfl;have n2 : wr.cell? ⟨a1, 1, none⟩ = some (.slice A0_1 l0_1.length c0_1) := bcz a0 1 rfl;have l3 : wr.cell? ⟨a1, 2, none⟩ = some (.slice A0_2 l0_2.length c0_2) := bcz a0 2 rfl;have m7 := blk_frozen a0.out 0;have n6 := blk_frozen a0.out 1;have n7 := blk_frozen a0.out 2;go_wp2
       repeat (go_quiet (fail); try go_wp2)
       go_ret
       exact ⟨by first | rfl | (simp [errW_none, errW_some] <;> rfl) | (simp [*, errW_none, errW_some] <;> rfl), wz HB.out⟩
mutual
def Pxl.j0 : Nat → List Int → Bool → Int → List ByteArray → List (S80) → Option (Int × List ByteArray × (List (S80)) × Int)
 | 0, _, _, _, _, _ => none
 | k + 1, x1, x18, x263000, x263001, x263002 => if x18 = true then (some (0, ([] : List ByteArray), ([] : List (S80)), 1)) else ((Pxf.f x1).bind fun t265 => ((Pxg.f t265).bind fun t268 => (Pxl.l0 k t265 x263002 (x263002.length : Int) 0 t268 x263001 ([] : List (S80)))))
def Pxl.l0 : Nat → List Int → List (S80) → Int → Int → Int → List ByteArray → List (S80) → Option (Int × List ByteArray × (List (S80)) × Int)
 | 0, _, _, _, _, _, _, _ => none
 | k + 1, x1, x28, x29, x30, x270000, x270001, x270002 => if x30 < x29 then (if 0 ≤ x30 then (if x30 < (x28.length : Int) then (if 0 ≤ ((rd_T80 x28 x30).f0) then (if ((rd_T80 x28 x30).f0) < (x1.length : Int) then (if 0 ≤ ((rd_T80 x28 x30).f2) then (if ((rd_T80 x28 x30).f2) < (x1.length : Int) then (if x270002.length < 5864062014805 then (Pxl.l0 k x1 x28 x29 (wrap64 (x30 + 1)) x270000 x270001 (x270002 ++ [(⟨rd x1 ((rd_T80 x28 x30).f0), (rd_T80 x28 x30).f1, rd x1 ((rd_T80 x28 x30).f2)⟩ : S80)])) else (none)) else (none)) else (none)) else (none)) else (none)) else (none)) else (none)) else ((Pxj.f x270000 x270001 x270002).bind fun bt277 => (some (bt277.1, bt277.2.1, bt277.2.2.1, bt277.2.2.2)))
end
def Pxl.f (k : Nat) (a0_0 : Int) (l0_1 : List ByteArray) (l0_2 : List (S80)) (l1 : List Int) : Option (Int × List ByteArray × (List (S80)) × Int) := (Pxh.f a0_0 l0_1 l0_2).bind fun t264 => (if t264 = 0 then (Pxl.j0 k l1 ((l1.length : Int) != a0_0) a0_0 l0_1 l0_2) else (Pxl.j0 k l1 true a0_0 l0_1 l0_2))
theorem Pxl.mono_l : ∀ k, (∀ y0 y1 y2 y3 y4, LeO (Pxl.j0 k y0 y1 y2 y3 y4) (Pxl.j0 (k + 1) y0 y1 y2 y3 y4)) ∧ (∀ y0 y1 y2 y3 y4 y5 y6, LeO (Pxl.l0 k y0 y1 y2 y3 y4 y5 y6) (Pxl.l0 (k + 1) y0 y1 y2 y3 y4 y5 y6))
 | 0 => ⟨fun _ _ _ _ _ r h => by simp [Pxl.j0] at h, fun _ _ _ _ _ _ _ r h => by simp [Pxl.l0] at h⟩
 | k + 1 => by
  obtain ⟨ih0, ih1⟩ := Pxl.mono_l k
  refine ⟨?_, ?_⟩
  ·intro y0 y1 y2 y3 y4
   unfold Pxl.j0
   repeat' first
   | (with_reducible exact ih0 _ _ _ _ _)
   | (with_reducible exact ih1 _ _ _ _ _ _ _)
   | (with_reducible exact LeO.refl _)
   | (with_reducible exact LeO.none _)
   | (with_reducible refine LeO.ite ?_ ?_)
   | (with_reducible refine LeO.bind ?_ (fun _ => ?_))
   | exact ih0 _ _ _ _ _
   | exact ih1 _ _ _ _ _ _ _
   | exact LeO.none _
   | refine LeO.ite ?_ ?_
   | refine LeO.bind ?_ (fun _ => ?_)
  ·intro y0 y1 y2 y3 y4 y5 y6
   unfold Pxl.l0
   repeat' first
   | (with_reducible exact ih0 _ _ _ _ _)
   | (with_reducible exact ih1 _ _ _ _ _ _ _)
   | (with_reducible exact LeO.refl _)
   | (with_reducible exact LeO.none _)
   | (with_reducible refine LeO.ite ?_ ?_)
   | (with_reducible refine LeO.bind ?_ (fun _ => ?_))
   | exact ih0 _ _ _ _ _
   | exact ih1 _ _ _ _ _ _ _
   | exact LeO.none _
   | refine LeO.ite ?_ ?_
   | refine LeO.bind ?_ (fun _ => ?_)
theorem Pxl.mono : ∀ a0 a1 a2 a3 k, LeO (Pxl.f k a0 a1 a2 a3) (Pxl.f (k + 1) a0 a1 a2 a3) := by
 intro a0 a1 a2 a3 k
 obtain ⟨ih0, ih1⟩ := Pxl.mono_l k
 unfold Pxl.f
 repeat' first
   | (with_reducible exact ih0 _ _ _ _ _)
   | (with_reducible exact ih1 _ _ _ _ _ _ _)
   | (with_reducible exact LeO.refl _)
   | (with_reducible exact LeO.none _)
   | (with_reducible refine LeO.ite ?_ ?_)
   | (with_reducible refine LeO.bind ?_ (fun _ => ?_))
   | exact ih0 _ _ _ _ _
   | exact ih1 _ _ _ _ _ _ _
   | exact LeO.none _
   | refine LeO.ite ?_ ?_
   | refine LeO.bind ?_ (fun _ => ?_)
def Pxl.T8 : Bool × List (List Nat × List Nat) := (true, [([], []), ([0], [0]), ([], []), ([], []), ([3], [3]), ([2, 4], [2, 4]), ([5], [5]), ([], []), ([7], [7]), ([], []), ([], []), ([10], [10]), ([9, 11], [9, 11]), ([12], [12]), ([6, 8, 13], [6, 8, 13]), ([14], [14]), ([1, 15], [1, 15]), ([0, 1, 2, 3, 4, 5, 6, 7, 8, 9, 10, 11, 12, 13, 14, 15, 16], []), ([17, 16, 16, 0, 1, 2, 3, 4, 5, 6, 7, 8, 9, 10, 11, 12, 13, 14, 15, 16], [16, 17])])
def Pxl.B8 : List Nat := [0, 1, 0, 0, 8, 28, 60, 0, 128, 0, 0, 1024, 3584, 7680, 16380, 32764, 65535, 131071, 262143]
theorem Pxl.tab8 : rtab .any (opsOf Try.f47 8) = Pxl.T8 := by kernel_rfl
theorem Pxl.bits8 : waitsOk Pxl.T8.2 Pxl.B8 = true := by kernel_rfl
set_option maxHeartbeats 8000000 in
set_option maxRecDepth 100000 in
theorem Pxl.calls (k : Nat) (a0_0 : Int) (A0_1 : Option Addr) (c0_1 : Nat) (l0_1 : List ByteArray) (A0_2 : Option Addr) (c0_2 : Nat) (l0_2 : List (S80)) (A1 : Option Addr) (c1 : Nat) (l1 : List Int) (r1 : Int) (r2 : List ByteArray) (r3 : List (S80)) (r4 : Int) (w : World) (hr0_1 : Kd.C Kd.string w A0_1 l0_1.length l0_1) (hc0_1 : l0_1.length ≤ c0_1) (hr0_2 : Kd.C k80 w A0_2 l0_2.length l0_2) (hc0_2 : l0_2.length ≤ c0_2) (hr1 : Kd.C (Kd.int .i64) w A1 l1.length l1) (hc1 : l1.length ≤ c1) (h : Pxl.f k a0_0 l0_1 l0_2 l1 = some (r1, r2, r3, r4)) :
  Calls Try.prog 47 #[.agg #[.int .i64 a0_0, .slice A0_1 l0_1.length c0_1, .slice A0_2 l0_2.length c0_2], .slice A1 l1.length c1] w fun e w' => ∃ v1_ v2_ : Value, e = .returned (.tuple #[.agg #[.int .i64 r1, v1_, v2_], .int .i64 r4]) ∧ Kd.R Kd.string 9 w' w.heap.size (fun _ => True) v1_ r2 ∧ Kd.R k80 80 w' w.heap.size (fun _ => True) v2_ r3 ∧ Below w.heap.size w w' := by
 have C9 := Try.underlying25;have C8 := Try.underlying80;have i4 := Aside0.mk hr0_1;have j2 := Aside0.mk hc0_1;clear hr0_1 hc0_1;have i8 := Aside0.mk hr0_2;have n0 := Aside0.mk hc0_2;clear hr0_2 hc0_2;have y1 := Aside0.mk hr1;have y0 := Aside0.mk hc1;clear hr1 hc1;have HB := Aside0.mk (Below.refl w.heap.size w);have H : ((Pxh.f a0_0 l0_1 l0_2).bind fun e2 => (if e2 = 0 then (Pxl.j0 k l1 ((l1.length : Int) != a0_0) a0_0 l0_1 l0_2) else (Pxl.j0 k l1 true a0_0 l0_1 l0_2))) = some (r1, r2, r3, r4) := h;clear h;have o4 := Aside0.mk H;clear H;go_enter Try.func47, Try.ntmps47
 go_upto_region 1 with (first | ((with_reducible refine gate_dst (N := 2) rfl ?_); (try (refine gate_guard (by rfl) ?_; dsimp only)); refine box_event ?hg (N := 2) ?hd (cs := #[.int .i64 a0_0, .slice A0_1 l0_1.length c0_1, .slice A0_2 l0_2.length c0_2]) (t := 25) ?hr ?_; (case hd => rfl); (case hg => rfl); (case hr => first | (go_simp; done) | (go_simp; rfl)); intro a6 hg w4 hbox hb; have b2 := Aside0.mk (below_step (wz HB.out) hb); have b1 := Aside0.mk (hbox); have b3 := Aside0.mk ((by rw [hg]; exact (below_size (wz HB.out)) : w.heap.size ≤ a6)); have b5 := Aside0.mk ((by rw [hg]; exact (below_size (wz HB.out)) : w.heap.size ≤ a6)); clear HB; have HB := b2; have a0 := b1; have A2 := b3; have B2 := b5; clear b2 b1 b3 b5 hb hbox hg) | ((with_reducible refine gate_dst (N := 4) rfl ?_); (try (refine gate_guard (by rfl) ?_; dsimp only)); refine box_event ?hg (N := 4) ?hd (cs := #[.int .i64 0, .slice none 0 0, .slice none 0 0]) (t := 25) ?hr ?_; (case hd => rfl); (case hg => rfl); (case hr => first | (go_simp; done) | (go_simp; rfl)); intro a8 hg w5 hbox hb; have b2 := Aside0.mk (blk_below (bz a0.out) hb); have b1 := Aside0.mk (below_step (wz HB.out) hb); have b3 := Aside0.mk (hbox); have b5 := Aside0.mk ((by rw [hg]; exact (below_size (wz HB.out)) : w.heap.size ≤ a8)); have d0 := Aside0.mk ((by rw [hg]; exact (below_size (wz HB.out)) : w.heap.size ≤ a8)); have d4 := Aside0.mk ((by rw [hg]; exact Nat.ne_of_lt (blk_lt (g := a6) (o := .cells #[.int .i64 a0_0, .slice A0_1 l0_1.length c0_1, .slice A0_2 l0_2.length c0_2] 25 (0, 0)) (bz a0.out)) : a6 ≠ a8)); have d5 := Aside0.mk ((by rw [hg]; exact Nat.ne_of_gt (blk_lt (g := a6) (o := .cells #[.int .i64 a0_0, .slice A0_1 l0_1.length c0_1, .slice A0_2 l0_2.length c0_2] 25 (0, 0)) (bz a0.out)) : a8 ≠ a6)); clear a0 HB; have a0 := b2; have HB := b1; have a2 := b3; have A9 := b5; have z0 := d0; have d7 := d4; have d8 := d5; clear b2 b1 b3 b5 d0 d4 d5 hb hbox hg))
 (try simp only [Act.put, qz1, qz2, qz3])
 go_cut [18] (fun y8 wc => ∃ (kq : Nat) (g4 : Bool), y8 = .bool g4 ∧ Aside0 (Pxl.j0 kq l1 g4 a0_0 l0_1 l0_2 = some (r1, r2, r3, r4)) ∧ Aside0 (kq ≤ k) ∧ Aside0 (wc.heap[a6]? = some (.cells #[.int .i64 a0_0, (.slice A0_1 l0_1.length c0_1), (.slice A0_2 l0_2.length c0_2)] 25 (0, 0))) ∧ Aside0 (wc.heap[a8]? = some (.cells #[.int .i64 0, (.slice none 0 0), (.slice none 0 0)] 25 (0, 0))) ∧ Aside0 (Below w.heap.size w wc))
 case first =>
  have H := o4.out;clear o4;replace H := Option.bind_eq_some_iff.mp H;obtain ⟨e2, r7, H⟩ := H;replace H : (if e2 = 0 then (Pxl.j0 k l1 ((l1.length : Int) != a0_0) a0_0 l0_1 l0_2) else (Pxl.j0 k l1 true a0_0 l0_1 l0_2)) = some (r1, r2, r3, r4) := H;have A6 := Aside0.mk r7;clear r7;by_cases c7 : e2 = 0
  ·rw [if_pos c7] at H;have c7b0 : (e2 == 0) = true := beq_iff_eq.mpr c7;have c7b1 : (e2 != 0) = false := bne_eq_false_iff_eq.mpr c7;clear c7
   (first | rw [c7b0] | (simp only [i64_w, i32_w]; rw [c7b0]) | skip)
   have H' := Aside0.mk H;clear H;have D4 := d7.out;have C5 := d8.out;have k4 : w5.cell? ⟨a6, 0, none⟩ = some (.int .i64 a0_0) := bcz a0 0 rfl;have j4 : w5.cell? ⟨a6, 1, none⟩ = some (.slice A0_1 l0_1.length c0_1) := bcz a0 1 rfl;have j5 : w5.cell? ⟨a6, 2, none⟩ = some (.slice A0_2 l0_2.length c0_2) := bcz a0 2 rfl;have k1 := blk_frozen a0.out 0;have j7 := blk_frozen a0.out 1;have j3 := blk_frozen a0.out 2;go_wp2_with (first | ((with_reducible refine gate_callee (f := 72) rfl ?_); refine goesL_ (some 10) rfl rfl Try.func72 (by kernel_rfl) rfl #[.agg #[.int .i64 a0_0, .slice A0_1 l0_1.length c0_1, .slice A0_2 l0_2.length c0_2]] rfl (by (try simp only [List.map_toArray, List.map_cons, List.map_nil]); first | done | rfl | (simp only [List.length_drop, List.length_take]; rfl)) ?_; (with_reducible refine (Pxh.calls a0_0 _ _ l0_1 _ _ l0_2 e2 _ ?e8 ?e9 ?m5 ?m1 A6.out).mono ?_); (case e8 => exact cz i4.out HB.out); (case e9 => exact j2.out); (case m5 => exact cz i8.out HB.out); (case m1 => exact n0.out); rintro e p4 ⟨rfl, hb⟩; refine ⟨_, rfl, ?_⟩; have b2 := Aside0.mk (blk_below (bz a0.out) hb); have b1 := Aside0.mk (blk_below (bz a2.out) hb); have b3 := Aside0.mk (below_step (wz HB.out) hb); clear a0; clear a2; clear HB; have a0 := b2; have a2 := b1; have HB := b3; clear b2 b1 b3; (try clear hb); (try clear k0); (try clear hk); (try clear hi); have i2 : p4.cell? ⟨a6, 0, none⟩ = some (.int .i64 a0_0) := bcz a0 0 rfl; have h2 : p4.cell? ⟨a6, 1, none⟩ = some (.slice A0_1 l0_1.length c0_1) := bcz a0 1 rfl; have g8 : p4.cell? ⟨a6, 2, none⟩ = some (.slice A0_2 l0_2.length c0_2) := bcz a0 2 rfl; have h5 := blk_frozen a0.out 0; have h7 := blk_frozen a0.out 1; have h6 := blk_frozen a0.out 2))
   go_meet
   case rel => exact ⟨_, (((l1.length : Int) != a0_0)), (by first | rfl | (simp; done) | (simp [*]; done)), H', ⟨by first | omega | exact Nat.le_refl _⟩, ⟨bz a0.out⟩, ⟨bz a2.out⟩, ⟨wz HB.out⟩⟩
  ·rw [if_neg c7] at H;have c7b0 : (e2 == 0) = false := beq_eq_false_iff_ne.mpr c7;have c7b1 : (e2 != 0) = true := bne_iff_ne.mpr c7
   (first | rw [c7b0] | (simp only [i64_w, i32_w]; rw [c7b0]) | skip)
   have H' := Aside0.mk H;clear H;have A7 := d7.out;have A3 := d8.out;have h8 : w5.cell? ⟨a6, 0, none⟩ = some (.int .i64 a0_0) := bcz a0 0 rfl;have h1 : w5.cell? ⟨a6, 1, none⟩ = some (.slice A0_1 l0_1.length c0_1) := bcz a0 1 rfl;have h4 : w5.cell? ⟨a6, 2, none⟩ = some (.slice A0_2 l0_2.length c0_2) := bcz a0 2 rfl;have h9 := blk_frozen a0.out 0;have h0 := blk_frozen a0.out 1;have h3 := blk_frozen a0.out 2;go_wp2_with (first | ((with_reducible refine gate_callee (f := 72) rfl ?_); refine goesL_ (some 10) rfl rfl Try.func72 (by kernel_rfl) rfl #[.agg #[.int .i64 a0_0, .slice A0_1 l0_1.length c0_1, .slice A0_2 l0_2.length c0_2]] rfl (by (try simp only [List.map_toArray, List.map_cons, List.map_nil]); first | done | rfl | (simp only [List.length_drop, List.length_take]; rfl)) ?_; (with_reducible refine (Pxh.calls a0_0 _ _ l0_1 _ _ l0_2 e2 _ ?e8 ?e9 ?m5 ?m1 A6.out).mono ?_); (case e8 => exact cz i4.out HB.out); (case e9 => exact j2.out); (case m5 => exact cz i8.out HB.out); (case m1 => exact n0.out); rintro e D6 ⟨rfl, hb⟩; refine ⟨_, rfl, ?_⟩; have b2 := Aside0.mk (blk_below (bz a0.out) hb); have b1 := Aside0.mk (blk_below (bz a2.out) hb); have b3 := Aside0.mk (below_step (wz HB.out) hb); clear a0; clear a2; clear HB; have a0 := b2; have a2 := b1; have HB := b3; clear b2 b1 b3; (try clear hb); (try clear k0); (try clear hk); (try clear hi)))
   go_meet
   case rel => exact ⟨_, (true), (by first | rfl | (simp; done) | (simp [*]; done)), H', ⟨by first | omega | exact Nat.le_refl _⟩, ⟨bz a0.out⟩, ⟨bz a2.out⟩, ⟨wz HB.out⟩⟩
 case rest =>
  clear o4;(try clear c1);(try clear c7);(try clear c7b0);(try clear c7b1);(try clear i2);(try clear h2);(try clear g8);(try clear h8);(try clear h1);(try clear h4);(try clear k4);(try clear j4);(try clear j5);(try clear h5);(try clear h7);(try clear h6);(try clear h9);(try clear h0);(try clear h3);(try clear k1);(try clear j7);(try clear j3);obtain ⟨kq, g4, rfl, HA, q6, a0, a2, HB⟩ := hcut
  cases kq with
  | zero => exact absurd HA.out (by simp [Pxl.j0])
  | succ kj2 =>
   have H := HA.out;clear HA;simp only [Pxl.j0] at H;by_cases j8 : g4 = true
   ·subst j8;have H1 : (some (0, ([] : List ByteArray), ([] : List (S80)), 1)) = some (r1, r2, r3, r4) := by rw [if_pos rfl] at H; exact H
    clear H;have H := H1;clear H1;simp only [Option.some.injEq, Prod.mk.injEq] at H;obtain ⟨rfl, rfl, rfl, rfl⟩ := H;have C3 := d8.out;have B3 := d7.out;have n3 : wc.cell? ⟨a8, 0, none⟩ = some (.int .i64 0) := bcz a2 0 rfl;have o0 : wc.cell? ⟨a8, 1, none⟩ = some (.slice none 0 0) := bcz a2 1 rfl;have n7 : wc.cell? ⟨a8, 2, none⟩ = some (.slice none 0 0) := bcz a2 2 rfl;have n9 := blk_frozen a2.out 0;have o2 := blk_frozen a2.out 1;have n6 := blk_frozen a2.out 2;go_wp2
    refine bodyPost_ret (results_ct rfl _ _ a8 25 #[.int .i64 0, .slice none 0 0, .slice none 0 0] (0, 0) _ rfl (by (with_reducible repeat (first | refine blk_drewN ?_ _ | refine blk_drew ?_ | refine blk_alloc ?_ _)); refine blk_put (cs := #[.int .i64 0, .slice none 0 0, .slice none 0 0]) ?_ 2 _ rfl; (with_reducible repeat (first | refine blk_drewN ?_ _ | refine blk_drew ?_ | refine blk_alloc ?_ _)); refine blk_put (cs := #[.int .i64 0, .slice none 0 0, .slice none 0 0]) ?_ 1 _ rfl; (with_reducible repeat (first | refine blk_drewN ?_ _ | refine blk_drew ?_ | refine blk_alloc ?_ _)); refine blk_put (cs := #[.int .i64 0, .slice none 0 0, .slice none 0 0]) ?_ 0 _ rfl; (with_reducible repeat (first | refine blk_drewN ?_ _ | refine blk_drew ?_ | refine blk_alloc ?_ _)); exact a2.out) Try.underlying25 rfl (by kernel_rfl)) rfl ?_;exact ⟨_, _, by first | rfl | (simp [errW_none, errW_some] <;> rfl) | (simp [*, errW_none, errW_some] <;> rfl), by first | exact Kd.R_nil _ _ _ _ _ | exact Kd.N_nil _ _ _ _ _ | exact Kd.V_nil _ _ _ _ _ | exact Kd.Q_nil _ _ _ _ _ | exact Kd.S_nil _ _ _ _ _, by first | exact Kd.R_nil _ _ _ _ _ | exact Kd.N_nil _ _ _ _ _ | exact Kd.V_nil _ _ _ _ _ | exact Kd.Q_nil _ _ _ _ _ | exact Kd.S_nil _ _ _ _ _, wz HB.out⟩
   ·replace j8 := Bool.eq_false_iff.mpr j8;subst j8;have H1 : ((Pxf.f l1).bind fun b0 => ((Pxg.f b0).bind fun b9 => (Pxl.l0 kj2 b0 l0_2 (l0_2.length : Int) 0 b9 l0_1 ([] : List (S80))))) = some (r1, r2, r3, r4) := by rw [if_neg (show ¬ (false = true) by decide)] at H; exact H
    clear H;have H := H1;clear H1;replace H := Option.bind_eq_some_iff.mp H;obtain ⟨b0, p6, H⟩ := H;replace H : ((Pxg.f b0).bind fun b9 => (Pxl.l0 kj2 b0 l0_2 (l0_2.length : Int) 0 b9 l0_1 ([] : List (S80)))) = some (r1, r2, r3, r4) := H;have y3 := Aside0.mk p6;clear p6;replace H := Option.bind_eq_some_iff.mp H;obtain ⟨b9, o9, H⟩ := H;replace H : (Pxl.l0 kj2 b0 l0_2 (l0_2.length : Int) 0 b9 l0_1 ([] : List (S80))) = some (r1, r2, r3, r4) := H;have r6 := Aside0.mk o9;clear o9;have H' := Aside0.mk H;clear H;try go_wp2_with (first | ((with_reducible refine gate_callee (f := 69) rfl ?_); refine goesL_ (some 21) rfl rfl Try.func69 (by kernel_rfl) rfl #[.slice A1 l1.length c1] rfl (by (try simp only [List.map_toArray, List.map_cons, List.map_nil]); first | done | rfl | (simp only [List.length_drop, List.length_take]; rfl)) ?_; (with_reducible refine (Pxf.calls _ _ l1 b0 _ ?e8 ?e9 y3.out).mono ?_); (case e8 => exact cz y1.out HB.out); (case e9 => exact y0.out); rintro e y5 ⟨C4, rfl, j9, hb⟩; refine ⟨_, rfl, ?_⟩; have b2 := Aside0.mk (Kd.R_lower j9 (below_size (wz HB.out))); have b1 := Aside0.mk (blk_below (bz a0.out) hb); have b3 := Aside0.mk (blk_below (bz a2.out) hb); have b5 := Aside0.mk (below_step (wz HB.out) hb); clear a0; clear a2; clear HB; have b4 := b2; have a0 := b1; have a2 := b3; have HB := b5; clear b2 b1 b3 b5; (try clear hb); (try clear k0); (try clear hk); (try clear hi); (try clear j9); obtain ⟨f5, f7, t2⟩ := Kd.R_slice b4.out; subst t2))
    have b2 := Aside0.mk (Kd.R_drew b4.out);have b1 := Aside0.mk (blk_drew a0.out);have b3 := Aside0.mk (blk_drew a2.out);have b5 := Aside0.mk (below_drew1 HB.out);clear b4 a0 a2 HB;have b4 := b2;have a0 := b1;have a2 := b3;have HB := b5;clear b2 b1 b3 b5;refine start_ (n := 7) (S := fun w' => w'.cell? ⟨a6, 0, none⟩ = some (.int .i64 a0_0) ∧ w'.cell? ⟨a6, 1, none⟩ = some (.slice A0_1 l0_1.length c0_1) ∧ w'.cell? ⟨a6, 2, none⟩ = some (.slice A0_2 l0_2.length c0_2)) (ds := []) (bqz 7 0) (by kernel_rfl) rfl rfl ⟨bcz a0 0 rfl, bcz a0 1 rfl, bcz a0 2 rfl⟩ (fun hHeld => ?_);generalize y5.drew = w22 at b4 a0 a2 HB hHeld ⊢;refine pqz 0 (some 22) (bqz 7 1) rfl rfl (by kernel_rfl) ?_ ?_ (fun _ _ _ h => h) (by rfl) ?_ ?_ ?_;rotate_left 2;intro w';go_simp;(with_reducible rfl);simp only [Act.put, qz1, qz2, qz3, i64_w, i32_w];rfl
    refine pqz 2 (some 24) (bqz 7 5) rfl rfl (by kernel_rfl) ?_ ?_ (fun _ _ _ h => h) (by rfl) ?_ ?_ ?_;rotate_left 2;intro w';go_simp;(with_reducible rfl);simp only [Act.put, qz1, qz2, qz3, i64_w, i32_w];rfl
    refine tqz 3 (some 25) (bqz 7 13) rfl rfl (by kernel_rfl) ?_ ?_ (fun _ _ _ h => h) (by rfl) ?_ hHeld ?_ ?_;rotate_left 2;rintro w' ⟨s0, s1, s2⟩;go_simp;(with_reducible rfl);simp only [Act.put, qz1, qz2, qz3, i64_w, i32_w];rfl
    refine join_ (σ := Nat) 1 (bqz 7 63) (fun s_ => [(23, .int .i64 b9), (6, .pointer (some ⟨s_, 0, none⟩)), (26, .agg #[.int .i64 b9, .slice A0_1 l0_1.length c0_1, .slice none 0 0])]) (fun s_ w' => (w'.cell? ⟨a6, 0, none⟩ = some (.int .i64 a0_0) ∧ w'.cell? ⟨a6, 1, none⟩ = some (.slice A0_1 l0_1.length c0_1) ∧ w'.cell? ⟨a6, 2, none⟩ = some (.slice A0_2 l0_2.length c0_2)) ∧ (Kd.R (Kd.int .i64) 3 w' w.heap.size (fun _ => True) (.slice f5 b0.length f7) b0) ∧ (w'.heap[a6]? = some (.cells #[.int .i64 a0_0, .slice A0_1 l0_1.length c0_1, .slice A0_2 l0_2.length c0_2] 25 (0, 0))) ∧ (w'.heap[a8]? = some (.cells #[.int .i64 0, .slice none 0 0, .slice none 0 0] 25 (0, 0))) ∧ (w'.heap[s_]? = some (.cells #[.int .i64 0, .slice none 0 0, .slice none 0 0] 25 (0, 0))) ∧ (w.heap.size ≤ s_) ∧ (w.heap.size ≤ s_) ∧ (a6 ≠ s_) ∧ (s_ ≠ a6) ∧ (a8 ≠ s_) ∧ (s_ ≠ a8) ∧ (Below w.heap.size w w')) ?_ ?_;rotate_left
    ·intro hCont;refine two_ (i := 1) (j := 5) (Ni := some 23) (Nj := some 6) (bqz 7 15) (bqz 7 45) rfl rfl rfl rfl (by kernel_rfl) (by decide) (by decide) (fun K hK => ?_) (fun K hK => ?_)
     ·skip
      refine goes_ Try.func103 (by kernel_rfl) rfl #[.slice f5 b0.length f7] (by rfl) rfl rfl (by (try simp only [List.map_toArray, List.map_cons, List.map_nil]); first | done | rfl | (simp only [List.length_drop, List.length_take]; rfl)) ?_;with_reducible refine (Pxg.calls _ _ b0 b9 _ ?e8 ?e9 r6.out).mono ?_
      (case e8 => repeat (first | exact (Kd.R_reads' b4.out).2.2 | (with_reducible refine Kd.C_alloc ?_ _) | (with_reducible refine Kd.C_drewN ?_ _) | (with_reducible refine Kd.C_drew ?_)))
      (case e9 => exact (Kd.R_reads' b4.out).2.1)
      rintro e y2 ⟨rfl, hb⟩;refine ⟨_, rfl, ?_⟩;have b2 := Aside0.mk (Kd.R_below (rz b4.out) hb);have b1 := Aside0.mk (blk_below (bz a0.out) hb);have b3 := Aside0.mk (blk_below (bz a2.out) hb);have b5 := Aside0.mk (below_step (wz HB.out) hb);clear b4 a0 a2 HB;have b4 := b2;have a0 := b1;have a2 := b3;have HB := b5;clear b2 b1 b3 b5
      (try clear hb)
      (try clear k0)
      (try clear hk)
      (try clear hi)
      refine hK.out _ _ ⟨bcz a0 0 rfl, bcz a0 1 rfl, bcz a0 2 rfl⟩ (fun hHeld => ?_);clear hK K;refine norm_ (a' := ?_) ?_ ?_;rotate_left
      ·show Act.put _ (some 23) _ = _;simp only [Act.put, qz1, qz2, qz3, i64_w, i32_w];rfl
      refine pqz 4 (some 26) (bqz 7 31) rfl rfl (by kernel_rfl) ?_ ?_ (fun _ _ _ h => h) (by rfl) ?_ ?_ ?_;rotate_left 2;intro w';go_simp;(with_reducible rfl);simp only [Act.put, qz1, qz2, qz3, i64_w, i32_w];rfl
      refine one_ (i := 5) (N := some 6) (bqz 7 63) rfl rfl (by kernel_rfl) (by decide) (fun K hK => ?_);refine box_step ?hg (N := 6) ?hd (cs := #[.int .i64 0, .slice none 0 0, .slice none 0 0]) (t := 25) ?hr ?_; (case hd => rfl); (case hg => rfl); (case hr => first | (go_simp; done) | (go_simp; rfl))
      intro a3 hg y4 hbox hb;have b2 := Aside0.mk (Kd.R_below (rz b4.out) hb);have b1 := Aside0.mk (blk_below (bz a0.out) hb);have b3 := Aside0.mk (blk_below (bz a2.out) hb);have b5 := Aside0.mk (below_step (wz HB.out) hb);have d0 := Aside0.mk (hbox);have d4 := Aside0.mk ((by rw [hg]; exact (below_size (wz HB.out)) : w.heap.size ≤ a3));have d5 := Aside0.mk ((by rw [hg]; exact (below_size (wz HB.out)) : w.heap.size ≤ a3));have e1 := Aside0.mk ((by rw [hg]; exact Nat.ne_of_lt (blk_lt (g := a6) (o := .cells #[.int .i64 a0_0, .slice A0_1 l0_1.length c0_1, .slice A0_2 l0_2.length c0_2] 25 (0, 0)) (bz a0.out)) : a6 ≠ a3));have e4 := Aside0.mk ((by rw [hg]; exact Nat.ne_of_gt (blk_lt (g := a6) (o := .cells #[.int .i64 a0_0, .slice A0_1 l0_1.length c0_1, .slice A0_2 l0_2.length c0_2] 25 (0, 0)) (bz a0.out)) : a3 ≠ a6));have e6 := Aside0.mk ((by rw [hg]; exact Nat.ne_of_lt (blk_lt (g := a8) (o := .cells #[.int .i64 0, .slice none 0 0, .slice none 0 0] 25 (0, 0)) (bz a2.out)) : a8 ≠ a3));have d9 := Aside0.mk ((by rw [hg]; exact Nat.ne_of_gt (blk_lt (g := a8) (o := .cells #[.int .i64 0, .slice none 0 0, .slice none 0 0] 25 (0, 0)) (bz a2.out)) : a3 ≠ a8));clear b4 a0 a2 HB;have b4 := b2;have a0 := b1;have a2 := b3;have HB := b5;have a4 := d0;have g3 := d4;have g5 := d5;have a9 := e1;have b8 := e4;have b7 := e6;have d3 := d9;clear b2 b1 b3 b5 d0 d4 d5 e1 e4 e6 d9 hb hbox hg;refine hK.out _ _ ⟨bcz a0 0 rfl, bcz a0 1 rfl, bcz a0 2 rfl⟩ (fun hHeld => ?_);clear hK K;refine norm_ (a' := ?_) ?_ ?_;rotate_left
      ·show Act.put _ (some 6) _ = _;simp only [Act.put, qz1, qz2, qz3, i64_w, i32_w];rfl
      exact norm_ (by simp only [putAll, Act.put, qz1, qz2, qz3]) (hCont (a3) _ ⟨hHeld, (rz b4.out), (bz a0.out), (bz a2.out), (bz a4.out), g3.out, g5.out, a9.out, b8.out, b7.out, d3.out, (wz HB.out)⟩)
     ·skip
      refine box_step ?hg (N := 6) ?hd (cs := #[.int .i64 0, .slice none 0 0, .slice none 0 0]) (t := 25) ?hr ?_; (case hd => rfl); (case hg => rfl); (case hr => first | (go_simp; done) | (go_simp; rfl))
      intro a3 hg y2 hbox hb;have b2 := Aside0.mk (Kd.R_below (rz b4.out) hb);have b1 := Aside0.mk (blk_below (bz a0.out) hb);have b3 := Aside0.mk (blk_below (bz a2.out) hb);have b5 := Aside0.mk (below_step (wz HB.out) hb);have d0 := Aside0.mk (hbox);have d4 := Aside0.mk ((by rw [hg]; exact (below_size (wz HB.out)) : w.heap.size ≤ a3));have d5 := Aside0.mk ((by rw [hg]; exact (below_size (wz HB.out)) : w.heap.size ≤ a3));have e1 := Aside0.mk ((by rw [hg]; exact Nat.ne_of_lt (blk_lt (g := a6) (o := .cells #[.int .i64 a0_0, .slice A0_1 l0_1.length c0_1, .slice A0_2 l0_2.length c0_2] 25 (0, 0)) (bz a0.out)) : a6 ≠ a3));have e4 := Aside0.mk ((by rw [hg]; exact Nat.ne_of_gt (blk_lt (g := a6) (o := .cells #[.int .i64 a0_0, .slice A0_1 l0_1.length c0_1, .slice A0_2 l0_2.length c0_2] 25 (0, 0)) (bz a0.out)) : a3 ≠ a6));have e6 := Aside0.mk ((by rw [hg]; exact Nat.ne_of_lt (blk_lt (g := a8) (o := .cells #[.int .i64 0, .slice none 0 0, .slice none 0 0] 25 (0, 0)) (bz a2.out)) : a8 ≠ a3));have d9 := Aside0.mk ((by rw [hg]; exact Nat.ne_of_gt (blk_lt (g := a8) (o := .cells #[.int .i64 0, .slice none 0 0, .slice none 0 0] 25 (0, 0)) (bz a2.out)) : a3 ≠ a8));clear b4 a0 a2 HB;have b4 := b2;have a0 := b1;have a2 := b3;have HB := b5;have a4 := d0;have g3 := d4;have g5 := d5;have a9 := e1;have b8 := e4;have b7 := e6;have d3 := d9;clear b2 b1 b3 b5 d0 d4 d5 e1 e4 e6 d9 hb hbox hg;refine hK.out _ _ ⟨bcz a0 0 rfl, bcz a0 1 rfl, bcz a0 2 rfl⟩ (fun hHeld => ?_);clear hK K;refine norm_ (a' := ?_) ?_ ?_;rotate_left
      ·show Act.put _ (some 6) _ = _;simp only [Act.put, qz1, qz2, qz3, i64_w, i32_w];rfl
      refine one_ (i := 1) (N := some 23) (bqz 7 47) rfl rfl (by kernel_rfl) (by decide) (fun K hK => ?_);refine goes_ Try.func103 (by kernel_rfl) rfl #[.slice f5 b0.length f7] (by rfl) rfl rfl (by (try simp only [List.map_toArray, List.map_cons, List.map_nil]); first | done | rfl | (simp only [List.length_drop, List.length_take]; rfl)) ?_;with_reducible refine (Pxg.calls _ _ b0 b9 _ ?e8 ?e9 r6.out).mono ?_
      (case e8 => repeat (first | exact (Kd.R_reads' b4.out).2.2 | (with_reducible refine Kd.C_alloc ?_ _) | (with_reducible refine Kd.C_drewN ?_ _) | (with_reducible refine Kd.C_drew ?_)))
      (case e9 => exact (Kd.R_reads' b4.out).2.1)
      rintro e y4 ⟨rfl, hb⟩;refine ⟨_, rfl, ?_⟩;have b2 := Aside0.mk (Kd.R_below (rz b4.out) hb);have b1 := Aside0.mk (blk_below (bz a0.out) hb);have b3 := Aside0.mk (blk_below (bz a2.out) hb);have b5 := Aside0.mk (blk_below (bz a4.out) hb);have d0 := Aside0.mk (below_step (wz HB.out) hb);clear b4 a0 a2 a4 HB;have b4 := b2;have a0 := b1;have a2 := b3;have a4 := b5;have HB := d0;clear b2 b1 b3 b5 d0
      (try clear hb)
      (try clear k0)
      (try clear hk)
      (try clear hi)
      refine hK.out _ _ ⟨bcz a0 0 rfl, bcz a0 1 rfl, bcz a0 2 rfl⟩ (fun hHeld => ?_);clear hK K;refine norm_ (a' := ?_) ?_ ?_;rotate_left
      ·show Act.put _ (some 23) _ = _;simp only [Act.put, qz1, qz2, qz3, i64_w, i32_w];rfl
      refine pqz 4 (some 26) (bqz 7 63) rfl rfl (by kernel_rfl) ?_ ?_ (fun _ _ _ h => h) (by rfl) ?_ ?_ ?_;rotate_left 2;intro w';go_simp;(with_reducible rfl);simp only [Act.put, qz1, qz2, qz3, i64_w, i32_w];rfl
      exact norm_ (by simp only [putAll, Act.put, qz1, qz2, qz3]) (hCont (a3) _ ⟨hHeld, (rz b4.out), (bz a0.out), (bz a2.out), (bz a4.out), g3.out, g5.out, a9.out, b8.out, b7.out, d3.out, (wz HB.out)⟩)
    rintro a3 e0 ⟨hS_, q3, q4, r8, q5, q2, r0, q1, r5, q7, q8, o3⟩;have b2 : Aside0 (Kd.R (Kd.int .i64) 3 e0 w.heap.size (fun _ => True) (.slice f5 b0.length f7) b0) := ⟨q3⟩
    have b1 : Aside0 (e0.heap[a6]? = some (.cells #[.int .i64 a0_0, .slice A0_1 l0_1.length c0_1, .slice A0_2 l0_2.length c0_2] 25 (0, 0))) := ⟨q4⟩
    have b3 : Aside0 (e0.heap[a8]? = some (.cells #[.int .i64 0, .slice none 0 0, .slice none 0 0] 25 (0, 0))) := ⟨r8⟩
    have b5 : Aside0 (e0.heap[a3]? = some (.cells #[.int .i64 0, .slice none 0 0, .slice none 0 0] 25 (0, 0))) := ⟨q5⟩
    have d0 : Aside0 (w.heap.size ≤ a3) := ⟨q2⟩
    have d4 : Aside0 (w.heap.size ≤ a3) := ⟨r0⟩
    have d5 : Aside0 (a6 ≠ a3) := ⟨q1⟩
    have e1 : Aside0 (a3 ≠ a6) := ⟨r5⟩
    have e4 : Aside0 (a8 ≠ a3) := ⟨q7⟩
    have e6 : Aside0 (a3 ≠ a8) := ⟨q8⟩
    have d9 : Aside0 (Below w.heap.size w e0) := ⟨o3⟩
    clear b4 a0 a2 HB q3 q4 r8 q5 q2 r0 q1 r5 q7 q8 o3;have b4 := b2;have a0 := b1;have a2 := b3;have a4 := b5;have g3 := d0;have g5 := d4;have a9 := d5;have b8 := e1;have b7 := e4;have d3 := e6;have HB := d9;clear b2 b1 b3 b5 d0 d4 d5 e1 e4 e6 d9;have hHeld : e0.cell? ⟨a6, 0, none⟩ = some (.int .i64 a0_0) ∧ e0.cell? ⟨a6, 1, none⟩ = some (.slice A0_1 l0_1.length c0_1) ∧ e0.cell? ⟨a6, 2, none⟩ = some (.slice A0_2 l0_2.length c0_2) := hS_;refine norm_ (a' := ?_) ?_ ?_;rotate_left
    ·simp only [putAll, Act.put, qz1, qz2, qz3];rfl
    refine one_ (i := 6) (N := none) (bqz 7 127) rfl rfl (by kernel_rfl) (by decide) (fun K hK => ?_);have C7 : e0.cell? ⟨a3, 0, none⟩ = some (.int .i64 0) := bcz a4 0 rfl;have z8 := blk_frozen a4.out 0;have u7 := a9.out;have v6 := b7.out;have w3 := b8.out;have x8 := d3.out;have D5 : e0.cell? ⟨a3, 1, none⟩ = some (.slice none 0 0) := bcz a4 1 rfl;have C2 := blk_frozen a4.out 1;have x1 := a9.out;have w8 := b7.out;have u3 := b8.out;have x2 := d3.out;have D3 : e0.cell? ⟨a3, 2, none⟩ = some (.slice none 0 0) := bcz a4 2 rfl;have B6 := blk_frozen a4.out 2;have w9 := a9.out;have x3 := b7.out;have x0 := b8.out;have u1 := d3.out;refine skip_ (w1 := ?_) (by rfl) rfl ?_ ?_;rotate_left
    ·go_simp;rfl
    refine hK.out _ _ ⟨((cell_far (p := ⟨a3, _, none⟩) a9.out _).trans (((cell_far (p := ⟨a3, _, none⟩) a9.out _).trans (((cell_far (p := ⟨a3, _, none⟩) a9.out _).trans (hHeld.1)))))), ((cell_far (p := ⟨a3, _, none⟩) a9.out _).trans (((cell_far (p := ⟨a3, _, none⟩) a9.out _).trans (((cell_far (p := ⟨a3, _, none⟩) a9.out _).trans (hHeld.2.1)))))), ((cell_far (p := ⟨a3, _, none⟩) a9.out _).trans (((cell_far (p := ⟨a3, _, none⟩) a9.out _).trans (((cell_far (p := ⟨a3, _, none⟩) a9.out _).trans (hHeld.2.2))))))⟩ (fun hHeld => ?_);clear hK K;refine done_ (by kernel_rfl) ?_;have z9 := d7.out;have B7 := d8.out;have z2 := a9.out;have B0 := b8.out;have o1 : e0.cell? ⟨a6, 0, none⟩ = some (.int .i64 a0_0) := bcz a0 0 rfl;have n8 : e0.cell? ⟨a6, 1, none⟩ = some (.slice A0_1 l0_1.length c0_1) := bcz a0 1 rfl;have n2 : e0.cell? ⟨a6, 2, none⟩ = some (.slice A0_2 l0_2.length c0_2) := bcz a0 2 rfl;have n1 := blk_frozen a0.out 0;have n5 := blk_frozen a0.out 1;have n4 := blk_frozen a0.out 2;try go_wp2
    go_loopg [30] kj2 (fun kq x9 w' => ∃ (a1 : Int) (d2 : List (S80)) (d1 : Value), x9 = .int .i64 a1 ∧ Aside0 (Pxl.l0 kq b0 l0_2 (l0_2.length : Int) a1 b9 l0_1 d2 = some (r1, r2, r3, r4)) ∧ Aside0 (kq ≤ kj2) ∧ Aside0 (Kd.R (Kd.int .i64) 3 w' w.heap.size (fun _ => True) (.slice f5 b0.length f7) b0) ∧ Aside0 (Kd.R k80 80 w' w.heap.size (fun _ => True) d1 d2) ∧ Aside0 (w'.heap[a6]? = some (.cells #[.int .i64 a0_0, (.slice A0_1 l0_1.length c0_1), (.slice A0_2 l0_2.length c0_2)] 25 (0, 0))) ∧ Aside0 (w'.heap[a8]? = some (.cells #[.int .i64 0, (.slice none 0 0), (.slice none 0 0)] 25 (0, 0))) ∧ Aside0 (w'.heap[a3]? = some (.cells #[.int .i64 b9, (.slice A0_1 l0_1.length c0_1), d1] 25 (0, 0))) ∧ Aside0 (Below w.heap.size w w'))
    case atStart => exact ⟨(0), (([] : List (S80))), (.slice none 0 0), (by first | rfl | (simp; done) | (simp [*]; done)), H', ⟨Nat.le_refl _⟩, ⟨rz (Kd.R_mono (Kd.R_far (p := ⟨a3, 2, none⟩) (Kd.R_far (p := ⟨a3, 1, none⟩) (Kd.R_far (p := ⟨a3, 0, none⟩) (Kd.R_types b4.out a4.out (by decide)) (fun _ hk => hk.2) (.int .i64 b9)) (fun _ hk => hk.2) (.slice A0_1 l0_1.length c0_1)) (fun _ hk => hk.2) (.slice none 0 0)) (fun _ hk => trivial))⟩, ⟨by first | exact Kd.R_nil _ _ _ _ _ | exact Kd.N_nil _ _ _ _ _ | exact Kd.V_nil _ _ _ _ _ | exact Kd.Q_nil _ _ _ _ _ | exact Kd.S_nil _ _ _ _ _⟩, ⟨fz a0.out a9.out⟩, ⟨fz a2.out b7.out⟩, ⟨by (with_reducible repeat (first | refine blk_drewN ?_ _ | refine blk_drew ?_ | refine blk_alloc ?_ _)); refine blk_put (cs := #[.int .i64 b9, .slice A0_1 l0_1.length c0_1, .slice none 0 0]) ?_ 2 _ rfl; (with_reducible repeat (first | refine blk_drewN ?_ _ | refine blk_drew ?_ | refine blk_alloc ?_ _)); refine blk_put (cs := #[.int .i64 b9, .slice none 0 0, .slice none 0 0]) ?_ 1 _ rfl; (with_reducible repeat (first | refine blk_drewN ?_ _ | refine blk_drew ?_ | refine blk_alloc ?_ _)); refine blk_put (cs := #[.int .i64 0, .slice none 0 0, .slice none 0 0]) ?_ 0 _ rfl; (with_reducible repeat (first | refine blk_drewN ?_ _ | refine blk_drew ?_ | refine blk_alloc ?_ _)); exact a4.out⟩, ⟨wz HB.out⟩⟩
    case round =>
     clear H';(try clear c1);(try clear c7);(try clear c7b0);(try clear c7b1);(try clear j8);(try clear i2);(try clear h2);(try clear g8);(try clear h8);(try clear h1);(try clear h4);(try clear n3);(try clear o0);(try clear n7);(try clear o1);(try clear n8);(try clear n2);(try clear k4);(try clear j4);(try clear j5);(try clear h5);(try clear h7);(try clear h6);(try clear h9);(try clear h0);(try clear h3);(try clear n9);(try clear o2);(try clear n6);(try clear n1);(try clear n5);(try clear n4);(try clear k1);(try clear j7);(try clear j3);obtain ⟨a1, d2, d1, rfl, HA, q9, d6, a7, a0, a2, a4, HB⟩ := hrel
     cases gk with
     | zero => exact absurd HA.out (by simp [Pxl.l0])
     | succ k2 =>
      have H := HA.out;clear HA;simp only [Pxl.l0] at H;by_cases i0 : a1 < (l0_2.length : Int)
      ·rw [if_pos i0] at H;have c32b0 : decide (a1 < (l0_2.length : Int)) = true := decide_eq_true i0;clear i0;by_cases m6 : 0 ≤ a1
       ·rw [if_pos m6] at H;have c33b0 : decide (0 ≤ a1) = true := decide_eq_true m6;clear m6;by_cases m0 : a1 < (l0_2.length : Int)
        ·rw [if_pos m0] at H;have c34b0 : decide (a1 < (l0_2.length : Int)) = true := decide_eq_true m0;clear m0;by_cases m9 : 0 ≤ ((rd_T80 l0_2 a1).f0)
         ·rw [if_pos m9] at H;have c35b0 : decide (0 ≤ ((rd_T80 l0_2 a1).f0)) = true := decide_eq_true m9;clear m9;by_cases l8 : ((rd_T80 l0_2 a1).f0) < (b0.length : Int)
          ·rw [if_pos l8] at H;have c36b0 : decide (((rd_T80 l0_2 a1).f0) < (b0.length : Int)) = true := decide_eq_true l8;clear l8;by_cases m7 : 0 ≤ ((rd_T80 l0_2 a1).f2)
           ·rw [if_pos m7] at H;have c37b0 : decide (0 ≤ ((rd_T80 l0_2 a1).f2)) = true := decide_eq_true m7;clear m7;by_cases l9 : ((rd_T80 l0_2 a1).f2) < (b0.length : Int)
            ·rw [if_pos l9] at H;have c38b0 : decide (((rd_T80 l0_2 a1).f2) < (b0.length : Int)) = true := decide_eq_true l9;clear l9;by_cases m3 : d2.length < 5864062014805
             ·rw [if_pos m3] at H;have p8 := Aside0.mk m3;clear m3;obtain ⟨g6, f3⟩ : ∃ y_ : List (S80), y_ = (d2 ++ [(⟨rd b0 ((rd_T80 l0_2 a1).f0), (rd_T80 l0_2 a1).f1, rd b0 ((rd_T80 l0_2 a1).f2)⟩ : S80)]) := ⟨_, rfl⟩
              replace H : (Pxl.l0 k2 b0 l0_2 (l0_2.length : Int) (wrap64 (a1 + 1)) b9 l0_1 g6) = some (r1, r2, r3, r4) := by first | (rw [f3]; with_reducible exact H) | (have o5 := (Option.bind_some _ _).symm.trans H; rw [f3]; with_reducible exact o5) | (have o5 := (Option.bind_some _ _).symm.trans H; with_reducible exact o5) | with_reducible exact H | (rw [f3]; exact H) | exact H
              have p9 := Aside0.mk f3;clear f3;have H' := Aside0.mk H;clear H;have k7 : 0 ≤ (a1 : Int) := of_decide_eq_true (by first | (with_reducible assumption) | assumption);have k6 : a1 < (l0_2.length : Int) := of_decide_eq_true (by first | (with_reducible assumption) | assumption);obtain ⟨i9, t8, f6, f8, f9⟩ := at_T80 i8.out a1 k7 k6
              cases t8;replace f6 := (HB.out.cell (World.block_lt_of_cell? w _ f6)).trans f6;replace f8 := (HB.out.cell (World.block_lt_of_cell? w _ f8)).trans f8;replace f9 := (HB.out.cell (World.block_lt_of_cell? w _ f9)).trans f9;replace k7 := eq_true k7;replace k6 := eq_true k6;try go_wp2_with (first | ((with_reducible refine gate_dst (N := 8) rfl ?_); (try (refine gate_guard (by rfl) ?_; dsimp only)); refine box_event ?hg (N := 8) ?hd (cs := #[.int .i64 0, .int .i64 0, .int .i64 0]) (t := 80) ?hr ?_; (case hd => rfl); (case hg => rfl); (case hr => first | (go_simp; done) | (go_simp; rfl)); intro a5 hg e3 hbox hb; have b2 := Aside0.mk (Kd.R_below (rz d6.out) hb); have b1 := Aside0.mk (Kd.R_below (Kd.R_elderB (rz a7.out) a5 (Nat.le_of_eq hg.symm)) hb); have b3 := Aside0.mk (blk_below (bz a0.out) hb); have b5 := Aside0.mk (blk_below (bz a2.out) hb); have d0 := Aside0.mk (blk_below (bz a4.out) hb); have d4 := Aside0.mk (below_step (wz HB.out) hb); have d5 := Aside0.mk (hbox); have e1 := Aside0.mk ((by rw [hg]; exact (below_size (wz HB.out)) : w.heap.size ≤ a5)); have e4 := Aside0.mk ((by rw [hg]; exact (below_size (wz HB.out)) : w.heap.size ≤ a5)); have e6 := Aside0.mk ((by rw [hg]; exact Nat.ne_of_lt (blk_lt (g := a6) (o := .cells #[.int .i64 a0_0, .slice A0_1 l0_1.length c0_1, .slice (some i9) l0_2.length c0_2] 25 (0, 0)) (bz a0.out)) : a6 ≠ a5)); have d9 := Aside0.mk ((by rw [hg]; exact Nat.ne_of_gt (blk_lt (g := a6) (o := .cells #[.int .i64 a0_0, .slice A0_1 l0_1.length c0_1, .slice (some i9) l0_2.length c0_2] 25 (0, 0)) (bz a0.out)) : a5 ≠ a6)); have p1 := Aside0.mk ((by rw [hg]; exact Nat.ne_of_lt (blk_lt (g := a8) (o := .cells #[.int .i64 0, .slice none 0 0, .slice none 0 0] 25 (0, 0)) (bz a2.out)) : a8 ≠ a5)); have p5 := Aside0.mk ((by rw [hg]; exact Nat.ne_of_gt (blk_lt (g := a8) (o := .cells #[.int .i64 0, .slice none 0 0, .slice none 0 0] 25 (0, 0)) (bz a2.out)) : a5 ≠ a8)); have o8 := Aside0.mk ((by rw [hg]; exact Nat.ne_of_lt (blk_lt (g := a3) (o := .cells #[.int .i64 b9, .slice A0_1 l0_1.length c0_1, d1] 25 (0, 0)) (bz a4.out)) : a3 ≠ a5)); have p3 := Aside0.mk ((by rw [hg]; exact Nat.ne_of_gt (blk_lt (g := a3) (o := .cells #[.int .i64 b9, .slice A0_1 l0_1.length c0_1, d1] 25 (0, 0)) (bz a4.out)) : a5 ≠ a3)); clear d6 a7 a0 a2 a4 HB; have d6 := b2; have a7 := b1; have a0 := b3; have a2 := b5; have a4 := d0; have HB := d4; have b6 := d5; have B4 := e1; have A8 := e4; have g1 := e6; have j6 := d9; have g2 := p1; have k3 := p5; have e5 := o8; have g0 := p3; clear b2 b1 b3 b5 d0 d4 d5 e1 e4 e6 d9 p1 p5 o8 p3 hb hbox hg; have A4 := j6.out; have B5 := g1.out; have z6 := k3.out; have C0 := g2.out; have C1 := g0.out; have z3 := e5.out; have v2 : e3.cell? ⟨a5, 0, none⟩ = some (.int .i64 0) := bcz b6 0 rfl; have t9 : e3.cell? ⟨a5, 1, none⟩ = some (.int .i64 0) := bcz b6 1 rfl; have x7 : e3.cell? ⟨a5, 2, none⟩ = some (.int .i64 0) := bcz b6 2 rfl; have x5 := blk_frozen b6.out 0; have u2 := blk_frozen b6.out 1; have u6 := blk_frozen b6.out 2))
              have b2 : Aside0 (Kd.R (Kd.int .i64) 3 (((e3.setCell ⟨a5, 0, none⟩ (.int .i64 ((rd_T80 l0_2 a1).f0))).setCell ⟨a5, 1, none⟩ (.int .i64 ((rd_T80 l0_2 a1).f1))).setCell ⟨a5, 2, none⟩ (.int .i64 ((rd_T80 l0_2 a1).f2))) w.heap.size (fun _ => True) (.slice f5 b0.length f7) b0) := ⟨rz (Kd.R_mono (Kd.R_far (p := ⟨a5, 2, none⟩) (Kd.R_far (p := ⟨a5, 1, none⟩) (Kd.R_far (p := ⟨a5, 0, none⟩) (Kd.R_types d6.out b6.out (by decide)) (fun _ hk => hk.2) (.int .i64 ((rd_T80 l0_2 a1).f0))) (fun _ hk => hk.2) (.int .i64 ((rd_T80 l0_2 a1).f1))) (fun _ hk => hk.2) (.int .i64 ((rd_T80 l0_2 a1).f2))) (fun _ hk => trivial))⟩
              have b1 : Aside0 (Kd.R k80 80 (((e3.setCell ⟨a5, 0, none⟩ (.int .i64 ((rd_T80 l0_2 a1).f0))).setCell ⟨a5, 1, none⟩ (.int .i64 ((rd_T80 l0_2 a1).f1))).setCell ⟨a5, 2, none⟩ (.int .i64 ((rd_T80 l0_2 a1).f2))) w.heap.size (fun k_ => k_ ≠ a5) d1 d2) := ⟨rz (Kd.R_mono (Kd.R_far (p := ⟨a5, 2, none⟩) (Kd.R_far (p := ⟨a5, 1, none⟩) (Kd.R_far (p := ⟨a5, 0, none⟩) (Kd.R_mono a7.out (fun k_ hk => (⟨hk, hk.2⟩ : _ ∧ k_ ≠ a5))) (fun _ hk => hk.2) (.int .i64 ((rd_T80 l0_2 a1).f0))) (fun _ hk => hk.2) (.int .i64 ((rd_T80 l0_2 a1).f1))) (fun _ hk => hk.2) (.int .i64 ((rd_T80 l0_2 a1).f2))) (fun _ hk => hk.1.2))⟩
              have b3 : Aside0 ((((e3.setCell ⟨a5, 0, none⟩ (.int .i64 ((rd_T80 l0_2 a1).f0))).setCell ⟨a5, 1, none⟩ (.int .i64 ((rd_T80 l0_2 a1).f1))).setCell ⟨a5, 2, none⟩ (.int .i64 ((rd_T80 l0_2 a1).f2))).heap[a6]? = some (.cells #[.int .i64 a0_0, .slice A0_1 l0_1.length c0_1, .slice (some i9) l0_2.length c0_2] 25 (0, 0))) := ⟨fz a0.out g1.out⟩
              have b5 : Aside0 ((((e3.setCell ⟨a5, 0, none⟩ (.int .i64 ((rd_T80 l0_2 a1).f0))).setCell ⟨a5, 1, none⟩ (.int .i64 ((rd_T80 l0_2 a1).f1))).setCell ⟨a5, 2, none⟩ (.int .i64 ((rd_T80 l0_2 a1).f2))).heap[a8]? = some (.cells #[.int .i64 0, .slice none 0 0, .slice none 0 0] 25 (0, 0))) := ⟨fz a2.out g2.out⟩
              have d0 : Aside0 ((((e3.setCell ⟨a5, 0, none⟩ (.int .i64 ((rd_T80 l0_2 a1).f0))).setCell ⟨a5, 1, none⟩ (.int .i64 ((rd_T80 l0_2 a1).f1))).setCell ⟨a5, 2, none⟩ (.int .i64 ((rd_T80 l0_2 a1).f2))).heap[a3]? = some (.cells #[.int .i64 b9, .slice A0_1 l0_1.length c0_1, d1] 25 (0, 0))) := ⟨fz a4.out e5.out⟩
              have d4 : Aside0 ((((e3.setCell ⟨a5, 0, none⟩ (.int .i64 ((rd_T80 l0_2 a1).f0))).setCell ⟨a5, 1, none⟩ (.int .i64 ((rd_T80 l0_2 a1).f1))).setCell ⟨a5, 2, none⟩ (.int .i64 ((rd_T80 l0_2 a1).f2))).heap[a5]? = some (.cells #[.int .i64 ((rd_T80 l0_2 a1).f0), .int .i64 ((rd_T80 l0_2 a1).f1), .int .i64 ((rd_T80 l0_2 a1).f2)] 80 (0, 0))) := ⟨by (with_reducible repeat (first | refine blk_drewN ?_ _ | refine blk_drew ?_ | refine blk_alloc ?_ _)); refine blk_put (cs := #[.int .i64 ((rd_T80 l0_2 a1).f0), .int .i64 ((rd_T80 l0_2 a1).f1), .int .i64 0]) ?_ 2 _ rfl; (with_reducible repeat (first | refine blk_drewN ?_ _ | refine blk_drew ?_ | refine blk_alloc ?_ _)); refine blk_put (cs := #[.int .i64 ((rd_T80 l0_2 a1).f0), .int .i64 0, .int .i64 0]) ?_ 1 _ rfl; (with_reducible repeat (first | refine blk_drewN ?_ _ | refine blk_drew ?_ | refine blk_alloc ?_ _)); refine blk_put (cs := #[.int .i64 0, .int .i64 0, .int .i64 0]) ?_ 0 _ rfl; (with_reducible repeat (first | refine blk_drewN ?_ _ | refine blk_drew ?_ | refine blk_alloc ?_ _)); exact b6.out⟩
              have d5 : Aside0 (Below w.heap.size w (((e3.setCell ⟨a5, 0, none⟩ (.int .i64 ((rd_T80 l0_2 a1).f0))).setCell ⟨a5, 1, none⟩ (.int .i64 ((rd_T80 l0_2 a1).f1))).setCell ⟨a5, 2, none⟩ (.int .i64 ((rd_T80 l0_2 a1).f2)))) := ⟨wz HB.out⟩
              (try clear d6)
              (try clear a7)
              (try clear a0)
              (try clear a2)
              (try clear a4)
              (try clear b6)
              (try clear HB)
              generalize (((e3.setCell ⟨a5, 0, none⟩ (.int .i64 ((rd_T80 l0_2 a1).f0))).setCell ⟨a5, 1, none⟩ (.int .i64 ((rd_T80 l0_2 a1).f1))).setCell ⟨a5, 2, none⟩ (.int .i64 ((rd_T80 l0_2 a1).f2))) = y6 at b2 b1 b3 b5 d0 d4 d5 ⊢;have d6 := b2;have a7 := b1;have a0 := b3;have a2 := b5;have a4 := d0;have b6 := d4;have HB := d5;clear b2 b1 b3 b5 d0 d4 d5;have b2 := Aside0.mk (Kd.R_drew d6.out);have b1 := Aside0.mk (Kd.R_drew a7.out);have b3 := Aside0.mk (blk_drew a0.out);have b5 := Aside0.mk (blk_drew a2.out);have d0 := Aside0.mk (blk_drew a4.out);have d4 := Aside0.mk (blk_drew b6.out);have d5 := Aside0.mk (below_drew1 HB.out);clear d6 a7 a0 a2 a4 b6 HB;have d6 := b2;have a7 := b1;have a0 := b3;have a2 := b5;have a4 := d0;have b6 := d4;have HB := d5;clear b2 b1 b3 b5 d0 d4 d5;have l5 : 0 ≤ (((rd_T80 l0_2 a1).f0) : Int) := of_decide_eq_true (by first | (with_reducible assumption) | assumption);have l7 : ((rd_T80 l0_2 a1).f0) < (b0.length : Int) := of_decide_eq_true (by first | (with_reducible assumption) | assumption);obtain ⟨i5, s9, i1⟩ := Kd.at_int (Kd.R_reads' d6.out).2.2 ((rd_T80 l0_2 a1).f0) l5 l7
              cases s9;replace l5 := eq_true l5;replace l7 := eq_true l7;have k5 : 0 ≤ (((rd_T80 l0_2 a1).f2) : Int) := of_decide_eq_true (by first | (with_reducible assumption) | assumption);have k8 : ((rd_T80 l0_2 a1).f2) < (b0.length : Int) := of_decide_eq_true (by first | (with_reducible assumption) | assumption);obtain ⟨q0, r9, g9⟩ := Kd.at_int (Kd.R_reads' d6.out).2.2 ((rd_T80 l0_2 a1).f2) k5 k8;obtain rfl : i5 = q0 := (by injection r9)
              replace k5 := eq_true k5;replace k8 := eq_true k8;refine start_ (n := 19) (S := fun w' => w'.cell? ⟨a3, 0, none⟩ = some (.int .i64 b9) ∧ w'.cell? ⟨a3, 1, none⟩ = some (.slice A0_1 l0_1.length c0_1) ∧ w'.cell? ⟨a3, 2, none⟩ = some (d1) ∧ w'.cell? ⟨a5, 0, none⟩ = some (.int .i64 ((rd_T80 l0_2 a1).f0)) ∧ w'.cell? ⟨a5, 1, none⟩ = some (.int .i64 ((rd_T80 l0_2 a1).f1)) ∧ w'.cell? ⟨a5, 2, none⟩ = some (.int .i64 ((rd_T80 l0_2 a1).f2)) ∧ w'.cell? (i5.add (((rd_T80 l0_2 a1).f0)).toNat) = some (.int .i64 (rd b0 ((rd_T80 l0_2 a1).f0))) ∧ w'.cell? (i5.add (((rd_T80 l0_2 a1).f2)).toNat) = some (.int .i64 (rd b0 ((rd_T80 l0_2 a1).f2)))) (ds := [16, 18]) (bqz 19 0) (by kernel_rfl) rfl rfl ⟨bcz a4 0 rfl, bcz a4 1 rfl, bcz a4 2 rfl, bcz b6 0 rfl, bcz b6 1 rfl, bcz b6 2 rfl, i1, g9⟩ (fun hHeld => ?_); refine with_tabW Pxl.tab8 Pxl.bits8 (fun HT_ HW_ => ?_)
              generalize y6.drew = w46 at d6 a7 a0 a2 a4 b6 HB i1 g9 hHeld ⊢;refine pqz 0 (some 34) (bqz 19 1) rfl rfl (any_of HT_.out (by kernel_rfl)) ?_ ?_ (fun _ _ _ h => h) (by rfl) ?_ ?_ ?_;rotate_left 2;intro w';go_simp;(with_reducible rfl);simp only [Act.put, qz1, qz2, qz3, i64_w, i32_w];rfl
              refine pqz 2 (some 36) (bqz 19 5) rfl rfl (any_of HT_.out (by kernel_rfl)) ?_ ?_ (fun _ _ _ h => h) (by rfl) ?_ ?_ ?_;rotate_left 2;intro w';go_simp;(with_reducible rfl);simp only [Act.put, qz1, qz2, qz3, i64_w, i32_w];rfl
              refine pqz 3 (some 37) (bqz 19 13) rfl rfl (any_of HT_.out (by kernel_rfl)) ?_ ?_ (fun _ _ _ h => h) (by rfl) ?_ ?_ ?_;rotate_left 2;intro w';go_simp;(with_reducible rfl);simp only [Act.put, qz1, qz2, qz3, i64_w, i32_w];rfl
              refine pqz 7 (some 41) (bqz 19 141) rfl rfl (any_of HT_.out (by kernel_rfl)) ?_ ?_ (fun _ _ _ h => h) (by rfl) ?_ ?_ ?_;rotate_left 2;intro w';go_simp;(with_reducible rfl);simp only [Act.put, qz1, qz2, qz3, i64_w, i32_w];rfl
              refine pqz 9 (some 43) (bqz 19 653) rfl rfl (any_of HT_.out (by kernel_rfl)) ?_ ?_ (fun _ _ _ h => h) (by rfl) ?_ ?_ ?_;rotate_left 2;intro w';go_simp;(with_reducible rfl);simp only [Act.put, qz1, qz2, qz3, i64_w, i32_w];rfl
              refine pqz 10 (some 44) (bqz 19 1677) rfl rfl (any_of HT_.out (by kernel_rfl)) ?_ ?_ (fun _ _ _ h => h) (by rfl) ?_ ?_ ?_;rotate_left 2;intro w';go_simp;(with_reducible rfl);simp only [Act.put, qz1, qz2, qz3, i64_w, i32_w];rfl
              refine tqz 1 (some 35) (bqz 19 1679) rfl rfl (take_ofW HT_.out HW_.out (by kernel_rfl)) ?_ ?_ (fun _ _ _ h => h) (by rfl) ?_ hHeld ?_ ?_;rotate_left 2;rintro w' ⟨s0, s1, s2, s3, s4, s5, s6, s7⟩;go_simp;(with_reducible rfl);simp only [Act.put, qz1, qz2, qz3, i64_w, i32_w];rfl
              refine tqz 4 (some 38) (bqz 19 1695) rfl rfl (take_ofW HT_.out HW_.out (by kernel_rfl)) ?_ ?_ (fun _ _ _ h => h) (by rfl) ?_ hHeld ?_ ?_;rotate_left 2;rintro w' ⟨s0, s1, s2, s3, s4, s5, s6, s7⟩;go_simp;(with_reducible rfl);simp only [Act.put, qz1, qz2, qz3, i64_w, i32_w];rfl
              refine pqz 5 (some 39) (bqz 19 1727) rfl rfl (any_of HT_.out (by kernel_rfl)) ?_ ?_ (fun _ _ _ h => h) (by rfl) ?_ ?_ ?_;rotate_left 2;intro w';go_simp;(with_reducible rfl);simp only [Act.put, qz1, qz2, qz3, i64_w, i32_w];rfl
              refine tqz 6 (some 40) (bqz 19 1791) rfl rfl (take_ofW HT_.out HW_.out (by kernel_rfl)) ?_ ?_ (fun _ _ _ h => h) (by rfl) ?_ hHeld ?_ ?_;rotate_left 2;rintro w' ⟨s0, s1, s2, s3, s4, s5, s6, s7⟩;go_simp;(with_reducible rfl);simp only [Act.put, qz1, qz2, qz3, i64_w, i32_w];rfl
              refine tqz 8 (some 42) (bqz 19 2047) rfl rfl (take_ofW HT_.out HW_.out (by kernel_rfl)) ?_ ?_ (fun _ _ _ h => h) (by rfl) ?_ hHeld ?_ ?_;rotate_left 2;rintro w' ⟨s0, s1, s2, s3, s4, s5, s6, s7⟩;go_simp;(with_reducible rfl);simp only [Act.put, qz1, qz2, qz3, i64_w, i32_w];rfl
              refine tqz 11 (some 45) (bqz 19 4095) rfl rfl (take_ofW HT_.out HW_.out (by kernel_rfl)) ?_ ?_ (fun _ _ _ h => h) (by rfl) ?_ hHeld ?_ ?_;rotate_left 2;rintro w' ⟨s0, s1, s2, s3, s4, s5, s6, s7⟩;go_simp;(with_reducible rfl);simp only [Act.put, qz1, qz2, qz3, i64_w, i32_w];rfl
              refine pqz 12 (some 46) (bqz 19 8191) rfl rfl (any_of HT_.out (by kernel_rfl)) ?_ ?_ (fun _ _ _ h => h) (by rfl) ?_ ?_ ?_;rotate_left 2;intro w';go_simp;(with_reducible rfl);simp only [Act.put, qz1, qz2, qz3, i64_w, i32_w];rfl
              refine tqz 13 (some 47) (bqz 19 16383) rfl rfl (take_ofW HT_.out HW_.out (by kernel_rfl)) ?_ ?_ (fun _ _ _ h => h) (by rfl) ?_ hHeld ?_ ?_;rotate_left 2;rintro w' ⟨s0, s1, s2, s3, s4, s5, s6, s7⟩;go_simp;(with_reducible rfl);simp only [Act.put, qz1, qz2, qz3, i64_w, i32_w];rfl
              refine pqz 14 (some 48) (bqz 19 32767) rfl rfl (any_of HT_.out (by kernel_rfl)) ?_ ?_ (fun _ _ _ h => h) (by rfl) ?_ ?_ ?_;rotate_left 2;intro w';go_simp;(with_reducible rfl);simp only [Act.put, qz1, qz2, qz3, i64_w, i32_w];rfl
              refine one_ (i := 15) (N := some 49) (bqz 19 65535) rfl rfl (one_of HT_.out (by kernel_rfl)) (by decide) (fun K hK => ?_);refine value_ (w1 := ?_) (v := ?_) (by rfl) rfl ?_ ?_;rotate_left 2
              ·go_simp;constructor
               ·rfl
               ·rfl
              refine hK.out _ _ ⟨(blk_cell (blk_alloc a4.out _) 0).trans rfl, (blk_cell (blk_alloc a4.out _) 1).trans rfl, (blk_cell (blk_alloc a4.out _) 2).trans rfl, (blk_cell (blk_alloc b6.out _) 0).trans rfl, (blk_cell (blk_alloc b6.out _) 1).trans rfl, (blk_cell (blk_alloc b6.out _) 2).trans rfl, (World.cell?_alloc_lt _ _ _ (World.block_lt_of_cell? _ _ (hHeld.2.2.2.2.2.2.1))).trans (hHeld.2.2.2.2.2.2.1), (World.cell?_alloc_lt _ _ _ (World.block_lt_of_cell? _ _ (hHeld.2.2.2.2.2.2.2))).trans (hHeld.2.2.2.2.2.2.2)⟩ (fun hHeld => ?_);clear hK K;refine norm_ (a' := ?_) ?_ ?_;rotate_left
              ·show Act.put _ (some 49) _ = _;simp only [Act.put, qz1, qz2, qz3, i64_w, i32_w];rfl
              refine last_ (i := 16) (N := some 50) (bqz 19 131071) rfl rfl (one_of HT_.out (by kernel_rfl)) (by decide) (fun K hK => ?_);refine Kd.R_append_step k80 (w0 := w) w.heap.size (by rfl) (.tmp 35) (.tmp 49) 23 80 (.agg #[(.int .i64 0), (.int .i64 0), (.int .i64 0)]) 24 rfl Try.underlying23 info80 rfl (by decide) (by omega) d1 d2 (⟨rd b0 ((rd_T80 l0_2 a1).f0), (rd_T80 l0_2 a1).f1, rd b0 ((rd_T80 l0_2 a1).f2)⟩ : S80) [.int .i64 (rd b0 ((rd_T80 l0_2 a1).f0)), .int .i64 ((rd_T80 l0_2 a1).f1), .int .i64 (rd b0 ((rd_T80 l0_2 a1).f2))] (fun k_ => k_ ≠ a5) (fun _ => False) rfl rfl ?aP (fun _ hk => hk.elim) ?aF ?aO ?aB ?aS ?aL ?_
              (case aP => exact k80_mkM _ _ _ (⟨rd b0 ((rd_T80 l0_2 a1).f0), (rd_T80 l0_2 a1).f1, rd b0 ((rd_T80 l0_2 a1).f2)⟩ : S80))
              (case aB => exact (wz HB.out))
              (case aF => exact (fun k_ hk => Kd.freshB (g := a5) (o := .cells #[.int .i64 ((rd_T80 l0_2 a1).f0), .int .i64 ((rd_T80 l0_2 a1).f1), .int .i64 ((rd_T80 l0_2 a1).f2)] 80 (0, 0)) (bz b6.out) k_ hk))
              (case aO => exact (rz a7.out))
              (case aS => exact (below_size (wz HB.out)))
              (case aL => have := p8.out; omega)
              intro D2 y7 ho hb hg hat;rw [← p9.out] at ho;have b2 := Aside0.mk (Kd.R_over' (rz d6.out) (Kd.R_typed (rz a7.out)) (by decide) hg);have b1 := Aside0.mk (blk_grown (bz a0.out) hg (Kd.R_ne a7.out a0.out (by decide)));have b3 := Aside0.mk (blk_grown (bz a2.out) hg (Kd.R_ne a7.out a2.out (by decide)));have b5 := Aside0.mk (blk_grown (bz a4.out) hg (Kd.R_ne a7.out a4.out (by decide)));have d0 := Aside0.mk (blk_grown (bz b6.out) hg (Kd.R_away a7.out (fun _ hk => hk)));have d4 := Aside0.mk (hb);have d5 := Aside0.mk (ho);clear d6 a0 a2 a4 b6 HB a7;have d6 := b2;have a0 := b1;have a2 := b3;have a4 := b5;have b6 := d0;have HB := d4;have m4 := d5;clear b2 b1 b3 b5 d0 d4 d5 ho hb hg hat;obtain ⟨l3, l6, p7⟩ := Kd.R_slice m4.out
              (first | subst p7 | (injection p7 with f1_ f2_ f3_; have f4_ := f1_.symm; have f5_ := f3_.symm; clear f1_ f2_ f3_; subst f4_; subst f5_))
              refine hK.out _ _ ?_;clear hK K;refine norm_ (a' := ?_) ?_ ?_;rotate_left
              ·show Act.put _ (some 50) _ = _;simp only [Act.put, qz1, qz2, qz3, i64_w, i32_w];rfl
              refine pqz 17 (some 51) (bqz 19 262143) rfl rfl (any_of HT_.out (by kernel_rfl)) ?_ ?_ (fun _ _ _ h => h) (by rfl) ?_ ?_ ?_;rotate_left 2;intro w';go_simp;(with_reducible rfl);simp only [Act.put, qz1, qz2, qz3, i64_w, i32_w];rfl
              refine last_ (i := 18) (N := none) (bqz 19 524287) rfl rfl (one_of HT_.out (by kernel_rfl)) (by decide) (fun K hK => ?_);have D0 : y7.cell? ⟨a3, 2, none⟩ = some (d1) := bcz a4 2 rfl;have A0 := blk_frozen a4.out 2;have v0 := a9.out;have w6 := b7.out;have v9 := g0.out;have v4 := b8.out;have v1 := d3.out;have u9 := e5.out;refine skip_ (w1 := ?_) (by rfl) rfl ?_ ?_;rotate_left
              ·go_simp;rfl
              refine hK.out _ _ ?_;clear hK K;refine done_ (done_of HT_.out (by kernel_rfl)) ?_;try go_wp2
              go_roundg k2
              case measure => have := q6.out; have := q9.out; omega
              case rel => exact ⟨(wrap64 (a1 + 1)), (g6), (.slice l3 g6.length l6), (by first | rfl | (simp; done) | (simp [*]; done)), H', ⟨by have := q6.out; have := q9.out; omega⟩, ⟨rz (Kd.R_mono (Kd.R_far (p := ⟨a3, 2, none⟩) (Kd.R_types d6.out a4.out (by decide)) (fun _ hk => hk.2) (.slice l3 g6.length l6)) (fun _ hk => trivial))⟩, ⟨rz (Kd.R_mono (Kd.R_far (p := ⟨a3, 2, none⟩) (Kd.R_types m4.out a4.out (by decide)) (fun _ hk => hk.2) (.slice l3 g6.length l6)) (fun _ hk => trivial))⟩, ⟨fz a0.out a9.out⟩, ⟨fz a2.out b7.out⟩, ⟨by (with_reducible repeat (first | refine blk_drewN ?_ _ | refine blk_drew ?_ | refine blk_alloc ?_ _)); refine blk_put (cs := #[.int .i64 b9, .slice A0_1 l0_1.length c0_1, d1]) ?_ 2 _ rfl; (with_reducible repeat (first | refine blk_drewN ?_ _ | refine blk_drew ?_ | refine blk_alloc ?_ _)); exact a4.out⟩, ⟨wz HB.out⟩⟩
             ·rw [if_neg m3] at H;exact absurd H (by simp)
            ·rw [if_neg l9] at H;exact absurd H (by simp)
           ·rw [if_neg m7] at H;exact absurd H (by simp)
          ·rw [if_neg l8] at H;exact absurd H (by simp)
         ·rw [if_neg m9] at H;exact absurd H (by simp)
        ·rw [if_neg m0] at H;exact absurd H (by simp)
       ·rw [if_neg m6] at H;exact absurd H (by simp)
      ·rw [if_neg i0] at H;have c32b0 : decide (a1 < (l0_2.length : Int)) = false := decide_eq_false i0;clear i0;replace H := Option.bind_eq_some_iff.mp H;obtain ⟨⟨e7, f4, g7, o7⟩, o6, H⟩ := H;replace H : (some (e7, f4, g7, o7)) = some (r1, r2, r3, r4) := H;have y9 := Aside0.mk o6;clear o6;simp only [Option.some.injEq, Prod.mk.injEq] at H;obtain ⟨rfl, rfl, rfl, rfl⟩ := H;have z7 := b8.out;have A5 := a9.out;have z5 := d3.out;have z4 := b7.out;have v8 : wr.cell? ⟨a3, 0, none⟩ = some (.int .i64 b9) := bcz a4 0 rfl;have v5 : wr.cell? ⟨a3, 1, none⟩ = some (.slice A0_1 l0_1.length c0_1) := bcz a4 1 rfl;have u5 : wr.cell? ⟨a3, 2, none⟩ = some (d1) := bcz a4 2 rfl;have x6 := blk_frozen a4.out 0;have u0 := blk_frozen a4.out 1;have u4 := blk_frozen a4.out 2;obtain ⟨t6, s8, t4⟩ := Kd.R_slice a7.out;subst t4;go_wp2_with (first | ((with_reducible refine gate_callee (f := 104) rfl ?_); refine goesL_ (some 54) rfl rfl Try.func104 (by kernel_rfl) rfl #[.agg #[.int .i64 b9, .slice A0_1 l0_1.length c0_1, .slice t6 d2.length s8]] rfl (by (try simp only [List.map_toArray, List.map_cons, List.map_nil]); first | done | rfl | (simp only [List.length_drop, List.length_take]; rfl)) ?_; (with_reducible refine (Pxj.calls b9 _ _ l0_1 _ _ d2 e7 f4 g7 o7 _ ?e8 ?e9 ?m5 ?m1 y9.out).mono ?_); (case e8 => exact cz i4.out HB.out); (case e9 => exact j2.out); (case m5 => repeat (first | exact (Kd.R_reads' a7.out).2.2 | (with_reducible refine Kd.C_alloc ?_ _) | (with_reducible refine Kd.C_drewN ?_ _) | (with_reducible refine Kd.C_drew ?_))); (case m1 => exact (Kd.R_reads' a7.out).2.1); rintro e p0 ⟨C6, D1, rfl, j9, p2, hb⟩; refine ⟨_, rfl, ?_⟩; have b2 := Aside0.mk (Kd.R_below (rz d6.out) hb); have b1 := Aside0.mk (Kd.R_elder' (rz a7.out) (Kd.R_base p2) hb); have b3 := Aside0.mk (Kd.R_lower j9 (below_size (wz HB.out))); have b5 := Aside0.mk (Kd.R_lower (Kd.R_new' p2 (Kd.R_lt (rz a7.out))) (below_size (wz HB.out))); have d0 := Aside0.mk (blk_below (bz a0.out) hb); have d4 := Aside0.mk (blk_below (bz a2.out) hb); have d5 := Aside0.mk (blk_below (bz a4.out) hb); have e1 := Aside0.mk (below_step (wz HB.out) hb); clear d6; clear a7; clear a0; clear a2; clear a4; clear HB; have d6 := b2; have a7 := b1; have m8 := b3; have m2 := b5; have a0 := d0; have a2 := d4; have a4 := d5; have HB := e1; clear b2 b1 b3 b5 d0 d4 d5 e1; (try clear hb); (try clear k0); (try clear hk); (try clear hi); (try clear j9); (try clear p2); have z1 := d8.out; have B9 := d7.out; have v3 : p0.cell? ⟨a8, 0, none⟩ = some (.int .i64 0) := bcz a2 0 rfl; have u8 : p0.cell? ⟨a8, 1, none⟩ = some (.slice none 0 0) := bcz a2 1 rfl; have x4 : p0.cell? ⟨a8, 2, none⟩ = some (.slice none 0 0) := bcz a2 2 rfl; have w2 := blk_frozen a2.out 0; have w7 := blk_frozen a2.out 1; have v7 := blk_frozen a2.out 2; obtain ⟨i3, i7, t7⟩ := Kd.R_slice m8.out; subst t7; obtain ⟨l4, k9, t5⟩ := Kd.R_slice m2.out; subst t5))
       refine bodyPost_ret (results_ct rfl _ _ a8 25 #[.int .i64 e7, .slice i3 f4.length i7, .slice l4 g7.length k9] (0, 0) _ rfl (by (with_reducible repeat (first | refine blk_drewN ?_ _ | refine blk_drew ?_ | refine blk_alloc ?_ _)); refine blk_put (cs := #[.int .i64 e7, .slice i3 f4.length i7, .slice none 0 0]) ?_ 2 _ rfl; (with_reducible repeat (first | refine blk_drewN ?_ _ | refine blk_drew ?_ | refine blk_alloc ?_ _)); refine blk_put (cs := #[.int .i64 e7, .slice none 0 0, .slice none 0 0]) ?_ 1 _ rfl; (with_reducible repeat (first | refine blk_drewN ?_ _ | refine blk_drew ?_ | refine blk_alloc ?_ _)); refine blk_put (cs := #[.int .i64 0, .slice none 0 0, .slice none 0 0]) ?_ 0 _ rfl; (with_reducible repeat (first | refine blk_drewN ?_ _ | refine blk_drew ?_ | refine blk_alloc ?_ _)); exact a2.out) Try.underlying25 rfl (by kernel_rfl)) rfl ?_;exact ⟨_, _, by first | rfl | (simp [errW_none, errW_some] <;> rfl) | (simp [*, errW_none, errW_some] <;> rfl), rz (Kd.R_mono (Kd.R_far (p := ⟨a8, 2, none⟩) (Kd.R_far (p := ⟨a8, 1, none⟩) (Kd.R_far (p := ⟨a8, 0, none⟩) (Kd.R_types m8.out a2.out (by decide)) (fun _ hk => hk.2) (.int .i64 e7)) (fun _ hk => hk.2) (.slice i3 f4.length i7)) (fun _ hk => hk.2) (.slice l4 g7.length k9)) (fun _ hk => trivial)), rz (Kd.R_mono (Kd.R_far (p := ⟨a8, 2, none⟩) (Kd.R_far (p := ⟨a8, 1, none⟩) (Kd.R_far (p := ⟨a8, 0, none⟩) (Kd.R_types m2.out a2.out (by decide)) (fun _ hk => hk.2) (.int .i64 e7)) (fun _ hk => hk.2) (.slice i3 f4.length i7)) (fun _ hk => hk.2) (.slice l4 g7.length k9)) (fun _ hk => trivial)), wz HB.out⟩
def Pxe.f (k : Nat) (a0_0 : Int) (l0_1 : List ByteArray) (l0_2 : List (S80)) : Option (Int × List ByteArray × (List (S80)) × List Int × Int) := (Pra.f a0_0 l0_1 l0_2).bind fun bt287 => (if bt287.2 = 0 then ((Pxl.f k a0_0 l0_1 l0_2 bt287.1).bind fun bt291 => (some (bt291.1, bt291.2.1, bt291.2.2.1, bt287.1, bt291.2.2.2))) else (some (0, ([] : List ByteArray), ([] : List (S80)), ([] : List Int), bt287.2)))
theorem Pxe.mono : ∀ a0 a1 a2 k, LeO (Pxe.f k a0 a1 a2) (Pxe.f (k + 1) a0 a1 a2) := by
 intro a0 a1 a2 k
 unfold Pxe.f
 repeat' first
   | (with_reducible exact Pxl.mono _ _ _ _ _)
   | (with_reducible exact LeO.refl _)
   | (with_reducible exact LeO.none _)
   | (with_reducible refine LeO.ite ?_ ?_)
   | (with_reducible refine LeO.bind ?_ (fun _ => ?_))
   | exact Pxl.mono _ _ _ _ _
   | exact LeO.none _
   | refine LeO.ite ?_ ?_
   | refine LeO.bind ?_ (fun _ => ?_)
set_option maxHeartbeats 8000000 in
set_option maxRecDepth 100000 in
theorem Pxe.calls (k : Nat) (a0_0 : Int) (A0_1 : Option Addr) (c0_1 : Nat) (l0_1 : List ByteArray) (A0_2 : Option Addr) (c0_2 : Nat) (l0_2 : List (S80)) (r1 : Int) (r2 : List ByteArray) (r3 : List (S80)) (r4 : List Int) (r5 : Int) (w : World) (hr0_1 : Kd.C Kd.string w A0_1 l0_1.length l0_1) (hc0_1 : l0_1.length ≤ c0_1) (hr0_2 : Kd.C k80 w A0_2 l0_2.length l0_2) (hc0_2 : l0_2.length ≤ c0_2) (h : Pxe.f k a0_0 l0_1 l0_2 = some (r1, r2, r3, r4, r5)) :
  Calls Try.prog 49 #[.agg #[.int .i64 a0_0, .slice A0_1 l0_1.length c0_1, .slice A0_2 l0_2.length c0_2]] w fun e w' => ∃ v1_ v2_ v3_ : Value, e = .returned (.tuple #[.agg #[.int .i64 r1, v1_, v2_], v3_, .int .i64 r5]) ∧ Kd.R Kd.string 9 w' w.heap.size (fun _ => True) v1_ r2 ∧ Kd.R k80 80 w' w.heap.size (fun _ => True) v2_ r3 ∧ Kd.R (Kd.int .i64) 3 w' w.heap.size (fun _ => True) v3_ r4 ∧ Below w.heap.size w w' := by
 have m9 := Try.underlying25;have e2 := Aside0.mk hr0_1;have e4 := Aside0.mk hc0_1;clear hr0_1 hc0_1;have e3 := Aside0.mk hr0_2;have e5 := Aside0.mk hc0_2;clear hr0_2 hc0_2;have HB := Aside0.mk (Below.refl w.heap.size w);have H : ((Pra.f a0_0 l0_1 l0_2).bind fun e0 => (if e0.2 = 0 then ((Pxl.f k a0_0 l0_1 l0_2 e0.1).bind fun b1 => (some (b1.1, b1.2.1, b1.2.2.1, e0.1, b1.2.2.2))) else (some (0, ([] : List ByteArray), ([] : List (S80)), ([] : List Int), e0.2)))) = some (r1, r2, r3, r4, r5) := h;clear h;replace H := Option.bind_eq_some_iff.mp H;obtain ⟨⟨d3, b6⟩, g7, H⟩ := H;replace H : (if b6 = 0 then ((Pxl.f k a0_0 l0_1 l0_2 d3).bind fun b1 => (some (b1.1, b1.2.1, b1.2.2.1, d3, b1.2.2.2))) else (some (0, ([] : List ByteArray), ([] : List (S80)), ([] : List Int), b6))) = some (r1, r2, r3, r4, r5) := H;have A2 := Aside0.mk g7;clear g7;by_cases c3 : b6 = 0
 ·rw [if_pos c3] at H;have c3b0 : (b6 == 0) = true := beq_iff_eq.mpr c3;have c3b1 : (b6 != 0) = false := bne_eq_false_iff_eq.mpr c3;clear c3;replace H := Option.bind_eq_some_iff.mp H;obtain ⟨⟨b2, b4, b5, f3⟩, g6, H⟩ := H;replace H : (some (b2, b4, b5, d3, f3)) = some (r1, r2, r3, r4, r5) := H;have A4 := Aside0.mk g6;clear g6;simp only [Option.some.injEq, Prod.mk.injEq] at H;obtain ⟨rfl, rfl, rfl, rfl, rfl⟩ := H;go_enter Try.func49, Try.ntmps49
  go_wp2_with (first | ((with_reducible refine gate_dst (N := 1) rfl ?_); refine box_event ?hg (N := 1) ?hd (cs := #[.int .i64 a0_0, .slice A0_1 l0_1.length c0_1, .slice A0_2 l0_2.length c0_2]) (t := 25) ?hr ?_; (case hd => rfl); (case hg => rfl); (case hr => first | (go_simp; done) | (go_simp; rfl)); intro a3 hg w5 hbox hb; have a6 := Aside0.mk (below_step (wz HB.out) hb); have a5 := Aside0.mk (hbox); have a8 := Aside0.mk ((by rw [hg]; exact (below_size (wz HB.out)) : w.heap.size ≤ a3)); have a7 := Aside0.mk ((by rw [hg]; exact (below_size (wz HB.out)) : w.heap.size ≤ a3)); clear HB; have HB := a6; have a0 := a5; have f9 := a8; have g1 := a7; clear a6 a5 a8 a7; clear hb hbox hg) | ((with_reducible refine gate_dst (N := 2) rfl ?_); refine box_event ?hg (N := 2) ?hd (cs := #[.int .i64 0, .slice none 0 0, .slice none 0 0]) (t := 25) ?hr ?_; (case hd => rfl); (case hg => rfl); (case hr => first | (go_simp; done) | (go_simp; rfl)); intro a2 hg w6 hbox hb; have a6 := Aside0.mk (blk_below (bz a0.out) hb); have a5 := Aside0.mk (below_step (wz HB.out) hb); have a8 := Aside0.mk (hbox); have a7 := Aside0.mk ((by rw [hg]; exact (below_size (wz HB.out)) : w.heap.size ≤ a2)); have b9 := Aside0.mk ((by rw [hg]; exact (below_size (wz HB.out)) : w.heap.size ≤ a2)); have b7 := Aside0.mk ((by rw [hg]; exact Nat.ne_of_lt (blk_lt (g := a3) (o := .cells #[.int .i64 a0_0, .slice A0_1 l0_1.length c0_1, .slice A0_2 l0_2.length c0_2] 25 (0, 0)) (bz a0.out)) : a3 ≠ a2)); have d9 := Aside0.mk ((by rw [hg]; exact Nat.ne_of_gt (blk_lt (g := a3) (o := .cells #[.int .i64 a0_0, .slice A0_1 l0_1.length c0_1, .slice A0_2 l0_2.length c0_2] 25 (0, 0)) (bz a0.out)) : a2 ≠ a3)); clear a0; clear HB; have a0 := a6; have HB := a5; have a1 := a8; have g0 := a7; have g2 := b9; have b8 := b7; have d0 := d9; clear a6 a5 a8 a7 b9 b7 d9; clear hb hbox hg; have n1 := b8.out; have n0 := d0.out; have k9 : w6.cell? ⟨a3, 0, none⟩ = some (.int .i64 a0_0) := bcz a0 0 rfl; have l5 : w6.cell? ⟨a3, 1, none⟩ = some (.slice A0_1 l0_1.length c0_1) := bcz a0 1 rfl; have l7 : w6.cell? ⟨a3, 2, none⟩ = some (.slice A0_2 l0_2.length c0_2) := bcz a0 2 rfl; have l6 := blk_frozen a0.out 0; have l3 := blk_frozen a0.out 1; have l4 := blk_frozen a0.out 2) | ((with_reducible refine gate_callee (f := 17) rfl ?_); refine goesL_ (some 10) rfl rfl Try.func17 (by kernel_rfl) rfl #[.agg #[.int .i64 a0_0, .slice A0_1 l0_1.length c0_1, .slice A0_2 l0_2.length c0_2]] rfl (by (try simp only [List.map_toArray, List.map_cons, List.map_nil]); first | done | rfl | (simp only [List.length_drop, List.length_take]; rfl)) ?_; (with_reducible refine (Pra.calls a0_0 _ _ l0_1 _ _ l0_2 d3 b6 _ ?f1 ?f2 ?f0 ?e9 A2.out).mono ?_); (case f1 => exact cz e2.out HB.out); (case f2 => exact e4.out); (case f0 => exact cz e3.out HB.out); (case e9 => exact e5.out); rintro e w9 ⟨h4, rfl, d8, hb⟩; refine ⟨_, rfl, ?_⟩; have a6 := Aside0.mk (Kd.R_lower d8 (below_size (wz HB.out))); have a5 := Aside0.mk (blk_below (bz a0.out) hb); have a8 := Aside0.mk (blk_below (bz a1.out) hb); have a7 := Aside0.mk (below_step (wz HB.out) hb); clear a0; clear a1; clear HB; have a9 := a6; have a0 := a5; have a1 := a8; have HB := a7; clear a6 a5 a8 a7; (try clear hb); (try clear g8); (try clear hk); (try clear hi); (try clear d8); have k8 : w9.cell? ⟨a3, 0, none⟩ = some (.int .i64 a0_0) := bcz a0 0 rfl; have k2 : w9.cell? ⟨a3, 1, none⟩ = some (.slice A0_1 l0_1.length c0_1) := bcz a0 1 rfl; have k0 : w9.cell? ⟨a3, 2, none⟩ = some (.slice A0_2 l0_2.length c0_2) := bcz a0 2 rfl; have j3 := blk_frozen a0.out 0; have h6 := blk_frozen a0.out 1; have i8 := blk_frozen a0.out 2; obtain ⟨h0, h1, h3⟩ := Kd.R_slice a9.out; subst h3) | ((with_reducible refine gate_callee (f := 47) rfl ?_); refine goesL_ (some 20) rfl rfl Try.func47 (by kernel_rfl) rfl #[.agg #[.int .i64 a0_0, .slice A0_1 l0_1.length c0_1, .slice A0_2 l0_2.length c0_2], .slice h0 d3.length h1] rfl (by (try simp only [List.map_toArray, List.map_cons, List.map_nil]); first | done | rfl | (simp only [List.length_drop, List.length_take]; rfl)) ?_; (with_reducible refine (Pxl.calls k a0_0 _ _ l0_1 _ _ l0_2 _ _ d3 b2 b4 b5 f3 _ ?f1 ?f2 ?f0 ?e9 ?l8 ?m2 A4.out).mono ?_); (case f1 => exact cz e2.out HB.out); (case f2 => exact e4.out); (case f0 => exact cz e3.out HB.out); (case e9 => exact e5.out); (case l8 => repeat (first | exact (Kd.R_reads' a9.out).2.2 | (with_reducible refine Kd.C_alloc ?_ _) | (with_reducible refine Kd.C_drewN ?_ _) | (with_reducible refine Kd.C_drew ?_))); (case m2 => exact (Kd.R_reads' a9.out).2.1); rintro e n3 ⟨m8, n2, rfl, d8, g5, hb⟩; refine ⟨_, rfl, ?_⟩; have a6 := Aside0.mk (Kd.R_below (rz a9.out) hb); have a5 := Aside0.mk (Kd.R_lower d8 (below_size (wz HB.out))); have a8 := Aside0.mk (Kd.R_lower g5 (below_size (wz HB.out))); have a7 := Aside0.mk (blk_below (bz a0.out) hb); have b9 := Aside0.mk (blk_below (bz a1.out) hb); have b7 := Aside0.mk (below_step (wz HB.out) hb); clear a9; clear a0; clear a1; clear HB; have a9 := a6; have d6 := a5; have d7 := a8; have a0 := a7; have a1 := b9; have HB := b7; clear a6 a5 a8 a7 b9 b7; (try clear hb); (try clear g8); (try clear hk); (try clear hi); (try clear d8); (try clear g5)) | ((with_reducible refine gate_dst (N := 7) rfl ?_); refine box_event ?hg (N := 7) ?hd (cs := #[.int .i64 0, .slice none 0 0, .slice none 0 0]) (t := 25) ?hr ?_; (case hd => rfl); (case hg => rfl); (case hr => first | (go_simp; done) | (go_simp; rfl)); intro a4 hg e1 hbox hb; have a6 := Aside0.mk (Kd.R_below (rz a9.out) hb); have a5 := Aside0.mk (Kd.R_below (rz d6.out) hb); have a8 := Aside0.mk (Kd.R_below (rz d7.out) hb); have a7 := Aside0.mk (blk_below (bz a0.out) hb); have b9 := Aside0.mk (blk_below (bz a1.out) hb); have b7 := Aside0.mk (below_step (wz HB.out) hb); have d9 := Aside0.mk (hbox); have g3 := Aside0.mk ((by rw [hg]; exact (below_size (wz HB.out)) : w.heap.size ≤ a4)); have g4 := Aside0.mk ((by rw [hg]; exact (below_size (wz HB.out)) : w.heap.size ≤ a4)); have g9 := Aside0.mk ((by rw [hg]; exact Nat.ne_of_lt (blk_lt (g := a3) (o := .cells #[.int .i64 a0_0, .slice A0_1 l0_1.length c0_1, .slice A0_2 l0_2.length c0_2] 25 (0, 0)) (bz a0.out)) : a3 ≠ a4)); have f7 := Aside0.mk ((by rw [hg]; exact Nat.ne_of_gt (blk_lt (g := a3) (o := .cells #[.int .i64 a0_0, .slice A0_1 l0_1.length c0_1, .slice A0_2 l0_2.length c0_2] 25 (0, 0)) (bz a0.out)) : a4 ≠ a3)); have f5 := Aside0.mk ((by rw [hg]; exact Nat.ne_of_lt (blk_lt (g := a2) (o := .cells #[.int .i64 0, .slice none 0 0, .slice none 0 0] 25 (0, 0)) (bz a1.out)) : a2 ≠ a4)); have f8 := Aside0.mk ((by rw [hg]; exact Nat.ne_of_gt (blk_lt (g := a2) (o := .cells #[.int .i64 0, .slice none 0 0, .slice none 0 0] 25 (0, 0)) (bz a1.out)) : a4 ≠ a2)); clear a9; clear d6; clear d7; clear a0; clear a1; clear HB; have a9 := a6; have d6 := a5; have d7 := a8; have a0 := a7; have a1 := b9; have HB := b7; have b0 := d9; have m5 := g3; have l9 := g4; have e7 := g9; have e6 := f7; have b3 := f5; have e8 := f8; clear a6 a5 a8 a7 b9 b7 d9 g3 g4 g9 f7 f5 f8; clear hb hbox hg; have m7 := e6.out; have m0 := e7.out; have m1 := e8.out; have m3 := b3.out; have j2 : e1.cell? ⟨a4, 0, none⟩ = some (.int .i64 0) := bcz b0 0 rfl; have h8 : e1.cell? ⟨a4, 1, none⟩ = some (.slice none 0 0) := bcz b0 1 rfl; have k6 : e1.cell? ⟨a4, 2, none⟩ = some (.slice none 0 0) := bcz b0 2 rfl; have j6 := blk_frozen b0.out 0; have j4 := blk_frozen b0.out 1; have j8 := blk_frozen b0.out 2; obtain ⟨d1, d2, h2⟩ := Kd.R_slice d6.out; subst h2; obtain ⟨d4, d5, h5⟩ := Kd.R_slice d7.out; subst h5; have j9 : e1.cell? ⟨a2, 0, none⟩ = some (.int .i64 0) := bcz a1 0 rfl; have h9 : e1.cell? ⟨a2, 1, none⟩ = some (.slice none 0 0) := bcz a1 1 rfl; have i1 : e1.cell? ⟨a2, 2, none⟩ = some (.slice none 0 0) := bcz a1 2 rfl; have i0 := blk_frozen a1.out 0; have i7 := blk_frozen a1.out 1; have h7 := blk_frozen a1.out 2))
  refine bodyPost_ret (results_ctt rfl _ _ a2 25 #[.int .i64 b2, .slice d1 b4.length d2, .slice d4 b5.length d5] (0, 0) _ rfl (by (with_reducible repeat (first | refine blk_drewN ?_ _ | refine blk_drew ?_ | refine blk_alloc ?_ _)); refine blk_put (cs := #[.int .i64 b2, .slice d1 b4.length d2, .slice none 0 0]) ?_ 2 _ rfl; (with_reducible repeat (first | refine blk_drewN ?_ _ | refine blk_drew ?_ | refine blk_alloc ?_ _)); refine blk_put (cs := #[.int .i64 b2, .slice none 0 0, .slice none 0 0]) ?_ 1 _ rfl; (with_reducible repeat (first | refine blk_drewN ?_ _ | refine blk_drew ?_ | refine blk_alloc ?_ _)); refine blk_put (cs := #[.int .i64 0, .slice none 0 0, .slice none 0 0]) ?_ 0 _ rfl; (with_reducible repeat (first | refine blk_drewN ?_ _ | refine blk_drew ?_ | refine blk_alloc ?_ _)); refine blk_far ?_ b3.out _; (with_reducible repeat (first | refine blk_drewN ?_ _ | refine blk_drew ?_ | refine blk_alloc ?_ _)); refine blk_far ?_ b3.out _; (with_reducible repeat (first | refine blk_drewN ?_ _ | refine blk_drew ?_ | refine blk_alloc ?_ _)); refine blk_far ?_ b3.out _; (with_reducible repeat (first | refine blk_drewN ?_ _ | refine blk_drew ?_ | refine blk_alloc ?_ _)); exact a1.out) Try.underlying25 rfl (by kernel_rfl)) rfl ?_;exact ⟨_, _, _, by first | rfl | (simp [errW_none, errW_some] <;> rfl) | (simp [*, errW_none, errW_some] <;> rfl), rz (Kd.R_mono (Kd.R_far (p := ⟨a2, 2, none⟩) (Kd.R_far (p := ⟨a2, 1, none⟩) (Kd.R_far (p := ⟨a2, 0, none⟩) (Kd.R_far (p := ⟨a4, 2, none⟩) (Kd.R_far (p := ⟨a4, 1, none⟩) (Kd.R_far (p := ⟨a4, 0, none⟩) (Kd.R_types (Kd.R_types d6.out b0.out (by decide)) a1.out (by decide)) (fun _ hk => hk.1.2) (.int .i64 b2)) (fun _ hk => hk.1.2) (.slice d1 b4.length d2)) (fun _ hk => hk.1.2) (.slice d4 b5.length d5)) (fun _ hk => hk.2) (.int .i64 b2)) (fun _ hk => hk.2) (.slice d1 b4.length d2)) (fun _ hk => hk.2) (.slice d4 b5.length d5)) (fun _ hk => trivial)), rz (Kd.R_mono (Kd.R_far (p := ⟨a2, 2, none⟩) (Kd.R_far (p := ⟨a2, 1, none⟩) (Kd.R_far (p := ⟨a2, 0, none⟩) (Kd.R_far (p := ⟨a4, 2, none⟩) (Kd.R_far (p := ⟨a4, 1, none⟩) (Kd.R_far (p := ⟨a4, 0, none⟩) (Kd.R_types (Kd.R_types d7.out b0.out (by decide)) a1.out (by decide)) (fun _ hk => hk.1.2) (.int .i64 b2)) (fun _ hk => hk.1.2) (.slice d1 b4.length d2)) (fun _ hk => hk.1.2) (.slice d4 b5.length d5)) (fun _ hk => hk.2) (.int .i64 b2)) (fun _ hk => hk.2) (.slice d1 b4.length d2)) (fun _ hk => hk.2) (.slice d4 b5.length d5)) (fun _ hk => trivial)), rz (Kd.R_mono (Kd.R_far (p := ⟨a2, 2, none⟩) (Kd.R_far (p := ⟨a2, 1, none⟩) (Kd.R_far (p := ⟨a2, 0, none⟩) (Kd.R_far (p := ⟨a4, 2, none⟩) (Kd.R_far (p := ⟨a4, 1, none⟩) (Kd.R_far (p := ⟨a4, 0, none⟩) (Kd.R_types (Kd.R_types a9.out b0.out (by decide)) a1.out (by decide)) (fun _ hk => hk.1.2) (.int .i64 b2)) (fun _ hk => hk.1.2) (.slice d1 b4.length d2)) (fun _ hk => hk.1.2) (.slice d4 b5.length d5)) (fun _ hk => hk.2) (.int .i64 b2)) (fun _ hk => hk.2) (.slice d1 b4.length d2)) (fun _ hk => hk.2) (.slice d4 b5.length d5)) (fun _ hk => trivial)), wz HB.out⟩
 ·rw [if_neg c3] at H;have c3b0 : (b6 == 0) = false := beq_eq_false_iff_ne.mpr c3;have c3b1 : (b6 != 0) = true := bne_iff_ne.mpr c3;simp only [Option.some.injEq, Prod.mk.injEq] at H;obtain ⟨rfl, rfl, rfl, rfl, rfl⟩ := H;go_enter Try.func49, Try.ntmps49
  go_wp2_with (first | ((with_reducible refine gate_dst (N := 1) rfl ?_); refine box_event ?hg (N := 1) ?hd (cs := #[.int .i64 a0_0, .slice A0_1 l0_1.length c0_1, .slice A0_2 l0_2.length c0_2]) (t := 25) ?hr ?_; (case hd => rfl); (case hg => rfl); (case hr => first | (go_simp; done) | (go_simp; rfl)); intro a3 hg n4 hbox hb; have a6 := Aside0.mk (below_step (wz HB.out) hb); have a5 := Aside0.mk (hbox); have a8 := Aside0.mk ((by rw [hg]; exact (below_size (wz HB.out)) : w.heap.size ≤ a3)); have a7 := Aside0.mk ((by rw [hg]; exact (below_size (wz HB.out)) : w.heap.size ≤ a3)); clear HB; have HB := a6; have a0 := a5; have f9 := a8; have g1 := a7; clear a6 a5 a8 a7; clear hb hbox hg) | ((with_reducible refine gate_dst (N := 2) rfl ?_); refine box_event ?hg (N := 2) ?hd (cs := #[.int .i64 0, .slice none 0 0, .slice none 0 0]) (t := 25) ?hr ?_; (case hd => rfl); (case hg => rfl); (case hr => first | (go_simp; done) | (go_simp; rfl)); intro a2 hg f4 hbox hb; have a6 := Aside0.mk (blk_below (bz a0.out) hb); have a5 := Aside0.mk (below_step (wz HB.out) hb); have a8 := Aside0.mk (hbox); have a7 := Aside0.mk ((by rw [hg]; exact (below_size (wz HB.out)) : w.heap.size ≤ a2)); have b9 := Aside0.mk ((by rw [hg]; exact (below_size (wz HB.out)) : w.heap.size ≤ a2)); have b7 := Aside0.mk ((by rw [hg]; exact Nat.ne_of_lt (blk_lt (g := a3) (o := .cells #[.int .i64 a0_0, .slice A0_1 l0_1.length c0_1, .slice A0_2 l0_2.length c0_2] 25 (0, 0)) (bz a0.out)) : a3 ≠ a2)); have d9 := Aside0.mk ((by rw [hg]; exact Nat.ne_of_gt (blk_lt (g := a3) (o := .cells #[.int .i64 a0_0, .slice A0_1 l0_1.length c0_1, .slice A0_2 l0_2.length c0_2] 25 (0, 0)) (bz a0.out)) : a2 ≠ a3)); clear a0; clear HB; have a0 := a6; have HB := a5; have a1 := a8; have g0 := a7; have g2 := b9; have b8 := b7; have d0 := d9; clear a6 a5 a8 a7 b9 b7 d9; clear hb hbox hg; have m4 := b8.out; have m6 := d0.out; have i9 : f4.cell? ⟨a3, 0, none⟩ = some (.int .i64 a0_0) := bcz a0 0 rfl; have k3 : f4.cell? ⟨a3, 1, none⟩ = some (.slice A0_1 l0_1.length c0_1) := bcz a0 1 rfl; have k5 : f4.cell? ⟨a3, 2, none⟩ = some (.slice A0_2 l0_2.length c0_2) := bcz a0 2 rfl; have j5 := blk_frozen a0.out 0; have i2 := blk_frozen a0.out 1; have k4 := blk_frozen a0.out 2) | ((with_reducible refine gate_callee (f := 17) rfl ?_); refine goesL_ (some 10) rfl rfl Try.func17 (by kernel_rfl) rfl #[.agg #[.int .i64 a0_0, .slice A0_1 l0_1.length c0_1, .slice A0_2 l0_2.length c0_2]] rfl (by (try simp only [List.map_toArray, List.map_cons, List.map_nil]); first | done | rfl | (simp only [List.length_drop, List.length_take]; rfl)) ?_; (with_reducible refine (Pra.calls a0_0 _ _ l0_1 _ _ l0_2 d3 b6 _ ?f1 ?f2 ?f0 ?e9 A2.out).mono ?_); (case f1 => exact cz e2.out HB.out); (case f2 => exact e4.out); (case f0 => exact cz e3.out HB.out); (case e9 => exact e5.out); rintro e f6 ⟨h4, rfl, d8, hb⟩; refine ⟨_, rfl, ?_⟩; have a6 := Aside0.mk (Kd.R_lower d8 (below_size (wz HB.out))); have a5 := Aside0.mk (blk_below (bz a0.out) hb); have a8 := Aside0.mk (blk_below (bz a1.out) hb); have a7 := Aside0.mk (below_step (wz HB.out) hb); clear a0; clear a1; clear HB; have a9 := a6; have a0 := a5; have a1 := a8; have HB := a7; clear a6 a5 a8 a7; (try clear hb); (try clear g8); (try clear hk); (try clear hi); (try clear d8); have i3 : f6.cell? ⟨a2, 0, none⟩ = some (.int .i64 0) := bcz a1 0 rfl; have k7 : f6.cell? ⟨a2, 1, none⟩ = some (.slice none 0 0) := bcz a1 1 rfl; have j7 : f6.cell? ⟨a2, 2, none⟩ = some (.slice none 0 0) := bcz a1 2 rfl; have k1 := blk_frozen a1.out 0; have i4 := blk_frozen a1.out 1; have i5 := blk_frozen a1.out 2))
  refine bodyPost_ret (results_ctt rfl _ _ a2 25 #[.int .i64 0, .slice none 0 0, .slice none 0 0] (0, 0) _ rfl (by (with_reducible repeat (first | refine blk_drewN ?_ _ | refine blk_drew ?_ | refine blk_alloc ?_ _)); refine blk_put (cs := #[.int .i64 0, .slice none 0 0, .slice none 0 0]) ?_ 2 _ rfl; (with_reducible repeat (first | refine blk_drewN ?_ _ | refine blk_drew ?_ | refine blk_alloc ?_ _)); refine blk_put (cs := #[.int .i64 0, .slice none 0 0, .slice none 0 0]) ?_ 1 _ rfl; (with_reducible repeat (first | refine blk_drewN ?_ _ | refine blk_drew ?_ | refine blk_alloc ?_ _)); refine blk_put (cs := #[.int .i64 0, .slice none 0 0, .slice none 0 0]) ?_ 0 _ rfl; (with_reducible repeat (first | refine blk_drewN ?_ _ | refine blk_drew ?_ | refine blk_alloc ?_ _)); exact a1.out) Try.underlying25 rfl (by kernel_rfl)) rfl ?_;exact ⟨_, _, _, by first | rfl | (simp [errW_none, errW_some] <;> rfl) | (simp [*, errW_none, errW_some] <;> rfl), by first | exact Kd.R_nil _ _ _ _ _ | exact Kd.N_nil _ _ _ _ _ | exact Kd.V_nil _ _ _ _ _ | exact Kd.Q_nil _ _ _ _ _ | exact Kd.S_nil _ _ _ _ _, by first | exact Kd.R_nil _ _ _ _ _ | exact Kd.N_nil _ _ _ _ _ | exact Kd.V_nil _ _ _ _ _ | exact Kd.Q_nil _ _ _ _ _ | exact Kd.S_nil _ _ _ _ _, by first | exact Kd.R_nil _ _ _ _ _ | exact Kd.N_nil _ _ _ _ _ | exact Kd.V_nil _ _ _ _ _ | exact Kd.Q_nil _ _ _ _ _ | exact Kd.S_nil _ _ _ _ _, wz HB.out⟩
end Go.Proofs.Ytmcbkmfpmcbdpaa.Pr
namespace Go.Proofs.Ytmcbkmfpmcbdpaa.Pr
open Go.RowKit Go.Proofs.YtmcbkmfpmcbdpaaW.PrintWords Go.Proofs.YtmcbkmfpmcbdpaaW.PrintLast Go.Proofs.YtmcbkmfpmcbdpaaW.PrintMore
attribute [local go_sem] max2_int min2_int max_two min_two max_three min_three max_four min_four
set_option linter.unusedVariables false
set_option linter.unusedSimpArgs false
def Pl36b.f (k : Nat)  : Option (Bool) := (some (([(⟨#[97]⟩ : ByteArray)] : List ByteArray) : List ByteArray)).bind fun y300 => ((some (([(⟨0, 0, 1⟩ : S80), (⟨1, 0, 0⟩ : S80)] : List (S80)) : List (S80))).bind fun y303 => ((Pxe.f k 2 y300 y303).bind fun bt307 => ((Pxl.f k 2 y300 y303 (([4, 2] : List Int))).bind fun bt322 => (if bt307.2.2.2.2 = 0 then (if bt307.1 = 1 then (if (bt307.2.2.1.length : Int) = 1 then ((Pr01b.f k bt307.2.2.2.1 (([0, 0] : List Int))).bind fun t334 => (if t334 = true then (if bt322.2.2.2 = 0 then ((Pr26b.f k bt322.1 bt322.2.1 bt322.2.2.1 2 y300 y303).bind fun t335 => (some t335)) else (some false)) else (some false))) else (some false)) else (some false)) else (some false)))))
theorem Pl36b.mono : ∀ k, LeO (Pl36b.f k ) (Pl36b.f (k + 1) ) := by
 intro  k
 unfold Pl36b.f
 repeat' first
   | (with_reducible exact Pxe.mono _ _ _ _)
   | (with_reducible exact Pxl.mono _ _ _ _ _)
   | (with_reducible exact Pr01b.mono _ _ _)
   | (with_reducible exact Pr26b.mono _ _ _ _ _ _ _)
   | (with_reducible exact LeO.refl _)
   | (with_reducible exact LeO.none _)
   | (with_reducible refine LeO.ite ?_ ?_)
   | (with_reducible refine LeO.bind ?_ (fun _ => ?_))
   | exact Pxe.mono _ _ _ _
   | exact Pxl.mono _ _ _ _ _
   | exact Pr01b.mono _ _ _
   | exact Pr26b.mono _ _ _ _ _ _ _
   | exact LeO.none _
   | refine LeO.ite ?_ ?_
   | refine LeO.bind ?_ (fun _ => ?_)
set_option maxHeartbeats 8000000 in
set_option maxRecDepth 100000 in
theorem Pl36b.calls (k : Nat)  (r : Bool) (w : World) (h : Pl36b.f k  = some r) (hr_ : Aside0 (r = true)) :
  Calls Try.prog 46 #[] w fun e w' => e = .returned (.bool r) ∧ Below w.heap.size w w' := by
 have s9 := Try.underlying80;have t2 := Try.underlying25;have HB := Aside0.mk (Below.refl w.heap.size w);have H : ((some (([(⟨#[97]⟩ : ByteArray)] : List ByteArray) : List ByteArray)).bind fun a7 => ((some (([(⟨0, 0, 1⟩ : S80), (⟨1, 0, 0⟩ : S80)] : List (S80)) : List (S80))).bind fun a8 => ((Pxe.f k 2 a7 a8).bind fun d7 => ((Pxl.f k 2 a7 a8 (([4, 2] : List Int))).bind fun b0 => (if d7.2.2.2.2 = 0 then (if d7.1 = 1 then (if (d7.2.2.1.length : Int) = 1 then ((Pr01b.f k d7.2.2.2.1 (([0, 0] : List Int))).bind fun e2 => (if e2 = true then (if b0.2.2.2 = 0 then ((Pr26b.f k b0.1 b0.2.1 b0.2.2.1 2 a7 a8).bind fun d0 => (some d0)) else (some false)) else (some false))) else (some false)) else (some false)) else (some false)))))) = some r := h;clear h;obtain ⟨a7, g6⟩ : ∃ y_ : List ByteArray, y_ = (([(⟨#[97]⟩ : ByteArray)] : List ByteArray)) := ⟨_, rfl⟩
 replace H : ((some (([(⟨0, 0, 1⟩ : S80), (⟨1, 0, 0⟩ : S80)] : List (S80)) : List (S80))).bind fun a8 => ((Pxe.f k 2 a7 a8).bind fun d7 => ((Pxl.f k 2 a7 a8 (([4, 2] : List Int))).bind fun b0 => (if d7.2.2.2.2 = 0 then (if d7.1 = 1 then (if (d7.2.2.1.length : Int) = 1 then ((Pr01b.f k d7.2.2.2.1 (([0, 0] : List Int))).bind fun e2 => (if e2 = true then (if b0.2.2.2 = 0 then ((Pr26b.f k b0.1 b0.2.1 b0.2.2.1 2 a7 a8).bind fun d0 => (some d0)) else (some false)) else (some false))) else (some false)) else (some false)) else (some false))))) = some r := by first | (rw [g6]; with_reducible exact H) | (have f7 := (Option.bind_some _ _).symm.trans H; rw [g6]; with_reducible exact f7) | (have f7 := (Option.bind_some _ _).symm.trans H; with_reducible exact f7) | with_reducible exact H | (rw [g6]; exact H) | exact H
 have j3 := Aside0.mk g6;clear g6;obtain ⟨a8, g7⟩ : ∃ y_ : List (S80), y_ = (([(⟨0, 0, 1⟩ : S80), (⟨1, 0, 0⟩ : S80)] : List (S80))) := ⟨_, rfl⟩
 replace H : ((Pxe.f k 2 a7 a8).bind fun d7 => ((Pxl.f k 2 a7 a8 (([4, 2] : List Int))).bind fun b0 => (if d7.2.2.2.2 = 0 then (if d7.1 = 1 then (if (d7.2.2.1.length : Int) = 1 then ((Pr01b.f k d7.2.2.2.1 (([0, 0] : List Int))).bind fun e2 => (if e2 = true then (if b0.2.2.2 = 0 then ((Pr26b.f k b0.1 b0.2.1 b0.2.2.1 2 a7 a8).bind fun d0 => (some d0)) else (some false)) else (some false))) else (some false)) else (some false)) else (some false)))) = some r := by first | (rw [g7]; with_reducible exact H) | (have f7 := (Option.bind_some _ _).symm.trans H; rw [g7]; with_reducible exact f7) | (have f7 := (Option.bind_some _ _).symm.trans H; with_reducible exact f7) | with_reducible exact H | (rw [g7]; exact H) | exact H
 have j5 := Aside0.mk g7;clear g7;replace H := Option.bind_eq_some_iff.mp H;obtain ⟨⟨b4, e9, b9, h0, g2⟩, k7, H⟩ := H;replace H : ((Pxl.f k 2 a7 a8 (([4, 2] : List Int))).bind fun b0 => (if g2 = 0 then (if b4 = 1 then (if (b9.length : Int) = 1 then ((Pr01b.f k h0 (([0, 0] : List Int))).bind fun e2 => (if e2 = true then (if b0.2.2.2 = 0 then ((Pr26b.f k b0.1 b0.2.1 b0.2.2.1 2 a7 a8).bind fun d0 => (some d0)) else (some false)) else (some false))) else (some false)) else (some false)) else (some false))) = some r := H;have A1 := Aside0.mk k7;clear k7;obtain ⟨j2, g9⟩ : ∃ y_ : List Int, y_ = (([4, 2] : List Int)) := ⟨_, rfl⟩
 replace H : ((Pxl.f k 2 a7 a8 j2).bind fun b0 => (if g2 = 0 then (if b4 = 1 then (if (b9.length : Int) = 1 then ((Pr01b.f k h0 (([0, 0] : List Int))).bind fun e2 => (if e2 = true then (if b0.2.2.2 = 0 then ((Pr26b.f k b0.1 b0.2.1 b0.2.2.1 2 a7 a8).bind fun d0 => (some d0)) else (some false)) else (some false))) else (some false)) else (some false)) else (some false))) = some r := by first | (rw [g9]; with_reducible exact H) | (have f7 := (Option.bind_some _ _).symm.trans H; rw [g9]; with_reducible exact f7) | (have f7 := (Option.bind_some _ _).symm.trans H; with_reducible exact f7) | with_reducible exact H | (rw [g9]; exact H) | exact H
 have j4 := Aside0.mk g9;clear g9;replace H := Option.bind_eq_some_iff.mp H;obtain ⟨⟨b8, d3, d6, g1⟩, k8, H⟩ := H;replace H : (if g2 = 0 then (if b4 = 1 then (if (b9.length : Int) = 1 then ((Pr01b.f k h0 (([0, 0] : List Int))).bind fun e2 => (if e2 = true then (if g1 = 0 then ((Pr26b.f k b8 d3 d6 2 a7 a8).bind fun d0 => (some d0)) else (some false)) else (some false))) else (some false)) else (some false)) else (some false)) = some r := H;have A2 := Aside0.mk k8;clear k8;by_cases c3 : g2 = 0
 ·rw [if_pos c3] at H;have c3b0 : (g2 == 0) = true := beq_iff_eq.mpr c3;have c3b1 : (g2 != 0) = false := bne_eq_false_iff_eq.mpr c3;clear c3;by_cases c4 : b4 = 1
  ·rw [if_pos c4] at H;have c4b0 : (b4 == 1) = true := beq_iff_eq.mpr c4;have c4b1 : (b4 != 1) = false := bne_eq_false_iff_eq.mpr c4;clear c4;by_cases c5 : (b9.length : Int) = 1
   ·rw [if_pos c5] at H;have c5b0 : ((b9.length : Int) == 1) = true := beq_iff_eq.mpr c5;have c5b1 : ((b9.length : Int) != 1) = false := bne_eq_false_iff_eq.mpr c5;clear c5;obtain ⟨j8, g8⟩ : ∃ y_ : List Int, y_ = (([0, 0] : List Int)) := ⟨_, rfl⟩
    replace H : ((Pr01b.f k h0 j8).bind fun e2 => (if e2 = true then (if g1 = 0 then ((Pr26b.f k b8 d3 d6 2 a7 a8).bind fun d0 => (some d0)) else (some false)) else (some false))) = some r := by first | (rw [g8]; with_reducible exact H) | (have f7 := (Option.bind_some _ _).symm.trans H; rw [g8]; with_reducible exact f7) | (have f7 := (Option.bind_some _ _).symm.trans H; with_reducible exact f7) | with_reducible exact H | (rw [g8]; exact H) | exact H
    have j6 := Aside0.mk g8;clear g8;replace H := Option.bind_eq_some_iff.mp H;obtain ⟨e2, l3, H⟩ := H;replace H : (if e2 = true then (if g1 = 0 then ((Pr26b.f k b8 d3 d6 2 a7 a8).bind fun d0 => (some d0)) else (some false)) else (some false)) = some r := H;have A6 := Aside0.mk l3;clear l3;by_cases c7 : e2 = true
    ·subst c7;have H1 : (if g1 = 0 then ((Pr26b.f k b8 d3 d6 2 a7 a8).bind fun d0 => (some d0)) else (some false)) = some r := by rw [if_pos rfl] at H; exact H
     clear H;have H := H1;clear H1;by_cases c8 : g1 = 0
     ·rw [if_pos c8] at H;have c8b0 : (g1 == 0) = true := beq_iff_eq.mpr c8;have c8b1 : (g1 != 0) = false := bne_eq_false_iff_eq.mpr c8;clear c8;replace H := Option.bind_eq_some_iff.mp H;obtain ⟨d0, l4, H⟩ := H;replace H : (some d0) = some r := H;have A9 := Aside0.mk l4;clear l4;obtain rfl := Option.some.inj H;go_enter Try.func46, Try.ntmps46
      go_wp2_with (first | ((with_reducible refine gate_dst (N := 7) rfl ?_); (try (refine gate_guard (by rfl) ?_; dsimp only)); refine Kd.R_lit Kd.string _ 9 ?hg (N := 7) ?hd (xs := ([(⟨#[97]⟩ : ByteArray)] : List ByteArray)) (inner := [.string (⟨#[97]⟩ : ByteArray)]) (ok := fun _ => True) (okp := fun _ => True) ?hr ?hp (fun _ hk => hk) trivial (Below.refl _ _) (Nat.le_refl _) (by simp) ?_; (case hd => rfl); (case hg => rfl); (case hr => first | (go_simp; done) | (go_simp; rfl)); (case hp => exact (Reps.one (show Kd.M Kd.string _ _ _ (⟨#[97]⟩ : ByteArray) [.string (⟨#[97]⟩ : ByteArray)] from rfl) (Reps.none _ _))); intro s2 u4 h8 hb hg_ hnew_; clear hg_ hnew_; (first | rw [← j3.out] at h8 | (simp only [Int.reduceToNat] at h8; rw [← j3.out] at h8)); have b6 := Aside0.mk (Kd.R_lower h8 (below_size (wz HB.out))); have b5 := Aside0.mk (below_step (wz HB.out) hb); clear HB; have a3 := b6; have HB := b5; clear b6 b5; clear hb h8) | ((with_reducible refine gate_dst (N := 10) rfl ?_); (try (refine gate_guard (by rfl) ?_; dsimp only)); refine Kd.R_lit k80 _ 80 ?hg (N := 10) ?hd (xs := ([(⟨0, 0, 1⟩ : S80), (⟨1, 0, 0⟩ : S80)] : List (S80))) (inner := [.int .i64 0, .int .i64 0, .int .i64 1, .int .i64 1, .int .i64 0, .int .i64 0]) (ok := fun _ => True) (okp := fun _ => True) ?hr ?hp (fun _ hk => hk) trivial (Below.refl _ _) (Nat.le_refl _) (by simp) ?_; (case hd => rfl); (case hg => rfl); (case hr => first | (go_simp; done) | (go_simp; rfl)); (case hp => exact (Reps.c3 (show Kd.M k80 _ _ _ (⟨0, 0, 1⟩ : S80) [.int .i64 0, .int .i64 0, .int .i64 1] from (k80_mkM _ _ _ (⟨0, 0, 1⟩ : S80) )) (Reps.c3 (show Kd.M k80 _ _ _ (⟨1, 0, 0⟩ : S80) [.int .i64 1, .int .i64 0, .int .i64 0] from (k80_mkM _ _ _ (⟨1, 0, 0⟩ : S80) )) (Reps.none _ _)))); intro s8 u0 h7 hb hg_ hnew_; clear hg_ hnew_; (first | rw [← j5.out] at h7 | (simp only [Int.reduceToNat] at h7; rw [← j5.out] at h7)); have b6 := Aside0.mk (Kd.R_below (rz a3.out) hb); have b5 := Aside0.mk (Kd.R_lower h7 (below_size (wz HB.out))); have d1 := Aside0.mk (below_step (wz HB.out) hb); clear a3; clear HB; have a3 := b6; have a6 := b5; have HB := d1; clear b6 b5 d1; clear hb h7; obtain ⟨d9, d4, l7⟩ := Kd.R_slice a6.out; subst l7; obtain ⟨d5, d2, l9⟩ := Kd.R_slice a3.out; subst l9) | ((with_reducible refine gate_dst (N := 1) rfl ?_); (try (refine gate_guard (by rfl) ?_; dsimp only)); refine box_event ?hg (N := 1) ?hd (cs := #[.int .i64 0, .slice none 0 0, .slice none 0 0]) (t := 25) ?hr ?_; (case hd => rfl); (case hg => rfl); (case hr => first | (go_simp; done) | (go_simp; rfl)); intro a2 hg j7 hbox hb; have b6 := Aside0.mk (Kd.R_below (rz a3.out) hb); have b5 := Aside0.mk (Kd.R_below (rz a6.out) hb); have d1 := Aside0.mk (below_step (wz HB.out) hb); have e1 := Aside0.mk (hbox); have e0 := Aside0.mk ((by rw [hg]; exact (below_size (wz HB.out)) : w.heap.size ≤ a2)); have d8 := Aside0.mk ((by rw [hg]; exact (below_size (wz HB.out)) : w.heap.size ≤ a2)); clear a3; clear a6; clear HB; have a3 := b6; have a6 := b5; have HB := d1; have a0 := e1; have r6 := e0; have s1 := d8; clear b6 b5 d1 e1 e0 d8; clear hb hbox hg; have n1 : j7.cell? ⟨a2, 0, none⟩ = some (.int .i64 0) := bcz a0 0 rfl; have p9 : j7.cell? ⟨a2, 1, none⟩ = some (.slice none 0 0) := bcz a0 1 rfl; have o6 : j7.cell? ⟨a2, 2, none⟩ = some (.slice none 0 0) := bcz a0 2 rfl; have p6 := blk_frozen a0.out 0; have q6 := blk_frozen a0.out 1; have o3 := blk_frozen a0.out 2) | ((with_reducible refine gate_callee (f := 49) rfl ?_); refine goesL_ (some 14) rfl rfl Try.func49 (by kernel_rfl) rfl #[.agg #[.int .i64 2, .slice d5 a7.length d2, .slice d9 a8.length d4]] rfl (by (try simp only [List.map_toArray, List.map_cons, List.map_nil]); first | done | rfl | (simp only [List.length_drop, List.length_take]; rfl)) ?_; (with_reducible refine (Pxe.calls k 2 _ _ a7 _ _ a8 b4 e9 b9 h0 g2 _ ?i4 ?i5 ?i3 ?i2 A1.out).mono ?_); (case i4 => refine (Kd.R_reads' (e := 9) (base := w.heap.size) (ok := fun k_ => True) (n := a7.length) (c := d2) ?_).2.2; exact (rz (Kd.R_mono (Kd.R_far (p := ⟨a2, 2, none⟩) (Kd.R_far (p := ⟨a2, 1, none⟩) (Kd.R_far (p := ⟨a2, 0, none⟩) (Kd.R_types a3.out a0.out (by decide)) (fun _ hk => hk.2) (.int .i64 2)) (fun _ hk => hk.2) (.slice d5 a7.length d2)) (fun _ hk => hk.2) (.slice d9 a8.length d4)) (fun _ h_ => h_.1)))); (case i5 => exact (Kd.R_reads' a3.out).2.1); (case i3 => refine (Kd.R_reads' (e := 80) (base := w.heap.size) (ok := fun k_ => True) (n := a8.length) (c := d4) ?_).2.2; exact (rz (Kd.R_mono (Kd.R_far (p := ⟨a2, 2, none⟩) (Kd.R_far (p := ⟨a2, 1, none⟩) (Kd.R_far (p := ⟨a2, 0, none⟩) (Kd.R_types a6.out a0.out (by decide)) (fun _ hk => hk.2) (.int .i64 2)) (fun _ hk => hk.2) (.slice d5 a7.length d2)) (fun _ hk => hk.2) (.slice d9 a8.length d4)) (fun _ h_ => h_.1)))); (case i2 => exact (Kd.R_reads' a6.out).2.1); rintro e u3 ⟨s7, s6, t4, rfl, h4, h3, k6, hb⟩; refine ⟨_, rfl, ?_⟩; have b6 := Aside0.mk (Kd.R_elder' (rz (Kd.R_mono (Kd.R_far (p := ⟨a2, 2, none⟩) (Kd.R_far (p := ⟨a2, 1, none⟩) (Kd.R_far (p := ⟨a2, 0, none⟩) (Kd.R_types a3.out a0.out (by decide)) (fun _ hk => hk.2) (.int .i64 2)) (fun _ hk => hk.2) (.slice d5 a7.length d2)) (fun _ hk => hk.2) (.slice d9 a8.length d4)) (fun _ h_ => h_.1))) (Kd.R_base h4) hb); have b5 := Aside0.mk (Kd.R_elder' (rz (Kd.R_mono (Kd.R_far (p := ⟨a2, 2, none⟩) (Kd.R_far (p := ⟨a2, 1, none⟩) (Kd.R_far (p := ⟨a2, 0, none⟩) (Kd.R_types a6.out a0.out (by decide)) (fun _ hk => hk.2) (.int .i64 2)) (fun _ hk => hk.2) (.slice d5 a7.length d2)) (fun _ hk => hk.2) (.slice d9 a8.length d4)) (fun _ h_ => h_.1))) (Kd.R_base h3) hb); have d1 := Aside0.mk (Kd.R_lower (Kd.R_new' h4 (Kd.R_lt (rz (Kd.R_mono (Kd.R_far (p := ⟨a2, 2, none⟩) (Kd.R_far (p := ⟨a2, 1, none⟩) (Kd.R_far (p := ⟨a2, 0, none⟩) (Kd.R_types a3.out a0.out (by decide)) (fun _ hk => hk.2) (.int .i64 2)) (fun _ hk => hk.2) (.slice d5 a7.length d2)) (fun _ hk => hk.2) (.slice d9 a8.length d4)) (fun _ h_ => h_.1))))) (below_size (wz HB.out))); have e1 := Aside0.mk (Kd.R_lower (Kd.R_new' h3 (Kd.R_lt (rz (Kd.R_mono (Kd.R_far (p := ⟨a2, 2, none⟩) (Kd.R_far (p := ⟨a2, 1, none⟩) (Kd.R_far (p := ⟨a2, 0, none⟩) (Kd.R_types a6.out a0.out (by decide)) (fun _ hk => hk.2) (.int .i64 2)) (fun _ hk => hk.2) (.slice d5 a7.length d2)) (fun _ hk => hk.2) (.slice d9 a8.length d4)) (fun _ h_ => h_.1))))) (below_size (wz HB.out))); have e0 := Aside0.mk (Kd.R_lower k6 (below_size (wz HB.out))); have d8 := Aside0.mk (blk_below (g := a2) (o := .cells #[.int .i64 2, .slice d5 a7.length d2, .slice d9 a8.length d4] 25 (0, 0)) (by (with_reducible repeat (first | refine blk_drewN ?_ _ | refine blk_drew ?_ | refine blk_alloc ?_ _)); refine blk_put (cs := #[.int .i64 2, .slice d5 a7.length d2, .slice none 0 0]) ?_ 2 _ rfl; (with_reducible repeat (first | refine blk_drewN ?_ _ | refine blk_drew ?_ | refine blk_alloc ?_ _)); refine blk_put (cs := #[.int .i64 2, .slice none 0 0, .slice none 0 0]) ?_ 1 _ rfl; (with_reducible repeat (first | refine blk_drewN ?_ _ | refine blk_drew ?_ | refine blk_alloc ?_ _)); refine blk_put (cs := #[.int .i64 0, .slice none 0 0, .slice none 0 0]) ?_ 0 _ rfl; (with_reducible repeat (first | refine blk_drewN ?_ _ | refine blk_drew ?_ | refine blk_alloc ?_ _)); exact a0.out) hb); have e5 := Aside0.mk (below_step (wz HB.out) hb); clear a3; clear a6; clear a0; clear HB; have a3 := b6; have a6 := b5; have b3 := d1; have b2 := e1; have b1 := e0; have a0 := d8; have HB := e5; clear b6 b5 d1 e1 e0 d8 e5; (try clear hb); (try clear k9); (try clear hk); (try clear hi); (try clear h4); (try clear h3); (try clear k6)) | ((with_reducible refine gate_dst (N := 2) rfl ?_); (try (refine gate_guard (by rfl) ?_; dsimp only)); refine box_event ?hg (N := 2) ?hd (cs := #[.int .i64 0, .slice none 0 0, .slice none 0 0]) (t := 25) ?hr ?_; (case hd => rfl); (case hg => rfl); (case hr => first | (go_simp; done) | (go_simp; rfl)); intro a5 hg h9 hbox hb; have b6 := Aside0.mk (Kd.R_below (rz a3.out) hb); have b5 := Aside0.mk (Kd.R_below (rz a6.out) hb); have d1 := Aside0.mk (Kd.R_below (rz b3.out) hb); have e1 := Aside0.mk (Kd.R_below (rz b2.out) hb); have e0 := Aside0.mk (Kd.R_below (rz b1.out) hb); have d8 := Aside0.mk (blk_below (bz a0.out) hb); have e5 := Aside0.mk (below_step (wz HB.out) hb); have f0 := Aside0.mk (hbox); have f1 := Aside0.mk ((by rw [hg]; exact (below_size (wz HB.out)) : w.heap.size ≤ a5)); have g0 := Aside0.mk ((by rw [hg]; exact (below_size (wz HB.out)) : w.heap.size ≤ a5)); have e6 := Aside0.mk ((by rw [hg]; exact Nat.ne_of_lt (blk_lt (g := a2) (o := .cells #[.int .i64 2, .slice d5 a7.length d2, .slice d9 a8.length d4] 25 (0, 0)) (bz a0.out)) : a2 ≠ a5)); have f8 := Aside0.mk ((by rw [hg]; exact Nat.ne_of_gt (blk_lt (g := a2) (o := .cells #[.int .i64 2, .slice d5 a7.length d2, .slice d9 a8.length d4] 25 (0, 0)) (bz a0.out)) : a5 ≠ a2)); clear a3; clear a6; clear b3; clear b2; clear b1; clear a0; clear HB; have a3 := b6; have a6 := b5; have b3 := d1; have b2 := e1; have b1 := e0; have a0 := d8; have HB := e5; have a4 := f0; have q9 := f1; have r9 := g0; have h2 := e6; have i8 := f8; clear b6 b5 d1 e1 e0 d8 e5 f0 f1 g0 e6 f8; clear hb hbox hg; have r7 := i8.out; have s0 := h2.out; have o8 : h9.cell? ⟨a5, 0, none⟩ = some (.int .i64 0) := bcz a4 0 rfl; have p0 : h9.cell? ⟨a5, 1, none⟩ = some (.slice none 0 0) := bcz a4 1 rfl; have n0 : h9.cell? ⟨a5, 2, none⟩ = some (.slice none 0 0) := bcz a4 2 rfl; have n9 := blk_frozen a4.out 0; have p4 := blk_frozen a4.out 1; have o5 := blk_frozen a4.out 2; obtain ⟨f4, f2, m3⟩ := Kd.R_slice b3.out; subst m3; obtain ⟨f6, f9, l8⟩ := Kd.R_slice b2.out; subst l8; have p8 : h9.cell? ⟨a2, 0, none⟩ = some (.int .i64 2) := bcz a0 0 rfl; have n5 : h9.cell? ⟨a2, 1, none⟩ = some (.slice d5 a7.length d2) := bcz a0 1 rfl; have n7 : h9.cell? ⟨a2, 2, none⟩ = some (.slice d9 a8.length d4) := bcz a0 2 rfl; have m9 := blk_frozen a0.out 0; have o9 := blk_frozen a0.out 1; have q3 := blk_frozen a0.out 2) | ((with_reducible refine gate_dst (N := 20) rfl ?_); (try (refine gate_guard (by rfl) ?_; dsimp only)); refine Kd.R_lit (Kd.int .i64) _ 3 ?hg (N := 20) ?hd (xs := ([4, 2] : List Int)) (inner := [.int .i64 4, .int .i64 2]) (ok := fun _ => True) (okp := fun _ => True) ?hr ?hp (fun _ hk => hk) trivial (Below.refl _ _) (Nat.le_refl _) (by simp) ?_; (case hd => rfl); (case hg => rfl); (case hr => first | (go_simp; done) | (go_simp; rfl)); (case hp => exact (Reps.one (show Kd.M (Kd.int .i64) _ _ _ 4 [.int .i64 4] from rfl) (Reps.one (show Kd.M (Kd.int .i64) _ _ _ 2 [.int .i64 2] from rfl) (Reps.none _ _)))); intro t8 u1 h1 hb hg_ hnew_; clear hg_ hnew_; (first | rw [← j4.out] at h1 | (simp only [Int.reduceToNat] at h1; rw [← j4.out] at h1)); have b6 := Aside0.mk (Kd.R_below (rz (Kd.R_mono (Kd.R_far (p := ⟨a5, 2, none⟩) (Kd.R_far (p := ⟨a5, 1, none⟩) (Kd.R_far (p := ⟨a5, 0, none⟩) (Kd.R_types a3.out a4.out (by decide)) (fun _ hk => hk.2) (.int .i64 b4)) (fun _ hk => hk.2) (.slice f4 e9.length f2)) (fun _ hk => hk.2) (.slice f6 b9.length f9)) (fun _ h_ => h_.1))) hb); have b5 := Aside0.mk (Kd.R_below (rz (Kd.R_mono (Kd.R_far (p := ⟨a5, 2, none⟩) (Kd.R_far (p := ⟨a5, 1, none⟩) (Kd.R_far (p := ⟨a5, 0, none⟩) (Kd.R_types a6.out a4.out (by decide)) (fun _ hk => hk.2) (.int .i64 b4)) (fun _ hk => hk.2) (.slice f4 e9.length f2)) (fun _ hk => hk.2) (.slice f6 b9.length f9)) (fun _ h_ => h_.1))) hb); have d1 := Aside0.mk (Kd.R_below (rz (Kd.R_mono (Kd.R_far (p := ⟨a5, 2, none⟩) (Kd.R_far (p := ⟨a5, 1, none⟩) (Kd.R_far (p := ⟨a5, 0, none⟩) (Kd.R_types b3.out a4.out (by decide)) (fun _ hk => hk.2) (.int .i64 b4)) (fun _ hk => hk.2) (.slice f4 e9.length f2)) (fun _ hk => hk.2) (.slice f6 b9.length f9)) (fun _ h_ => h_.1))) hb); have e1 := Aside0.mk (Kd.R_below (rz (Kd.R_mono (Kd.R_far (p := ⟨a5, 2, none⟩) (Kd.R_far (p := ⟨a5, 1, none⟩) (Kd.R_far (p := ⟨a5, 0, none⟩) (Kd.R_types b2.out a4.out (by decide)) (fun _ hk => hk.2) (.int .i64 b4)) (fun _ hk => hk.2) (.slice f4 e9.length f2)) (fun _ hk => hk.2) (.slice f6 b9.length f9)) (fun _ h_ => h_.1))) hb); have e0 := Aside0.mk (Kd.R_elder' (rz (Kd.R_mono (Kd.R_far (p := ⟨a5, 2, none⟩) (Kd.R_far (p := ⟨a5, 1, none⟩) (Kd.R_far (p := ⟨a5, 0, none⟩) (Kd.R_types b1.out a4.out (by decide)) (fun _ hk => hk.2) (.int .i64 b4)) (fun _ hk => hk.2) (.slice f4 e9.length f2)) (fun _ hk => hk.2) (.slice f6 b9.length f9)) (fun _ h_ => h_.1))) (Kd.R_base h1) hb); have d8 := Aside0.mk (Kd.R_lower (Kd.R_new' h1 (Kd.R_lt (rz (Kd.R_mono (Kd.R_far (p := ⟨a5, 2, none⟩) (Kd.R_far (p := ⟨a5, 1, none⟩) (Kd.R_far (p := ⟨a5, 0, none⟩) (Kd.R_types b1.out a4.out (by decide)) (fun _ hk => hk.2) (.int .i64 b4)) (fun _ hk => hk.2) (.slice f4 e9.length f2)) (fun _ hk => hk.2) (.slice f6 b9.length f9)) (fun _ h_ => h_.1))))) (below_size (wz HB.out))); have e5 := Aside0.mk (blk_below (g := a2) (o := .cells #[.int .i64 2, .slice d5 a7.length d2, .slice d9 a8.length d4] 25 (0, 0)) (fz a0.out h2.out) hb); have f0 := Aside0.mk (blk_below (g := a5) (o := .cells #[.int .i64 b4, .slice f4 e9.length f2, .slice f6 b9.length f9] 25 (0, 0)) (by (with_reducible repeat (first | refine blk_drewN ?_ _ | refine blk_drew ?_ | refine blk_alloc ?_ _)); refine blk_put (cs := #[.int .i64 b4, .slice f4 e9.length f2, .slice none 0 0]) ?_ 2 _ rfl; (with_reducible repeat (first | refine blk_drewN ?_ _ | refine blk_drew ?_ | refine blk_alloc ?_ _)); refine blk_put (cs := #[.int .i64 b4, .slice none 0 0, .slice none 0 0]) ?_ 1 _ rfl; (with_reducible repeat (first | refine blk_drewN ?_ _ | refine blk_drew ?_ | refine blk_alloc ?_ _)); refine blk_put (cs := #[.int .i64 0, .slice none 0 0, .slice none 0 0]) ?_ 0 _ rfl; (with_reducible repeat (first | refine blk_drewN ?_ _ | refine blk_drew ?_ | refine blk_alloc ?_ _)); exact a4.out) hb); have f1 := Aside0.mk (below_step (wz HB.out) hb); clear a3; clear a6; clear b3; clear b2; clear b1; clear a0; clear a4; clear HB; have a3 := b6; have a6 := b5; have b3 := d1; have b2 := e1; have b1 := e0; have b7 := d8; have a0 := e5; have a4 := f0; have HB := f1; clear b6 b5 d1 e1 e0 d8 e5 f0 f1; clear hb h1; obtain ⟨l6, m2, l5⟩ := Kd.R_slice b7.out; subst l5) | ((with_reducible refine gate_callee (f := 47) rfl ?_); refine goesL_ (some 21) rfl rfl Try.func47 (by kernel_rfl) rfl #[.agg #[.int .i64 2, .slice d5 a7.length d2, .slice d9 a8.length d4], .slice l6 j2.length m2] rfl (by (try simp only [List.map_toArray, List.map_cons, List.map_nil]); first | done | rfl | (simp only [List.length_drop, List.length_take]; rfl)) ?_; (with_reducible refine (Pxl.calls k 2 _ _ a7 _ _ a8 _ _ j2 b8 d3 d6 g1 _ ?i4 ?i5 ?i3 ?i2 ?k4 ?k5 A2.out).mono ?_); (case i4 => repeat (first | exact (Kd.R_reads' a3.out).2.2 | (with_reducible refine Kd.C_alloc ?_ _) | (with_reducible refine Kd.C_drewN ?_ _) | (with_reducible refine Kd.C_drew ?_))); (case i5 => exact (Kd.R_reads' a3.out).2.1); (case i3 => repeat (first | exact (Kd.R_reads' a6.out).2.2 | (with_reducible refine Kd.C_alloc ?_ _) | (with_reducible refine Kd.C_drewN ?_ _) | (with_reducible refine Kd.C_drew ?_))); (case i2 => exact (Kd.R_reads' a6.out).2.1); (case k4 => repeat (first | exact (Kd.R_reads' b7.out).2.2 | (with_reducible refine Kd.C_alloc ?_ _) | (with_reducible refine Kd.C_drewN ?_ _) | (with_reducible refine Kd.C_drew ?_))); (case k5 => exact (Kd.R_reads' b7.out).2.1); rintro e u2 ⟨t5, s5, rfl, h4, h3, hb⟩; refine ⟨_, rfl, ?_⟩; have b6 := Aside0.mk (Kd.R_elder' (rz a3.out) (Kd.R_base h4) hb); have b5 := Aside0.mk (Kd.R_elder' (rz a6.out) (Kd.R_base h3) hb); have d1 := Aside0.mk (Kd.R_elder' (rz b3.out) (Kd.R_base h4) hb); have e1 := Aside0.mk (Kd.R_elder' (rz b2.out) (Kd.R_base h3) hb); have e0 := Aside0.mk (Kd.R_below (rz b1.out) hb); have d8 := Aside0.mk (Kd.R_below (rz b7.out) hb); have e5 := Aside0.mk (Kd.R_lower (Kd.R_new' (Kd.R_new' h4 (Kd.R_lt (rz a3.out))) (Kd.R_lt (rz b3.out))) (below_size (wz HB.out))); have f0 := Aside0.mk (Kd.R_lower (Kd.R_new' (Kd.R_new' h3 (Kd.R_lt (rz a6.out))) (Kd.R_lt (rz b2.out))) (below_size (wz HB.out))); have f1 := Aside0.mk (blk_below (bz a0.out) hb); have g0 := Aside0.mk (blk_below (bz a4.out) hb); have e6 := Aside0.mk (below_step (wz HB.out) hb); clear a3; clear a6; clear b3; clear b2; clear b1; clear b7; clear a0; clear a4; clear HB; have a3 := b6; have a6 := b5; have b3 := d1; have b2 := e1; have b1 := e0; have b7 := d8; have e4 := e5; have e3 := f0; have a0 := f1; have a4 := g0; have HB := e6; clear b6 b5 d1 e1 e0 d8 e5 f0 f1 g0 e6; (try clear hb); (try clear k9); (try clear hk); (try clear hi); (try clear h4); (try clear h3)) | ((with_reducible refine gate_dst (N := 5) rfl ?_); (try (refine gate_guard (by rfl) ?_; dsimp only)); refine box_event ?hg (N := 5) ?hd (cs := #[.int .i64 0, .slice none 0 0, .slice none 0 0]) (t := 25) ?hr ?_; (case hd => rfl); (case hg => rfl); (case hr => first | (go_simp; done) | (go_simp; rfl)); intro a1 hg i1 hbox hb; have b6 := Aside0.mk (Kd.R_below (rz a3.out) hb); have b5 := Aside0.mk (Kd.R_below (rz a6.out) hb); have d1 := Aside0.mk (Kd.R_below (rz b3.out) hb); have e1 := Aside0.mk (Kd.R_below (rz b2.out) hb); have e0 := Aside0.mk (Kd.R_below (rz b1.out) hb); have d8 := Aside0.mk (Kd.R_below (rz b7.out) hb); have e5 := Aside0.mk (Kd.R_below (rz e4.out) hb); have f0 := Aside0.mk (Kd.R_below (rz e3.out) hb); have f1 := Aside0.mk (blk_below (bz a0.out) hb); have g0 := Aside0.mk (blk_below (bz a4.out) hb); have e6 := Aside0.mk (below_step (wz HB.out) hb); have f8 := Aside0.mk (hbox); have g3 := Aside0.mk ((by rw [hg]; exact (below_size (wz HB.out)) : w.heap.size ≤ a1)); have j9 := Aside0.mk ((by rw [hg]; exact (below_size (wz HB.out)) : w.heap.size ≤ a1)); have k0 := Aside0.mk ((by rw [hg]; exact Nat.ne_of_lt (blk_lt (g := a2) (o := .cells #[.int .i64 2, .slice d5 a7.length d2, .slice d9 a8.length d4] 25 (0, 0)) (bz a0.out)) : a2 ≠ a1)); have k2 := Aside0.mk ((by rw [hg]; exact Nat.ne_of_gt (blk_lt (g := a2) (o := .cells #[.int .i64 2, .slice d5 a7.length d2, .slice d9 a8.length d4] 25 (0, 0)) (bz a0.out)) : a1 ≠ a2)); have k1 := Aside0.mk ((by rw [hg]; exact Nat.ne_of_lt (blk_lt (g := a5) (o := .cells #[.int .i64 b4, .slice f4 e9.length f2, .slice f6 b9.length f9] 25 (0, 0)) (bz a4.out)) : a5 ≠ a1)); have k3 := Aside0.mk ((by rw [hg]; exact Nat.ne_of_gt (blk_lt (g := a5) (o := .cells #[.int .i64 b4, .slice f4 e9.length f2, .slice f6 b9.length f9] 25 (0, 0)) (bz a4.out)) : a1 ≠ a5)); clear a3; clear a6; clear b3; clear b2; clear b1; clear b7; clear e4; clear e3; clear a0; clear a4; clear HB; have a3 := b6; have a6 := b5; have b3 := d1; have b2 := e1; have b1 := e0; have b7 := d8; have e4 := e5; have e3 := f0; have a0 := f1; have a4 := g0; have HB := e6; have a9 := f8; have r1 := g3; have r4 := j9; have h5 := k0; have i9 := k2; have h6 := k1; have i7 := k3; clear b6 b5 d1 e1 e0 d8 e5 f0 f1 g0 e6 f8 g3 j9 k0 k2 k1 k3; clear hb hbox hg; have q8 := i9.out; have r8 := h5.out; have r3 := i7.out; have r0 := h6.out; have p2 : i1.cell? ⟨a1, 0, none⟩ = some (.int .i64 0) := bcz a9 0 rfl; have p7 : i1.cell? ⟨a1, 1, none⟩ = some (.slice none 0 0) := bcz a9 1 rfl; have o7 : i1.cell? ⟨a1, 2, none⟩ = some (.slice none 0 0) := bcz a9 2 rfl; have q0 := blk_frozen a9.out 0; have p1 := blk_frozen a9.out 1; have n3 := blk_frozen a9.out 2; obtain ⟨e7, e8, m1⟩ := Kd.R_slice e4.out; subst m1; obtain ⟨f5, f3, m5⟩ := Kd.R_slice e3.out; subst m5; have m7 : i1.cell? ⟨a5, 0, none⟩ = some (.int .i64 b4) := bcz a4 0 rfl; have p3 : i1.cell? ⟨a5, 1, none⟩ = some (.slice f4 e9.length f2) := bcz a4 1 rfl; have q5 : i1.cell? ⟨a5, 2, none⟩ = some (.slice f6 b9.length f9) := bcz a4 2 rfl; have n4 := blk_frozen a4.out 0; have m8 := blk_frozen a4.out 1; have o4 := blk_frozen a4.out 2) | ((with_reducible refine gate_dst (N := 39) rfl ?_); (try (refine gate_guard (by rfl) ?_; dsimp only)); refine Kd.R_lit (Kd.int .i64) _ 3 ?hg (N := 39) ?hd (xs := ([0, 0] : List Int)) (inner := [.int .i64 0, .int .i64 0]) (ok := fun _ => True) (okp := fun _ => True) ?hr ?hp (fun _ hk => hk) trivial (Below.refl _ _) (Nat.le_refl _) (by simp) ?_; (case hd => rfl); (case hg => rfl); (case hr => first | (go_simp; done) | (go_simp; rfl)); (case hp => exact (Reps.one (show Kd.M (Kd.int .i64) _ _ _ 0 [.int .i64 0] from rfl) (Reps.one (show Kd.M (Kd.int .i64) _ _ _ 0 [.int .i64 0] from rfl) (Reps.none _ _)))); intro s3 i0 g5 hb hg_ hnew_; clear hg_ hnew_; (first | rw [← j6.out] at g5 | (simp only [Int.reduceToNat] at g5; rw [← j6.out] at g5)); have b6 := Aside0.mk (Kd.R_below (rz (Kd.R_mono (Kd.R_far (p := ⟨a1, 2, none⟩) (Kd.R_far (p := ⟨a1, 1, none⟩) (Kd.R_far (p := ⟨a1, 0, none⟩) (Kd.R_types a3.out a9.out (by decide)) (fun _ hk => hk.2) (.int .i64 b8)) (fun _ hk => hk.2) (.slice e7 d3.length e8)) (fun _ hk => hk.2) (.slice f5 d6.length f3)) (fun _ h_ => h_.1))) hb); have b5 := Aside0.mk (Kd.R_below (rz (Kd.R_mono (Kd.R_far (p := ⟨a1, 2, none⟩) (Kd.R_far (p := ⟨a1, 1, none⟩) (Kd.R_far (p := ⟨a1, 0, none⟩) (Kd.R_types a6.out a9.out (by decide)) (fun _ hk => hk.2) (.int .i64 b8)) (fun _ hk => hk.2) (.slice e7 d3.length e8)) (fun _ hk => hk.2) (.slice f5 d6.length f3)) (fun _ h_ => h_.1))) hb); have d1 := Aside0.mk (Kd.R_below (rz (Kd.R_mono (Kd.R_far (p := ⟨a1, 2, none⟩) (Kd.R_far (p := ⟨a1, 1, none⟩) (Kd.R_far (p := ⟨a1, 0, none⟩) (Kd.R_types b3.out a9.out (by decide)) (fun _ hk => hk.2) (.int .i64 b8)) (fun _ hk => hk.2) (.slice e7 d3.length e8)) (fun _ hk => hk.2) (.slice f5 d6.length f3)) (fun _ h_ => h_.1))) hb); have e1 := Aside0.mk (Kd.R_below (rz (Kd.R_mono (Kd.R_far (p := ⟨a1, 2, none⟩) (Kd.R_far (p := ⟨a1, 1, none⟩) (Kd.R_far (p := ⟨a1, 0, none⟩) (Kd.R_types b2.out a9.out (by decide)) (fun _ hk => hk.2) (.int .i64 b8)) (fun _ hk => hk.2) (.slice e7 d3.length e8)) (fun _ hk => hk.2) (.slice f5 d6.length f3)) (fun _ h_ => h_.1))) hb); have e0 := Aside0.mk (Kd.R_elder' (rz (Kd.R_mono (Kd.R_far (p := ⟨a1, 2, none⟩) (Kd.R_far (p := ⟨a1, 1, none⟩) (Kd.R_far (p := ⟨a1, 0, none⟩) (Kd.R_types b1.out a9.out (by decide)) (fun _ hk => hk.2) (.int .i64 b8)) (fun _ hk => hk.2) (.slice e7 d3.length e8)) (fun _ hk => hk.2) (.slice f5 d6.length f3)) (fun _ h_ => h_.1))) (Kd.R_base g5) hb); have d8 := Aside0.mk (Kd.R_elder' (rz (Kd.R_mono (Kd.R_far (p := ⟨a1, 2, none⟩) (Kd.R_far (p := ⟨a1, 1, none⟩) (Kd.R_far (p := ⟨a1, 0, none⟩) (Kd.R_types b7.out a9.out (by decide)) (fun _ hk => hk.2) (.int .i64 b8)) (fun _ hk => hk.2) (.slice e7 d3.length e8)) (fun _ hk => hk.2) (.slice f5 d6.length f3)) (fun _ h_ => h_.1))) (Kd.R_base g5) hb); have e5 := Aside0.mk (Kd.R_below (rz (Kd.R_mono (Kd.R_far (p := ⟨a1, 2, none⟩) (Kd.R_far (p := ⟨a1, 1, none⟩) (Kd.R_far (p := ⟨a1, 0, none⟩) (Kd.R_types e4.out a9.out (by decide)) (fun _ hk => hk.2) (.int .i64 b8)) (fun _ hk => hk.2) (.slice e7 d3.length e8)) (fun _ hk => hk.2) (.slice f5 d6.length f3)) (fun _ h_ => h_.1))) hb); have f0 := Aside0.mk (Kd.R_below (rz (Kd.R_mono (Kd.R_far (p := ⟨a1, 2, none⟩) (Kd.R_far (p := ⟨a1, 1, none⟩) (Kd.R_far (p := ⟨a1, 0, none⟩) (Kd.R_types e3.out a9.out (by decide)) (fun _ hk => hk.2) (.int .i64 b8)) (fun _ hk => hk.2) (.slice e7 d3.length e8)) (fun _ hk => hk.2) (.slice f5 d6.length f3)) (fun _ h_ => h_.1))) hb); have f1 := Aside0.mk (Kd.R_lower (Kd.R_new' (Kd.R_new' g5 (Kd.R_lt (rz (Kd.R_mono (Kd.R_far (p := ⟨a1, 2, none⟩) (Kd.R_far (p := ⟨a1, 1, none⟩) (Kd.R_far (p := ⟨a1, 0, none⟩) (Kd.R_types b1.out a9.out (by decide)) (fun _ hk => hk.2) (.int .i64 b8)) (fun _ hk => hk.2) (.slice e7 d3.length e8)) (fun _ hk => hk.2) (.slice f5 d6.length f3)) (fun _ h_ => h_.1))))) (Kd.R_lt (rz (Kd.R_mono (Kd.R_far (p := ⟨a1, 2, none⟩) (Kd.R_far (p := ⟨a1, 1, none⟩) (Kd.R_far (p := ⟨a1, 0, none⟩) (Kd.R_types b7.out a9.out (by decide)) (fun _ hk => hk.2) (.int .i64 b8)) (fun _ hk => hk.2) (.slice e7 d3.length e8)) (fun _ hk => hk.2) (.slice f5 d6.length f3)) (fun _ h_ => h_.1))))) (below_size (wz HB.out))); have g0 := Aside0.mk (blk_below (g := a2) (o := .cells #[.int .i64 2, .slice d5 a7.length d2, .slice d9 a8.length d4] 25 (0, 0)) (fz a0.out h5.out) hb); have e6 := Aside0.mk (blk_below (g := a5) (o := .cells #[.int .i64 b4, .slice f4 e9.length f2, .slice f6 b9.length f9] 25 (0, 0)) (fz a4.out h6.out) hb); have f8 := Aside0.mk (blk_below (g := a1) (o := .cells #[.int .i64 b8, .slice e7 d3.length e8, .slice f5 d6.length f3] 25 (0, 0)) (by (with_reducible repeat (first | refine blk_drewN ?_ _ | refine blk_drew ?_ | refine blk_alloc ?_ _)); refine blk_put (cs := #[.int .i64 b8, .slice e7 d3.length e8, .slice none 0 0]) ?_ 2 _ rfl; (with_reducible repeat (first | refine blk_drewN ?_ _ | refine blk_drew ?_ | refine blk_alloc ?_ _)); refine blk_put (cs := #[.int .i64 b8, .slice none 0 0, .slice none 0 0]) ?_ 1 _ rfl; (with_reducible repeat (first | refine blk_drewN ?_ _ | refine blk_drew ?_ | refine blk_alloc ?_ _)); refine blk_put (cs := #[.int .i64 0, .slice none 0 0, .slice none 0 0]) ?_ 0 _ rfl; (with_reducible repeat (first | refine blk_drewN ?_ _ | refine blk_drew ?_ | refine blk_alloc ?_ _)); exact a9.out) hb); have g3 := Aside0.mk (below_step (wz HB.out) hb); clear a3; clear a6; clear b3; clear b2; clear b1; clear b7; clear e4; clear e3; clear a0; clear a4; clear a9; clear HB; have a3 := b6; have a6 := b5; have b3 := d1; have b2 := e1; have b1 := e0; have b7 := d8; have e4 := e5; have e3 := f0; have g4 := f1; have a0 := g0; have a4 := e6; have a9 := f8; have HB := g3; clear b6 b5 d1 e1 e0 d8 e5 f0 f1 g0 e6 f8 g3; clear hb g5; obtain ⟨t6, t7, m4⟩ := Kd.R_slice b1.out; subst m4; obtain ⟨t9, s4, m0⟩ := Kd.R_slice g4.out; subst m0) | (go_at_call 21; (with_reducible refine (Pr01b.calls k _ _ h0 _ _ j8 true _ ?i4 ?i5 ?i3 ?i2 A6.out).mono ?_); (case i4 => repeat (first | exact (Kd.R_reads' b1.out).2.2 | (with_reducible refine Kd.C_alloc ?_ _) | (with_reducible refine Kd.C_drewN ?_ _) | (with_reducible refine Kd.C_drew ?_))); (case i5 => exact (Kd.R_reads' b1.out).2.1); (case i3 => repeat (first | exact (Kd.R_reads' g4.out).2.2 | (with_reducible refine Kd.C_alloc ?_ _) | (with_reducible refine Kd.C_drewN ?_ _) | (with_reducible refine Kd.C_drew ?_))); (case i2 => exact (Kd.R_reads' g4.out).2.1); rintro e w' ⟨rfl, ⟨nd, rfl⟩⟩; have q4 : i0.cell? ⟨a1, 0, none⟩ = some (.int .i64 b8) := bcz a9 0 rfl; have m6 : i0.cell? ⟨a1, 1, none⟩ = some (.slice e7 d3.length e8) := bcz a9 1 rfl; have p5 : i0.cell? ⟨a1, 2, none⟩ = some (.slice f5 d6.length f3) := bcz a9 2 rfl; have q1 := blk_frozen a9.out 0; have n8 := blk_frozen a9.out 1; have o0 := blk_frozen a9.out 2; have q7 : i0.cell? ⟨a2, 0, none⟩ = some (.int .i64 2) := bcz a0 0 rfl; have n2 : i0.cell? ⟨a2, 1, none⟩ = some (.slice d5 a7.length d2) := bcz a0 1 rfl; have q2 : i0.cell? ⟨a2, 2, none⟩ = some (.slice d9 a8.length d4) := bcz a0 2 rfl; have n6 := blk_frozen a0.out 0; have o1 := blk_frozen a0.out 1; have o2 := blk_frozen a0.out 2) | (go_at_call 44; (with_reducible refine (Pr26b.calls k b8 _ _ d3 _ _ d6 2 _ _ a7 _ _ a8 d0 _ ?i4 ?i5 ?i3 ?i2 ?k4 ?k5 ?r2 ?r5 A9.out).mono ?_); (case i4 => repeat (first | exact (Kd.R_reads' e4.out).2.2 | (with_reducible refine Kd.C_alloc ?_ _) | (with_reducible refine Kd.C_drewN ?_ _) | (with_reducible refine Kd.C_drew ?_))); (case i5 => exact (Kd.R_reads' e4.out).2.1); (case i3 => repeat (first | exact (Kd.R_reads' e3.out).2.2 | (with_reducible refine Kd.C_alloc ?_ _) | (with_reducible refine Kd.C_drewN ?_ _) | (with_reducible refine Kd.C_drew ?_))); (case i2 => exact (Kd.R_reads' e3.out).2.1); (case k4 => repeat (first | exact (Kd.R_reads' a3.out).2.2 | (with_reducible refine Kd.C_alloc ?_ _) | (with_reducible refine Kd.C_drewN ?_ _) | (with_reducible refine Kd.C_drew ?_))); (case k5 => exact (Kd.R_reads' a3.out).2.1); (case r2 => repeat (first | exact (Kd.R_reads' a6.out).2.2 | (with_reducible refine Kd.C_alloc ?_ _) | (with_reducible refine Kd.C_drewN ?_ _) | (with_reducible refine Kd.C_drew ?_))); (case r5 => exact (Kd.R_reads' a6.out).2.1); rintro e u5 ⟨rfl, hb⟩; have b6 := Aside0.mk (Kd.R_below (rz a3.out) hb); have b5 := Aside0.mk (Kd.R_below (rz a6.out) hb); have d1 := Aside0.mk (Kd.R_below (rz b3.out) hb); have e1 := Aside0.mk (Kd.R_below (rz b2.out) hb); have e0 := Aside0.mk (Kd.R_below (rz b1.out) hb); have d8 := Aside0.mk (Kd.R_below (rz b7.out) hb); have e5 := Aside0.mk (Kd.R_below (rz e4.out) hb); have f0 := Aside0.mk (Kd.R_below (rz e3.out) hb); have f1 := Aside0.mk (Kd.R_below (rz g4.out) hb); have g0 := Aside0.mk (blk_below (bz a0.out) hb); have e6 := Aside0.mk (blk_below (bz a4.out) hb); have f8 := Aside0.mk (blk_below (bz a9.out) hb); have g3 := Aside0.mk (below_step (wz HB.out) hb); clear a3; clear a6; clear b3; clear b2; clear b1; clear b7; clear e4; clear e3; clear g4; clear a0; clear a4; clear a9; clear HB; have a3 := b6; have a6 := b5; have b3 := d1; have b2 := e1; have b1 := e0; have b7 := d8; have e4 := e5; have e3 := f0; have g4 := f1; have a0 := g0; have a4 := e6; have a9 := f8; have HB := g3; clear b6 b5 d1 e1 e0 d8 e5 f0 f1 g0 e6 f8 g3; (try clear hb); (try clear k9); (try clear hk); (try clear hi)))
      go_ret
      exact ⟨by first | rfl | (simp [errW_none, errW_some] <;> rfl) | (simp [*, errW_none, errW_some] <;> rfl), wz HB.out⟩
     ·rw [if_neg c8] at H;have c8b0 : (g1 == 0) = false := beq_eq_false_iff_ne.mpr c8;have c8b1 : (g1 != 0) = true := bne_iff_ne.mpr c8;obtain rfl := Option.some.inj H;exact absurd hr_.out (by decide)
    ·replace c7 := Bool.eq_false_iff.mpr c7;subst c7;have H1 : (some false) = some r := by rw [if_neg (show ¬ (false = true) by decide)] at H; exact H
     clear H;have H := H1;clear H1;obtain rfl := Option.some.inj H;exact absurd hr_.out (by decide)
   ·rw [if_neg c5] at H;have c5b0 : ((b9.length : Int) == 1) = false := beq_eq_false_iff_ne.mpr c5;have c5b1 : ((b9.length : Int) != 1) = true := bne_iff_ne.mpr c5;obtain rfl := Option.some.inj H;exact absurd hr_.out (by decide)
  ·rw [if_neg c4] at H;have c4b0 : (b4 == 1) = false := beq_eq_false_iff_ne.mpr c4;have c4b1 : (b4 != 1) = true := bne_iff_ne.mpr c4;obtain rfl := Option.some.inj H;exact absurd hr_.out (by decide)
 ·rw [if_neg c3] at H;have c3b0 : (g2 == 0) = false := beq_eq_false_iff_ne.mpr c3;have c3b1 : (g2 != 0) = true := bne_iff_ne.mpr c3;obtain rfl := Option.some.inj H;exact absurd hr_.out (by decide)
def Pr31c.l0 : Nat → List Int → Int → Int → Option (Int)
 | 0, _, _, _ => none
 | k + 1, x0, x1, x5 => if x5 < x1 then (if 0 ≤ x5 then (if x5 < (x0.length : Int) then (if 0 ≤ x1 then (if x1 < (x0.length : Int) then (if (rd x0 x5) = (rd x0 x1) then (some x5) else (Pr31c.l0 k x0 x1 (wrap64 (x5 + 1)))) else (none)) else (none)) else (none)) else (none)) else (some x1)
def Pr31c.f (k : Nat) (l0 : List Int) (a1 : Int) : Option (Int) := Pr31c.l0 k l0 a1 0
theorem Pr31c.mono_l : ∀ k, (∀ y0 y1 y2, LeO (Pr31c.l0 k y0 y1 y2) (Pr31c.l0 (k + 1) y0 y1 y2))
 | 0 => fun _ _ _ r h => by simp [Pr31c.l0] at h
 | k + 1 => by
  have ih0 := Pr31c.mono_l k
  ·intro y0 y1 y2
   unfold Pr31c.l0
   repeat' first
   | (with_reducible exact ih0 _ _ _)
   | (with_reducible exact LeO.refl _)
   | (with_reducible exact LeO.none _)
   | (with_reducible refine LeO.ite ?_ ?_)
   | (with_reducible refine LeO.bind ?_ (fun _ => ?_))
   | exact ih0 _ _ _
   | exact LeO.none _
   | refine LeO.ite ?_ ?_
   | refine LeO.bind ?_ (fun _ => ?_)
theorem Pr31c.mono : ∀ a0 a1 k, LeO (Pr31c.f k a0 a1) (Pr31c.f (k + 1) a0 a1) := by
 intro a0 a1 k
 have ih0 := Pr31c.mono_l k
 unfold Pr31c.f
 repeat' first
   | (with_reducible exact ih0 _ _ _)
   | (with_reducible exact LeO.refl _)
   | (with_reducible exact LeO.none _)
   | (with_reducible refine LeO.ite ?_ ?_)
   | (with_reducible refine LeO.bind ?_ (fun _ => ?_))
   | exact ih0 _ _ _
   | exact LeO.none _
   | refine LeO.ite ?_ ?_
   | refine LeO.bind ?_ (fun _ => ?_)
set_option maxHeartbeats 8000000 in
set_option maxRecDepth 100000 in
theorem Pr31c.calls (k : Nat) (A0 : Option Addr) (c0 : Nat) (l0 : List Int) (a1 : Int) (r : Int) (w : World) (hr0 : Kd.C (Kd.int .i64) w A0 l0.length l0) (hc0 : l0.length ≤ c0) (h : Pr31c.f k l0 a1 = some r) :
  Calls Try.prog 105 #[.slice A0 l0.length c0, .int .i64 a1] w fun e w' => e = .returned (.int .i64 r) ∧ Drawn0 w w' := by
 have b0 := Aside0.mk hr0;have b4 := Aside0.mk hc0;clear hr0 hc0;have H : (Pr31c.l0 k l0 a1 0) = some r := h;clear h;have H' := Aside0.mk H;clear H;go_enter Try.func105, Try.ntmps105
 go_wp2
 repeat (go_quiet (fail); try go_wp2)
 go_loopg [5] k (fun kq v5 w' => ∃ (a0 : Int), v5 = .int .i64 a0 ∧ Aside0 (Pr31c.l0 kq l0 a1 a0 = some r) ∧ Aside0 (kq ≤ k) ∧ Drawn0 w w')
 case atStart => exact ⟨(0), (by first | rfl | (simp; done) | (simp [*]; done)), H', ⟨Nat.le_refl _⟩, by repeat (first | exact Drawn0.refl _ | apply Drawn0.step)⟩
 case round =>
  clear H';obtain ⟨a0, rfl, HA, b3, ⟨m1, rfl⟩⟩ := hrel
  cases gk with
  | zero => exact absurd HA.out (by simp [Pr31c.l0])
  | succ k1 =>
   have H := HA.out;clear HA;simp only [Pr31c.l0] at H;by_cases c3 : a0 < a1
   ·rw [if_pos c3] at H;have c3b0 : decide (a0 < a1) = true := decide_eq_true c3;clear c3;by_cases c4 : 0 ≤ a0
    ·rw [if_pos c4] at H;have c4b0 : decide (0 ≤ a0) = true := decide_eq_true c4;clear c4;by_cases c5 : a0 < (l0.length : Int)
     ·rw [if_pos c5] at H;have c5b0 : decide (a0 < (l0.length : Int)) = true := decide_eq_true c5;clear c5;by_cases c6 : 0 ≤ a1
      ·rw [if_pos c6] at H;have c6b0 : decide (0 ≤ a1) = true := decide_eq_true c6;clear c6;by_cases c7 : a1 < (l0.length : Int)
       ·rw [if_pos c7] at H;have c7b0 : decide (a1 < (l0.length : Int)) = true := decide_eq_true c7;clear c7;by_cases c8 : (rd l0 a0) = (rd l0 a1)
        ·rw [if_pos c8] at H;have c8b0 : ((rd l0 a0) == (rd l0 a1)) = true := beq_iff_eq.mpr c8;have c8b1 : ((rd l0 a0) != (rd l0 a1)) = false := bne_eq_false_iff_eq.mpr c8;clear c8;obtain rfl := Option.some.inj H;have a3 : 0 ≤ (a0 : Int) := of_decide_eq_true (by first | (with_reducible assumption) | assumption);have a4 : a0 < (l0.length : Int) := of_decide_eq_true (by first | (with_reducible assumption) | assumption);obtain ⟨a6, a8, b1⟩ := Kd.at_int b0.out a0 a3 a4
         cases a8;replace a3 := eq_true a3;replace a4 := eq_true a4;have a2 : 0 ≤ (a1 : Int) := of_decide_eq_true (by first | (with_reducible assumption) | assumption);have a5 : a1 < (l0.length : Int) := of_decide_eq_true (by first | (with_reducible assumption) | assumption);obtain ⟨a7, a9, b2⟩ := Kd.at_int b0.out a1 a2 a5;obtain rfl : a6 = a7 := (by injection a9)
         replace a2 := eq_true a2;replace a5 := eq_true a5;go_wp2
         repeat (go_quiet (fail); try go_wp2)
         go_ret
         exact ⟨by first | rfl | (simp; done) | (simp [*]; done), by repeat (first | exact Drawn0.refl _ | apply Drawn0.step)⟩
        ·rw [if_neg c8] at H;have c8b0 : ((rd l0 a0) == (rd l0 a1)) = false := beq_eq_false_iff_ne.mpr c8;have c8b1 : ((rd l0 a0) != (rd l0 a1)) = true := bne_iff_ne.mpr c8;have H' := Aside0.mk H;clear H;have a3 : 0 ≤ (a0 : Int) := of_decide_eq_true (by first | (with_reducible assumption) | assumption);have a4 : a0 < (l0.length : Int) := of_decide_eq_true (by first | (with_reducible assumption) | assumption);obtain ⟨a6, a8, b1⟩ := Kd.at_int b0.out a0 a3 a4
         cases a8;replace a3 := eq_true a3;replace a4 := eq_true a4;have a2 : 0 ≤ (a1 : Int) := of_decide_eq_true (by first | (with_reducible assumption) | assumption);have a5 : a1 < (l0.length : Int) := of_decide_eq_true (by first | (with_reducible assumption) | assumption);obtain ⟨a7, a9, b2⟩ := Kd.at_int b0.out a1 a2 a5;obtain rfl : a6 = a7 := (by injection a9)
         replace a2 := eq_true a2;replace a5 := eq_true a5;go_wp2
         repeat (go_quiet (fail); try go_wp2)
         go_roundg k1
         case measure => have := b3.out; omega
         case rel => exact ⟨(wrap64 (a0 + 1)), (by first | rfl | (simp; done) | (simp [*]; done)), H', ⟨by have := b3.out; omega⟩, by repeat (first | exact Drawn0.refl _ | apply Drawn0.step)⟩
       ·rw [if_neg c7] at H;exact absurd H (by simp)
      ·rw [if_neg c6] at H;exact absurd H (by simp)
     ·rw [if_neg c5] at H;exact absurd H (by simp)
    ·rw [if_neg c4] at H;exact absurd H (by simp)
   ·rw [if_neg c3] at H;have c3b0 : decide (a0 < a1) = false := decide_eq_false c3;clear c3;obtain rfl := Option.some.inj H;go_wp2
    repeat (go_quiet (fail); try go_wp2)
    go_ret
    exact ⟨by first | rfl | (simp; done) | (simp [*]; done), by repeat (first | exact Drawn0.refl _ | apply Drawn0.step)⟩
mutual
def Pr31b.l0 : Nat → List Int → List Int → Int → Option (List Int)
 | 0, _, _, _ => none
 | k + 1, x0, x3, x4 => if x4 < (x0.length : Int) then ((Pr31c.f k x0 x4).bind fun t341 => (Pr31b.l1 k x0 x3 x4 t341 0 0)) else (some x3)
def Pr31b.l1 : Nat → List Int → List Int → Int → Int → Int → Int → Option (List Int)
 | 0, _, _, _, _, _, _ => none
 | k + 1, x0, x3, x4, x5, x6, x7 => if x7 < x5 then ((Pr31c.f k x0 x7).bind fun t342 => (if t342 = x7 then (Pr31b.l1 k x0 x3 x4 x5 (wrap64 (x6 + 1)) (wrap64 (x7 + 1))) else (Pr31b.l1 k x0 x3 x4 x5 x6 (wrap64 (x7 + 1))))) else (if x3.length < 17592186044416 then (Pr31b.l0 k x0 (x3 ++ [x6]) (wrap64 (x4 + 1))) else (none))
end
def Pr31b.f (k : Nat) (l0 : List Int) : Option (List Int) := Pr31b.l0 k l0 (([] : List Int)) 0
theorem Pr31b.mono_l : ∀ k, (∀ y0 y1 y2, LeO (Pr31b.l0 k y0 y1 y2) (Pr31b.l0 (k + 1) y0 y1 y2)) ∧ (∀ y0 y1 y2 y3 y4 y5, LeO (Pr31b.l1 k y0 y1 y2 y3 y4 y5) (Pr31b.l1 (k + 1) y0 y1 y2 y3 y4 y5))
 | 0 => ⟨fun _ _ _ r h => by simp [Pr31b.l0] at h, fun _ _ _ _ _ _ r h => by simp [Pr31b.l1] at h⟩
 | k + 1 => by
  obtain ⟨ih0, ih1⟩ := Pr31b.mono_l k
  refine ⟨?_, ?_⟩
  ·intro y0 y1 y2
   unfold Pr31b.l0
   repeat' first
   | (with_reducible exact ih0 _ _ _)
   | (with_reducible exact ih1 _ _ _ _ _ _)
   | (with_reducible exact Pr31c.mono _ _ _)
   | (with_reducible exact LeO.refl _)
   | (with_reducible exact LeO.none _)
   | (with_reducible refine LeO.ite ?_ ?_)
   | (with_reducible refine LeO.bind ?_ (fun _ => ?_))
   | exact ih0 _ _ _
   | exact ih1 _ _ _ _ _ _
   | exact Pr31c.mono _ _ _
   | exact LeO.none _
   | refine LeO.ite ?_ ?_
   | refine LeO.bind ?_ (fun _ => ?_)
  ·intro y0 y1 y2 y3 y4 y5
   unfold Pr31b.l1
   repeat' first
   | (with_reducible exact ih0 _ _ _)
   | (with_reducible exact ih1 _ _ _ _ _ _)
   | (with_reducible exact Pr31c.mono _ _ _)
   | (with_reducible exact LeO.refl _)
   | (with_reducible exact LeO.none _)
   | (with_reducible refine LeO.ite ?_ ?_)
   | (with_reducible refine LeO.bind ?_ (fun _ => ?_))
   | exact ih0 _ _ _
   | exact ih1 _ _ _ _ _ _
   | exact Pr31c.mono _ _ _
   | exact LeO.none _
   | refine LeO.ite ?_ ?_
   | refine LeO.bind ?_ (fun _ => ?_)
theorem Pr31b.mono : ∀ a0 k, LeO (Pr31b.f k a0) (Pr31b.f (k + 1) a0) := by
 intro a0 k
 obtain ⟨ih0, ih1⟩ := Pr31b.mono_l k
 unfold Pr31b.f
 repeat' first
   | (with_reducible exact ih0 _ _ _)
   | (with_reducible exact ih1 _ _ _ _ _ _)
   | (with_reducible exact Pr31c.mono _ _ _)
   | (with_reducible exact LeO.refl _)
   | (with_reducible exact LeO.none _)
   | (with_reducible refine LeO.ite ?_ ?_)
   | (with_reducible refine LeO.bind ?_ (fun _ => ?_))
   | exact ih0 _ _ _
   | exact ih1 _ _ _ _ _ _
   | exact Pr31c.mono _ _ _
   | exact LeO.none _
   | refine LeO.ite ?_ ?_
   | refine LeO.bind ?_ (fun _ => ?_)
set_option maxHeartbeats 8000000 in
set_option maxRecDepth 100000 in
theorem Pr31b.calls (k : Nat) (A0 : Option Addr) (c0 : Nat) (l0 : List Int) (r : List Int) (w : World) (hr0 : Kd.C (Kd.int .i64) w A0 l0.length l0) (hc0 : l0.length ≤ c0) (h : Pr31b.f k l0 = some r) :
  Calls Try.prog 64 #[.slice A0 l0.length c0] w fun e w' => ∃ v0_ : Value, e = .returned (v0_) ∧ Kd.R (Kd.int .i64) 3 w' w.heap.size (fun _ => True) v0_ r ∧ Below w.heap.size w w' := by
 have b9 := Aside0.mk hr0;have b8 := Aside0.mk hc0;clear hr0 hc0;have HB := Aside0.mk (Below.refl w.heap.size w);have H : (Pr31b.l0 k l0 (([] : List Int)) 0) = some r := h;clear h;obtain ⟨d0, a7⟩ : ∃ y_ : List Int, y_ = (([] : List Int)) := ⟨_, rfl⟩
 replace H : (Pr31b.l0 k l0 d0 0) = some r := by first | (rw [a7]; with_reducible exact H) | (have a9 := (Option.bind_some _ _).symm.trans H; rw [a7]; with_reducible exact a9) | (have a9 := (Option.bind_some _ _).symm.trans H; with_reducible exact a9) | with_reducible exact H | (rw [a7]; exact H) | exact H
 have b6 := Aside0.mk a7;clear a7;have H' := Aside0.mk H;clear H;go_enter Try.func64, Try.ntmps64
 go_wp2_with (first | ((with_reducible refine gate_dst (N := 8) rfl ?_); refine Kd.R_lit (Kd.int .i64) _ 3 ?hg (N := 8) ?hd (xs := ([] : List Int)) (inner := []) (ok := fun _ => True) (okp := fun _ => True) ?hr ?hp (fun _ hk => hk) trivial (Below.refl _ _) (Nat.le_refl _) (by simp) ?_; (case hd => rfl); (case hg => rfl); (case hr => first | (go_simp; done) | (go_simp; rfl)); (case hp => exact (Reps.none _ _)); intro d8 w2 b2 hb hg_ hnew_; clear hg_ hnew_; (first | rw [← b6.out] at b2 | (simp only [Int.reduceToNat] at b2; rw [← b6.out] at b2)); have b4 := Aside0.mk (Kd.R_lower b2 (below_size (wz HB.out))); have b3 := Aside0.mk (below_step (wz HB.out) hb); clear HB; have d2 := b4; have HB := b3; clear b4 b3 hb b2))
 go_loopg [3, 4] k (fun kq v3 v4 w' => ∃ (a2 : List Int) (a1 : Int), v4 = .int .i64 a1 ∧ Aside0 (Pr31b.l0 kq l0 a2 a1 = some r) ∧ Aside0 (kq ≤ k) ∧ Aside0 (Kd.R (Kd.int .i64) 3 w' w.heap.size (fun _ => True) v3 a2) ∧ Aside0 (Below w.heap.size w w'))
 case atStart => exact ⟨(d0), (0), (by first | rfl | (simp; done) | (simp [*]; done)), H', ⟨Nat.le_refl _⟩, ⟨rz d2.out⟩, ⟨wz HB.out⟩⟩
 case round =>
  clear H';obtain ⟨a2, a1, rfl, HA, b1, a6, HB⟩ := hrel
  cases gk with
  | zero => exact absurd HA.out (by simp [Pr31b.l0])
  | succ k1 =>
   have H := HA.out;clear HA;simp only [Pr31b.l0] at H;by_cases c4 : a1 < (l0.length : Int)
   ·rw [if_pos c4] at H;have c4b0 : decide (a1 < (l0.length : Int)) = true := decide_eq_true c4;clear c4;replace H := Option.bind_eq_some_iff.mp H;obtain ⟨a4, d6, H⟩ := H;replace H : (Pr31b.l1 k1 l0 a2 a1 a4 0 0) = some r := H;have A5 := Aside0.mk d6;clear d6;have H' := Aside0.mk H;clear H;go_wp2_with (first | ((with_reducible refine gate_callee (f := 105) rfl ?_); refine goesL_ (some 17) rfl rfl Try.func105 (by kernel_rfl) rfl #[.slice A0 l0.length c0, .int .i64 a1] rfl (by (try simp only [List.map_toArray, List.map_cons, List.map_nil]); first | done | rfl | (simp only [List.length_drop, List.length_take]; rfl)) ?_; (with_reducible refine (Pr31c.calls k1 _ _ l0 a1 a4 _ ?b5 ?b7 A5.out).mono ?_); (case b5 => exact cz b9.out HB.out); (case b7 => exact b8.out); rintro e w' ⟨rfl, ⟨nd, rfl⟩⟩; refine ⟨_, rfl, ?_⟩))
    go_loopg [6, 7] k1 (fun kq v6 v7 w' => ∃ (a3 : Int) (a0 : Int), v6 = .int .i64 a3 ∧ v7 = .int .i64 a0 ∧ Aside0 (Pr31b.l1 kq l0 a2 a1 a4 a3 a0 = some r) ∧ Aside0 (kq ≤ k1) ∧ Aside0 (Kd.R (Kd.int .i64) 3 w' w.heap.size (fun _ => True) u3 a2) ∧ Aside0 (Below w.heap.size w w'))
    case atStart => exact ⟨(0), (0), (by first | rfl | (simp; done) | (simp [*]; done)), (by first | rfl | (simp; done) | (simp [*]; done)), H', ⟨Nat.le_refl _⟩, ⟨rz a6.out⟩, ⟨wz HB.out⟩⟩
    case round =>
     clear H';(try clear c4);(try clear c4b0);obtain ⟨a3, a0, rfl, rfl, HA, b0, a6, HB⟩ := hrel
     cases gk with
     | zero => exact absurd HA.out (by simp [Pr31b.l1])
     | succ k2 =>
      have H := HA.out;clear HA;simp only [Pr31b.l1] at H;by_cases c6 : a0 < a4
      ·rw [if_pos c6] at H;have c6b0 : decide (a0 < a4) = true := decide_eq_true c6;clear c6;replace H := Option.bind_eq_some_iff.mp H;obtain ⟨a5, d5, H⟩ := H;replace H : (if a5 = a0 then (Pr31b.l1 k2 l0 a2 a1 a4 (wrap64 (a3 + 1)) (wrap64 (a0 + 1))) else (Pr31b.l1 k2 l0 a2 a1 a4 a3 (wrap64 (a0 + 1)))) = some r := H;have A7 := Aside0.mk d5;clear d5;by_cases c8 : a5 = a0
       ·rw [if_pos c8] at H;have c8b0 : (a5 == a0) = true := beq_iff_eq.mpr c8;have c8b1 : (a5 != a0) = false := bne_eq_false_iff_eq.mpr c8;clear c8;have H' := Aside0.mk H;clear H;go_wp2_with (first | ((with_reducible refine gate_callee (f := 105) rfl ?_); refine goesL_ (some 25) rfl rfl Try.func105 (by kernel_rfl) rfl #[.slice A0 l0.length c0, .int .i64 a0] rfl (by (try simp only [List.map_toArray, List.map_cons, List.map_nil]); first | done | rfl | (simp only [List.length_drop, List.length_take]; rfl)) ?_; (with_reducible refine (Pr31c.calls k2 _ _ l0 a0 a5 _ ?b5 ?b7 A7.out).mono ?_); (case b5 => exact cz b9.out HB.out); (case b7 => exact b8.out); rintro e w' ⟨rfl, ⟨nd, rfl⟩⟩; refine ⟨_, rfl, ?_⟩))
        go_roundg k2
        case measure => have := b1.out; have := b0.out; omega
        case rel => exact ⟨(wrap64 (a3 + 1)), (wrap64 (a0 + 1)), (by first | rfl | (simp; done) | (simp [*]; done)), (by first | rfl | (simp; done) | (simp [*]; done)), H', ⟨by have := b1.out; have := b0.out; omega⟩, ⟨rz a6.out⟩, ⟨wz HB.out⟩⟩
       ·rw [if_neg c8] at H;have c8b0 : (a5 == a0) = false := beq_eq_false_iff_ne.mpr c8;have c8b1 : (a5 != a0) = true := bne_iff_ne.mpr c8;have H' := Aside0.mk H;clear H;go_wp2_with (first | ((with_reducible refine gate_callee (f := 105) rfl ?_); refine goesL_ (some 25) rfl rfl Try.func105 (by kernel_rfl) rfl #[.slice A0 l0.length c0, .int .i64 a0] rfl (by (try simp only [List.map_toArray, List.map_cons, List.map_nil]); first | done | rfl | (simp only [List.length_drop, List.length_take]; rfl)) ?_; (with_reducible refine (Pr31c.calls k2 _ _ l0 a0 a5 _ ?b5 ?b7 A7.out).mono ?_); (case b5 => exact cz b9.out HB.out); (case b7 => exact b8.out); rintro e w' ⟨rfl, ⟨nd, rfl⟩⟩; refine ⟨_, rfl, ?_⟩))
        go_roundg k2
        case measure => have := b1.out; have := b0.out; omega
        case rel => exact ⟨(a3), (wrap64 (a0 + 1)), (by first | rfl | (simp; done) | (simp [*]; done)), (by first | rfl | (simp; done) | (simp [*]; done)), H', ⟨by have := b1.out; have := b0.out; omega⟩, ⟨rz a6.out⟩, ⟨wz HB.out⟩⟩
      ·rw [if_neg c6] at H;have c6b0 : decide (a0 < a4) = false := decide_eq_false c6;clear c6;by_cases c9 : a2.length < 17592186044416
       ·rw [if_pos c9] at H;have d7 := Aside0.mk c9;clear c9;obtain ⟨d1, a8⟩ : ∃ y_ : List Int, y_ = (a2 ++ [a3]) := ⟨_, rfl⟩
        replace H : (Pr31b.l0 k2 l0 d1 (wrap64 (a1 + 1))) = some r := by first | (rw [a8]; with_reducible exact H) | (have a9 := (Option.bind_some _ _).symm.trans H; rw [a8]; with_reducible exact a9) | (have a9 := (Option.bind_some _ _).symm.trans H; with_reducible exact a9) | with_reducible exact H | (rw [a8]; exact H) | exact H
        have d3 := Aside0.mk a8;clear a8;have H' := Aside0.mk H;clear H;go_wp2_with (first | ((with_reducible refine gate_builtin (b := .append) (xs := #[.tmp 30, .tmp 32]) rfl ?_); at_builtin; refine Kd.R_append (Kd.int .i64) (w0 := w) w.heap.size rfl (.tmp 30) (.tmp 32) 28 3 (.int .i64 0) 8 rfl Try.underlying28 info3 rfl (by decide) (by omega) u3 a2 a3 [.int .i64 a3] (fun _ => True) (fun _ => False) rfl rfl ?aP (fun _ hk => hk.elim) ?aF ?aO ?aB ?aS ?aL ?_; (case aP => exact rfl); (case aB => exact (wz HB.out)); (case aF => exact (fun _ _ => trivial)); (case aO => exact (rz a6.out)); (case aS => exact (below_size (wz HB.out))); (case aL => have := d7.out; omega); intro d9 e0 ho hb hg hat; rw [← d3.out] at ho; have b4 := Aside0.mk (hb); have b3 := Aside0.mk (ho); clear HB a6; have HB := b4; have d4 := b3; clear b4 b3 ho hb hg hat))
        go_roundg k2
        case measure => have := b1.out; have := b0.out; omega
        case rel => exact ⟨(d1), (wrap64 (a1 + 1)), (by first | rfl | (simp; done) | (simp [*]; done)), H', ⟨by have := b1.out; have := b0.out; omega⟩, ⟨rz d4.out⟩, ⟨wz HB.out⟩⟩
       ·rw [if_neg c9] at H;exact absurd H (by simp)
   ·rw [if_neg c4] at H;have c4b0 : decide (a1 < (l0.length : Int)) = false := decide_eq_false c4;clear c4;obtain rfl := Option.some.inj H;go_wp2
    go_ret
    exact ⟨_, by first | rfl | (simp [errW_none, errW_some] <;> rfl) | (simp [*, errW_none, errW_some] <;> rfl), rz a6.out, wz HB.out⟩
attribute [local go_sem high] eqA184
def Pr32c.l0 : Nat → List (S184) → List (S184) → Int → Option (Bool)
 | 0, _, _, _ => none
 | k + 1, x0, x1, x5 => if x5 < (x0.length : Int) then (if 0 ≤ x5 then (if x5 < (x1.length : Int) then (if (!(((rd_T184 x0 x5).f0) == ((rd_T184 x1 x5).f0)) || (!(((rd_T184 x0 x5).f1) == ((rd_T184 x1 x5).f1)))) = true then (some false) else (Pr32c.l0 k x0 x1 (wrap64 (x5 + 1)))) else (none)) else (none)) else (some true)
def Pr32c.f (k : Nat) (l0 : List (S184)) (l1 : List (S184)) : Option (Bool) := if (l0.length : Int) = (l1.length : Int) then (Pr32c.l0 k l0 l1 0) else (some false)
theorem Pr32c.mono_l : ∀ k, (∀ y0 y1 y2, LeO (Pr32c.l0 k y0 y1 y2) (Pr32c.l0 (k + 1) y0 y1 y2))
 | 0 => fun _ _ _ r h => by simp [Pr32c.l0] at h
 | k + 1 => by
  have ih0 := Pr32c.mono_l k
  ·intro y0 y1 y2
   unfold Pr32c.l0
   repeat' first
   | (with_reducible exact ih0 _ _ _)
   | (with_reducible exact LeO.refl _)
   | (with_reducible exact LeO.none _)
   | (with_reducible refine LeO.ite ?_ ?_)
   | (with_reducible refine LeO.bind ?_ (fun _ => ?_))
   | exact ih0 _ _ _
   | exact LeO.none _
   | refine LeO.ite ?_ ?_
   | refine LeO.bind ?_ (fun _ => ?_)
theorem Pr32c.mono : ∀ a0 a1 k, LeO (Pr32c.f k a0 a1) (Pr32c.f (k + 1) a0 a1) := by
 intro a0 a1 k
 have ih0 := Pr32c.mono_l k
 unfold Pr32c.f
 repeat' first
   | (with_reducible exact ih0 _ _ _)
   | (with_reducible exact LeO.refl _)
   | (with_reducible exact LeO.none _)
   | (with_reducible refine LeO.ite ?_ ?_)
   | (with_reducible refine LeO.bind ?_ (fun _ => ?_))
   | exact ih0 _ _ _
   | exact LeO.none _
   | refine LeO.ite ?_ ?_
   | refine LeO.bind ?_ (fun _ => ?_)
set_option maxHeartbeats 8000000 in
set_option maxRecDepth 100000 in
theorem Pr32c.calls (k : Nat) (A0 : Option Addr) (c0 : Nat) (l0 : List (S184)) (A1 : Option Addr) (c1 : Nat) (l1 : List (S184)) (r : Bool) (w : World) (hr0 : Kd.C k184 w A0 l0.length l0) (hc0 : l0.length ≤ c0) (hr1 : Kd.C k184 w A1 l1.length l1) (hc1 : l1.length ≤ c1) (h : Pr32c.f k l0 l1 = some r) :
  Calls Try.prog 145 #[.slice A0 l0.length c0, .slice A1 l1.length c1] w fun e w' => e = .returned (.bool r) ∧ Drawn0 w w' := by
 have b6 := Try.underlying184;have b4 := Aside0.mk hr0;have b7 := Aside0.mk hc0;clear hr0 hc0;have b3 := Aside0.mk hr1;have b8 := Aside0.mk hc1;clear hr1 hc1;have H : (if (l0.length : Int) = (l1.length : Int) then (Pr32c.l0 k l0 l1 0) else (some false)) = some r := h;clear h;by_cases c3 : (l0.length : Int) = (l1.length : Int)
 ·rw [if_pos c3] at H;have c3b0 : ((l0.length : Int) == (l1.length : Int)) = true := beq_iff_eq.mpr c3;have c3b1 : ((l0.length : Int) != (l1.length : Int)) = false := bne_eq_false_iff_eq.mpr c3;have c3b2 : (l0.length == l1.length) = true := by first | simpa using c3 | (simp at c3 ⊢; omega)
  clear c3;have H' := Aside0.mk H;clear H;go_enter Try.func145, Try.ntmps145
  go_wp2
  repeat (go_quiet (fail); try go_wp2)
  go_loopg [5] k (fun kq v5 w' => ∃ (a0 : Int), v5 = .int .i64 a0 ∧ Aside0 (Pr32c.l0 kq l0 l1 a0 = some r) ∧ Aside0 (kq ≤ k) ∧ Drawn0 w w')
  case atStart => exact ⟨(0), (by first | rfl | (simp; done) | (simp [*]; done)), H', ⟨Nat.le_refl _⟩, by repeat (first | exact Drawn0.refl _ | apply Drawn0.step)⟩
  case round =>
   clear H';(try clear c1);(try clear c3);(try clear c3b0);(try clear c3b1);(try clear c3b2);obtain ⟨a0, rfl, HA, b5, ⟨m1, rfl⟩⟩ := hrel
   cases gk with
   | zero => exact absurd HA.out (by simp [Pr32c.l0])
   | succ k1 =>
    have H := HA.out;clear HA;simp only [Pr32c.l0] at H;by_cases c4 : a0 < (l0.length : Int)
    ·rw [if_pos c4] at H;have c4b0 : decide (a0 < (l0.length : Int)) = true := decide_eq_true c4;clear c4;by_cases c5 : 0 ≤ a0
     ·rw [if_pos c5] at H;have c5b0 : decide (0 ≤ a0) = true := decide_eq_true c5;clear c5;by_cases c6 : a0 < (l1.length : Int)
      ·rw [if_pos c6] at H;have c6b0 : decide (a0 < (l1.length : Int)) = true := decide_eq_true c6;clear c6;by_cases c7 : (!(((rd_T184 l0 a0).f0) == ((rd_T184 l1 a0).f0)) || (!(((rd_T184 l0 a0).f1) == ((rd_T184 l1 a0).f1)))) = true
       ·rw [if_pos c7] at H;have c7b0 : (!(((rd_T184 l0 a0).f0) == ((rd_T184 l1 a0).f0)) || (!(((rd_T184 l0 a0).f1) == ((rd_T184 l1 a0).f1)))) = true := c7;clear c7;obtain rfl := Option.some.inj H;have a1 : 0 ≤ (a0 : Int) := of_decide_eq_true (by first | (with_reducible assumption) | assumption);have a3 : a0 < (l0.length : Int) := of_decide_eq_true (by first | (with_reducible assumption) | assumption);obtain ⟨b2, a5, a7, b0⟩ := at_T184 b4.out a0 a1 a3
        cases a5;replace a1 := eq_true a1;replace a3 := eq_true a3;have a4 : 0 ≤ (a0 : Int) := of_decide_eq_true (by first | (with_reducible assumption) | assumption);have a2 : a0 < (l1.length : Int) := of_decide_eq_true (by first | (with_reducible assumption) | assumption);obtain ⟨b1, a6, a9, a8⟩ := at_T184 b3.out a0 a4 a2
        cases a6;replace a4 := eq_true a4;replace a2 := eq_true a2;go_wp2
        repeat (go_quiet (fail); try go_wp2)
        go_ret
        exact ⟨by first | rfl | (simp; done) | (simp [*]; done), by repeat (first | exact Drawn0.refl _ | apply Drawn0.step)⟩
       ·rw [if_neg c7] at H;have c7b0 : (!(((rd_T184 l0 a0).f0) == ((rd_T184 l1 a0).f0)) || (!(((rd_T184 l0 a0).f1) == ((rd_T184 l1 a0).f1)))) = false := by simpa using c7
        clear c7;have H' := Aside0.mk H;clear H;have a1 : 0 ≤ (a0 : Int) := of_decide_eq_true (by first | (with_reducible assumption) | assumption);have a3 : a0 < (l0.length : Int) := of_decide_eq_true (by first | (with_reducible assumption) | assumption);obtain ⟨b2, a5, a7, b0⟩ := at_T184 b4.out a0 a1 a3
        cases a5;replace a1 := eq_true a1;replace a3 := eq_true a3;have a4 : 0 ≤ (a0 : Int) := of_decide_eq_true (by first | (with_reducible assumption) | assumption);have a2 : a0 < (l1.length : Int) := of_decide_eq_true (by first | (with_reducible assumption) | assumption);obtain ⟨b1, a6, a9, a8⟩ := at_T184 b3.out a0 a4 a2
        cases a6;replace a4 := eq_true a4;replace a2 := eq_true a2;go_wp2
        repeat (go_quiet (fail); try go_wp2)
        go_roundg k1
        case measure => have := b5.out; omega
        case rel => exact ⟨(wrap64 (a0 + 1)), (by first | rfl | (simp; done) | (simp [*]; done)), H', ⟨by have := b5.out; omega⟩, by repeat (first | exact Drawn0.refl _ | apply Drawn0.step)⟩
      ·rw [if_neg c6] at H;exact absurd H (by simp)
     ·rw [if_neg c5] at H;exact absurd H (by simp)
    ·rw [if_neg c4] at H;have c4b0 : decide (a0 < (l0.length : Int)) = false := decide_eq_false c4;clear c4;obtain rfl := Option.some.inj H;go_wp2
     repeat (go_quiet (fail); try go_wp2)
     go_ret
     exact ⟨by first | rfl | (simp; done) | (simp [*]; done), by repeat (first | exact Drawn0.refl _ | apply Drawn0.step)⟩
 ·rw [if_neg c3] at H;have c3b0 : ((l0.length : Int) == (l1.length : Int)) = false := beq_eq_false_iff_ne.mpr c3;have c3b1 : ((l0.length : Int) != (l1.length : Int)) = true := bne_iff_ne.mpr c3;have c3b2 : (l0.length == l1.length) = false := by first | simpa using c3 | (simp at c3 ⊢; omega)
  obtain rfl := Option.some.inj H;go_enter Try.func145, Try.ntmps145
  go_wp2
  repeat (go_quiet (fail); try go_wp2)
  go_ret
  exact ⟨by first | rfl | (simp; done) | (simp [*]; done), by repeat (first | exact Drawn0.refl _ | apply Drawn0.step)⟩
def Pr31a.l0 : Nat → List Int → Int → Int → Option (Int)
 | 0, _, _, _ => none
 | k + 1, x0, x3, x4 => if x4 < (x0.length : Int) then ((Pr31c.f k x0 x4).bind fun t348 => (if t348 = x4 then (Pr31a.l0 k x0 (wrap64 (x3 + 1)) (wrap64 (x4 + 1))) else (Pr31a.l0 k x0 x3 (wrap64 (x4 + 1))))) else (some x3)
def Pr31a.f (k : Nat) (l0 : List Int) : Option (Int) := Pr31a.l0 k l0 0 0
theorem Pr31a.mono_l : ∀ k, (∀ y0 y1 y2, LeO (Pr31a.l0 k y0 y1 y2) (Pr31a.l0 (k + 1) y0 y1 y2))
 | 0 => fun _ _ _ r h => by simp [Pr31a.l0] at h
 | k + 1 => by
  have ih0 := Pr31a.mono_l k
  ·intro y0 y1 y2
   unfold Pr31a.l0
   repeat' first
   | (with_reducible exact ih0 _ _ _)
   | (with_reducible exact Pr31c.mono _ _ _)
   | (with_reducible exact LeO.refl _)
   | (with_reducible exact LeO.none _)
   | (with_reducible refine LeO.ite ?_ ?_)
   | (with_reducible refine LeO.bind ?_ (fun _ => ?_))
   | exact ih0 _ _ _
   | exact Pr31c.mono _ _ _
   | exact LeO.none _
   | refine LeO.ite ?_ ?_
   | refine LeO.bind ?_ (fun _ => ?_)
theorem Pr31a.mono : ∀ a0 k, LeO (Pr31a.f k a0) (Pr31a.f (k + 1) a0) := by
 intro a0 k
 have ih0 := Pr31a.mono_l k
 unfold Pr31a.f
 repeat' first
   | (with_reducible exact ih0 _ _ _)
   | (with_reducible exact Pr31c.mono _ _ _)
   | (with_reducible exact LeO.refl _)
   | (with_reducible exact LeO.none _)
   | (with_reducible refine LeO.ite ?_ ?_)
   | (with_reducible refine LeO.bind ?_ (fun _ => ?_))
   | exact ih0 _ _ _
   | exact Pr31c.mono _ _ _
   | exact LeO.none _
   | refine LeO.ite ?_ ?_
   | refine LeO.bind ?_ (fun _ => ?_)
set_option maxHeartbeats 8000000 in
set_option maxRecDepth 100000 in
theorem Pr31a.calls (k : Nat) (A0 : Option Addr) (c0 : Nat) (l0 : List Int) (r : Int) (w : World) (hr0 : Kd.C (Kd.int .i64) w A0 l0.length l0) (hc0 : l0.length ≤ c0) (h : Pr31a.f k l0 = some r) :
  Calls Try.prog 50 #[.slice A0 l0.length c0] w fun e w' => e = .returned (.int .i64 r) ∧ Drawn0 w w' := by
 have a6 := Aside0.mk hr0;have a7 := Aside0.mk hc0;clear hr0 hc0;have H : (Pr31a.l0 k l0 0 0) = some r := h;clear h;have H' := Aside0.mk H;clear H;go_enter Try.func50, Try.ntmps50
 go_wp2
 go_loopg [3, 4] k (fun kq v3 v4 w' => ∃ (a2 : Int) (a0 : Int), v3 = .int .i64 a2 ∧ v4 = .int .i64 a0 ∧ Aside0 (Pr31a.l0 kq l0 a2 a0 = some r) ∧ Aside0 (kq ≤ k) ∧ Drawn0 w w')
 case atStart => exact ⟨(0), (0), (by first | rfl | (simp; done) | (simp [*]; done)), (by first | rfl | (simp; done) | (simp [*]; done)), H', ⟨Nat.le_refl _⟩, by repeat (first | exact Drawn0.refl _ | apply Drawn0.step)⟩
 case round =>
  clear H';obtain ⟨a2, a0, rfl, rfl, HA, a3, ⟨m1, rfl⟩⟩ := hrel
  cases gk with
  | zero => exact absurd HA.out (by simp [Pr31a.l0])
  | succ k1 =>
   have H := HA.out;clear HA;simp only [Pr31a.l0] at H;by_cases c2 : a0 < (l0.length : Int)
   ·rw [if_pos c2] at H;have c2b0 : decide (a0 < (l0.length : Int)) = true := decide_eq_true c2;clear c2;replace H := Option.bind_eq_some_iff.mp H;obtain ⟨a1, a8, H⟩ := H;replace H : (if a1 = a0 then (Pr31a.l0 k1 l0 (wrap64 (a2 + 1)) (wrap64 (a0 + 1))) else (Pr31a.l0 k1 l0 a2 (wrap64 (a0 + 1)))) = some r := H;have A3 := Aside0.mk a8;clear a8;by_cases c4 : a1 = a0
    ·rw [if_pos c4] at H;have c4b0 : (a1 == a0) = true := beq_iff_eq.mpr c4;have c4b1 : (a1 != a0) = false := bne_eq_false_iff_eq.mpr c4;clear c4;have H' := Aside0.mk H;clear H;go_wp2_with (first | ((with_reducible refine gate_callee (f := 105) rfl ?_); refine goesL_ (some 13) rfl rfl Try.func105 (by kernel_rfl) rfl #[.slice A0 l0.length c0, .int .i64 a0] rfl (by (try simp only [List.map_toArray, List.map_cons, List.map_nil]); first | done | rfl | (simp only [List.length_drop, List.length_take]; rfl)) ?_; (with_reducible refine (Pr31c.calls k1 _ _ l0 a0 a1 _ ?a5 ?a4 A3.out).mono ?_); (case a5 => repeat (first | exact a6.out | (with_reducible refine Kd.C_alloc ?_ _) | (with_reducible refine Kd.C_drewN ?_ _) | (with_reducible refine Kd.C_drew ?_))); (case a4 => exact a7.out); rintro e w' ⟨rfl, ⟨nd, rfl⟩⟩; refine ⟨_, rfl, ?_⟩))
     go_roundg k1
     case measure => have := a3.out; omega
     case rel => exact ⟨(wrap64 (a2 + 1)), (wrap64 (a0 + 1)), (by first | rfl | (simp; done) | (simp [*]; done)), (by first | rfl | (simp; done) | (simp [*]; done)), H', ⟨by have := a3.out; omega⟩, by repeat (first | exact Drawn0.refl _ | apply Drawn0.step)⟩
    ·rw [if_neg c4] at H;have c4b0 : (a1 == a0) = false := beq_eq_false_iff_ne.mpr c4;have c4b1 : (a1 != a0) = true := bne_iff_ne.mpr c4;have H' := Aside0.mk H;clear H;go_wp2_with (first | ((with_reducible refine gate_callee (f := 105) rfl ?_); refine goesL_ (some 13) rfl rfl Try.func105 (by kernel_rfl) rfl #[.slice A0 l0.length c0, .int .i64 a0] rfl (by (try simp only [List.map_toArray, List.map_cons, List.map_nil]); first | done | rfl | (simp only [List.length_drop, List.length_take]; rfl)) ?_; (with_reducible refine (Pr31c.calls k1 _ _ l0 a0 a1 _ ?a5 ?a4 A3.out).mono ?_); (case a5 => repeat (first | exact a6.out | (with_reducible refine Kd.C_alloc ?_ _) | (with_reducible refine Kd.C_drewN ?_ _) | (with_reducible refine Kd.C_drew ?_))); (case a4 => exact a7.out); rintro e w' ⟨rfl, ⟨nd, rfl⟩⟩; refine ⟨_, rfl, ?_⟩))
     go_roundg k1
     case measure => have := a3.out; omega
     case rel => exact ⟨(a2), (wrap64 (a0 + 1)), (by first | rfl | (simp; done) | (simp [*]; done)), (by first | rfl | (simp; done) | (simp [*]; done)), H', ⟨by have := a3.out; omega⟩, by repeat (first | exact Drawn0.refl _ | apply Drawn0.step)⟩
   ·rw [if_neg c2] at H;have c2b0 : decide (a0 < (l0.length : Int)) = false := decide_eq_false c2;clear c2;obtain rfl := Option.some.inj H;go_wp2
    go_ret
    exact ⟨by first | rfl | (simp; done) | (simp [*]; done), by repeat (first | exact Drawn0.refl _ | apply Drawn0.step)⟩
end Go.Proofs.Ytmcbkmfpmcbdpaa.Pr
namespace Go.Proofs.Ytmcbkmfpmcbdpaa.Pr
open Go.RowKit Go.Proofs.YtmcbkmfpmcbdpaaW.PrintWords Go.Proofs.YtmcbkmfpmcbdpaaW.PrintLast Go.Proofs.YtmcbkmfpmcbdpaaW.PrintMore
attribute [local go_sem] max2_int min2_int max_two min_two max_three min_three max_four min_four
set_option linter.unusedVariables false
set_option linter.unusedSimpArgs false
def Pr32d.l0 : Nat → List Int → Int → List Int → Int → Option (Bool)
 | 0, _, _, _, _ => none
 | k + 1, x1, x4, x11, x12 => if x12 < (x11.length : Int) then (if 0 ≤ x12 then (if 0 ≤ (rd x11 x12) then (if (rd x11 x12) < (x1.length : Int) then (if (rd x1 (rd x11 x12)) = x4 then (some true) else (Pr32d.l0 k x1 x4 x11 (wrap64 (x12 + 1)))) else (none)) else (none)) else (none)) else (some false)
def Pr32d.f (k : Nat) (a0_0 : Int) (l0_1 : List ByteArray) (l0_2 : List (S80)) (l1 : List Int) (a2 : Int) (a3 : Int) (a4 : Int) : Option (Bool) := (Pr26a.f k a0_0 l0_1 l0_2 a2 a3).bind fun t350 => (Pr32d.l0 k l1 a4 t350 0)
theorem Pr32d.mono_l : ∀ k, (∀ y0 y1 y2 y3, LeO (Pr32d.l0 k y0 y1 y2 y3) (Pr32d.l0 (k + 1) y0 y1 y2 y3))
 | 0 => fun _ _ _ _ r h => by simp [Pr32d.l0] at h
 | k + 1 => by
  have ih0 := Pr32d.mono_l k
  ·intro y0 y1 y2 y3
   unfold Pr32d.l0
   repeat' first
   | (with_reducible exact ih0 _ _ _ _)
   | (with_reducible exact Pr26a.mono _ _ _ _ _ _)
   | (with_reducible exact LeO.refl _)
   | (with_reducible exact LeO.none _)
   | (with_reducible refine LeO.ite ?_ ?_)
   | (with_reducible refine LeO.bind ?_ (fun _ => ?_))
   | exact ih0 _ _ _ _
   | exact Pr26a.mono _ _ _ _ _ _
   | exact LeO.none _
   | refine LeO.ite ?_ ?_
   | refine LeO.bind ?_ (fun _ => ?_)
theorem Pr32d.mono : ∀ a0 a1 a2 a3 a4 a5 a6 k, LeO (Pr32d.f k a0 a1 a2 a3 a4 a5 a6) (Pr32d.f (k + 1) a0 a1 a2 a3 a4 a5 a6) := by
 intro a0 a1 a2 a3 a4 a5 a6 k
 have ih0 := Pr32d.mono_l k
 unfold Pr32d.f
 repeat' first
   | (with_reducible exact ih0 _ _ _ _)
   | (with_reducible exact Pr26a.mono _ _ _ _ _ _)
   | (with_reducible exact LeO.refl _)
   | (with_reducible exact LeO.none _)
   | (with_reducible refine LeO.ite ?_ ?_)
   | (with_reducible refine LeO.bind ?_ (fun _ => ?_))
   | exact ih0 _ _ _ _
   | exact Pr26a.mono _ _ _ _ _ _
   | exact LeO.none _
   | refine LeO.ite ?_ ?_
   | refine LeO.bind ?_ (fun _ => ?_)
set_option maxHeartbeats 8000000 in
set_option maxRecDepth 100000 in
theorem Pr32d.calls (k : Nat) (a0_0 : Int) (A0_1 : Option Addr) (c0_1 : Nat) (l0_1 : List ByteArray) (A0_2 : Option Addr) (c0_2 : Nat) (l0_2 : List (S80)) (A1 : Option Addr) (c1 : Nat) (l1 : List Int) (a2 : Int) (a3 : Int) (a4 : Int) (r : Bool) (w : World) (hr0_1 : Kd.C Kd.string w A0_1 l0_1.length l0_1) (hc0_1 : l0_1.length ≤ c0_1) (hr0_2 : Kd.C k80 w A0_2 l0_2.length l0_2) (hc0_2 : l0_2.length ≤ c0_2) (hr1 : Kd.C (Kd.int .i64) w A1 l1.length l1) (hc1 : l1.length ≤ c1) (h : Pr32d.f k a0_0 l0_1 l0_2 l1 a2 a3 a4 = some r) :
  Calls Try.prog 165 #[.agg #[.int .i64 a0_0, .slice A0_1 l0_1.length c0_1, .slice A0_2 l0_2.length c0_2], .slice A1 l1.length c1, .int .i64 a2, .int .i64 a3, .int .i64 a4] w fun e w' => e = .returned (.bool r) ∧ Below w.heap.size w w' := by
 have g8 := Try.underlying25;have e4 := Aside0.mk hr0_1;have e1 := Aside0.mk hc0_1;clear hr0_1 hc0_1;have e0 := Aside0.mk hr0_2;have e5 := Aside0.mk hc0_2;clear hr0_2 hc0_2;have e7 := Aside0.mk hr1;have g9 := Aside0.mk hc1;clear hr1 hc1;have HB := Aside0.mk (Below.refl w.heap.size w);have H : ((Pr26a.f k a0_0 l0_1 l0_2 a2 a3).bind fun a1 => (Pr32d.l0 k l1 a4 a1 0)) = some r := h;clear h;replace H := Option.bind_eq_some_iff.mp H;obtain ⟨a1, e6, H⟩ := H;replace H : (Pr32d.l0 k l1 a4 a1 0) = some r := H;have A6 := Aside0.mk e6;clear e6;have H' := Aside0.mk H;clear H;go_enter Try.func165, Try.ntmps165
 go_wp2_with (first | ((with_reducible refine gate_dst (N := 5) rfl ?_); refine box_event ?hg (N := 5) ?hd (cs := #[.int .i64 a0_0, .slice A0_1 l0_1.length c0_1, .slice A0_2 l0_2.length c0_2]) (t := 25) ?hr ?_; (case hd => rfl); (case hg => rfl); (case hr => first | (go_simp; done) | (go_simp; rfl)); intro a8 hg w7 hbox hb; have b5 := Aside0.mk (below_step (wz HB.out) hb); have b4 := Aside0.mk (hbox); have b6 := Aside0.mk ((by rw [hg]; exact (below_size (wz HB.out)) : w.heap.size ≤ a8)); have f0 := Aside0.mk ((by rw [hg]; exact (below_size (wz HB.out)) : w.heap.size ≤ a8)); clear HB; have HB := b5; have a5 := b4; have g0 := b6; have f8 := f0; clear b5 b4 b6 f0; clear hb hbox hg; have d4 : w7.cell? ⟨a8, 0, none⟩ = some (.int .i64 a0_0) := bcz a5 0 rfl; have d7 : w7.cell? ⟨a8, 1, none⟩ = some (.slice A0_1 l0_1.length c0_1) := bcz a5 1 rfl; have d3 : w7.cell? ⟨a8, 2, none⟩ = some (.slice A0_2 l0_2.length c0_2) := bcz a5 2 rfl; have d8 := blk_frozen a5.out 0; have d5 := blk_frozen a5.out 1; have d6 := blk_frozen a5.out 2) | ((with_reducible refine gate_callee (f := 151) rfl ?_); refine goesL_ (some 16) rfl rfl Try.func151 (by kernel_rfl) rfl #[.agg #[.int .i64 a0_0, .slice A0_1 l0_1.length c0_1, .slice A0_2 l0_2.length c0_2], .int .i64 a2, .int .i64 a3] rfl (by (try simp only [List.map_toArray, List.map_cons, List.map_nil]); first | done | rfl | (simp only [List.length_drop, List.length_take]; rfl)) ?_; (with_reducible refine (Pr26a.calls k a0_0 _ _ l0_1 _ _ l0_2 a2 a3 a1 _ ?f6 ?f9 ?g1 ?f7 A6.out).mono ?_); (case f6 => exact cz e4.out HB.out); (case f9 => exact e1.out); (case g1 => exact cz e0.out HB.out); (case f7 => exact e5.out); rintro e w9 ⟨f1, rfl, e8, hb⟩; refine ⟨_, rfl, ?_⟩; have b5 := Aside0.mk (Kd.R_lower e8 (below_size (wz HB.out))); have b4 := Aside0.mk (blk_below (bz a5.out) hb); have b6 := Aside0.mk (below_step (wz HB.out) hb); clear a5; clear HB; have e3 := b5; have a5 := b4; have HB := b6; clear b5 b4 b6; (try clear hb); (try clear h0); (try clear hk); (try clear hi); (try clear e8)))
 go_loopg [12] k (fun kq f5 w' => ∃ (a0 : Int), f5 = .int .i64 a0 ∧ Aside0 (Pr32d.l0 kq l1 a4 a1 a0 = some r) ∧ Aside0 (kq ≤ k) ∧ Aside0 (Kd.R (Kd.int .i64) 3 w' w.heap.size (fun _ => True) f1 a1) ∧ Aside0 (w'.heap[a8]? = some (.cells #[.int .i64 a0_0, (.slice A0_1 l0_1.length c0_1), (.slice A0_2 l0_2.length c0_2)] 25 (0, 0))) ∧ Aside0 (Below w.heap.size w w'))
 case atStart => exact ⟨(0), (by first | rfl | (simp; done) | (simp [*]; done)), H', ⟨Nat.le_refl _⟩, ⟨rz e3.out⟩, ⟨bz a5.out⟩, ⟨wz HB.out⟩⟩
 case round =>
  clear H';(try clear c1);(try clear d4);(try clear d7);(try clear d3);(try clear d8);(try clear d5);(try clear d6);obtain ⟨a0, rfl, HA, e9, a7, a5, HB⟩ := hrel
  cases gk with
  | zero => exact absurd HA.out (by simp [Pr32d.l0])
  | succ k1 =>
   have H := HA.out;clear HA;simp only [Pr32d.l0] at H;by_cases c10 : a0 < (a1.length : Int)
   ·rw [if_pos c10] at H;have c10b0 : decide (a0 < (a1.length : Int)) = true := decide_eq_true c10;clear c10;by_cases b9 : 0 ≤ a0
    ·rw [if_pos b9] at H;have c11b0 : decide (0 ≤ a0) = true := decide_eq_true b9;clear b9;by_cases d1 : 0 ≤ (rd a1 a0)
     ·rw [if_pos d1] at H;have c12b0 : decide (0 ≤ (rd a1 a0)) = true := decide_eq_true d1;clear d1;by_cases d0 : (rd a1 a0) < (l1.length : Int)
      ·rw [if_pos d0] at H;have c13b0 : decide ((rd a1 a0) < (l1.length : Int)) = true := decide_eq_true d0;clear d0;by_cases b3 : (rd l1 (rd a1 a0)) = a4
       ·rw [if_pos b3] at H;have c14b0 : ((rd l1 (rd a1 a0)) == a4) = true := beq_iff_eq.mpr b3;have c14b1 : ((rd l1 (rd a1 a0)) != a4) = false := bne_eq_false_iff_eq.mpr b3;clear b3;obtain rfl := Option.some.inj H;obtain ⟨g7, g5, f3⟩ := Kd.R_slice a7.out;subst f3;have a9 : 0 ≤ (a0 : Int) := of_decide_eq_true (by first | (with_reducible assumption) | assumption);have b2 : a0 < (a1.length : Int) := of_decide_eq_true (by first | (with_reducible assumption) | assumption);obtain ⟨e2, b7, d2⟩ := Kd.at_int (Kd.R_reads' a7.out).2.2 a0 a9 b2
        cases b7;replace a9 := eq_true a9;replace b2 := eq_true b2;have b1 : 0 ≤ ((rd a1 a0) : Int) := of_decide_eq_true (by first | (with_reducible assumption) | assumption);have b0 : (rd a1 a0) < (l1.length : Int) := of_decide_eq_true (by first | (with_reducible assumption) | assumption);obtain ⟨d9, b8, a6⟩ := Kd.at_int e7.out (rd a1 a0) b1 b0
        cases b8;replace a6 := (HB.out.cell (World.block_lt_of_cell? w _ a6)).trans a6;replace b1 := eq_true b1;replace b0 := eq_true b0;go_wp2
        go_ret
        exact ⟨by first | rfl | (simp [errW_none, errW_some] <;> rfl) | (simp [*, errW_none, errW_some] <;> rfl), wz HB.out⟩
       ·rw [if_neg b3] at H;have c14b0 : ((rd l1 (rd a1 a0)) == a4) = false := beq_eq_false_iff_ne.mpr b3;have c14b1 : ((rd l1 (rd a1 a0)) != a4) = true := bne_iff_ne.mpr b3;have H' := Aside0.mk H;clear H;obtain ⟨g3, g4, f2⟩ := Kd.R_slice a7.out;subst f2;have a9 : 0 ≤ (a0 : Int) := of_decide_eq_true (by first | (with_reducible assumption) | assumption);have b2 : a0 < (a1.length : Int) := of_decide_eq_true (by first | (with_reducible assumption) | assumption);obtain ⟨e2, b7, d2⟩ := Kd.at_int (Kd.R_reads' a7.out).2.2 a0 a9 b2
        cases b7;replace a9 := eq_true a9;replace b2 := eq_true b2;have b1 : 0 ≤ ((rd a1 a0) : Int) := of_decide_eq_true (by first | (with_reducible assumption) | assumption);have b0 : (rd a1 a0) < (l1.length : Int) := of_decide_eq_true (by first | (with_reducible assumption) | assumption);obtain ⟨d9, b8, a6⟩ := Kd.at_int e7.out (rd a1 a0) b1 b0
        cases b8;replace a6 := (HB.out.cell (World.block_lt_of_cell? w _ a6)).trans a6;replace b1 := eq_true b1;replace b0 := eq_true b0;go_wp2
        go_roundg k1
        case measure => have := e9.out; omega
        case rel => exact ⟨(wrap64 (a0 + 1)), (by first | rfl | (simp; done) | (simp [*]; done)), H', ⟨by have := e9.out; omega⟩, ⟨rz a7.out⟩, ⟨bz a5.out⟩, ⟨wz HB.out⟩⟩
      ·rw [if_neg d0] at H;exact absurd H (by simp)
     ·rw [if_neg d1] at H;exact absurd H (by simp)
    ·rw [if_neg b9] at H;exact absurd H (by simp)
   ·rw [if_neg c10] at H;have c10b0 : decide (a0 < (a1.length : Int)) = false := decide_eq_false c10;clear c10;obtain rfl := Option.some.inj H;obtain ⟨g2, g6, f4⟩ := Kd.R_slice a7.out;subst f4;go_wp2
    go_ret
    exact ⟨by first | rfl | (simp [errW_none, errW_some] <;> rfl) | (simp [*, errW_none, errW_some] <;> rfl), wz HB.out⟩
mutual
def Pr32e.l0 : Nat → List Int → Int → List (S184) → Int → Int → List ByteArray → List (S80) → Option ((List (S184)))
 | 0, _, _, _, _, _, _, _ => none
 | k + 1, x1, x2, x7, x8, x356000, x356001, x356002 => if x8 < (x356001.length : Int) then (Pr32e.l1 k x1 x2 x7 x8 0 x356000 x356001 x356002) else (some x7)
def Pr32e.l1 : Nat → List Int → Int → List (S184) → Int → Int → Int → List ByteArray → List (S80) → Option ((List (S184)))
 | 0, _, _, _, _, _, _, _, _ => none
 | k + 1, x1, x2, x7, x8, x9, x356000, x356001, x356002 => (Pr31a.f k x1).bind fun t359 => (if x9 < t359 then ((Pr32d.f k x356000 x356001 x356002 x1 x2 x8 x9).bind fun t360 => (if t360 = true then (if x7.length < 8796093022208 then (Pr32e.l1 k x1 x2 (x7 ++ [(⟨x8, x9⟩ : S184)]) x8 (wrap64 (x9 + 1)) x356000 x356001 x356002) else (none)) else (Pr32e.l1 k x1 x2 x7 x8 (wrap64 (x9 + 1)) x356000 x356001 x356002))) else (Pr32e.l0 k x1 x2 x7 (wrap64 (x8 + 1)) x356000 x356001 x356002))
end
def Pr32e.f (k : Nat) (a0_0 : Int) (l0_1 : List ByteArray) (l0_2 : List (S80)) (l1 : List Int) (a2 : Int) : Option ((List (S184))) := Pr32e.l0 k l1 a2 (([] : List (S184))) 0 a0_0 l0_1 l0_2
theorem Pr32e.mono_l : ∀ k, (∀ y0 y1 y2 y3 y4 y5 y6, LeO (Pr32e.l0 k y0 y1 y2 y3 y4 y5 y6) (Pr32e.l0 (k + 1) y0 y1 y2 y3 y4 y5 y6)) ∧ (∀ y0 y1 y2 y3 y4 y5 y6 y7, LeO (Pr32e.l1 k y0 y1 y2 y3 y4 y5 y6 y7) (Pr32e.l1 (k + 1) y0 y1 y2 y3 y4 y5 y6 y7))
 | 0 => ⟨fun _ _ _ _ _ _ _ r h => by simp [Pr32e.l0] at h, fun _ _ _ _ _ _ _ _ r h => by simp [Pr32e.l1] at h⟩
 | k + 1 => by
  obtain ⟨ih0, ih1⟩ := Pr32e.mono_l k
  refine ⟨?_, ?_⟩
  ·intro y0 y1 y2 y3 y4 y5 y6
   unfold Pr32e.l0
   repeat' first
   | (with_reducible exact ih0 _ _ _ _ _ _ _)
   | (with_reducible exact ih1 _ _ _ _ _ _ _ _)
   | (with_reducible exact Pr31a.mono _ _)
   | (with_reducible exact Pr32d.mono _ _ _ _ _ _ _ _)
   | (with_reducible exact LeO.refl _)
   | (with_reducible exact LeO.none _)
   | (with_reducible refine LeO.ite ?_ ?_)
   | (with_reducible refine LeO.bind ?_ (fun _ => ?_))
   | exact ih0 _ _ _ _ _ _ _
   | exact ih1 _ _ _ _ _ _ _ _
   | exact Pr31a.mono _ _
   | exact Pr32d.mono _ _ _ _ _ _ _ _
   | exact LeO.none _
   | refine LeO.ite ?_ ?_
   | refine LeO.bind ?_ (fun _ => ?_)
  ·intro y0 y1 y2 y3 y4 y5 y6 y7
   unfold Pr32e.l1
   repeat' first
   | (with_reducible exact ih0 _ _ _ _ _ _ _)
   | (with_reducible exact ih1 _ _ _ _ _ _ _ _)
   | (with_reducible exact Pr31a.mono _ _)
   | (with_reducible exact Pr32d.mono _ _ _ _ _ _ _ _)
   | (with_reducible exact LeO.refl _)
   | (with_reducible exact LeO.none _)
   | (with_reducible refine LeO.ite ?_ ?_)
   | (with_reducible refine LeO.bind ?_ (fun _ => ?_))
   | exact ih0 _ _ _ _ _ _ _
   | exact ih1 _ _ _ _ _ _ _ _
   | exact Pr31a.mono _ _
   | exact Pr32d.mono _ _ _ _ _ _ _ _
   | exact LeO.none _
   | refine LeO.ite ?_ ?_
   | refine LeO.bind ?_ (fun _ => ?_)
theorem Pr32e.mono : ∀ a0 a1 a2 a3 a4 k, LeO (Pr32e.f k a0 a1 a2 a3 a4) (Pr32e.f (k + 1) a0 a1 a2 a3 a4) := by
 intro a0 a1 a2 a3 a4 k
 obtain ⟨ih0, ih1⟩ := Pr32e.mono_l k
 unfold Pr32e.f
 repeat' first
   | (with_reducible exact ih0 _ _ _ _ _ _ _)
   | (with_reducible exact ih1 _ _ _ _ _ _ _ _)
   | (with_reducible exact Pr31a.mono _ _)
   | (with_reducible exact Pr32d.mono _ _ _ _ _ _ _ _)
   | (with_reducible exact LeO.refl _)
   | (with_reducible exact LeO.none _)
   | (with_reducible refine LeO.ite ?_ ?_)
   | (with_reducible refine LeO.bind ?_ (fun _ => ?_))
   | exact ih0 _ _ _ _ _ _ _
   | exact ih1 _ _ _ _ _ _ _ _
   | exact Pr31a.mono _ _
   | exact Pr32d.mono _ _ _ _ _ _ _ _
   | exact LeO.none _
   | refine LeO.ite ?_ ?_
   | refine LeO.bind ?_ (fun _ => ?_)
set_option maxHeartbeats 8000000 in
set_option maxRecDepth 100000 in
theorem Pr32e.calls (k : Nat) (a0_0 : Int) (A0_1 : Option Addr) (c0_1 : Nat) (l0_1 : List ByteArray) (A0_2 : Option Addr) (c0_2 : Nat) (l0_2 : List (S80)) (A1 : Option Addr) (c1 : Nat) (l1 : List Int) (a2 : Int) (r : List (S184)) (w : World) (hr0_1 : Kd.C Kd.string w A0_1 l0_1.length l0_1) (hc0_1 : l0_1.length ≤ c0_1) (hr0_2 : Kd.C k80 w A0_2 l0_2.length l0_2) (hc0_2 : l0_2.length ≤ c0_2) (hr1 : Kd.C (Kd.int .i64) w A1 l1.length l1) (hc1 : l1.length ≤ c1) (h : Pr32e.f k a0_0 l0_1 l0_2 l1 a2 = some r) :
  Calls Try.prog 146 #[.agg #[.int .i64 a0_0, .slice A0_1 l0_1.length c0_1, .slice A0_2 l0_2.length c0_2], .slice A1 l1.length c1, .int .i64 a2] w fun e w' => ∃ v0_ : Value, e = .returned (v0_) ∧ Kd.R k184 184 w' w.heap.size (fun _ => True) v0_ r ∧ Below w.heap.size w w' := by
 have i2 := Try.underlying25;have i1 := Try.underlying184;have d4 := Aside0.mk hr0_1;have d8 := Aside0.mk hc0_1;clear hr0_1 hc0_1;have d7 := Aside0.mk hr0_2;have d9 := Aside0.mk hc0_2;clear hr0_2 hc0_2;have d1 := Aside0.mk hr1;have d0 := Aside0.mk hc1;clear hr1 hc1;have HB := Aside0.mk (Below.refl w.heap.size w);have H : (Pr32e.l0 k l1 a2 (([] : List (S184))) 0 a0_0 l0_1 l0_2) = some r := h;clear h;obtain ⟨e3, b1⟩ : ∃ y_ : List (S184), y_ = (([] : List (S184))) := ⟨_, rfl⟩
 replace H : (Pr32e.l0 k l1 a2 e3 0 a0_0 l0_1 l0_2) = some r := by first | (rw [b1]; with_reducible exact H) | (have b5 := (Option.bind_some _ _).symm.trans H; rw [b1]; with_reducible exact b5) | (have b5 := (Option.bind_some _ _).symm.trans H; with_reducible exact b5) | with_reducible exact H | (rw [b1]; exact H) | exact H
 have d3 := Aside0.mk b1;clear b1;have H' := Aside0.mk H;clear H;go_enter Try.func146, Try.ntmps146
 go_wp2_with (first | ((with_reducible refine gate_dst (N := 3) rfl ?_); refine box_event ?hg (N := 3) ?hd (cs := #[.int .i64 a0_0, .slice A0_1 l0_1.length c0_1, .slice A0_2 l0_2.length c0_2]) (t := 25) ?hr ?_; (case hd => rfl); (case hg => rfl); (case hr => first | (go_simp; done) | (go_simp; rfl)); intro a4 hg w4 hbox hb; have a8 := Aside0.mk (below_step (wz HB.out) hb); have a7 := Aside0.mk (hbox); have a9 := Aside0.mk ((by rw [hg]; exact (below_size (wz HB.out)) : w.heap.size ≤ a4)); have f7 := Aside0.mk ((by rw [hg]; exact (below_size (wz HB.out)) : w.heap.size ≤ a4)); clear HB; have HB := a8; have a0 := a7; have h9 := a9; have i0 := f7; clear a8 a7 a9 f7 hb hbox hg) | ((with_reducible refine gate_dst (N := 10) rfl ?_); refine Kd.R_lit k184 _ 184 ?hg (N := 10) ?hd (xs := ([] : List (S184))) (inner := []) (ok := fun _ => True) (okp := fun _ => True) ?hr ?hp (fun _ hk => hk) trivial (Below.refl _ _) (Nat.le_refl _) (by simp) ?_; (case hd => rfl); (case hg => rfl); (case hr => first | (go_simp; done) | (go_simp; rfl)); (case hp => exact (Reps.none _ _)); intro i3 w5 d2 hb hg_ hnew_; clear hg_ hnew_; (first | rw [← d3.out] at d2 | (simp only [Int.reduceToNat] at d2; rw [← d3.out] at d2)); have a8 := Aside0.mk (Kd.R_lower d2 (below_size (wz HB.out))); have a7 := Aside0.mk (blk_below (bz a0.out) hb); have a9 := Aside0.mk (below_step (wz HB.out) hb); clear a0 HB; have f6 := a8; have a0 := a7; have HB := a9; clear a8 a7 a9 hb d2))
 go_loopg [7, 8] k (fun kq v7 v8 w' => ∃ (b9 : List (S184)) (a3 : Int), v8 = .int .i64 a3 ∧ Aside0 (Pr32e.l0 kq l1 a2 b9 a3 a0_0 l0_1 l0_2 = some r) ∧ Aside0 (kq ≤ k) ∧ Aside0 (Kd.R k184 184 w' w.heap.size (fun _ => True) v7 b9) ∧ Aside0 (w'.heap[a4]? = some (.cells #[.int .i64 a0_0, (.slice A0_1 l0_1.length c0_1), (.slice A0_2 l0_2.length c0_2)] 25 (0, 0))) ∧ Aside0 (Below w.heap.size w w'))
 case atStart => exact ⟨(e3), (0), (by first | rfl | (simp; done) | (simp [*]; done)), H', ⟨Nat.le_refl _⟩, ⟨rz f6.out⟩, ⟨bz a0.out⟩, ⟨wz HB.out⟩⟩
 case round =>
  clear H';(try clear c1);obtain ⟨b9, a3, rfl, HA, b6, a6, a0, HB⟩ := hrel
  cases gk with
  | zero => exact absurd HA.out (by simp [Pr32e.l0])
  | succ k1 =>
   have H := HA.out;clear HA;simp only [Pr32e.l0] at H;by_cases c7 : a3 < (l0_1.length : Int)
   ·rw [if_pos c7] at H;have c7b0 : decide (a3 < (l0_1.length : Int)) = true := decide_eq_true c7;clear c7;have H' := Aside0.mk H;clear H;have e1 : wr.cell? ⟨a4, 0, none⟩ = some (.int .i64 a0_0) := bcz a0 0 rfl;have e5 : wr.cell? ⟨a4, 1, none⟩ = some (.slice A0_1 l0_1.length c0_1) := bcz a0 1 rfl;have e8 : wr.cell? ⟨a4, 2, none⟩ = some (.slice A0_2 l0_2.length c0_2) := bcz a0 2 rfl;have e6 := blk_frozen a0.out 0;have e2 := blk_frozen a0.out 1;have e4 := blk_frozen a0.out 2;go_wp2
    go_loopg [7, 9] k1 (fun kq v7 v9 w' => ∃ (a5 : List (S184)) (a1 : Int), v9 = .int .i64 a1 ∧ Aside0 (Pr32e.l1 kq l1 a2 a5 a3 a1 a0_0 l0_1 l0_2 = some r) ∧ Aside0 (kq ≤ k1) ∧ Aside0 (Kd.R k184 184 w' w.heap.size (fun _ => True) v7 a5) ∧ Aside0 (w'.heap[a4]? = some (.cells #[.int .i64 a0_0, (.slice A0_1 l0_1.length c0_1), (.slice A0_2 l0_2.length c0_2)] 25 (0, 0))) ∧ Aside0 (Below w.heap.size w w'))
    case atStart => exact ⟨(b9), (0), (by first | rfl | (simp; done) | (simp [*]; done)), H', ⟨Nat.le_refl _⟩, ⟨rz a6.out⟩, ⟨bz a0.out⟩, ⟨wz HB.out⟩⟩
    case round =>
     clear H';(try clear c1);(try clear c7);(try clear c7b0);(try clear e1);(try clear e5);(try clear e8);(try clear e6);(try clear e2);(try clear e4);obtain ⟨a5, a1, rfl, HA, b7, a6, a0, HB⟩ := hrel
     cases gk with
     | zero => exact absurd HA.out (by simp [Pr32e.l1])
     | succ k2 =>
      have H := HA.out;clear HA;simp only [Pr32e.l1] at H;replace H := Option.bind_eq_some_iff.mp H;obtain ⟨b0, f8, H⟩ := H;replace H : (if a1 < b0 then ((Pr32d.f k2 a0_0 l0_1 l0_2 l1 a2 a3 a1).bind fun b8 => (if b8 = true then (if a5.length < 8796093022208 then (Pr32e.l1 k2 l1 a2 (a5 ++ [(⟨a3, a1⟩ : S184)]) a3 (wrap64 (a1 + 1)) a0_0 l0_1 l0_2) else (none)) else (Pr32e.l1 k2 l1 a2 a5 a3 (wrap64 (a1 + 1)) a0_0 l0_1 l0_2))) else (Pr32e.l0 k2 l1 a2 a5 (wrap64 (a3 + 1)) a0_0 l0_1 l0_2)) = some r := H;have A9 := Aside0.mk f8;clear f8;by_cases c10 : a1 < b0
      ·rw [if_pos c10] at H;have c10b0 : decide (a1 < b0) = true := decide_eq_true c10;clear c10;replace H := Option.bind_eq_some_iff.mp H;obtain ⟨b8, e0, H⟩ := H;replace H : (if b8 = true then (if a5.length < 8796093022208 then (Pr32e.l1 k2 l1 a2 (a5 ++ [(⟨a3, a1⟩ : S184)]) a3 (wrap64 (a1 + 1)) a0_0 l0_1 l0_2) else (none)) else (Pr32e.l1 k2 l1 a2 a5 a3 (wrap64 (a1 + 1)) a0_0 l0_1 l0_2)) = some r := H;have f9 := Aside0.mk e0;clear e0;by_cases d6 : b8 = true
       ·subst d6;have H1 : (if a5.length < 8796093022208 then (Pr32e.l1 k2 l1 a2 (a5 ++ [(⟨a3, a1⟩ : S184)]) a3 (wrap64 (a1 + 1)) a0_0 l0_1 l0_2) else (none)) = some r := by rw [if_pos rfl] at H; exact H
        clear H;have H := H1;clear H1;by_cases d5 : a5.length < 8796093022208
        ·rw [if_pos d5] at H;have f5 := Aside0.mk d5;clear d5;obtain ⟨e7, b2⟩ : ∃ y_ : List (S184), y_ = (a5 ++ [(⟨a3, a1⟩ : S184)]) := ⟨_, rfl⟩
         replace H : (Pr32e.l1 k2 l1 a2 e7 a3 (wrap64 (a1 + 1)) a0_0 l0_1 l0_2) = some r := by first | (rw [b2]; with_reducible exact H) | (have b5 := (Option.bind_some _ _).symm.trans H; rw [b2]; with_reducible exact b5) | (have b5 := (Option.bind_some _ _).symm.trans H; with_reducible exact b5) | with_reducible exact H | (rw [b2]; exact H) | exact H
         have f1 := Aside0.mk b2;clear b2;have H' := Aside0.mk H;clear H;go_wp2_with (first | ((with_reducible refine gate_callee (f := 50) rfl ?_); refine goesL_ (some 20) rfl rfl Try.func50 (by kernel_rfl) rfl #[.slice A1 l1.length c1] rfl (by (try simp only [List.map_toArray, List.map_cons, List.map_nil]); first | done | rfl | (simp only [List.length_drop, List.length_take]; rfl)) ?_; (with_reducible refine (Pr31a.calls k2 _ _ l1 b0 _ ?b3 ?b4 A9.out).mono ?_); (case b3 => exact cz d1.out HB.out); (case b4 => exact d0.out); rintro e w' ⟨rfl, ⟨nd, rfl⟩⟩; refine ⟨_, rfl, ?_⟩; have g4 : wr.cell? ⟨a4, 0, none⟩ = some (.int .i64 a0_0) := bcz a0 0 rfl; have g1 : wr.cell? ⟨a4, 1, none⟩ = some (.slice A0_1 l0_1.length c0_1) := bcz a0 1 rfl; have g9 : wr.cell? ⟨a4, 2, none⟩ = some (.slice A0_2 l0_2.length c0_2) := bcz a0 2 rfl; have h2 := blk_frozen a0.out 0; have h1 := blk_frozen a0.out 1; have h5 := blk_frozen a0.out 2) | ((with_reducible refine gate_callee (f := 165) rfl ?_); refine goesL_ (some 29) rfl rfl Try.func165 (by kernel_rfl) rfl #[.agg #[.int .i64 a0_0, .slice A0_1 l0_1.length c0_1, .slice A0_2 l0_2.length c0_2], .slice A1 l1.length c1, .int .i64 a2, .int .i64 a3, .int .i64 a1] rfl (by (try simp only [List.map_toArray, List.map_cons, List.map_nil]); first | done | rfl | (simp only [List.length_drop, List.length_take]; rfl)) ?_; (with_reducible refine (Pr32d.calls k2 a0_0 _ _ l0_1 _ _ l0_2 _ _ l1 a2 a3 a1 true _ ?b3 ?b4 ?f4 ?f2 ?f0 ?f3 f9.out).mono ?_); (case b3 => repeat (first | exact (Kd.C_below d4.out (wz HB.out)) | (with_reducible refine Kd.C_alloc ?_ _) | (with_reducible refine Kd.C_drewN ?_ _) | (with_reducible refine Kd.C_drew ?_))); (case b4 => exact d8.out); (case f4 => repeat (first | exact (Kd.C_below d7.out (wz HB.out)) | (with_reducible refine Kd.C_alloc ?_ _) | (with_reducible refine Kd.C_drewN ?_ _) | (with_reducible refine Kd.C_drew ?_))); (case f2 => exact d9.out); (case f0 => repeat (first | exact (Kd.C_below d1.out (wz HB.out)) | (with_reducible refine Kd.C_alloc ?_ _) | (with_reducible refine Kd.C_drewN ?_ _) | (with_reducible refine Kd.C_drew ?_))); (case f3 => exact d0.out); rintro e i8 ⟨rfl, hb⟩; refine ⟨_, rfl, ?_⟩; have a8 := Aside0.mk (Kd.R_below (rz a6.out) hb); have a7 := Aside0.mk (blk_below (bz a0.out) hb); have a9 := Aside0.mk (below_step (wz HB.out) hb); clear a6; clear a0; clear HB; have a6 := a8; have a0 := a7; have HB := a9; clear a8 a7 a9; (try clear hb); (try clear h8); (try clear hk); (try clear hi)) | ((with_reducible refine gate_builtin (b := .append) (xs := #[.tmp 30, .tmp 34]) rfl ?_); at_builtin; refine Kd.R_append k184 (w0 := w) w.heap.size rfl (.tmp 30) (.tmp 34) 162 184 (.agg #[(.int .i64 0), (.int .i64 0)]) 16 rfl Try.underlying162 info184 rfl (by decide) (by omega) u7 a5 (⟨a3, a1⟩ : S184) [.int .i64 a3, .int .i64 a1] (fun _ => True) (fun _ => False) rfl rfl ?aP (fun _ hk => hk.elim) ?aF ?aO ?aB ?aS ?aL ?_; (case aP => exact k184_mkM _ _ _ (⟨a3, a1⟩ : S184)); (case aB => exact (wz HB.out)); (case aF => exact (fun _ _ => trivial)); (case aO => exact (rz a6.out)); (case aS => exact (below_size (wz HB.out))); (case aL => have := f5.out; omega); intro i4 i5 ho hb hg hat; rw [← f1.out] at ho; have a8 := Aside0.mk (blk_grown (bz a0.out) hg (Kd.R_ne a6.out a0.out (by decide))); have a7 := Aside0.mk (hb); have a9 := Aside0.mk (ho); clear a0; clear HB; clear a6; have a0 := a8; have HB := a7; have e9 := a9; clear a8 a7 a9; clear ho hb hg hat))
         go_roundg k2
         case measure => have := b6.out; have := b7.out; omega
         case rel => exact ⟨(e7), (wrap64 (a1 + 1)), (by first | rfl | (simp; done) | (simp [*]; done)), H', ⟨by have := b6.out; have := b7.out; omega⟩, ⟨rz e9.out⟩, ⟨bz a0.out⟩, ⟨wz HB.out⟩⟩
        ·rw [if_neg d5] at H;exact absurd H (by simp)
       ·replace d6 := Bool.eq_false_iff.mpr d6;subst d6;have H1 : (Pr32e.l1 k2 l1 a2 a5 a3 (wrap64 (a1 + 1)) a0_0 l0_1 l0_2) = some r := by rw [if_neg (show ¬ (false = true) by decide)] at H; exact H
        clear H;have H := H1;clear H1;have H' := Aside0.mk H;clear H;go_wp2_with (first | ((with_reducible refine gate_callee (f := 50) rfl ?_); refine goesL_ (some 20) rfl rfl Try.func50 (by kernel_rfl) rfl #[.slice A1 l1.length c1] rfl (by (try simp only [List.map_toArray, List.map_cons, List.map_nil]); first | done | rfl | (simp only [List.length_drop, List.length_take]; rfl)) ?_; (with_reducible refine (Pr31a.calls k2 _ _ l1 b0 _ ?b3 ?b4 A9.out).mono ?_); (case b3 => exact cz d1.out HB.out); (case b4 => exact d0.out); rintro e w' ⟨rfl, ⟨nd, rfl⟩⟩; refine ⟨_, rfl, ?_⟩; have g2 : wr.cell? ⟨a4, 0, none⟩ = some (.int .i64 a0_0) := bcz a0 0 rfl; have h6 : wr.cell? ⟨a4, 1, none⟩ = some (.slice A0_1 l0_1.length c0_1) := bcz a0 1 rfl; have h0 : wr.cell? ⟨a4, 2, none⟩ = some (.slice A0_2 l0_2.length c0_2) := bcz a0 2 rfl; have h3 := blk_frozen a0.out 0; have h7 := blk_frozen a0.out 1; have g8 := blk_frozen a0.out 2) | ((with_reducible refine gate_callee (f := 165) rfl ?_); refine goesL_ (some 29) rfl rfl Try.func165 (by kernel_rfl) rfl #[.agg #[.int .i64 a0_0, .slice A0_1 l0_1.length c0_1, .slice A0_2 l0_2.length c0_2], .slice A1 l1.length c1, .int .i64 a2, .int .i64 a3, .int .i64 a1] rfl (by (try simp only [List.map_toArray, List.map_cons, List.map_nil]); first | done | rfl | (simp only [List.length_drop, List.length_take]; rfl)) ?_; (with_reducible refine (Pr32d.calls k2 a0_0 _ _ l0_1 _ _ l0_2 _ _ l1 a2 a3 a1 false _ ?b3 ?b4 ?f4 ?f2 ?f0 ?f3 f9.out).mono ?_); (case b3 => repeat (first | exact (Kd.C_below d4.out (wz HB.out)) | (with_reducible refine Kd.C_alloc ?_ _) | (with_reducible refine Kd.C_drewN ?_ _) | (with_reducible refine Kd.C_drew ?_))); (case b4 => exact d8.out); (case f4 => repeat (first | exact (Kd.C_below d7.out (wz HB.out)) | (with_reducible refine Kd.C_alloc ?_ _) | (with_reducible refine Kd.C_drewN ?_ _) | (with_reducible refine Kd.C_drew ?_))); (case f2 => exact d9.out); (case f0 => repeat (first | exact (Kd.C_below d1.out (wz HB.out)) | (with_reducible refine Kd.C_alloc ?_ _) | (with_reducible refine Kd.C_drewN ?_ _) | (with_reducible refine Kd.C_drew ?_))); (case f3 => exact d0.out); rintro e i7 ⟨rfl, hb⟩; refine ⟨_, rfl, ?_⟩; have a8 := Aside0.mk (Kd.R_below (rz a6.out) hb); have a7 := Aside0.mk (blk_below (bz a0.out) hb); have a9 := Aside0.mk (below_step (wz HB.out) hb); clear a6; clear a0; clear HB; have a6 := a8; have a0 := a7; have HB := a9; clear a8 a7 a9; (try clear hb); (try clear h8); (try clear hk); (try clear hi)))
        go_roundg k2
        case measure => have := b6.out; have := b7.out; omega
        case rel => exact ⟨(a5), (wrap64 (a1 + 1)), (by first | rfl | (simp; done) | (simp [*]; done)), H', ⟨by have := b6.out; have := b7.out; omega⟩, ⟨rz a6.out⟩, ⟨bz a0.out⟩, ⟨wz HB.out⟩⟩
      ·rw [if_neg c10] at H;have c10b0 : decide (a1 < b0) = false := decide_eq_false c10;clear c10;have H' := Aside0.mk H;clear H;go_wp2_with (first | ((with_reducible refine gate_callee (f := 50) rfl ?_); refine goesL_ (some 20) rfl rfl Try.func50 (by kernel_rfl) rfl #[.slice A1 l1.length c1] rfl (by (try simp only [List.map_toArray, List.map_cons, List.map_nil]); first | done | rfl | (simp only [List.length_drop, List.length_take]; rfl)) ?_; (with_reducible refine (Pr31a.calls k2 _ _ l1 b0 _ ?b3 ?b4 A9.out).mono ?_); (case b3 => exact cz d1.out HB.out); (case b4 => exact d0.out); rintro e w' ⟨rfl, ⟨nd, rfl⟩⟩; refine ⟨_, rfl, ?_⟩))
       go_roundg k2
       case measure => have := b6.out; have := b7.out; omega
       case rel => exact ⟨(a5), (wrap64 (a3 + 1)), (by first | rfl | (simp; done) | (simp [*]; done)), H', ⟨by have := b6.out; have := b7.out; omega⟩, ⟨rz a6.out⟩, ⟨bz a0.out⟩, ⟨wz HB.out⟩⟩
   ·rw [if_neg c7] at H;have c7b0 : decide (a3 < (l0_1.length : Int)) = false := decide_eq_false c7;clear c7;obtain rfl := Option.some.inj H;have h4 : wr.cell? ⟨a4, 0, none⟩ = some (.int .i64 a0_0) := bcz a0 0 rfl;have g3 : wr.cell? ⟨a4, 1, none⟩ = some (.slice A0_1 l0_1.length c0_1) := bcz a0 1 rfl;have g6 : wr.cell? ⟨a4, 2, none⟩ = some (.slice A0_2 l0_2.length c0_2) := bcz a0 2 rfl;have g5 := blk_frozen a0.out 0;have g7 := blk_frozen a0.out 1;have g0 := blk_frozen a0.out 2;go_wp2
    go_ret
    exact ⟨_, by first | rfl | (simp [errW_none, errW_some] <;> rfl) | (simp [*, errW_none, errW_some] <;> rfl), rz a6.out, wz HB.out⟩
def Pr32b.f (k : Nat) (a0_0 : Int) (l0_1 : List ByteArray) (l0_2 : List (S80)) (l1 : List Int) (a2 : Int) (a3 : Int) : Option (Bool) := (Pr32e.f k a0_0 l0_1 l0_2 l1 a2).bind fun t365 => ((Pr32e.f k a0_0 l0_1 l0_2 l1 a3).bind fun t368 => ((Pr32c.f k t365 t368).bind fun t371 => (some t371)))
theorem Pr32b.mono : ∀ a0 a1 a2 a3 a4 a5 k, LeO (Pr32b.f k a0 a1 a2 a3 a4 a5) (Pr32b.f (k + 1) a0 a1 a2 a3 a4 a5) := by
 intro a0 a1 a2 a3 a4 a5 k
 unfold Pr32b.f
 repeat' first
   | (with_reducible exact Pr32e.mono _ _ _ _ _ _)
   | (with_reducible exact Pr32c.mono _ _ _)
   | (with_reducible exact LeO.refl _)
   | (with_reducible exact LeO.none _)
   | (with_reducible refine LeO.ite ?_ ?_)
   | (with_reducible refine LeO.bind ?_ (fun _ => ?_))
   | exact Pr32e.mono _ _ _ _ _ _
   | exact Pr32c.mono _ _ _
   | exact LeO.none _
   | refine LeO.ite ?_ ?_
   | refine LeO.bind ?_ (fun _ => ?_)
def Pr32b.T1 : Bool × List (List Nat × List Nat) := (true, [([], []), ([], []), ([], []), ([0, 1, 2], [0, 1, 2]), ([], []), ([], []), ([], []), ([4, 5, 6, 3], [4, 5, 6]), ([3, 7, 7], [3, 7]), ([8, 8, 0, 1, 2, 3, 4, 5, 6, 7, 8], [8])])
def Pr32b.B1 : List Nat := [0, 0, 0, 7, 0, 0, 0, 127, 255, 511]
theorem Pr32b.tab1 : rtab .any (opsOf Try.f113 1) = Pr32b.T1 := by kernel_rfl
theorem Pr32b.bits1 : waitsOk Pr32b.T1.2 Pr32b.B1 = true := by kernel_rfl
set_option maxHeartbeats 8000000 in
set_option maxRecDepth 100000 in
theorem Pr32b.calls (k : Nat) (a0_0 : Int) (A0_1 : Option Addr) (c0_1 : Nat) (l0_1 : List ByteArray) (A0_2 : Option Addr) (c0_2 : Nat) (l0_2 : List (S80)) (A1 : Option Addr) (c1 : Nat) (l1 : List Int) (a2 : Int) (a3 : Int) (r : Bool) (w : World) (hr0_1 : Kd.C Kd.string w A0_1 l0_1.length l0_1) (hc0_1 : l0_1.length ≤ c0_1) (hr0_2 : Kd.C k80 w A0_2 l0_2.length l0_2) (hc0_2 : l0_2.length ≤ c0_2) (hr1 : Kd.C (Kd.int .i64) w A1 l1.length l1) (hc1 : l1.length ≤ c1) (h : Pr32b.f k a0_0 l0_1 l0_2 l1 a2 a3 = some r) :
  Calls Try.prog 113 #[.agg #[.int .i64 a0_0, .slice A0_1 l0_1.length c0_1, .slice A0_2 l0_2.length c0_2], .slice A1 l1.length c1, .int .i64 a2, .int .i64 a3] w fun e w' => e = .returned (.bool r) ∧ Below w.heap.size w w' := by
 have f0 := Try.underlying25;have d0 := Aside0.mk hr0_1;have b9 := Aside0.mk hc0_1;clear hr0_1 hc0_1;have b8 := Aside0.mk hr0_2;have d1 := Aside0.mk hc0_2;clear hr0_2 hc0_2;have d8 := Aside0.mk hr1;have d9 := Aside0.mk hc1;clear hr1 hc1;have HB := Aside0.mk (Below.refl w.heap.size w);have H : ((Pr32e.f k a0_0 l0_1 l0_2 l1 a2).bind fun a8 => ((Pr32e.f k a0_0 l0_1 l0_2 l1 a3).bind fun a7 => ((Pr32c.f k a8 a7).bind fun a4 => (some a4)))) = some r := h;clear h;replace H := Option.bind_eq_some_iff.mp H;obtain ⟨a8, e0, H⟩ := H;replace H : ((Pr32e.f k a0_0 l0_1 l0_2 l1 a3).bind fun a7 => ((Pr32c.f k a8 a7).bind fun a4 => (some a4))) = some r := H;have A5 := Aside0.mk e0;clear e0;replace H := Option.bind_eq_some_iff.mp H;obtain ⟨a7, d6, H⟩ := H;replace H : ((Pr32c.f k a8 a7).bind fun a4 => (some a4)) = some r := H;have A6 := Aside0.mk d6;clear d6;replace H := Option.bind_eq_some_iff.mp H;obtain ⟨a4, d7, H⟩ := H;replace H : (some a4) = some r := H;have A7 := Aside0.mk d7;clear d7;obtain rfl := Option.some.inj H;go_enter Try.func113, Try.ntmps113
 try go_wp2_with (first | ((with_reducible refine gate_dst (N := 4) rfl ?_); refine box_event ?hg (N := 4) ?hd (cs := #[.int .i64 a0_0, .slice A0_1 l0_1.length c0_1, .slice A0_2 l0_2.length c0_2]) (t := 25) ?hr ?_; (case hd => rfl); (case hg => rfl); (case hr => first | (go_simp; done) | (go_simp; rfl)); intro a9 hg w8 hbox hb; have a6 := Aside0.mk (below_step (wz HB.out) hb); have a5 := Aside0.mk (hbox); have b0 := Aside0.mk ((by rw [hg]; exact (below_size (wz HB.out)) : w.heap.size ≤ a9)); have b3 := Aside0.mk ((by rw [hg]; exact (below_size (wz HB.out)) : w.heap.size ≤ a9)); clear HB; have HB := a6; have a0 := a5; have e6 := b0; have e7 := b3; clear a6 a5 b0 b3 hb hbox hg))
 have a6 := Aside0.mk (blk_drew a0.out);have a5 := Aside0.mk (below_drew1 HB.out);clear a0 HB;have a0 := a6;have HB := a5;clear a6 a5;refine start_ (n := 10) (S := fun w' => w'.cell? ⟨a9, 0, none⟩ = some (.int .i64 a0_0) ∧ w'.cell? ⟨a9, 1, none⟩ = some (.slice A0_1 l0_1.length c0_1) ∧ w'.cell? ⟨a9, 2, none⟩ = some (.slice A0_2 l0_2.length c0_2)) (ds := []) (bqz 10 0) (by kernel_rfl) rfl rfl ⟨bcz a0 0 rfl, bcz a0 1 rfl, bcz a0 2 rfl⟩ (fun hHeld => ?_); refine with_tabW Pr32b.tab1 Pr32b.bits1 (fun HT_ HW_ => ?_)
 generalize w8.drew = w9 at a0 HB hHeld ⊢;refine pqz 1 (some 10) (bqz 10 2) rfl rfl (any_of HT_.out (by kernel_rfl)) ?_ ?_ (fun _ _ _ h => h) (by rfl) ?_ ?_ ?_;rotate_left 2;intro w';go_simp;(with_reducible rfl);simp only [Act.put, qz1, qz2, qz3, i64_w, i32_w];rfl
 refine pqz 2 (some 11) (bqz 10 6) rfl rfl (any_of HT_.out (by kernel_rfl)) ?_ ?_ (fun _ _ _ h => h) (by rfl) ?_ ?_ ?_;rotate_left 2;intro w';go_simp;(with_reducible rfl);simp only [Act.put, qz1, qz2, qz3, i64_w, i32_w];rfl
 refine pqz 5 (some 14) (bqz 10 38) rfl rfl (any_of HT_.out (by kernel_rfl)) ?_ ?_ (fun _ _ _ h => h) (by rfl) ?_ ?_ ?_;rotate_left 2;intro w';go_simp;(with_reducible rfl);simp only [Act.put, qz1, qz2, qz3, i64_w, i32_w];rfl
 refine pqz 6 (some 15) (bqz 10 102) rfl rfl (any_of HT_.out (by kernel_rfl)) ?_ ?_ (fun _ _ _ h => h) (by rfl) ?_ ?_ ?_;rotate_left 2;intro w';go_simp;(with_reducible rfl);simp only [Act.put, qz1, qz2, qz3, i64_w, i32_w];rfl
 refine tqz 0 (some 9) (bqz 10 103) rfl rfl (take_ofW HT_.out HW_.out (by kernel_rfl)) ?_ ?_ (fun _ _ _ h => h) (by rfl) ?_ hHeld ?_ ?_;rotate_left 2;rintro w' ⟨s0, s1, s2⟩;go_simp;(with_reducible rfl);simp only [Act.put, qz1, qz2, qz3, i64_w, i32_w];rfl
 refine tqz 4 (some 13) (bqz 10 119) rfl rfl (take_ofW HT_.out HW_.out (by kernel_rfl)) ?_ ?_ (fun _ _ _ h => h) (by rfl) ?_ hHeld ?_ ?_;rotate_left 2;rintro w' ⟨s0, s1, s2⟩;go_simp;(with_reducible rfl);simp only [Act.put, qz1, qz2, qz3, i64_w, i32_w];rfl
 refine one_ (i := 3) (N := some 12) (bqz 10 127) rfl rfl (one_of HT_.out (by kernel_rfl)) (by decide) (fun K hK => ?_);refine goes_ Try.func146 (by kernel_rfl) rfl #[.agg #[.int .i64 a0_0, .slice A0_1 l0_1.length c0_1, .slice A0_2 l0_2.length c0_2], .slice A1 l1.length c1, .int .i64 a2] (by rfl) rfl rfl (by (try simp only [List.map_toArray, List.map_cons, List.map_nil]); first | done | rfl | (simp only [List.length_drop, List.length_take]; rfl)) ?_;with_reducible refine (Pr32e.calls k a0_0 _ _ l0_1 _ _ l0_2 _ _ l1 a2 a8 _ ?b4 ?b6 ?b7 ?b5 ?d4 ?d5 A5.out).mono ?_
 (case b4 => exact cz d0.out HB.out)
 (case b6 => exact b9.out)
 (case b7 => exact cz b8.out HB.out)
 (case b5 => exact d1.out)
 (case d4 => exact cz d8.out HB.out)
 (case d5 => exact d9.out)
 rintro e f2 ⟨e8, rfl, b1, hb⟩;refine ⟨_, rfl, ?_⟩;have a6 := Aside0.mk (Kd.R_lower b1 (below_size (wz HB.out)));have a5 := Aside0.mk (blk_below (bz a0.out) hb);have b0 := Aside0.mk (below_step (wz HB.out) hb);clear a0 HB;have a1 := a6;have a0 := a5;have HB := b0;clear a6 a5 b0
 (try clear hb)
 (try clear e5)
 (try clear hk)
 (try clear hi)
 (try clear b1)
 refine hK.out _ _ ⟨bcz a0 0 rfl, bcz a0 1 rfl, bcz a0 2 rfl⟩ (fun hHeld => ?_);clear hK K;refine norm_ (a' := ?_) ?_ ?_;rotate_left
 ·show Act.put _ (some 12) _ = _;simp only [Act.put, qz1, qz2, qz3, i64_w, i32_w];rfl
 refine one_ (i := 7) (N := some 16) (bqz 10 255) rfl rfl (one_of HT_.out (by kernel_rfl)) (by decide) (fun K hK => ?_);refine goes_ Try.func146 (by kernel_rfl) rfl #[.agg #[.int .i64 a0_0, .slice A0_1 l0_1.length c0_1, .slice A0_2 l0_2.length c0_2], .slice A1 l1.length c1, .int .i64 a3] (by rfl) rfl rfl (by (try simp only [List.map_toArray, List.map_cons, List.map_nil]); first | done | rfl | (simp only [List.length_drop, List.length_take]; rfl)) ?_;with_reducible refine (Pr32e.calls k a0_0 _ _ l0_1 _ _ l0_2 _ _ l1 a3 a7 _ ?b4 ?b6 ?b7 ?b5 ?d4 ?d5 A6.out).mono ?_
 (case b4 => exact cz d0.out HB.out)
 (case b6 => exact b9.out)
 (case b7 => exact cz b8.out HB.out)
 (case b5 => exact d1.out)
 (case d4 => exact cz d8.out HB.out)
 (case d5 => exact d9.out)
 rintro e f1 ⟨e9, rfl, b1, hb⟩;refine ⟨_, rfl, ?_⟩;have a6 := Aside0.mk (Kd.R_elder' (rz a1.out) (Kd.R_base b1) hb);have a5 := Aside0.mk (Kd.R_lower (Kd.R_new' b1 (Kd.R_lt (rz a1.out))) (below_size (wz HB.out)));have b0 := Aside0.mk (blk_below (bz a0.out) hb);have b3 := Aside0.mk (below_step (wz HB.out) hb);clear a1 a0 HB;have a1 := a6;have b2 := a5;have a0 := b0;have HB := b3;clear a6 a5 b0 b3
 (try clear hb)
 (try clear e5)
 (try clear hk)
 (try clear hi)
 (try clear b1)
 obtain ⟨e2, e3, d2⟩ := Kd.R_slice a1.out
 (first | subst d2 | (injection d2 with f1_ f2_ f3_; have f4_ := f1_.symm; have f5_ := f3_.symm; clear f1_ f2_ f3_; subst f4_; subst f5_))
 obtain ⟨e4, e1, d3⟩ := Kd.R_slice b2.out
 (first | subst d3 | (injection d3 with f1_ f2_ f3_; have f4_ := f1_.symm; have f5_ := f3_.symm; clear f1_ f2_ f3_; subst f4_; subst f5_))
 refine hK.out _ _ ⟨bcz a0 0 rfl, bcz a0 1 rfl, bcz a0 2 rfl⟩ (fun hHeld => ?_);clear hK K;refine norm_ (a' := ?_) ?_ ?_;rotate_left
 ·show Act.put _ (some 16) _ = _;simp only [Act.put, qz1, qz2, qz3, i64_w, i32_w];rfl
 refine one_ (i := 8) (N := some 17) (bqz 10 511) rfl rfl (one_of HT_.out (by kernel_rfl)) (by decide) (fun K hK => ?_);refine goes_ Try.func145 (by kernel_rfl) rfl #[.slice e2 a8.length e3, .slice e4 a7.length e1] (by rfl) rfl rfl (by (try simp only [List.map_toArray, List.map_cons, List.map_nil]); first | done | rfl | (simp only [List.length_drop, List.length_take]; rfl)) ?_;with_reducible refine (Pr32c.calls k _ _ a8 _ _ a7 a4 _ ?b4 ?b6 ?b7 ?b5 A7.out).mono ?_
 (case b4 => repeat (first | exact (Kd.R_reads' a1.out).2.2 | (with_reducible refine Kd.C_alloc ?_ _) | (with_reducible refine Kd.C_drewN ?_ _) | (with_reducible refine Kd.C_drew ?_)))
 (case b6 => exact (Kd.R_reads' a1.out).2.1)
 (case b7 => repeat (first | exact (Kd.R_reads' b2.out).2.2 | (with_reducible refine Kd.C_alloc ?_ _) | (with_reducible refine Kd.C_drewN ?_ _) | (with_reducible refine Kd.C_drew ?_)))
 (case b5 => exact (Kd.R_reads' b2.out).2.1)
 rintro e w' ⟨rfl, ⟨nd, rfl⟩⟩;refine ⟨_, rfl, ?_⟩;refine hK.out _ _ ⟨bcz a0 0 rfl, bcz a0 1 rfl, bcz a0 2 rfl⟩ (fun hHeld => ?_);clear hK K;refine norm_ (a' := ?_) ?_ ?_;rotate_left
 ·show Act.put _ (some 17) _ = _;simp only [Act.put, qz1, qz2, qz3, i64_w, i32_w];rfl
 refine pqz 9 (some 8) (bqz 10 1023) rfl rfl (any_of HT_.out (by kernel_rfl)) ?_ ?_ (fun _ _ _ h => h) (by rfl) ?_ ?_ ?_;rotate_left 2;intro w';go_simp;(with_reducible rfl);simp only [Act.put, qz1, qz2, qz3, i64_w, i32_w];rfl
 refine done_ (done_of HT_.out (by kernel_rfl)) ?_;try go_wp2
 go_ret
 exact ⟨by first | rfl | (simp [errW_none, errW_some] <;> rfl) | (simp [*, errW_none, errW_some] <;> rfl), wz HB.out⟩
mutual
def Pr32a.l0 : Nat → List Int → Int → Int → List ByteArray → List (S80) → Option (Bool)
 | 0, _, _, _, _, _ => none
 | k + 1, x1, x5, x373000, x373001, x373002 => if x5 < (x1.length : Int) then (Pr32a.l1 k x1 x5 0 x373000 x373001 x373002) else (some true)
def Pr32a.l1 : Nat → List Int → Int → Int → Int → List ByteArray → List (S80) → Option (Bool)
 | 0, _, _, _, _, _, _ => none
 | k + 1, x1, x5, x6, x373000, x373001, x373002 => if x6 < x5 then (if 0 ≤ x5 then (if x5 < (x1.length : Int) then (if 0 ≤ x6 then (if x6 < (x1.length : Int) then (if (rd x1 x5) = (rd x1 x6) then ((Pr32b.f k x373000 x373001 x373002 x1 x5 x6).bind fun t378 => (if t378 = true then (Pr32a.l1 k x1 x5 (wrap64 (x6 + 1)) x373000 x373001 x373002) else (some false))) else (Pr32a.l1 k x1 x5 (wrap64 (x6 + 1)) x373000 x373001 x373002)) else (none)) else (none)) else (none)) else (none)) else (Pr32a.l0 k x1 (wrap64 (x5 + 1)) x373000 x373001 x373002)
end
def Pr32a.f (k : Nat) (a0_0 : Int) (l0_1 : List ByteArray) (l0_2 : List (S80)) (l1 : List Int) : Option (Bool) := (Pr31b.f k l1).bind fun t373 => (Pr32a.l0 k t373 0 a0_0 l0_1 l0_2)
theorem Pr32a.mono_l : ∀ k, (∀ y0 y1 y2 y3 y4, LeO (Pr32a.l0 k y0 y1 y2 y3 y4) (Pr32a.l0 (k + 1) y0 y1 y2 y3 y4)) ∧ (∀ y0 y1 y2 y3 y4 y5, LeO (Pr32a.l1 k y0 y1 y2 y3 y4 y5) (Pr32a.l1 (k + 1) y0 y1 y2 y3 y4 y5))
 | 0 => ⟨fun _ _ _ _ _ r h => by simp [Pr32a.l0] at h, fun _ _ _ _ _ _ r h => by simp [Pr32a.l1] at h⟩
 | k + 1 => by
  obtain ⟨ih0, ih1⟩ := Pr32a.mono_l k
  refine ⟨?_, ?_⟩
  ·intro y0 y1 y2 y3 y4
   unfold Pr32a.l0
   repeat' first
   | (with_reducible exact ih0 _ _ _ _ _)
   | (with_reducible exact ih1 _ _ _ _ _ _)
   | (with_reducible exact Pr31b.mono _ _)
   | (with_reducible exact Pr32b.mono _ _ _ _ _ _ _)
   | (with_reducible exact LeO.refl _)
   | (with_reducible exact LeO.none _)
   | (with_reducible refine LeO.ite ?_ ?_)
   | (with_reducible refine LeO.bind ?_ (fun _ => ?_))
   | exact ih0 _ _ _ _ _
   | exact ih1 _ _ _ _ _ _
   | exact Pr31b.mono _ _
   | exact Pr32b.mono _ _ _ _ _ _ _
   | exact LeO.none _
   | refine LeO.ite ?_ ?_
   | refine LeO.bind ?_ (fun _ => ?_)
  ·intro y0 y1 y2 y3 y4 y5
   unfold Pr32a.l1
   repeat' first
   | (with_reducible exact ih0 _ _ _ _ _)
   | (with_reducible exact ih1 _ _ _ _ _ _)
   | (with_reducible exact Pr31b.mono _ _)
   | (with_reducible exact Pr32b.mono _ _ _ _ _ _ _)
   | (with_reducible exact LeO.refl _)
   | (with_reducible exact LeO.none _)
   | (with_reducible refine LeO.ite ?_ ?_)
   | (with_reducible refine LeO.bind ?_ (fun _ => ?_))
   | exact ih0 _ _ _ _ _
   | exact ih1 _ _ _ _ _ _
   | exact Pr31b.mono _ _
   | exact Pr32b.mono _ _ _ _ _ _ _
   | exact LeO.none _
   | refine LeO.ite ?_ ?_
   | refine LeO.bind ?_ (fun _ => ?_)
theorem Pr32a.mono : ∀ a0 a1 a2 a3 k, LeO (Pr32a.f k a0 a1 a2 a3) (Pr32a.f (k + 1) a0 a1 a2 a3) := by
 intro a0 a1 a2 a3 k
 obtain ⟨ih0, ih1⟩ := Pr32a.mono_l k
 unfold Pr32a.f
 repeat' first
   | (with_reducible exact ih0 _ _ _ _ _)
   | (with_reducible exact ih1 _ _ _ _ _ _)
   | (with_reducible exact Pr31b.mono _ _)
   | (with_reducible exact Pr32b.mono _ _ _ _ _ _ _)
   | (with_reducible exact LeO.refl _)
   | (with_reducible exact LeO.none _)
   | (with_reducible refine LeO.ite ?_ ?_)
   | (with_reducible refine LeO.bind ?_ (fun _ => ?_))
   | exact ih0 _ _ _ _ _
   | exact ih1 _ _ _ _ _ _
   | exact Pr31b.mono _ _
   | exact Pr32b.mono _ _ _ _ _ _ _
   | exact LeO.none _
   | refine LeO.ite ?_ ?_
   | refine LeO.bind ?_ (fun _ => ?_)
def Pr32a.T8 : Bool × List (List Nat × List Nat) := (true, [([], []), ([], []), ([0, 1], [0, 1]), ([2], [2]), ([], []), ([], []), ([4, 5], [4, 5]), ([6], [6]), ([3, 7], [3, 7]), ([8], [8]), ([9], [9]), ([9], [9]), ([9], [9]), ([9], [9]), ([10, 11, 12, 13, 9, 9], [9, 10, 11, 12, 13]), ([14, 9], [9, 14]), ([9, 15], [9, 15])])
def Pr32a.B8 : List Nat := [0, 0, 3, 7, 0, 0, 48, 112, 255, 511, 1023, 1023, 1023, 1023, 16383, 32767, 65535]
theorem Pr32a.tab8 : rtab .any (opsOf Try.f62 8) = Pr32a.T8 := by kernel_rfl
theorem Pr32a.bits8 : waitsOk Pr32a.T8.2 Pr32a.B8 = true := by kernel_rfl
set_option maxHeartbeats 8000000 in
set_option maxRecDepth 100000 in
theorem Pr32a.calls (k : Nat) (a0_0 : Int) (A0_1 : Option Addr) (c0_1 : Nat) (l0_1 : List ByteArray) (A0_2 : Option Addr) (c0_2 : Nat) (l0_2 : List (S80)) (A1 : Option Addr) (c1 : Nat) (l1 : List Int) (r : Bool) (w : World) (hr0_1 : Kd.C Kd.string w A0_1 l0_1.length l0_1) (hc0_1 : l0_1.length ≤ c0_1) (hr0_2 : Kd.C k80 w A0_2 l0_2.length l0_2) (hc0_2 : l0_2.length ≤ c0_2) (hr1 : Kd.C (Kd.int .i64) w A1 l1.length l1) (hc1 : l1.length ≤ c1) (h : Pr32a.f k a0_0 l0_1 l0_2 l1 = some r) :
  Calls Try.prog 62 #[.agg #[.int .i64 a0_0, .slice A0_1 l0_1.length c0_1, .slice A0_2 l0_2.length c0_2], .slice A1 l1.length c1] w fun e w' => e = .returned (.bool r) ∧ Below w.heap.size w w' := by
 have g4 := Try.underlying25;have d8 := Aside0.mk hr0_1;have d6 := Aside0.mk hc0_1;clear hr0_1 hc0_1;have d5 := Aside0.mk hr0_2;have e0 := Aside0.mk hc0_2;clear hr0_2 hc0_2;have f6 := Aside0.mk hr1;have f7 := Aside0.mk hc1;clear hr1 hc1;have HB := Aside0.mk (Below.refl w.heap.size w);have H : ((Pr31b.f k l1).bind fun a1 => (Pr32a.l0 k a1 0 a0_0 l0_1 l0_2)) = some r := h;clear h;replace H := Option.bind_eq_some_iff.mp H;obtain ⟨a1, e9, H⟩ := H;replace H : (Pr32a.l0 k a1 0 a0_0 l0_1 l0_2) = some r := H;have A3 := Aside0.mk e9;clear e9;have H' := Aside0.mk H;clear H;go_enter Try.func62, Try.ntmps62
 go_wp2_with (first | ((with_reducible refine gate_dst (N := 2) rfl ?_); refine box_event ?hg (N := 2) ?hd (cs := #[.int .i64 a0_0, .slice A0_1 l0_1.length c0_1, .slice A0_2 l0_2.length c0_2]) (t := 25) ?hr ?_; (case hd => rfl); (case hg => rfl); (case hr => first | (go_simp; done) | (go_simp; rfl)); intro b1 hg w4 hbox hb; have a8 := Aside0.mk (below_step (wz HB.out) hb); have a7 := Aside0.mk (hbox); have b0 := Aside0.mk ((by rw [hg]; exact (below_size (wz HB.out)) : w.heap.size ≤ b1)); have f3 := Aside0.mk ((by rw [hg]; exact (below_size (wz HB.out)) : w.heap.size ≤ b1)); clear HB; have HB := a8; have a0 := a7; have g0 := b0; have g1 := f3; clear a8 a7 b0 f3; clear hb hbox hg) | ((with_reducible refine gate_callee (f := 64) rfl ?_); refine goesL_ (some 8) rfl rfl Try.func64 (by kernel_rfl) rfl #[.slice A1 l1.length c1] rfl (by (try simp only [List.map_toArray, List.map_cons, List.map_nil]); first | done | rfl | (simp only [List.length_drop, List.length_take]; rfl)) ?_; (with_reducible refine (Pr31b.calls k _ _ l1 a1 _ ?d2 ?d3 A3.out).mono ?_); (case d2 => exact cz f6.out HB.out); (case d3 => exact f7.out); rintro e w5 ⟨f5, rfl, f0, hb⟩; refine ⟨_, rfl, ?_⟩; have a8 := Aside0.mk (Kd.R_lower f0 (below_size (wz HB.out))); have a7 := Aside0.mk (blk_below (bz a0.out) hb); have b0 := Aside0.mk (below_step (wz HB.out) hb); clear a0; clear HB; have e4 := a8; have a0 := a7; have HB := b0; clear a8 a7 b0; (try clear hb); (try clear f1); (try clear hk); (try clear hi); (try clear f0)))
 go_loopg [5] k (fun kq v5 w' => ∃ (a2 : Int), v5 = .int .i64 a2 ∧ Aside0 (Pr32a.l0 kq a1 a2 a0_0 l0_1 l0_2 = some r) ∧ Aside0 (kq ≤ k) ∧ Aside0 (Kd.R (Kd.int .i64) 3 w' w.heap.size (fun _ => True) f5 a1) ∧ Aside0 (w'.heap[b1]? = some (.cells #[.int .i64 a0_0, (.slice A0_1 l0_1.length c0_1), (.slice A0_2 l0_2.length c0_2)] 25 (0, 0))) ∧ Aside0 (Below w.heap.size w w'))
 case atStart => exact ⟨(0), (by first | rfl | (simp; done) | (simp [*]; done)), H', ⟨Nat.le_refl _⟩, ⟨rz e4.out⟩, ⟨bz a0.out⟩, ⟨wz HB.out⟩⟩
 case round =>
  clear H';(try clear c1);obtain ⟨a2, rfl, HA, d1, a4, a0, HB⟩ := hrel
  cases gk with
  | zero => exact absurd HA.out (by simp [Pr32a.l0])
  | succ k1 =>
   have H := HA.out;clear HA;simp only [Pr32a.l0] at H;by_cases c6 : a2 < (a1.length : Int)
   ·rw [if_pos c6] at H;have c6b0 : decide (a2 < (a1.length : Int)) = true := decide_eq_true c6;clear c6;have H' := Aside0.mk H;clear H;obtain ⟨f9, e3, f8⟩ := Kd.R_slice a4.out;subst f8;go_wp2
    go_loopg [6] k1 (fun kq v6 w' => ∃ (a3 : Int), v6 = .int .i64 a3 ∧ Aside0 (Pr32a.l1 kq a1 a2 a3 a0_0 l0_1 l0_2 = some r) ∧ Aside0 (kq ≤ k1) ∧ Aside0 (Kd.R (Kd.int .i64) 3 w' w.heap.size (fun _ => True) (.slice f9 a1.length e3) a1) ∧ Aside0 (w'.heap[b1]? = some (.cells #[.int .i64 a0_0, (.slice A0_1 l0_1.length c0_1), (.slice A0_2 l0_2.length c0_2)] 25 (0, 0))) ∧ Aside0 (Below w.heap.size w w'))
    case atStart => exact ⟨(0), (by first | rfl | (simp; done) | (simp [*]; done)), H', ⟨Nat.le_refl _⟩, ⟨rz a4.out⟩, ⟨bz a0.out⟩, ⟨wz HB.out⟩⟩
    case round =>
     clear H';(try clear c1);(try clear c6);(try clear c6b0);obtain ⟨a3, rfl, HA, d0, a4, a0, HB⟩ := hrel
     cases gk with
     | zero => exact absurd HA.out (by simp [Pr32a.l1])
     | succ k2 =>
      have H := HA.out;clear HA;simp only [Pr32a.l1] at H;by_cases c8 : a3 < a2
      ·rw [if_pos c8] at H;have c8b0 : decide (a3 < a2) = true := decide_eq_true c8;clear c8;by_cases c9 : 0 ≤ a2
       ·rw [if_pos c9] at H;have c9b0 : decide (0 ≤ a2) = true := decide_eq_true c9;clear c9;by_cases c10 : a2 < (a1.length : Int)
        ·rw [if_pos c10] at H;have c10b0 : decide (a2 < (a1.length : Int)) = true := decide_eq_true c10;clear c10;by_cases d4 : 0 ≤ a3
         ·rw [if_pos d4] at H;have c11b0 : decide (0 ≤ a3) = true := decide_eq_true d4;clear d4;by_cases d7 : a3 < (a1.length : Int)
          ·rw [if_pos d7] at H;have c12b0 : decide (a3 < (a1.length : Int)) = true := decide_eq_true d7;clear d7;by_cases b9 : (rd a1 a2) = (rd a1 a3)
           ·rw [if_pos b9] at H;have c13b0 : ((rd a1 a2) == (rd a1 a3)) = true := beq_iff_eq.mpr b9;have c13b1 : ((rd a1 a2) != (rd a1 a3)) = false := bne_eq_false_iff_eq.mpr b9;clear b9;replace H := Option.bind_eq_some_iff.mp H;obtain ⟨e1, e2, H⟩ := H;replace H : (if e1 = true then (Pr32a.l1 k2 a1 a2 (wrap64 (a3 + 1)) a0_0 l0_1 l0_2) else (some false)) = some r := H;have f2 := Aside0.mk e2;clear e2;by_cases d9 : e1 = true
            ·subst d9;have H1 : (Pr32a.l1 k2 a1 a2 (wrap64 (a3 + 1)) a0_0 l0_1 l0_2) = some r := by rw [if_pos rfl] at H; exact H
             clear H;have H := H1;clear H1;have H' := Aside0.mk H;clear H;try go_wp2
             have a8 := Aside0.mk (Kd.R_drew a4.out);have a7 := Aside0.mk (blk_drew a0.out);have b0 := Aside0.mk (below_drew1 HB.out);clear a4 a0 HB;have a4 := a8;have a0 := a7;have HB := b0;clear a8 a7 b0;have b2 : 0 ≤ (a2 : Int) := of_decide_eq_true (by first | (with_reducible assumption) | assumption);have b5 : a2 < (a1.length : Int) := of_decide_eq_true (by first | (with_reducible assumption) | assumption);obtain ⟨a5, b8, a9⟩ := Kd.at_int (Kd.R_reads' a4.out).2.2 a2 b2 b5
             cases b8;replace b2 := eq_true b2;replace b5 := eq_true b5;have b3 : 0 ≤ (a3 : Int) := of_decide_eq_true (by first | (with_reducible assumption) | assumption);have b4 : a3 < (a1.length : Int) := of_decide_eq_true (by first | (with_reducible assumption) | assumption);obtain ⟨b6, b7, a6⟩ := Kd.at_int (Kd.R_reads' a4.out).2.2 a3 b3 b4;obtain rfl : a5 = b6 := (by injection b7)
             replace b3 := eq_true b3;replace b4 := eq_true b4;refine start_ (n := 17) (S := fun w' => w'.cell? ⟨b1, 0, none⟩ = some (.int .i64 a0_0) ∧ w'.cell? ⟨b1, 1, none⟩ = some (.slice A0_1 l0_1.length c0_1) ∧ w'.cell? ⟨b1, 2, none⟩ = some (.slice A0_2 l0_2.length c0_2) ∧ w'.cell? (a5.add (a2).toNat) = some (.int .i64 (rd a1 a2)) ∧ w'.cell? (a5.add (a3).toNat) = some (.int .i64 (rd a1 a3))) (ds := []) (bqz 17 0) (by kernel_rfl) rfl rfl ⟨bcz a0 0 rfl, bcz a0 1 rfl, bcz a0 2 rfl, a9, a6⟩ (fun hHeld => ?_); refine with_tabW Pr32a.tab8 Pr32a.bits8 (fun HT_ HW_ => ?_)
             generalize wr.drew = w16 at a4 a0 HB a9 a6 hHeld ⊢;refine pqz 0 (some 20) (bqz 17 1) rfl rfl (any_of HT_.out (by kernel_rfl)) ?_ ?_ (fun _ _ _ h => h) (by rfl) ?_ ?_ ?_;rotate_left 2;intro w';go_simp;(with_reducible rfl);simp only [Act.put, qz1, qz2, qz3, i64_w, i32_w];rfl
             refine pqz 1 (some 21) (bqz 17 3) rfl rfl (any_of HT_.out (by kernel_rfl)) ?_ ?_ (fun _ _ _ h => h) (by rfl) ?_ ?_ ?_;rotate_left 2;intro w';go_simp;(with_reducible rfl);simp only [Act.put, qz1, qz2, qz3, i64_w, i32_w];rfl
             refine pqz 2 (some 22) (bqz 17 7) rfl rfl (any_of HT_.out (by kernel_rfl)) ?_ ?_ (fun _ _ _ h => h) (by rfl) ?_ ?_ ?_;rotate_left 2;intro w';go_simp;(with_reducible rfl);simp only [Act.put, qz1, qz2, qz3, i64_w, i32_w];rfl
             refine pqz 4 (some 24) (bqz 17 23) rfl rfl (any_of HT_.out (by kernel_rfl)) ?_ ?_ (fun _ _ _ h => h) (by rfl) ?_ ?_ ?_;rotate_left 2;intro w';go_simp;(with_reducible rfl);simp only [Act.put, qz1, qz2, qz3, i64_w, i32_w];rfl
             refine pqz 5 (some 25) (bqz 17 55) rfl rfl (any_of HT_.out (by kernel_rfl)) ?_ ?_ (fun _ _ _ h => h) (by rfl) ?_ ?_ ?_;rotate_left 2;intro w';go_simp;(with_reducible rfl);simp only [Act.put, qz1, qz2, qz3, i64_w, i32_w];rfl
             refine pqz 6 (some 26) (bqz 17 119) rfl rfl (any_of HT_.out (by kernel_rfl)) ?_ ?_ (fun _ _ _ h => h) (by rfl) ?_ ?_ ?_;rotate_left 2;intro w';go_simp;(with_reducible rfl);simp only [Act.put, qz1, qz2, qz3, i64_w, i32_w];rfl
             refine tqz 3 (some 23) (bqz 17 127) rfl rfl (take_ofW HT_.out HW_.out (by kernel_rfl)) ?_ ?_ (fun _ _ _ h => h) (by rfl) ?_ hHeld ?_ ?_;rotate_left 2;rintro w' ⟨s0, s1, s2, s3, s4⟩;go_simp;(with_reducible rfl);simp only [Act.put, qz1, qz2, qz3, i64_w, i32_w];rfl
             refine tqz 7 (some 27) (bqz 17 255) rfl rfl (take_ofW HT_.out HW_.out (by kernel_rfl)) ?_ ?_ (fun _ _ _ h => h) (by rfl) ?_ hHeld ?_ ?_;rotate_left 2;rintro w' ⟨s0, s1, s2, s3, s4⟩;go_simp;(with_reducible rfl);simp only [Act.put, qz1, qz2, qz3, i64_w, i32_w];rfl
             refine pqz 8 (some 28) (bqz 17 511) rfl rfl (any_of HT_.out (by kernel_rfl)) ?_ ?_ (fun _ _ _ h => h) (by rfl) ?_ ?_ ?_;rotate_left 2;intro w';go_simp;(with_reducible rfl);simp only [Act.put, qz1, qz2, qz3, i64_w, i32_w];rfl
             refine pqz 9 (some 29) (bqz 17 1023) rfl rfl (any_of HT_.out (by kernel_rfl)) ?_ ?_ (fun _ _ _ h => h) (by rfl) ?_ ?_ ?_;rotate_left 2;intro w';go_simp;(with_reducible rfl);simp only [Act.put, qz1, qz2, qz3, i64_w, i32_w];rfl
             refine pqz 11 (some 31) (bqz 17 3071) rfl rfl (any_of HT_.out (by kernel_rfl)) ?_ ?_ (fun _ _ _ h => h) (by rfl) ?_ ?_ ?_;rotate_left 2;intro w';go_simp;(with_reducible rfl);simp only [Act.put, qz1, qz2, qz3, i64_w, i32_w];rfl
             refine pqz 12 (some 32) (bqz 17 7167) rfl rfl (any_of HT_.out (by kernel_rfl)) ?_ ?_ (fun _ _ _ h => h) (by rfl) ?_ ?_ ?_;rotate_left 2;intro w';go_simp;(with_reducible rfl);simp only [Act.put, qz1, qz2, qz3, i64_w, i32_w];rfl
             refine pqz 13 (some 33) (bqz 17 15359) rfl rfl (any_of HT_.out (by kernel_rfl)) ?_ ?_ (fun _ _ _ h => h) (by rfl) ?_ ?_ ?_;rotate_left 2;intro w';go_simp;(with_reducible rfl);simp only [Act.put, qz1, qz2, qz3, i64_w, i32_w];rfl
             refine tqz 10 (some 30) (bqz 17 16383) rfl rfl (take_ofW HT_.out HW_.out (by kernel_rfl)) ?_ ?_ (fun _ _ _ h => h) (by rfl) ?_ hHeld ?_ ?_;rotate_left 2;rintro w' ⟨s0, s1, s2, s3, s4⟩;go_simp;(with_reducible rfl);simp only [Act.put, qz1, qz2, qz3, i64_w, i32_w];rfl
             refine one_ (i := 14) (N := some 34) (bqz 17 32767) rfl rfl (one_of HT_.out (by kernel_rfl)) (by decide) (fun K hK => ?_);refine goes_ Try.func113 (by kernel_rfl) rfl #[.agg #[.int .i64 a0_0, .slice A0_1 l0_1.length c0_1, .slice A0_2 l0_2.length c0_2], .slice (some a5) a1.length e3, .int .i64 a2, .int .i64 a3] (by rfl) rfl rfl (by (try simp only [List.map_toArray, List.map_cons, List.map_nil]); first | done | rfl | (simp only [List.length_drop, List.length_take]; rfl)) ?_;with_reducible refine (Pr32b.calls k2 a0_0 _ _ l0_1 _ _ l0_2 _ _ a1 a2 a3 true _ ?d2 ?d3 ?e8 ?e6 ?e5 ?e7 f2.out).mono ?_
             (case d2 => exact cz d8.out HB.out)
             (case d3 => exact d6.out)
             (case e8 => exact cz d5.out HB.out)
             (case e6 => exact e0.out)
             (case e5 => repeat (first | exact (Kd.R_reads' a4.out).2.2 | (with_reducible refine Kd.C_alloc ?_ _) | (with_reducible refine Kd.C_drewN ?_ _) | (with_reducible refine Kd.C_drew ?_)))
             (case e7 => exact (Kd.R_reads' a4.out).2.1)
             rintro e g5 ⟨rfl, hb⟩;have HS3_ := (hb.cell (World.block_lt_of_cell? _ _ (hHeld.2.2.2.1))).trans (hHeld.2.2.2.1);have HS4_ := (hb.cell (World.block_lt_of_cell? _ _ (hHeld.2.2.2.2))).trans (hHeld.2.2.2.2);refine ⟨_, rfl, ?_⟩;have a8 := Aside0.mk (Kd.R_below (rz a4.out) hb);have a7 := Aside0.mk (blk_below (bz a0.out) hb);have b0 := Aside0.mk (below_step (wz HB.out) hb);clear a4 a0 HB;have a4 := a8;have a0 := a7;have HB := b0;clear a8 a7 b0
             (try clear hb)
             (try clear f1)
             (try clear hk)
             (try clear hi)
             refine hK.out _ _ ⟨bcz a0 0 rfl, bcz a0 1 rfl, bcz a0 2 rfl, HS3_, HS4_⟩ (fun hHeld => ?_);clear hK K;refine norm_ (a' := ?_) ?_ ?_;rotate_left
             ·show Act.put _ (some 34) _ = _;simp only [Act.put, qz1, qz2, qz3, i64_w, i32_w];rfl
             refine pqz 15 (some 35) (bqz 17 65535) rfl rfl (any_of HT_.out (by kernel_rfl)) ?_ ?_ (fun _ _ _ h => h) (by rfl) ?_ ?_ ?_;rotate_left 2;intro w';go_simp;(with_reducible rfl);simp only [Act.put, qz1, qz2, qz3, i64_w, i32_w];rfl
             refine pqz 16 (some 36) (bqz 17 131071) rfl rfl (any_of HT_.out (by kernel_rfl)) ?_ ?_ (fun _ _ _ h => h) (by rfl) ?_ ?_ ?_;rotate_left 2;intro w';go_simp;(with_reducible rfl);simp only [Act.put, qz1, qz2, qz3, i64_w, i32_w];rfl
             refine done_ (done_of HT_.out (by kernel_rfl)) ?_;try go_wp2
             go_roundg k2
             case measure => have := d1.out; have := d0.out; omega
             case rel => exact ⟨(wrap64 (a3 + 1)), (by first | rfl | (simp; done) | (simp [*]; done)), H', ⟨by have := d1.out; have := d0.out; omega⟩, ⟨rz a4.out⟩, ⟨bz a0.out⟩, ⟨wz HB.out⟩⟩
            ·replace d9 := Bool.eq_false_iff.mpr d9;subst d9;have H1 : (some false) = some r := by rw [if_neg (show ¬ (false = true) by decide)] at H; exact H
             clear H;have H := H1;clear H1;obtain rfl := Option.some.inj H;try go_wp2
             have a8 := Aside0.mk (Kd.R_drew a4.out);have a7 := Aside0.mk (blk_drew a0.out);have b0 := Aside0.mk (below_drew1 HB.out);clear a4 a0 HB;have a4 := a8;have a0 := a7;have HB := b0;clear a8 a7 b0;have b2 : 0 ≤ (a2 : Int) := of_decide_eq_true (by first | (with_reducible assumption) | assumption);have b5 : a2 < (a1.length : Int) := of_decide_eq_true (by first | (with_reducible assumption) | assumption);obtain ⟨a5, b8, a9⟩ := Kd.at_int (Kd.R_reads' a4.out).2.2 a2 b2 b5
             cases b8;replace b2 := eq_true b2;replace b5 := eq_true b5;have b3 : 0 ≤ (a3 : Int) := of_decide_eq_true (by first | (with_reducible assumption) | assumption);have b4 : a3 < (a1.length : Int) := of_decide_eq_true (by first | (with_reducible assumption) | assumption);obtain ⟨b6, b7, a6⟩ := Kd.at_int (Kd.R_reads' a4.out).2.2 a3 b3 b4;obtain rfl : a5 = b6 := (by injection b7)
             replace b3 := eq_true b3;replace b4 := eq_true b4;refine start_ (n := 17) (S := fun w' => w'.cell? ⟨b1, 0, none⟩ = some (.int .i64 a0_0) ∧ w'.cell? ⟨b1, 1, none⟩ = some (.slice A0_1 l0_1.length c0_1) ∧ w'.cell? ⟨b1, 2, none⟩ = some (.slice A0_2 l0_2.length c0_2) ∧ w'.cell? (a5.add (a2).toNat) = some (.int .i64 (rd a1 a2)) ∧ w'.cell? (a5.add (a3).toNat) = some (.int .i64 (rd a1 a3))) (ds := []) (bqz 17 0) (by kernel_rfl) rfl rfl ⟨bcz a0 0 rfl, bcz a0 1 rfl, bcz a0 2 rfl, a9, a6⟩ (fun hHeld => ?_); refine with_tabW Pr32a.tab8 Pr32a.bits8 (fun HT_ HW_ => ?_)
             generalize wr.drew = w18 at a4 a0 HB a9 a6 hHeld ⊢;refine pqz 0 (some 20) (bqz 17 1) rfl rfl (any_of HT_.out (by kernel_rfl)) ?_ ?_ (fun _ _ _ h => h) (by rfl) ?_ ?_ ?_;rotate_left 2;intro w';go_simp;(with_reducible rfl);simp only [Act.put, qz1, qz2, qz3, i64_w, i32_w];rfl
             refine pqz 1 (some 21) (bqz 17 3) rfl rfl (any_of HT_.out (by kernel_rfl)) ?_ ?_ (fun _ _ _ h => h) (by rfl) ?_ ?_ ?_;rotate_left 2;intro w';go_simp;(with_reducible rfl);simp only [Act.put, qz1, qz2, qz3, i64_w, i32_w];rfl
             refine pqz 2 (some 22) (bqz 17 7) rfl rfl (any_of HT_.out (by kernel_rfl)) ?_ ?_ (fun _ _ _ h => h) (by rfl) ?_ ?_ ?_;rotate_left 2;intro w';go_simp;(with_reducible rfl);simp only [Act.put, qz1, qz2, qz3, i64_w, i32_w];rfl
             refine pqz 4 (some 24) (bqz 17 23) rfl rfl (any_of HT_.out (by kernel_rfl)) ?_ ?_ (fun _ _ _ h => h) (by rfl) ?_ ?_ ?_;rotate_left 2;intro w';go_simp;(with_reducible rfl);simp only [Act.put, qz1, qz2, qz3, i64_w, i32_w];rfl
             refine pqz 5 (some 25) (bqz 17 55) rfl rfl (any_of HT_.out (by kernel_rfl)) ?_ ?_ (fun _ _ _ h => h) (by rfl) ?_ ?_ ?_;rotate_left 2;intro w';go_simp;(with_reducible rfl);simp only [Act.put, qz1, qz2, qz3, i64_w, i32_w];rfl
             refine pqz 6 (some 26) (bqz 17 119) rfl rfl (any_of HT_.out (by kernel_rfl)) ?_ ?_ (fun _ _ _ h => h) (by rfl) ?_ ?_ ?_;rotate_left 2;intro w';go_simp;(with_reducible rfl);simp only [Act.put, qz1, qz2, qz3, i64_w, i32_w];rfl
             refine tqz 3 (some 23) (bqz 17 127) rfl rfl (take_ofW HT_.out HW_.out (by kernel_rfl)) ?_ ?_ (fun _ _ _ h => h) (by rfl) ?_ hHeld ?_ ?_;rotate_left 2;rintro w' ⟨s0, s1, s2, s3, s4⟩;go_simp;(with_reducible rfl);simp only [Act.put, qz1, qz2, qz3, i64_w, i32_w];rfl
             refine tqz 7 (some 27) (bqz 17 255) rfl rfl (take_ofW HT_.out HW_.out (by kernel_rfl)) ?_ ?_ (fun _ _ _ h => h) (by rfl) ?_ hHeld ?_ ?_;rotate_left 2;rintro w' ⟨s0, s1, s2, s3, s4⟩;go_simp;(with_reducible rfl);simp only [Act.put, qz1, qz2, qz3, i64_w, i32_w];rfl
             refine pqz 8 (some 28) (bqz 17 511) rfl rfl (any_of HT_.out (by kernel_rfl)) ?_ ?_ (fun _ _ _ h => h) (by rfl) ?_ ?_ ?_;rotate_left 2;intro w';go_simp;(with_reducible rfl);simp only [Act.put, qz1, qz2, qz3, i64_w, i32_w];rfl
             refine pqz 9 (some 29) (bqz 17 1023) rfl rfl (any_of HT_.out (by kernel_rfl)) ?_ ?_ (fun _ _ _ h => h) (by rfl) ?_ ?_ ?_;rotate_left 2;intro w';go_simp;(with_reducible rfl);simp only [Act.put, qz1, qz2, qz3, i64_w, i32_w];rfl
             refine pqz 11 (some 31) (bqz 17 3071) rfl rfl (any_of HT_.out (by kernel_rfl)) ?_ ?_ (fun _ _ _ h => h) (by rfl) ?_ ?_ ?_;rotate_left 2;intro w';go_simp;(with_reducible rfl);simp only [Act.put, qz1, qz2, qz3, i64_w, i32_w];rfl
             refine pqz 12 (some 32) (bqz 17 7167) rfl rfl (any_of HT_.out (by kernel_rfl)) ?_ ?_ (fun _ _ _ h => h) (by rfl) ?_ ?_ ?_;rotate_left 2;intro w';go_simp;(with_reducible rfl);simp only [Act.put, qz1, qz2, qz3, i64_w, i32_w];rfl
             refine pqz 13 (some 33) (bqz 17 15359) rfl rfl (any_of HT_.out (by kernel_rfl)) ?_ ?_ (fun _ _ _ h => h) (by rfl) ?_ ?_ ?_;rotate_left 2;intro w';go_simp;(with_reducible rfl);simp only [Act.put, qz1, qz2, qz3, i64_w, i32_w];rfl
             refine tqz 10 (some 30) (bqz 17 16383) rfl rfl (take_ofW HT_.out HW_.out (by kernel_rfl)) ?_ ?_ (fun _ _ _ h => h) (by rfl) ?_ hHeld ?_ ?_;rotate_left 2;rintro w' ⟨s0, s1, s2, s3, s4⟩;go_simp;(with_reducible rfl);simp only [Act.put, qz1, qz2, qz3, i64_w, i32_w];rfl
             refine one_ (i := 14) (N := some 34) (bqz 17 32767) rfl rfl (one_of HT_.out (by kernel_rfl)) (by decide) (fun K hK => ?_);refine goes_ Try.func113 (by kernel_rfl) rfl #[.agg #[.int .i64 a0_0, .slice A0_1 l0_1.length c0_1, .slice A0_2 l0_2.length c0_2], .slice (some a5) a1.length e3, .int .i64 a2, .int .i64 a3] (by rfl) rfl rfl (by (try simp only [List.map_toArray, List.map_cons, List.map_nil]); first | done | rfl | (simp only [List.length_drop, List.length_take]; rfl)) ?_;with_reducible refine (Pr32b.calls k2 a0_0 _ _ l0_1 _ _ l0_2 _ _ a1 a2 a3 false _ ?d2 ?d3 ?e8 ?e6 ?e5 ?e7 f2.out).mono ?_
             (case d2 => exact cz d8.out HB.out)
             (case d3 => exact d6.out)
             (case e8 => exact cz d5.out HB.out)
             (case e6 => exact e0.out)
             (case e5 => repeat (first | exact (Kd.R_reads' a4.out).2.2 | (with_reducible refine Kd.C_alloc ?_ _) | (with_reducible refine Kd.C_drewN ?_ _) | (with_reducible refine Kd.C_drew ?_)))
             (case e7 => exact (Kd.R_reads' a4.out).2.1)
             rintro e g6 ⟨rfl, hb⟩;have HS3_ := (hb.cell (World.block_lt_of_cell? _ _ (hHeld.2.2.2.1))).trans (hHeld.2.2.2.1);have HS4_ := (hb.cell (World.block_lt_of_cell? _ _ (hHeld.2.2.2.2))).trans (hHeld.2.2.2.2);refine ⟨_, rfl, ?_⟩;have a8 := Aside0.mk (Kd.R_below (rz a4.out) hb);have a7 := Aside0.mk (blk_below (bz a0.out) hb);have b0 := Aside0.mk (below_step (wz HB.out) hb);clear a4 a0 HB;have a4 := a8;have a0 := a7;have HB := b0;clear a8 a7 b0
             (try clear hb)
             (try clear f1)
             (try clear hk)
             (try clear hi)
             refine hK.out _ _ ⟨bcz a0 0 rfl, bcz a0 1 rfl, bcz a0 2 rfl, HS3_, HS4_⟩ (fun hHeld => ?_);clear hK K;refine norm_ (a' := ?_) ?_ ?_;rotate_left
             ·show Act.put _ (some 34) _ = _;simp only [Act.put, qz1, qz2, qz3, i64_w, i32_w];rfl
             refine pqz 15 (some 35) (bqz 17 65535) rfl rfl (any_of HT_.out (by kernel_rfl)) ?_ ?_ (fun _ _ _ h => h) (by rfl) ?_ ?_ ?_;rotate_left 2;intro w';go_simp;(with_reducible rfl);simp only [Act.put, qz1, qz2, qz3, i64_w, i32_w];rfl
             refine pqz 16 (some 36) (bqz 17 131071) rfl rfl (any_of HT_.out (by kernel_rfl)) ?_ ?_ (fun _ _ _ h => h) (by rfl) ?_ ?_ ?_;rotate_left 2;intro w';go_simp;(with_reducible rfl);simp only [Act.put, qz1, qz2, qz3, i64_w, i32_w];rfl
             refine done_ (done_of HT_.out (by kernel_rfl)) ?_;try go_wp2
             go_ret
             exact ⟨by first | rfl | (simp [errW_none, errW_some] <;> rfl) | (simp [*, errW_none, errW_some] <;> rfl), wz HB.out⟩
           ·rw [if_neg b9] at H;have c13b0 : ((rd a1 a2) == (rd a1 a3)) = false := beq_eq_false_iff_ne.mpr b9;have c13b1 : ((rd a1 a2) != (rd a1 a3)) = true := bne_iff_ne.mpr b9;have H' := Aside0.mk H;clear H;try go_wp2
            have a8 := Aside0.mk (Kd.R_drew a4.out);have a7 := Aside0.mk (blk_drew a0.out);have b0 := Aside0.mk (below_drew1 HB.out);clear a4 a0 HB;have a4 := a8;have a0 := a7;have HB := b0;clear a8 a7 b0;have b2 : 0 ≤ (a2 : Int) := of_decide_eq_true (by first | (with_reducible assumption) | assumption);have b5 : a2 < (a1.length : Int) := of_decide_eq_true (by first | (with_reducible assumption) | assumption);obtain ⟨a5, b8, a9⟩ := Kd.at_int (Kd.R_reads' a4.out).2.2 a2 b2 b5
            cases b8;replace b2 := eq_true b2;replace b5 := eq_true b5;have b3 : 0 ≤ (a3 : Int) := of_decide_eq_true (by first | (with_reducible assumption) | assumption);have b4 : a3 < (a1.length : Int) := of_decide_eq_true (by first | (with_reducible assumption) | assumption);obtain ⟨b6, b7, a6⟩ := Kd.at_int (Kd.R_reads' a4.out).2.2 a3 b3 b4;obtain rfl : a5 = b6 := (by injection b7)
            replace b3 := eq_true b3;replace b4 := eq_true b4;refine start_ (n := 17) (S := fun w' => w'.cell? (a5.add (a2).toNat) = some (.int .i64 (rd a1 a2)) ∧ w'.cell? (a5.add (a3).toNat) = some (.int .i64 (rd a1 a3))) (ds := []) (bqz 17 0) (by kernel_rfl) rfl rfl ⟨a9, a6⟩ (fun hHeld => ?_); refine with_tabW Pr32a.tab8 Pr32a.bits8 (fun HT_ HW_ => ?_)
            generalize wr.drew = w20 at a4 a0 HB a9 a6 hHeld ⊢;refine pqz 0 (some 20) (bqz 17 1) rfl rfl (any_of HT_.out (by kernel_rfl)) ?_ ?_ (fun _ _ _ h => h) (by rfl) ?_ ?_ ?_;rotate_left 2;intro w';go_simp;(with_reducible rfl);simp only [Act.put, qz1, qz2, qz3, i64_w, i32_w];rfl
            refine pqz 1 (some 21) (bqz 17 3) rfl rfl (any_of HT_.out (by kernel_rfl)) ?_ ?_ (fun _ _ _ h => h) (by rfl) ?_ ?_ ?_;rotate_left 2;intro w';go_simp;(with_reducible rfl);simp only [Act.put, qz1, qz2, qz3, i64_w, i32_w];rfl
            refine pqz 2 (some 22) (bqz 17 7) rfl rfl (any_of HT_.out (by kernel_rfl)) ?_ ?_ (fun _ _ _ h => h) (by rfl) ?_ ?_ ?_;rotate_left 2;intro w';go_simp;(with_reducible rfl);simp only [Act.put, qz1, qz2, qz3, i64_w, i32_w];rfl
            refine pqz 4 (some 24) (bqz 17 23) rfl rfl (any_of HT_.out (by kernel_rfl)) ?_ ?_ (fun _ _ _ h => h) (by rfl) ?_ ?_ ?_;rotate_left 2;intro w';go_simp;(with_reducible rfl);simp only [Act.put, qz1, qz2, qz3, i64_w, i32_w];rfl
            refine pqz 5 (some 25) (bqz 17 55) rfl rfl (any_of HT_.out (by kernel_rfl)) ?_ ?_ (fun _ _ _ h => h) (by rfl) ?_ ?_ ?_;rotate_left 2;intro w';go_simp;(with_reducible rfl);simp only [Act.put, qz1, qz2, qz3, i64_w, i32_w];rfl
            refine pqz 6 (some 26) (bqz 17 119) rfl rfl (any_of HT_.out (by kernel_rfl)) ?_ ?_ (fun _ _ _ h => h) (by rfl) ?_ ?_ ?_;rotate_left 2;intro w';go_simp;(with_reducible rfl);simp only [Act.put, qz1, qz2, qz3, i64_w, i32_w];rfl
            refine tqz 3 (some 23) (bqz 17 127) rfl rfl (take_ofW HT_.out HW_.out (by kernel_rfl)) ?_ ?_ (fun _ _ _ h => h) (by rfl) ?_ hHeld ?_ ?_;rotate_left 2;rintro w' ⟨s0, s1⟩;go_simp;(with_reducible rfl);simp only [Act.put, qz1, qz2, qz3, i64_w, i32_w];rfl
            refine tqz 7 (some 27) (bqz 17 255) rfl rfl (take_ofW HT_.out HW_.out (by kernel_rfl)) ?_ ?_ (fun _ _ _ h => h) (by rfl) ?_ hHeld ?_ ?_;rotate_left 2;rintro w' ⟨s0, s1⟩;go_simp;(with_reducible rfl);simp only [Act.put, qz1, qz2, qz3, i64_w, i32_w];rfl
            refine pqz 8 (some 28) (bqz 17 511) rfl rfl (any_of HT_.out (by kernel_rfl)) ?_ ?_ (fun _ _ _ h => h) (by rfl) ?_ ?_ ?_;rotate_left 2;intro w';go_simp;(with_reducible rfl);simp only [Act.put, qz1, qz2, qz3, i64_w, i32_w];rfl
            refine pqz 9 (some 29) (bqz 17 1023) rfl rfl (any_of HT_.out (by kernel_rfl)) ?_ ?_ (fun _ _ _ h => h) (by rfl) ?_ ?_ ?_;rotate_left 2;intro w';go_simp;(with_reducible rfl);simp only [Act.put, qz1, qz2, qz3, i64_w, i32_w];rfl
            refine pure_ (i := 10) (N := some 30) (v := undef) (a' := ?_) (bqz 17 2047) rfl rfl (any_of HT_.out (by kernel_rfl)) (fun _ _ _ h => h) (Or.inr ⟨by rfl, rfl⟩) ?_ ?_;rotate_left
            ·simp only [Act.put, qz1, qz2, qz3, i64_w, i32_w];rfl
            refine pure_ (i := 11) (N := some 31) (v := undef) (a' := ?_) (bqz 17 4095) rfl rfl (any_of HT_.out (by kernel_rfl)) (fun _ _ _ h => h) (Or.inr ⟨by rfl, rfl⟩) ?_ ?_;rotate_left
            ·simp only [Act.put, qz1, qz2, qz3, i64_w, i32_w];rfl
            refine pure_ (i := 12) (N := some 32) (v := undef) (a' := ?_) (bqz 17 8191) rfl rfl (any_of HT_.out (by kernel_rfl)) (fun _ _ _ h => h) (Or.inr ⟨by rfl, rfl⟩) ?_ ?_;rotate_left
            ·simp only [Act.put, qz1, qz2, qz3, i64_w, i32_w];rfl
            refine pure_ (i := 13) (N := some 33) (v := undef) (a' := ?_) (bqz 17 16383) rfl rfl (any_of HT_.out (by kernel_rfl)) (fun _ _ _ h => h) (Or.inr ⟨by rfl, rfl⟩) ?_ ?_;rotate_left
            ·simp only [Act.put, qz1, qz2, qz3, i64_w, i32_w];rfl
            refine pure_ (i := 14) (N := some 34) (v := undef) (a' := ?_) (bqz 17 32767) rfl rfl (any_of HT_.out (by kernel_rfl)) (fun _ _ _ h => h) (Or.inr ⟨by rfl, rfl⟩) ?_ ?_;rotate_left
            ·simp only [Act.put, qz1, qz2, qz3, i64_w, i32_w];rfl
            refine pure_ (i := 15) (N := some 35) (v := undef) (a' := ?_) (bqz 17 65535) rfl rfl (any_of HT_.out (by kernel_rfl)) (fun _ _ _ h => h) (Or.inr ⟨by rfl, rfl⟩) ?_ ?_;rotate_left
            ·simp only [Act.put, qz1, qz2, qz3, i64_w, i32_w];rfl
            refine pqz 16 (some 36) (bqz 17 131071) rfl rfl (any_of HT_.out (by kernel_rfl)) ?_ ?_ (fun _ _ _ h => h) (by rfl) ?_ ?_ ?_;rotate_left 2;intro w';go_simp;(with_reducible rfl);simp only [Act.put, qz1, qz2, qz3, i64_w, i32_w];rfl
            refine done_ (done_of HT_.out (by kernel_rfl)) ?_;try go_wp2
            go_roundg k2
            case measure => have := d1.out; have := d0.out; omega
            case rel => exact ⟨(wrap64 (a3 + 1)), (by first | rfl | (simp; done) | (simp [*]; done)), H', ⟨by have := d1.out; have := d0.out; omega⟩, ⟨rz a4.out⟩, ⟨bz a0.out⟩, ⟨wz HB.out⟩⟩
          ·rw [if_neg d7] at H;exact absurd H (by simp)
         ·rw [if_neg d4] at H;exact absurd H (by simp)
        ·rw [if_neg c10] at H;exact absurd H (by simp)
       ·rw [if_neg c9] at H;exact absurd H (by simp)
      ·rw [if_neg c8] at H;have c8b0 : decide (a3 < a2) = false := decide_eq_false c8;clear c8;have H' := Aside0.mk H;clear H;go_wp2
       go_roundg k2
       case measure => have := d1.out; have := d0.out; omega
       case rel => exact ⟨(wrap64 (a2 + 1)), (by first | rfl | (simp; done) | (simp [*]; done)), H', ⟨by have := d1.out; have := d0.out; omega⟩, ⟨rz a4.out⟩, ⟨bz a0.out⟩, ⟨wz HB.out⟩⟩
   ·rw [if_neg c6] at H;have c6b0 : decide (a2 < (a1.length : Int)) = false := decide_eq_false c6;clear c6;obtain rfl := Option.some.inj H;obtain ⟨g2, g3, f4⟩ := Kd.R_slice a4.out;subst f4;go_wp2
    go_ret
    exact ⟨by first | rfl | (simp [errW_none, errW_some] <;> rfl) | (simp [*, errW_none, errW_some] <;> rfl), wz HB.out⟩
def Pxa.l0 : Nat → List ByteArray → ByteArray → Int → Int → Option (Int)
 | 0, _, _, _, _ => none
 | k + 1, x0, x1, x7, x8 => if x8 < x7 then (if 0 ≤ x8 then (if x8 < (x0.length : Int) then (if x1.toList = (rdOf ByteArray.empty x0 x8).toList then (some x8) else (Pxa.l0 k x0 x1 x7 (wrap64 (x8 + 1)))) else (none)) else (none)) else (some (-1))
def Pxa.f (k : Nat) (l0 : List ByteArray) (a1 : ByteArray) : Option (Int) := Pxa.l0 k l0 a1 (l0.length : Int) 0
theorem Pxa.mono_l : ∀ k, (∀ y0 y1 y2 y3, LeO (Pxa.l0 k y0 y1 y2 y3) (Pxa.l0 (k + 1) y0 y1 y2 y3))
 | 0 => fun _ _ _ _ r h => by simp [Pxa.l0] at h
 | k + 1 => by
  have ih0 := Pxa.mono_l k
  ·intro y0 y1 y2 y3
   unfold Pxa.l0
   repeat' first
   | (with_reducible exact ih0 _ _ _ _)
   | (with_reducible exact LeO.refl _)
   | (with_reducible exact LeO.none _)
   | (with_reducible refine LeO.ite ?_ ?_)
   | (with_reducible refine LeO.bind ?_ (fun _ => ?_))
   | exact ih0 _ _ _ _
   | exact LeO.none _
   | refine LeO.ite ?_ ?_
   | refine LeO.bind ?_ (fun _ => ?_)
theorem Pxa.mono : ∀ a0 a1 k, LeO (Pxa.f k a0 a1) (Pxa.f (k + 1) a0 a1) := by
 intro a0 a1 k
 have ih0 := Pxa.mono_l k
 unfold Pxa.f
 repeat' first
   | (with_reducible exact ih0 _ _ _ _)
   | (with_reducible exact LeO.refl _)
   | (with_reducible exact LeO.none _)
   | (with_reducible refine LeO.ite ?_ ?_)
   | (with_reducible refine LeO.bind ?_ (fun _ => ?_))
   | exact ih0 _ _ _ _
   | exact LeO.none _
   | refine LeO.ite ?_ ?_
   | refine LeO.bind ?_ (fun _ => ?_)
set_option maxHeartbeats 8000000 in
set_option maxRecDepth 100000 in
theorem Pxa.calls (k : Nat) (A0 : Option Addr) (c0 : Nat) (l0 : List ByteArray) (a1 : ByteArray) (r : Int) (w : World) (hr0 : Kd.C Kd.string w A0 l0.length l0) (hc0 : l0.length ≤ c0) (h : Pxa.f k l0 a1 = some r) :
  Calls Try.prog 130 #[.slice A0 l0.length c0, .string a1] w fun e w' => e = .returned (.int .i64 r) ∧ Drawn0 w w' := by
 have HR0 := Aside0.mk hr0;have HC0 := Aside0.mk hc0;clear hr0 hc0;have H : (Pxa.l0 k l0 a1 (l0.length : Int) 0) = some r := h;clear h;have H' := Aside0.mk H;clear H;go_enter Try.func130, Try.ntmps130
 go_wp2
 go_loopg [8] k (fun kq v8 w' => ∃ (x8_1 : Int), v8 = .int .i64 x8_1 ∧ Aside0 (Pxa.l0 kq l0 a1 (l0.length : Int) x8_1 = some r) ∧ Aside0 (kq ≤ k) ∧ Drawn0 w w')
 case atStart => exact ⟨(0), (by first | rfl | (simp; done) | (simp [*]; done)), H', ⟨Nat.le_refl _⟩, by repeat (first | exact Drawn0.refl _ | apply Drawn0.step)⟩
 case round =>
  clear H';obtain ⟨x8_1, rfl, HA, HK1, ⟨m1, rfl⟩⟩ := hrel
  cases gk with
  | zero => exact absurd HA.out (by simp [Pxa.l0])
  | succ k1 =>
   have H := HA.out;clear HA;simp only [Pxa.l0] at H;by_cases c3 : x8_1 < (l0.length : Int)
   ·rw [if_pos c3] at H;have c3b0 : decide (x8_1 < (l0.length : Int)) = true := decide_eq_true c3;clear c3;by_cases c4 : 0 ≤ x8_1
    ·rw [if_pos c4] at H;have c4b0 : decide (0 ≤ x8_1) = true := decide_eq_true c4;clear c4;by_cases c5 : x8_1 < (l0.length : Int)
     ·rw [if_pos c5] at H;have c5b0 : decide (x8_1 < (l0.length : Int)) = true := decide_eq_true c5;clear c5;by_cases c6 : a1.toList = (rdOf ByteArray.empty l0 x8_1).toList
      ·rw [if_pos c6] at H;have c6b0 : (a1.toList == (rdOf ByteArray.empty l0 x8_1).toList) = true := beq_iff_eq.mpr c6;have c6b1 : (a1.toList != (rdOf ByteArray.empty l0 x8_1).toList) = false := bne_eq_false_iff_eq.mpr c6;clear c6;obtain rfl := Option.some.inj H;have p379 : 0 ≤ (x8_1 : Int) := of_decide_eq_true (by first | (with_reducible assumption) | assumption);have q379 : x8_1 < (l0.length : Int) := of_decide_eq_true (by first | (with_reducible assumption) | assumption);obtain ⟨ad379, e379, hx379_0⟩ := Kd.at_string HR0.out x8_1 p379 q379
       cases e379;replace p379 := eq_true p379;replace q379 := eq_true q379;go_wp2
       go_ret
       exact ⟨by first | rfl | (simp; done) | (simp [*]; done), by repeat (first | exact Drawn0.refl _ | apply Drawn0.step)⟩
      ·rw [if_neg c6] at H;have c6b0 : (a1.toList == (rdOf ByteArray.empty l0 x8_1).toList) = false := beq_eq_false_iff_ne.mpr c6;have c6b1 : (a1.toList != (rdOf ByteArray.empty l0 x8_1).toList) = true := bne_iff_ne.mpr c6;have H' := Aside0.mk H;clear H;have p379 : 0 ≤ (x8_1 : Int) := of_decide_eq_true (by first | (with_reducible assumption) | assumption);have q379 : x8_1 < (l0.length : Int) := of_decide_eq_true (by first | (with_reducible assumption) | assumption);obtain ⟨ad379, e379, hx379_0⟩ := Kd.at_string HR0.out x8_1 p379 q379
       cases e379;replace p379 := eq_true p379;replace q379 := eq_true q379;go_wp2
       go_roundg k1
       case measure => have := HK1.out; omega
       case rel => exact ⟨(wrap64 (x8_1 + 1)), (by first | rfl | (simp; done) | (simp [*]; done)), H', ⟨by have := HK1.out; omega⟩, by repeat (first | exact Drawn0.refl _ | apply Drawn0.step)⟩
     ·rw [if_neg c5] at H;exact absurd H (by simp)
    ·rw [if_neg c4] at H;exact absurd H (by simp)
   ·rw [if_neg c3] at H;have c3b0 : decide (x8_1 < (l0.length : Int)) = false := decide_eq_false c3;clear c3;obtain rfl := Option.some.inj H;go_wp2
    go_ret
    exact ⟨by first | rfl | (simp; done) | (simp [*]; done), by repeat (first | exact Drawn0.refl _ | apply Drawn0.step)⟩
def Pxb.f (k : Nat) (l0 : List ByteArray) (a1 : ByteArray) : Option (Int) := (Pxa.f k l0 a1).bind fun t380 => (some t380)
theorem Pxb.mono : ∀ a0 a1 k, LeO (Pxb.f k a0 a1) (Pxb.f (k + 1) a0 a1) := by
 intro a0 a1 k
 unfold Pxb.f
 repeat' first
   | (with_reducible exact Pxa.mono _ _ _)
   | (with_reducible exact LeO.refl _)
   | (with_reducible exact LeO.none _)
   | (with_reducible refine LeO.ite ?_ ?_)
   | (with_reducible refine LeO.bind ?_ (fun _ => ?_))
   | exact Pxa.mono _ _ _
   | exact LeO.none _
   | refine LeO.ite ?_ ?_
   | refine LeO.bind ?_ (fun _ => ?_)
set_option maxHeartbeats 8000000 in
set_option maxRecDepth 100000 in
theorem Pxb.calls (k : Nat) (A0 : Option Addr) (c0 : Nat) (l0 : List ByteArray) (a1 : ByteArray) (r : Int) (w : World) (hr0 : Kd.C Kd.string w A0 l0.length l0) (hc0 : l0.length ≤ c0) (h : Pxb.f k l0 a1 = some r) :
  Calls Try.prog 97 #[.slice A0 l0.length c0, .string a1] w fun e w' => e = .returned (.int .i64 r) ∧ Drawn0 w w' := by
 have HR0 := Aside0.mk hr0;have HC0 := Aside0.mk hc0;clear hr0 hc0;have H : ((Pxa.f k l0 a1).bind fun t380 => (some t380)) = some r := h;clear h;replace H := Option.bind_eq_some_iff.mp H;obtain ⟨t380, A30, H⟩ := H;replace H : (some t380) = some r := H;have A3 := Aside0.mk A30;clear A30;obtain rfl := Option.some.inj H;go_enter Try.func97, Try.ntmps97
 go_wp2_with (first | ((with_reducible refine gate_callee (f := 130) rfl ?_); refine goesL_ (some 7) rfl rfl Try.func130 (by kernel_rfl) rfl #[.slice A0 l0.length c0, .string a1] rfl (by (try simp only [List.map_toArray, List.map_cons, List.map_nil]); first | done | rfl | (simp only [List.length_drop, List.length_take]; rfl)) ?_; (with_reducible refine (Pxa.calls k _ _ l0 a1 t380 _ ?side1 ?side2 A3.out).mono ?_); (case side1 => repeat (first | exact HR0.out | (with_reducible refine Kd.C_alloc ?_ _) | (with_reducible refine Kd.C_drewN ?_ _) | (with_reducible refine Kd.C_drew ?_))); (case side2 => exact HC0.out); rintro e w' ⟨rfl, ⟨nd, rfl⟩⟩; refine ⟨_, rfl, ?_⟩))
 go_ret
 exact ⟨by first | rfl | (simp; done) | (simp [*]; done), by repeat (first | exact Drawn0.refl _ | apply Drawn0.step)⟩
end Go.Proofs.Ytmcbkmfpmcbdpaa.Pr
set_option linter.unusedVariables false
set_option linter.unusedSimpArgs false
namespace Go.Proofs.Ytmcbkmfpmcbdpaa.PL
section
variable {α : Type} {lt : α → α → Prop}
theorem uniqueG (ir : ∀ a, ¬ lt a a) (tr : ∀ a b c, lt a b → lt b c → lt a c) : ∀ (a b : List α), a.Pairwise lt → b.Pairwise lt → (∀ x, x ∈ a ↔ x ∈ b) → a = b
 | [], [], _, _, _ => rfl
 | [], y :: r, _, _, h => by have := (h y).2 (List.mem_cons_self ..); cases this
 | x :: r, [], _, _, h => by have := (h x).1 (List.mem_cons_self ..); cases this
 | x :: r, y :: s, ha, hb, h => by
  have ha' := List.pairwise_cons.1 ha
  have hb' := List.pairwise_cons.1 hb
  have e : x = y := by
   rcases List.mem_cons.1 ((h x).1 (List.mem_cons_self ..)) with q | q
   ·exact q
   ·rcases List.mem_cons.1 ((h y).2 (List.mem_cons_self ..)) with q2 | q2
    ·exact q2.symm
    ·exact absurd (tr _ _ _ (hb'.1 x q) (ha'.1 y q2)) (ir y)
  subst e
  rw [uniqueG ir tr r s ha'.2 hb'.2 fun z => ?_]
  have hz := h z
  constructor
  ·intro q
   rcases List.mem_cons.1 (hz.1 (List.mem_cons_of_mem _ q)) with rfl | q2
   ·exact absurd (ha'.1 _ q) (ir _)
   ·exact q2
  ·intro q
   rcases List.mem_cons.1 (hz.2 (List.mem_cons_of_mem _ q)) with rfl | q2
   ·exact absurd (hb'.1 _ q) (ir _)
   ·exact q2
def insG [DecidableRel lt] (s : α) : List α → List α
 | [] => [s]
 | x :: r => if lt s x then s :: x :: r else if lt x s then x :: insG s r else x :: r
def uniG [DecidableRel lt] (l : List α) : List α := l.foldl (fun o s => insG (lt := lt) s o) []
variable [DecidableRel lt]
theorem insG_mem (tri : ∀ a b, ¬ lt a b → ¬ lt b a → a = b) (e x : α) : ∀ l, x ∈ insG (lt := lt) e l ↔ x = e ∨ x ∈ l
 | [] => by simp [insG]
 | y :: r => by
  unfold insG
  split
  ·simp
  ·rename_i h1
   split
   ·rw [List.mem_cons, insG_mem tri e x r, List.mem_cons]
    constructor
    ·rintro (h | h | h)
     ·exact .inr (.inl h)
     ·exact .inl h
     ·exact .inr (.inr h)
    ·rintro (h | h | h)
     ·exact .inr (.inl h)
     ·exact .inl h
     ·exact .inr (.inr h)
   ·rename_i h2
    obtain rfl := tri _ _ h1 h2
    simp
theorem insG_sorted (tr : ∀ a b c, lt a b → lt b c → lt a c) (tri : ∀ a b, ¬ lt a b → ¬ lt b a → a = b) (e : α) : ∀ l, l.Pairwise lt → (insG (lt := lt) e l).Pairwise lt
 | [], _ => by simp [insG]
 | y :: r, h => by
  have h' := List.pairwise_cons.1 h
  unfold insG
  split
  ·rename_i q
   refine List.pairwise_cons.2 ⟨fun x hx => ?_, h⟩
   rcases List.mem_cons.1 hx with rfl | hx
   ·exact q
   ·exact tr _ _ _ q (h'.1 x hx)
  ·split
   ·rename_i q
    refine List.pairwise_cons.2 ⟨fun x hx => ?_, insG_sorted tr tri e r h'.2⟩
    rcases (insG_mem tri e x r).1 hx with rfl | hx
    ·exact q
    ·exact h'.1 x hx
   ·exact h
theorem uniG_fold (tr : ∀ a b c, lt a b → lt b c → lt a c) (tri : ∀ a b, ¬ lt a b → ¬ lt b a → a = b) : ∀ (es o : List α), o.Pairwise lt → (es.foldl (fun o s => insG (lt := lt) s o) o).Pairwise lt ∧ ∀ x, x ∈ es.foldl (fun o s => insG (lt := lt) s o) o ↔ x ∈ es ∨ x ∈ o
 | [], o, h => ⟨h, fun x => by simp⟩
 | e :: r, o, h => by
  have ih := uniG_fold tr tri r (insG (lt := lt) e o) (insG_sorted tr tri e o h)
  refine ⟨ih.1, fun x => ?_⟩
  rw [List.foldl_cons, ih.2 x, insG_mem tri, List.mem_cons]
  constructor
  ·rintro (h | h | h)
   ·exact .inl (.inr h)
   ·exact .inl (.inl h)
   ·exact .inr h
  ·rintro ((h | h) | h)
   ·exact .inr (.inl h)
   ·exact .inl h
   ·exact .inr (.inr h)
theorem uniG_sorted (tr : ∀ a b c, lt a b → lt b c → lt a c) (tri : ∀ a b, ¬ lt a b → ¬ lt b a → a = b) (l : List α) : (uniG (lt := lt) l).Pairwise lt := (uniG_fold tr tri l [] List.Pairwise.nil).1
theorem uniG_mem (tr : ∀ a b c, lt a b → lt b c → lt a c) (tri : ∀ a b, ¬ lt a b → ¬ lt b a → a = b) (l : List α) (x : α) : x ∈ uniG (lt := lt) l ↔ x ∈ l := by
 have := (uniG_fold tr tri l [] List.Pairwise.nil).2 x
 rw [show uniG (lt := lt) l = l.foldl (fun o s => insG (lt := lt) s o) [] from rfl, this]
 simp
end
section
variable {α : Type} [DecidableEq α]
def ddG : List α → List α
 | [] => []
 | [a] => [a]
 | a :: b :: r => if a = b then ddG (b :: r) else a :: ddG (b :: r)
theorem ddG_mem (x : α) : ∀ l, x ∈ ddG l ↔ x ∈ l
 | [] => by simp [ddG]
 | [a] => by simp [ddG]
 | a :: b :: r => by
  have ih := ddG_mem x (b :: r)
  unfold ddG
  split
  ·rename_i h
   subst h
   rw [ih]
   simp
  ·rw [List.mem_cons, ih, List.mem_cons (a := x) (b := a)]
theorem ddG_strict {lt : α → α → Prop} (tr : ∀ a b c, lt a b → lt b c → lt a c) : ∀ l : List α, l.Pairwise (fun a b => a = b ∨ lt a b) → (ddG l).Pairwise lt
 | [], _ => by simp [ddG]
 | [a], _ => by simp [ddG]
 | a :: b :: r, h => by
  have h' := List.pairwise_cons.1 h
  have ih := ddG_strict tr (b :: r) h'.2
  unfold ddG
  split
  ·exact ih
  ·rename_i q
   refine List.pairwise_cons.2 ⟨fun x hx => ?_, ih⟩
   have hab : lt a b := by
    rcases h'.1 b (List.mem_cons_self ..) with e | e
    ·exact absurd e q
    ·exact e
   rcases List.mem_cons.1 ((ddG_mem x (b :: r)).1 hx) with rfl | hx
   ·exact hab
   ·rcases (List.pairwise_cons.1 h'.2).1 x hx with e | e
    ·rw [← e]; exact hab
    ·exact tr _ _ _ hab e
theorem ddG_snoc : ∀ (l : List α) (b a : α), ddG (l ++ [b, a]) = if b = a then ddG (l ++ [b]) else ddG (l ++ [b]) ++ [a]
 | [], b, a => by
  show ddG [b, a] = _
  unfold ddG
  by_cases q : b = a
  ·rw [if_pos q, if_pos q, q]; rfl
  ·rw [if_neg q, if_neg q]; rfl
 | [x], b, a => by
  have ih := ddG_snoc [] b a
  show ddG (x :: b :: [a]) = _
  show _ = if b = a then ddG (x :: b :: []) else ddG (x :: b :: []) ++ [a]
  unfold ddG
  rw [show ddG [b, a] = _ from ih]
  split
  ·split <;> rfl
  ·split <;> rfl
 | x :: y :: r, b, a => by
  have ih := ddG_snoc (y :: r) b a
  show ddG (x :: y :: (r ++ [b, a])) = _
  show _ = if b = a then ddG (x :: y :: (r ++ [b])) else ddG (x :: y :: (r ++ [b])) ++ [a]
  unfold ddG
  rw [show ddG (y :: (r ++ [b, a])) = _ from ih]
  split
  ·rfl
  ·split <;> rfl
end
end Go.Proofs.Ytmcbkmfpmcbdpaa.PL
set_option linter.unusedVariables false
set_option linter.unusedSimpArgs false
namespace Go.Proofs.Ytmcbkmfpmcbdpaa.H
open Go.RowKit Go.Proofs.Ytmcbkmfpmcbdpaa.Pr Go.Proofs.YtmcbkmfpmcbdpaaW.PrintWords Go.Proofs.Ytmcbkmfpmcbdpaa.Sem Go.Proofs.Ytmcbkmfpmcbdpaa.PL
theorem compact_ddG {α : Type} [Inhabited α] [DecidableEq α] (es : List α) : Lib.compact es = ddG es := by
 have : ∀ m, m ≤ es.length → Lib.compactUpTo es.toArray m = ddG (es.take m) := by
  intro m
  induction m with
  | zero => intro _; simp [Lib.compactUpTo, ddG]
  | succ m ih =>
   intro h
   have hm : m < es.length := by omega
   have e0 : es.toArray[m]! = es[m] := by rw [getElem!_pos es.toArray m (by simpa using hm)]; simp
   rw [Lib.compactUpTo_succ, ih (by omega), e0]
   rw [List.take_add_one, List.getElem?_eq_getElem hm]
   cases m with
   | zero => simp [Lib.keeps, ddG]
   | succ m =>
    have hm' : m < es.length := by omega
    have e1 : es.toArray[m]! = es[m] := by rw [getElem!_pos es.toArray m (by simpa using hm')]; simp
    have ek : Lib.keeps es.toArray (m + 1) = decide (es[m] ≠ es[m + 1]) := by
     unfold Lib.keeps
     rw [e0, show m + 1 - 1 = m from rfl, e1]
     rw [decide_eq_decide]
     constructor
     ·rintro (h | h)
      ·omega
      ·exact fun q => h q.symm
     ·exact fun h => .inr fun q => h q.symm
    rw [ek, List.take_add_one, List.getElem?_eq_getElem hm']
    simp only [Option.toList_some, List.append_assoc, List.cons_append, List.nil_append]
    rw [ddG_snoc]
    by_cases q : es[m] = es[m + 1]
    ·simp [q]
    ·simp [q]
 unfold Lib.compact
 rw [this _ (Nat.le_refl _), List.take_length]
def slt (a b : ByteArray) : Prop := a.data.toList < b.data.toList
instance : DecidableRel slt := fun a b => by unfold slt; infer_instance
theorem slt_irr (a : ByteArray) : ¬ slt a a := List.lt_irrefl _
theorem slt_tr (a b c : ByteArray) (h1 : slt a b) (h2 : slt b c) : slt a c := List.lt_trans h1 h2
theorem slt_tri (a b : ByteArray) (h1 : ¬ slt a b) (h2 : ¬ slt b a) : a = b := by
 have : a.data.toList = b.data.toList := List.le_antisymm (show a.data.toList ≤ b.data.toList from h2) h1
 exact ByteArray.ext (Array.toList_inj.1 this)
def uniS (l : List ByteArray) : List ByteArray := uniG (lt := slt) l
theorem uniS_sorted (l : List ByteArray) : (uniS l).Pairwise slt := uniG_sorted slt_tr slt_tri l
theorem uniS_mem (l : List ByteArray) (x : ByteArray) : x ∈ uniS l ↔ x ∈ l := uniG_mem slt_tr slt_tri l x
theorem unionS_uni (xs ys : List ByteArray) : unionS xs ys = uniS (xs ++ ys) := by
 have e : unionS xs ys = (ddG (((xs ++ ys).map fun s => s.data.toList).mergeSort fun x y => decide (x ≤ y))).map fun l => (⟨l.toArray⟩ : ByteArray) := by
  unfold unionS cmpt srt
  rw [← compact_ddG]
  congr 2
  rw [List.map_map]
  simp [Function.comp_def]
 rw [e]
 have hp := List.pairwise_mergeSort (le := fun x y : List UInt8 => decide (x ≤ y)) (fun a b c h1 h2 => by
  simp only [decide_eq_true_eq] at h1 h2 ⊢
  exact List.le_trans h1 h2) (fun a b => by
  simp only [Bool.or_eq_true, decide_eq_true_eq]
  exact List.le_total a b) ((xs ++ ys).map fun s => s.data.toList)
 have hs := ddG_strict (lt := fun x y : List UInt8 => x < y) (fun a b c => List.lt_trans) _ (hp.imp (fun {a b} h => by
  simp only [decide_eq_true_eq] at h
  rcases List.le_iff_lt_or_eq.1 h with q | q
  ·exact .inr q
  ·exact .inl q))
 refine uniqueG slt_irr slt_tr _ _ ?_ (uniS_sorted _) fun x => ?_
 ·rw [List.pairwise_map]
  exact hs.imp (fun {a b} h => by show (⟨a.toArray⟩ : ByteArray).data.toList < (⟨b.toArray⟩ : ByteArray).data.toList; simpa using h)
 ·rw [uniS_mem, List.mem_map]
  constructor
  ·rintro ⟨l, hl, rfl⟩
   rw [ddG_mem, (List.mergeSort_perm _ _).mem_iff, List.mem_map] at hl
   obtain ⟨s, hs, rfl⟩ := hl
   simpa using hs
  ·intro hx
   refine ⟨x.data.toList, ?_, by simp⟩
   rw [ddG_mem, (List.mergeSort_perm _ _).mem_iff, List.mem_map]
   exact ⟨x, hx, rfl⟩
end Go.Proofs.Ytmcbkmfpmcbdpaa.H
set_option linter.unusedVariables false
set_option linter.unusedSimpArgs false
namespace Go.Proofs.Ytmcbkmfpmcbdpaa.Pr
open Go.RowKit Go.Proofs.Ytmcbkmfpmcbdpaa.H Go.Proofs.YtmcbkmfpmcbdpaaW.PrintWords Go.Proofs.YtmcbkmfpmcbdpaaW.PrintLast Go.Proofs.YtmcbkmfpmcbdpaaW.PrintMore
def Pxc.f (l0 : List ByteArray) (l1 : List ByteArray) : Option (List ByteArray) := if l0.length + l1.length < 1000000000000 then some (H.uniS (l0 ++ l1)) else none
theorem Pxc.calls (A0 : Option Addr) (c0 : Nat) (l0 : List ByteArray) (A1 : Option Addr) (c1 : Nat) (l1 : List ByteArray) (r : List ByteArray) (w : World) (hr0 : Kd.C Kd.string w A0 l0.length l0) (hc0 : l0.length ≤ c0) (hr1 : Kd.C Kd.string w A1 l1.length l1) (hc1 : l1.length ≤ c1) (h : Pxc.f l0 l1 = some r) :
  Calls Try.prog 108 #[.slice A0 l0.length c0, .slice A1 l1.length c1] w fun e w' => ∃ v0_ : Value, e = .returned (v0_) ∧ Kd.R Kd.string 9 w' w.heap.size (fun _ => True) v0_ r ∧ Below w.heap.size w w' := by
 unfold Pxc.f at h
 split at h
 ·rename_i hn
  simp only [Option.some.injEq] at h
  subst h
  rw [← H.unionS_uni]
  exact H.union_any l0 l1 A0 A1 c0 c1 w hr0 hr1 hn
 ·cases h
end Go.Proofs.Ytmcbkmfpmcbdpaa.Pr
