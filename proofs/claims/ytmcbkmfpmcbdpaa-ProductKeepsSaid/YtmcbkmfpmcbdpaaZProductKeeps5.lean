/-
  The law ProductKeeps: for every input the call returns true, and what came in reads as it read before.
  Condition: none.
-/
import Derived.Test.YtmcbkmfpmcbdpaaZProductKeeps4
namespace Go.Proofs.Ytmcbkmfpmcbdpaa.Pr
open Go.RowKit Go.Proofs.YtmcbkmfpmcbdpaaW.PrintWords Go.Proofs.YtmcbkmfpmcbdpaaW.PrintLast Go.Proofs.YtmcbkmfpmcbdpaaW.PrintMore
attribute [local go_sem] max2_int min2_int max_two min_two max_three min_three max_four min_four
set_option linter.unusedVariables false
set_option linter.unusedSimpArgs false
mutual
def Pl50a.j0 : Nat → List Int → Bool → Int → List ByteArray → List (S80) → Int → List ByteArray → List (S80) → Int → List ByteArray → List (S80) → Option (Bool)
 | 0, _, _, _, _, _, _, _, _, _, _, _ => none
 | k + 1, x7, x34, x197000, x197001, x197002, x198000, x198001, x198002, x209000, x209001, x209002 => if x34 = true then ((Pl50b.f k).bind fun t213 => (some t213)) else ((Pra.f x209000 x209001 x209002).bind fun bt214 => (if bt214.2 = 0 then (if (x7.length : Int) = x197000 then (Pl50a.j1 k x7 bt214.1 ((bt214.1.length : Int) != (wrap64 (x197000 * x198000))) x198000 x198001 x198002) else (Pl50a.j1 k x7 bt214.1 true x198000 x198001 x198002)) else (Pl50a.j1 k x7 bt214.1 true x198000 x198001 x198002)))
def Pl50a.j1 : Nat → List Int → List Int → Bool → Int → List ByteArray → List (S80) → Option (Bool)
 | 0, _, _, _, _, _, _ => none
 | k + 1, x7, x9, x59, x198000, x198001, x198002 => if x59 = true then (some false) else (Pl50a.l0 k x7 x9 0 x198000 x198001 x198002)
def Pl50a.l0 : Nat → List Int → List Int → Int → Int → List ByteArray → List (S80) → Option (Bool)
 | 0, _, _, _, _, _, _ => none
 | k + 1, x7, x9, x11, x198000, x198001, x198002 => if x11 < (x9.length : Int) then (Pl50a.l1 k x7 x9 x11 0 x198000 x198001 x198002) else ((Pl50b.f k).bind fun t218 => (some t218))
def Pl50a.l1 : Nat → List Int → List Int → Int → Int → Int → List ByteArray → List (S80) → Option (Bool)
 | 0, _, _, _, _, _, _, _ => none
 | k + 1, x7, x9, x11, x12, x198000, x198001, x198002 => if x12 < x11 then (if x198000 = 0 then (none) else (if (Int.tmod x11 x198000) = (Int.tmod x12 x198000) then (if 0 ≤ (wrap64 (Int.tdiv x11 x198000)) then (if (wrap64 (Int.tdiv x11 x198000)) < (x7.length : Int) then (if 0 ≤ (wrap64 (Int.tdiv x12 x198000)) then (if (wrap64 (Int.tdiv x12 x198000)) < (x7.length : Int) then (if (rd x7 (wrap64 (Int.tdiv x11 x198000))) = (rd x7 (wrap64 (Int.tdiv x12 x198000))) then (if 0 ≤ x11 then (if x11 < (x9.length : Int) then (if 0 ≤ x12 then (if x12 < (x9.length : Int) then (if (rd x9 x11) = (rd x9 x12) then (Pl50a.l1 k x7 x9 x11 (wrap64 (x12 + 1)) x198000 x198001 x198002) else (some false)) else (none)) else (none)) else (none)) else (none)) else (Pl50a.l1 k x7 x9 x11 (wrap64 (x12 + 1)) x198000 x198001 x198002)) else (none)) else (none)) else (none)) else (none)) else (Pl50a.l1 k x7 x9 x11 (wrap64 (x12 + 1)) x198000 x198001 x198002))) else (Pl50a.l0 k x7 x9 (wrap64 (x11 + 1)) x198000 x198001 x198002)
end
def Pl50a.f (k : Nat) (a0_0 : Int) (l0_1 : List ByteArray) (l0_2 : List (S80)) (a1_0 : Int) (l1_1 : List ByteArray) (l1_2 : List (S80)) : Option (Bool) := (Pl50c.f a0_0 l0_1 l0_2 a1_0 l1_1 l1_2).bind fun t198 => (if t198 = true then ((Pxg.f k a0_0 l0_1 l0_2 a1_0 l1_1 l1_2).bind fun bt200 => ((Pra.f a0_0 l0_1 l0_2).bind fun bt209 => (if bt200.2.2.2 = 0 then (Pl50a.j0 k bt209.1 (bt209.2 != 0) a0_0 l0_1 l0_2 a1_0 l1_1 l1_2 bt200.1 bt200.2.1 bt200.2.2.1) else (Pl50a.j0 k bt209.1 true a0_0 l0_1 l0_2 a1_0 l1_1 l1_2 bt200.1 bt200.2.1 bt200.2.2.1)))) else ((Pl50b.f k).bind fun t199 => (some t199)))
theorem Pl50a.mono_l : ∀ k, (∀ y0 y1 y2 y3 y4 y5 y6 y7 y8 y9 y10, LeO (Pl50a.j0 k y0 y1 y2 y3 y4 y5 y6 y7 y8 y9 y10) (Pl50a.j0 (k + 1) y0 y1 y2 y3 y4 y5 y6 y7 y8 y9 y10)) ∧ (∀ y0 y1 y2 y3 y4 y5, LeO (Pl50a.j1 k y0 y1 y2 y3 y4 y5) (Pl50a.j1 (k + 1) y0 y1 y2 y3 y4 y5)) ∧ (∀ y0 y1 y2 y3 y4 y5, LeO (Pl50a.l0 k y0 y1 y2 y3 y4 y5) (Pl50a.l0 (k + 1) y0 y1 y2 y3 y4 y5)) ∧ (∀ y0 y1 y2 y3 y4 y5 y6, LeO (Pl50a.l1 k y0 y1 y2 y3 y4 y5 y6) (Pl50a.l1 (k + 1) y0 y1 y2 y3 y4 y5 y6))
 | 0 => ⟨fun _ _ _ _ _ _ _ _ _ _ _ r h => by simp [Pl50a.j0] at h, fun _ _ _ _ _ _ r h => by simp [Pl50a.j1] at h, fun _ _ _ _ _ _ r h => by simp [Pl50a.l0] at h, fun _ _ _ _ _ _ _ r h => by simp [Pl50a.l1] at h⟩
 | k + 1 => by
  obtain ⟨ih0, ih1, ih2, ih3⟩ := Pl50a.mono_l k
  refine ⟨?_, ?_, ?_, ?_⟩
  ·intro y0 y1 y2 y3 y4 y5 y6 y7 y8 y9 y10
   unfold Pl50a.j0
   repeat' first
   | (with_reducible exact ih0 _ _ _ _ _ _ _ _ _ _ _)
   | (with_reducible exact ih1 _ _ _ _ _ _)
   | (with_reducible exact ih2 _ _ _ _ _ _)
   | (with_reducible exact ih3 _ _ _ _ _ _ _)
   | (with_reducible exact Pxg.mono _ _ _ _ _ _ _)
   | (with_reducible exact Pl50b.mono _)
   | (with_reducible exact LeO.refl _)
   | (with_reducible exact LeO.none _)
   | (with_reducible refine LeO.ite ?_ ?_)
   | (with_reducible refine LeO.bind ?_ (fun _ => ?_))
   | exact ih0 _ _ _ _ _ _ _ _ _ _ _
   | exact ih1 _ _ _ _ _ _
   | exact ih2 _ _ _ _ _ _
   | exact ih3 _ _ _ _ _ _ _
   | exact Pxg.mono _ _ _ _ _ _ _
   | exact Pl50b.mono _
   | exact LeO.none _
   | refine LeO.ite ?_ ?_
   | refine LeO.bind ?_ (fun _ => ?_)
  ·intro y0 y1 y2 y3 y4 y5
   unfold Pl50a.j1
   repeat' first
   | (with_reducible exact ih0 _ _ _ _ _ _ _ _ _ _ _)
   | (with_reducible exact ih1 _ _ _ _ _ _)
   | (with_reducible exact ih2 _ _ _ _ _ _)
   | (with_reducible exact ih3 _ _ _ _ _ _ _)
   | (with_reducible exact Pxg.mono _ _ _ _ _ _ _)
   | (with_reducible exact Pl50b.mono _)
   | (with_reducible exact LeO.refl _)
   | (with_reducible exact LeO.none _)
   | (with_reducible refine LeO.ite ?_ ?_)
   | (with_reducible refine LeO.bind ?_ (fun _ => ?_))
   | exact ih0 _ _ _ _ _ _ _ _ _ _ _
   | exact ih1 _ _ _ _ _ _
   | exact ih2 _ _ _ _ _ _
   | exact ih3 _ _ _ _ _ _ _
   | exact Pxg.mono _ _ _ _ _ _ _
   | exact Pl50b.mono _
   | exact LeO.none _
   | refine LeO.ite ?_ ?_
   | refine LeO.bind ?_ (fun _ => ?_)
  ·intro y0 y1 y2 y3 y4 y5
   unfold Pl50a.l0
   repeat' first
   | (with_reducible exact ih0 _ _ _ _ _ _ _ _ _ _ _)
   | (with_reducible exact ih1 _ _ _ _ _ _)
   | (with_reducible exact ih2 _ _ _ _ _ _)
   | (with_reducible exact ih3 _ _ _ _ _ _ _)
   | (with_reducible exact Pxg.mono _ _ _ _ _ _ _)
   | (with_reducible exact Pl50b.mono _)
   | (with_reducible exact LeO.refl _)
   | (with_reducible exact LeO.none _)
   | (with_reducible refine LeO.ite ?_ ?_)
   | (with_reducible refine LeO.bind ?_ (fun _ => ?_))
   | exact ih0 _ _ _ _ _ _ _ _ _ _ _
   | exact ih1 _ _ _ _ _ _
   | exact ih2 _ _ _ _ _ _
   | exact ih3 _ _ _ _ _ _ _
   | exact Pxg.mono _ _ _ _ _ _ _
   | exact Pl50b.mono _
   | exact LeO.none _
   | refine LeO.ite ?_ ?_
   | refine LeO.bind ?_ (fun _ => ?_)
  ·intro y0 y1 y2 y3 y4 y5 y6
   unfold Pl50a.l1
   repeat' first
   | (with_reducible exact ih0 _ _ _ _ _ _ _ _ _ _ _)
   | (with_reducible exact ih1 _ _ _ _ _ _)
   | (with_reducible exact ih2 _ _ _ _ _ _)
   | (with_reducible exact ih3 _ _ _ _ _ _ _)
   | (with_reducible exact Pxg.mono _ _ _ _ _ _ _)
   | (with_reducible exact Pl50b.mono _)
   | (with_reducible exact LeO.refl _)
   | (with_reducible exact LeO.none _)
   | (with_reducible refine LeO.ite ?_ ?_)
   | (with_reducible refine LeO.bind ?_ (fun _ => ?_))
   | exact ih0 _ _ _ _ _ _ _ _ _ _ _
   | exact ih1 _ _ _ _ _ _
   | exact ih2 _ _ _ _ _ _
   | exact ih3 _ _ _ _ _ _ _
   | exact Pxg.mono _ _ _ _ _ _ _
   | exact Pl50b.mono _
   | exact LeO.none _
   | refine LeO.ite ?_ ?_
   | refine LeO.bind ?_ (fun _ => ?_)
theorem Pl50a.mono : ∀ a0 a1 a2 a3 a4 a5 k, LeO (Pl50a.f k a0 a1 a2 a3 a4 a5) (Pl50a.f (k + 1) a0 a1 a2 a3 a4 a5) := by
 intro a0 a1 a2 a3 a4 a5 k
 obtain ⟨ih0, ih1, ih2, ih3⟩ := Pl50a.mono_l k
 unfold Pl50a.f
 repeat' first
   | (with_reducible exact ih0 _ _ _ _ _ _ _ _ _ _ _)
   | (with_reducible exact ih1 _ _ _ _ _ _)
   | (with_reducible exact ih2 _ _ _ _ _ _)
   | (with_reducible exact ih3 _ _ _ _ _ _ _)
   | (with_reducible exact Pxg.mono _ _ _ _ _ _ _)
   | (with_reducible exact Pl50b.mono _)
   | (with_reducible exact LeO.refl _)
   | (with_reducible exact LeO.none _)
   | (with_reducible refine LeO.ite ?_ ?_)
   | (with_reducible refine LeO.bind ?_ (fun _ => ?_))
   | exact ih0 _ _ _ _ _ _ _ _ _ _ _
   | exact ih1 _ _ _ _ _ _
   | exact ih2 _ _ _ _ _ _
   | exact ih3 _ _ _ _ _ _ _
   | exact Pxg.mono _ _ _ _ _ _ _
   | exact Pl50b.mono _
   | exact LeO.none _
   | refine LeO.ite ?_ ?_
   | refine LeO.bind ?_ (fun _ => ?_)
set_option maxHeartbeats 8000000 in
set_option maxRecDepth 100000 in
theorem Pl50a.calls (k : Nat) (a0_0 : Int) (A0_1 : Option Addr) (c0_1 : Nat) (l0_1 : List ByteArray) (A0_2 : Option Addr) (c0_2 : Nat) (l0_2 : List (S80)) (a1_0 : Int) (A1_1 : Option Addr) (c1_1 : Nat) (l1_1 : List ByteArray) (A1_2 : Option Addr) (c1_2 : Nat) (l1_2 : List (S80)) (r : Bool) (w : World) (hr0_1 : Kd.C Kd.string w A0_1 l0_1.length l0_1) (hc0_1 : l0_1.length ≤ c0_1) (hr0_2 : Kd.C k80 w A0_2 l0_2.length l0_2) (hc0_2 : l0_2.length ≤ c0_2) (hr1_1 : Kd.C Kd.string w A1_1 l1_1.length l1_1) (hc1_1 : l1_1.length ≤ c1_1) (hr1_2 : Kd.C k80 w A1_2 l1_2.length l1_2) (hc1_2 : l1_2.length ≤ c1_2) (h : Pl50a.f k a0_0 l0_1 l0_2 a1_0 l1_1 l1_2 = some r) (hr_ : Aside0 (r = true)) :
  Calls Try.prog 12 #[.agg #[.int .i64 a0_0, .slice A0_1 l0_1.length c0_1, .slice A0_2 l0_2.length c0_2], .agg #[.int .i64 a1_0, .slice A1_1 l1_1.length c1_1, .slice A1_2 l1_2.length c1_2]] w fun e w' => e = .returned (.bool r) ∧ Below w.heap.size w w' := by
 have H6 := Try.underlying25;have f9 := Aside0.mk hr0_1;have f7 := Aside0.mk hc0_1;clear hr0_1 hc0_1;have g0 := Aside0.mk hr0_2;have f8 := Aside0.mk hc0_2;clear hr0_2 hc0_2;have g6 := Aside0.mk hr1_1;have g4 := Aside0.mk hc1_1;clear hr1_1 hc1_1;have g7 := Aside0.mk hr1_2;have g5 := Aside0.mk hc1_2;clear hr1_2 hc1_2;have HB := Aside0.mk (Below.refl w.heap.size w);have H : ((Pl50c.f a0_0 l0_1 l0_2 a1_0 l1_1 l1_2).bind fun u1 => (if u1 = true then ((Pxg.f k a0_0 l0_1 l0_2 a1_0 l1_1 l1_2).bind fun d8 => ((Pra.f a0_0 l0_1 l0_2).bind fun f0 => (if d8.2.2.2 = 0 then (Pl50a.j0 k f0.1 (f0.2 != 0) a0_0 l0_1 l0_2 a1_0 l1_1 l1_2 d8.1 d8.2.1 d8.2.2.1) else (Pl50a.j0 k f0.1 true a0_0 l0_1 l0_2 a1_0 l1_1 l1_2 d8.1 d8.2.1 d8.2.2.1)))) else ((Pl50b.f k).bind fun l6 => (some l6)))) = some r := h;clear h;replace H := Option.bind_eq_some_iff.mp H;obtain ⟨u1, y8, H⟩ := H;replace H : (if u1 = true then ((Pxg.f k a0_0 l0_1 l0_2 a1_0 l1_1 l1_2).bind fun d8 => ((Pra.f a0_0 l0_1 l0_2).bind fun f0 => (if d8.2.2.2 = 0 then (Pl50a.j0 k f0.1 (f0.2 != 0) a0_0 l0_1 l0_2 a1_0 l1_1 l1_2 d8.1 d8.2.1 d8.2.2.1) else (Pl50a.j0 k f0.1 true a0_0 l0_1 l0_2 a1_0 l1_1 l1_2 d8.1 d8.2.1 d8.2.2.1)))) else ((Pl50b.f k).bind fun l6 => (some l6))) = some r := H;have A3 := Aside0.mk y8;clear y8;by_cases c4 : u1 = true
 ·subst c4;have H1 : ((Pxg.f k a0_0 l0_1 l0_2 a1_0 l1_1 l1_2).bind fun d8 => ((Pra.f a0_0 l0_1 l0_2).bind fun f0 => (if d8.2.2.2 = 0 then (Pl50a.j0 k f0.1 (f0.2 != 0) a0_0 l0_1 l0_2 a1_0 l1_1 l1_2 d8.1 d8.2.1 d8.2.2.1) else (Pl50a.j0 k f0.1 true a0_0 l0_1 l0_2 a1_0 l1_1 l1_2 d8.1 d8.2.1 d8.2.2.1)))) = some r := by rw [if_pos rfl] at H; exact H
  clear H;have H := H1;clear H1;replace H := Option.bind_eq_some_iff.mp H;obtain ⟨⟨d4, d2, d3, l7⟩, y9, H⟩ := H;replace H : ((Pra.f a0_0 l0_1 l0_2).bind fun f0 => (if l7 = 0 then (Pl50a.j0 k f0.1 (f0.2 != 0) a0_0 l0_1 l0_2 a1_0 l1_1 l1_2 d4 d2 d3) else (Pl50a.j0 k f0.1 true a0_0 l0_1 l0_2 a1_0 l1_1 l1_2 d4 d2 d3))) = some r := H;have A5 := Aside0.mk y9;clear y9;replace H := Option.bind_eq_some_iff.mp H;obtain ⟨⟨b2, r9⟩, z0, H⟩ := H;replace H : (if l7 = 0 then (Pl50a.j0 k b2 (r9 != 0) a0_0 l0_1 l0_2 a1_0 l1_1 l1_2 d4 d2 d3) else (Pl50a.j0 k b2 true a0_0 l0_1 l0_2 a1_0 l1_1 l1_2 d4 d2 d3)) = some r := H;have A6 := Aside0.mk z0;clear z0;have y2 := Aside0.mk H;clear H;go_enter Try.func12, Try.ntmps12
  go_upto_region 5 with (first | ((with_reducible refine gate_dst (N := 2) rfl ?_); (try (refine gate_guard (by rfl) ?_; dsimp only)); refine box_event ?hg (N := 2) ?hd (cs := #[.int .i64 a0_0, .slice A0_1 l0_1.length c0_1, .slice A0_2 l0_2.length c0_2]) (t := 25) ?hr ?_; (case hd => rfl); (case hg => rfl); (case hr => first | (go_simp; done) | (go_simp; rfl)); intro a2 hg w8 hbox hb; have a7 := Aside0.mk (below_step (wz HB.out) hb); have a8 := Aside0.mk (hbox); have a9 := Aside0.mk ((by rw [hg]; exact (below_size (wz HB.out)) : w.heap.size ≤ a2)); have b1 := Aside0.mk ((by rw [hg]; exact (below_size (wz HB.out)) : w.heap.size ≤ a2)); clear HB; have HB := a7; have a0 := a8; have n5 := a9; have n3 := b1; clear a7 a8 a9 b1; clear hb hbox hg) | ((with_reducible refine gate_dst (N := 3) rfl ?_); (try (refine gate_guard (by rfl) ?_; dsimp only)); refine box_event ?hg (N := 3) ?hd (cs := #[.int .i64 a1_0, .slice A1_1 l1_1.length c1_1, .slice A1_2 l1_2.length c1_2]) (t := 25) ?hr ?_; (case hd => rfl); (case hg => rfl); (case hr => first | (go_simp; done) | (go_simp; rfl)); intro a3 hg w9 hbox hb; have a7 := Aside0.mk (blk_below (bz a0.out) hb); have a8 := Aside0.mk (below_step (wz HB.out) hb); have a9 := Aside0.mk (hbox); have b1 := Aside0.mk ((by rw [hg]; exact (below_size (wz HB.out)) : w.heap.size ≤ a3)); have b3 := Aside0.mk ((by rw [hg]; exact (below_size (wz HB.out)) : w.heap.size ≤ a3)); have b8 := Aside0.mk ((by rw [hg]; exact Nat.ne_of_lt (blk_lt (g := a2) (o := .cells #[.int .i64 a0_0, .slice A0_1 l0_1.length c0_1, .slice A0_2 l0_2.length c0_2] 25 (0, 0)) (bz a0.out)) : a2 ≠ a3)); have b9 := Aside0.mk ((by rw [hg]; exact Nat.ne_of_gt (blk_lt (g := a2) (o := .cells #[.int .i64 a0_0, .slice A0_1 l0_1.length c0_1, .slice A0_2 l0_2.length c0_2] 25 (0, 0)) (bz a0.out)) : a3 ≠ a2)); clear a0; clear HB; have a0 := a7; have HB := a8; have a1 := a9; have n6 := b1; have n4 := b3; have d0 := b8; have d1 := b9; clear a7 a8 a9 b1 b3 b8 b9; clear hb hbox hg; have w0 := d0.out; have w5 := d1.out; have g8 : w9.cell? ⟨a2, 0, none⟩ = some (.int .i64 a0_0) := bcz a0 0 rfl; have g9 : w9.cell? ⟨a2, 1, none⟩ = some (.slice A0_1 l0_1.length c0_1) := bcz a0 1 rfl; have h0 : w9.cell? ⟨a2, 2, none⟩ = some (.slice A0_2 l0_2.length c0_2) := bcz a0 2 rfl; have i7 := blk_frozen a0.out 0; have i8 := blk_frozen a0.out 1; have i9 := blk_frozen a0.out 2; have h1 : w9.cell? ⟨a3, 0, none⟩ = some (.int .i64 a1_0) := bcz a1 0 rfl; have h2 : w9.cell? ⟨a3, 1, none⟩ = some (.slice A1_1 l1_1.length c1_1) := bcz a1 1 rfl; have h3 : w9.cell? ⟨a3, 2, none⟩ = some (.slice A1_2 l1_2.length c1_2) := bcz a1 2 rfl; have j2 := blk_frozen a1.out 0; have j3 := blk_frozen a1.out 1; have j4 := blk_frozen a1.out 2) | (go_at_call 54; (with_reducible refine (Pl50c.calls a0_0 _ _ l0_1 _ _ l0_2 a1_0 _ _ l1_1 _ _ l1_2 true _ ?f2 ?f3 ?f4 ?f5 ?k9 ?l3 ?l4 ?l5 A3.out).mono ?_); (case f2 => exact cz f9.out HB.out); (case f3 => exact f7.out); (case f4 => exact cz g0.out HB.out); (case f5 => exact f8.out); (case k9 => exact cz g6.out HB.out); (case l3 => exact g4.out); (case l4 => exact cz g7.out HB.out); (case l5 => exact g5.out); rintro e g1 ⟨rfl, hb⟩; have a7 := Aside0.mk (blk_below (bz a0.out) hb); have a8 := Aside0.mk (blk_below (bz a1.out) hb); have a9 := Aside0.mk (below_step (wz HB.out) hb); clear a0; clear a1; clear HB; have a0 := a7; have a1 := a8; have HB := a9; clear a7 a8 a9; (try clear hb); (try clear f6); (try clear hk); (try clear hi); have h4 : g1.cell? ⟨a2, 0, none⟩ = some (.int .i64 a0_0) := bcz a0 0 rfl; have h5 : g1.cell? ⟨a2, 1, none⟩ = some (.slice A0_1 l0_1.length c0_1) := bcz a0 1 rfl; have h6 : g1.cell? ⟨a2, 2, none⟩ = some (.slice A0_2 l0_2.length c0_2) := bcz a0 2 rfl; have j5 := blk_frozen a0.out 0; have j6 := blk_frozen a0.out 1; have j7 := blk_frozen a0.out 2; have h7 : g1.cell? ⟨a3, 0, none⟩ = some (.int .i64 a1_0) := bcz a1 0 rfl; have h8 : g1.cell? ⟨a3, 1, none⟩ = some (.slice A1_1 l1_1.length c1_1) := bcz a1 1 rfl; have h9 : g1.cell? ⟨a3, 2, none⟩ = some (.slice A1_2 l1_2.length c1_2) := bcz a1 2 rfl; have j8 := blk_frozen a1.out 0; have j9 := blk_frozen a1.out 1; have k0 := blk_frozen a1.out 2) | (go_at_call 56; (with_reducible refine (Pxg.calls k a0_0 _ _ l0_1 _ _ l0_2 a1_0 _ _ l1_1 _ _ l1_2 d4 d2 d3 l7 _ ?f2 ?f3 ?f4 ?f5 ?k9 ?l3 ?l4 ?l5 A5.out).mono ?_); (case f2 => exact cz f9.out HB.out); (case f3 => exact f7.out); (case f4 => exact cz g0.out HB.out); (case f5 => exact f8.out); (case k9 => exact cz g6.out HB.out); (case l3 => exact g4.out); (case l4 => exact cz g7.out HB.out); (case l5 => exact g5.out); rintro e z1 ⟨y4, y5, rfl, e3, q7, hb⟩; have a7 := Aside0.mk (Kd.R_lower e3 (below_size (wz HB.out))); have a8 := Aside0.mk (Kd.R_lower q7 (below_size (wz HB.out))); have a9 := Aside0.mk (blk_below (bz a0.out) hb); have b1 := Aside0.mk (blk_below (bz a1.out) hb); have b3 := Aside0.mk (below_step (wz HB.out) hb); clear a0; clear a1; clear HB; have d5 := a7; have d6 := a8; have a0 := a9; have a1 := b1; have HB := b3; clear a7 a8 a9 b1 b3; (try clear hb); (try clear f6); (try clear hk); (try clear hi); (try clear e3); (try clear q7)) | ((with_reducible refine gate_dst (N := 5) rfl ?_); (try (refine gate_guard (by rfl) ?_; dsimp only)); refine box_event ?hg (N := 5) ?hd (cs := #[.int .i64 0, .slice none 0 0, .slice none 0 0]) (t := 25) ?hr ?_; (case hd => rfl); (case hg => rfl); (case hr => first | (go_simp; done) | (go_simp; rfl)); intro b0 hg g2 hbox hb; have a7 := Aside0.mk (Kd.R_below (rz d5.out) hb); have a8 := Aside0.mk (Kd.R_below (rz d6.out) hb); have a9 := Aside0.mk (blk_below (bz a0.out) hb); have b1 := Aside0.mk (blk_below (bz a1.out) hb); have b3 := Aside0.mk (below_step (wz HB.out) hb); have b8 := Aside0.mk (hbox); have b9 := Aside0.mk ((by rw [hg]; exact (below_size (wz HB.out)) : w.heap.size ≤ b0)); have e9 := Aside0.mk ((by rw [hg]; exact (below_size (wz HB.out)) : w.heap.size ≤ b0)); have q8 := Aside0.mk ((by rw [hg]; exact Nat.ne_of_lt (blk_lt (g := a2) (o := .cells #[.int .i64 a0_0, .slice A0_1 l0_1.length c0_1, .slice A0_2 l0_2.length c0_2] 25 (0, 0)) (bz a0.out)) : a2 ≠ b0)); have q9 := Aside0.mk ((by rw [hg]; exact Nat.ne_of_gt (blk_lt (g := a2) (o := .cells #[.int .i64 a0_0, .slice A0_1 l0_1.length c0_1, .slice A0_2 l0_2.length c0_2] 25 (0, 0)) (bz a0.out)) : b0 ≠ a2)); have m3 := Aside0.mk ((by rw [hg]; exact Nat.ne_of_lt (blk_lt (g := a3) (o := .cells #[.int .i64 a1_0, .slice A1_1 l1_1.length c1_1, .slice A1_2 l1_2.length c1_2] 25 (0, 0)) (bz a1.out)) : a3 ≠ b0)); have m4 := Aside0.mk ((by rw [hg]; exact Nat.ne_of_gt (blk_lt (g := a3) (o := .cells #[.int .i64 a1_0, .slice A1_1 l1_1.length c1_1, .slice A1_2 l1_2.length c1_2] 25 (0, 0)) (bz a1.out)) : b0 ≠ a3)); clear d5; clear d6; clear a0; clear a1; clear HB; have d5 := a7; have d6 := a8; have a0 := a9; have a1 := b1; have HB := b3; have a4 := b8; have v1 := b9; have v0 := e9; have d9 := q8; have e8 := q9; have d7 := m3; have e0 := m4; clear a7 a8 a9 b1 b3 b8 b9 e9 q8 q9 m3 m4; clear hb hbox hg; have w2 := e8.out; have w6 := d9.out; have w3 := e0.out; have w7 := d7.out; have i0 : g2.cell? ⟨b0, 0, none⟩ = some (.int .i64 0) := bcz a4 0 rfl; have i1 : g2.cell? ⟨b0, 1, none⟩ = some (.slice none 0 0) := bcz a4 1 rfl; have i2 : g2.cell? ⟨b0, 2, none⟩ = some (.slice none 0 0) := bcz a4 2 rfl; have k1 := blk_frozen a4.out 0; have k2 := blk_frozen a4.out 1; have k5 := blk_frozen a4.out 2; obtain ⟨e1, e2, r7⟩ := Kd.R_slice d5.out; subst r7; obtain ⟨e5, e6, r8⟩ := Kd.R_slice d6.out; subst r8; have i3 : g2.cell? ⟨a2, 0, none⟩ = some (.int .i64 a0_0) := bcz a0 0 rfl; have i4 : g2.cell? ⟨a2, 1, none⟩ = some (.slice A0_1 l0_1.length c0_1) := bcz a0 1 rfl; have i5 : g2.cell? ⟨a2, 2, none⟩ = some (.slice A0_2 l0_2.length c0_2) := bcz a0 2 rfl; have k6 := blk_frozen a0.out 0; have k7 := blk_frozen a0.out 1; have k8 := blk_frozen a0.out 2) | (go_at_call 17; (with_reducible refine (Pra.calls a0_0 _ _ l0_1 _ _ l0_2 b2 r9 _ ?f2 ?f3 ?f4 ?f5 A6.out).mono ?_); (case f2 => exact Kd.C_below f9.out (wz HB.out)); (case f3 => exact f7.out); (case f4 => exact Kd.C_below g0.out (wz HB.out)); (case f5 => exact f8.out); rintro e z2 ⟨l9, rfl, e3, hb⟩; have a7 := Aside0.mk (Kd.R_below (rz (Kd.R_mono (Kd.R_far (p := ⟨b0, 2, none⟩) (Kd.R_far (p := ⟨b0, 1, none⟩) (Kd.R_far (p := ⟨b0, 0, none⟩) (Kd.R_types d5.out a4.out (by decide)) (fun _ hk => hk.2) (.int .i64 d4)) (fun _ hk => hk.2) (.slice e1 d2.length e2)) (fun _ hk => hk.2) (.slice e5 d3.length e6)) (fun _ h_ => h_.1))) hb); have a8 := Aside0.mk (Kd.R_below (rz (Kd.R_mono (Kd.R_far (p := ⟨b0, 2, none⟩) (Kd.R_far (p := ⟨b0, 1, none⟩) (Kd.R_far (p := ⟨b0, 0, none⟩) (Kd.R_types d6.out a4.out (by decide)) (fun _ hk => hk.2) (.int .i64 d4)) (fun _ hk => hk.2) (.slice e1 d2.length e2)) (fun _ hk => hk.2) (.slice e5 d3.length e6)) (fun _ h_ => h_.1))) hb); have a9 := Aside0.mk (Kd.R_lower e3 (below_size (wz HB.out))); have b1 := Aside0.mk (blk_below (g := a2) (o := .cells #[.int .i64 a0_0, .slice A0_1 l0_1.length c0_1, .slice A0_2 l0_2.length c0_2] 25 (0, 0)) (fz a0.out d9.out) hb); have b3 := Aside0.mk (blk_below (g := a3) (o := .cells #[.int .i64 a1_0, .slice A1_1 l1_1.length c1_1, .slice A1_2 l1_2.length c1_2] 25 (0, 0)) (fz a1.out d7.out) hb); have b8 := Aside0.mk (blk_below (g := b0) (o := .cells #[.int .i64 d4, .slice e1 d2.length e2, .slice e5 d3.length e6] 25 (0, 0)) (by (with_reducible repeat (first | refine blk_drewN ?_ _ | refine blk_drew ?_ | refine blk_alloc ?_ _)); refine blk_put (cs := #[.int .i64 d4, .slice e1 d2.length e2, .slice none 0 0]) ?_ 2 _ rfl; (with_reducible repeat (first | refine blk_drewN ?_ _ | refine blk_drew ?_ | refine blk_alloc ?_ _)); refine blk_put (cs := #[.int .i64 d4, .slice none 0 0, .slice none 0 0]) ?_ 1 _ rfl; (with_reducible repeat (first | refine blk_drewN ?_ _ | refine blk_drew ?_ | refine blk_alloc ?_ _)); refine blk_put (cs := #[.int .i64 0, .slice none 0 0, .slice none 0 0]) ?_ 0 _ rfl; (with_reducible repeat (first | refine blk_drewN ?_ _ | refine blk_drew ?_ | refine blk_alloc ?_ _)); exact a4.out) hb); have b9 := Aside0.mk (below_step (wz HB.out) hb); clear d5; clear d6; clear a0; clear a1; clear a4; clear HB; have d5 := a7; have d6 := a8; have r0 := a9; have a0 := b1; have a1 := b3; have a4 := b8; have HB := b9; clear a7 a8 a9 b1 b3 b8 b9; (try clear hb); (try clear f6); (try clear hk); (try clear hi); (try clear e3)))
  repeat (go_quiet (first | ((with_reducible refine gate_dst (N := 2) rfl ?_); (try (refine gate_guard (by rfl) ?_; dsimp only)); refine box_event ?hg (N := 2) ?hd (cs := #[.int .i64 a0_0, .slice A0_1 l0_1.length c0_1, .slice A0_2 l0_2.length c0_2]) (t := 25) ?hr ?_; (case hd => rfl); (case hg => rfl); (case hr => first | (go_simp; done) | (go_simp; rfl)); intro a2 hg w8 hbox hb; have a7 := Aside0.mk (below_step (wz HB.out) hb); have a8 := Aside0.mk (hbox); have a9 := Aside0.mk ((by rw [hg]; exact (below_size (wz HB.out)) : w.heap.size ≤ a2)); have b1 := Aside0.mk ((by rw [hg]; exact (below_size (wz HB.out)) : w.heap.size ≤ a2)); clear HB; have HB := a7; have a0 := a8; have n5 := a9; have n3 := b1; clear a7 a8 a9 b1; clear hb hbox hg) | ((with_reducible refine gate_dst (N := 3) rfl ?_); (try (refine gate_guard (by rfl) ?_; dsimp only)); refine box_event ?hg (N := 3) ?hd (cs := #[.int .i64 a1_0, .slice A1_1 l1_1.length c1_1, .slice A1_2 l1_2.length c1_2]) (t := 25) ?hr ?_; (case hd => rfl); (case hg => rfl); (case hr => first | (go_simp; done) | (go_simp; rfl)); intro a3 hg w9 hbox hb; have a7 := Aside0.mk (blk_below (bz a0.out) hb); have a8 := Aside0.mk (below_step (wz HB.out) hb); have a9 := Aside0.mk (hbox); have b1 := Aside0.mk ((by rw [hg]; exact (below_size (wz HB.out)) : w.heap.size ≤ a3)); have b3 := Aside0.mk ((by rw [hg]; exact (below_size (wz HB.out)) : w.heap.size ≤ a3)); have b8 := Aside0.mk ((by rw [hg]; exact Nat.ne_of_lt (blk_lt (g := a2) (o := .cells #[.int .i64 a0_0, .slice A0_1 l0_1.length c0_1, .slice A0_2 l0_2.length c0_2] 25 (0, 0)) (bz a0.out)) : a2 ≠ a3)); have b9 := Aside0.mk ((by rw [hg]; exact Nat.ne_of_gt (blk_lt (g := a2) (o := .cells #[.int .i64 a0_0, .slice A0_1 l0_1.length c0_1, .slice A0_2 l0_2.length c0_2] 25 (0, 0)) (bz a0.out)) : a3 ≠ a2)); clear a0; clear HB; have a0 := a7; have HB := a8; have a1 := a9; have n6 := b1; have n4 := b3; have d0 := b8; have d1 := b9; clear a7 a8 a9 b1 b3 b8 b9; clear hb hbox hg; have w0 := d0.out; have w5 := d1.out; have g8 : w9.cell? ⟨a2, 0, none⟩ = some (.int .i64 a0_0) := bcz a0 0 rfl; have g9 : w9.cell? ⟨a2, 1, none⟩ = some (.slice A0_1 l0_1.length c0_1) := bcz a0 1 rfl; have h0 : w9.cell? ⟨a2, 2, none⟩ = some (.slice A0_2 l0_2.length c0_2) := bcz a0 2 rfl; have i7 := blk_frozen a0.out 0; have i8 := blk_frozen a0.out 1; have i9 := blk_frozen a0.out 2; have h1 : w9.cell? ⟨a3, 0, none⟩ = some (.int .i64 a1_0) := bcz a1 0 rfl; have h2 : w9.cell? ⟨a3, 1, none⟩ = some (.slice A1_1 l1_1.length c1_1) := bcz a1 1 rfl; have h3 : w9.cell? ⟨a3, 2, none⟩ = some (.slice A1_2 l1_2.length c1_2) := bcz a1 2 rfl; have j2 := blk_frozen a1.out 0; have j3 := blk_frozen a1.out 1; have j4 := blk_frozen a1.out 2) | (go_at_call 54; (with_reducible refine (Pl50c.calls a0_0 _ _ l0_1 _ _ l0_2 a1_0 _ _ l1_1 _ _ l1_2 true _ ?f2 ?f3 ?f4 ?f5 ?k9 ?l3 ?l4 ?l5 A3.out).mono ?_); (case f2 => exact cz f9.out HB.out); (case f3 => exact f7.out); (case f4 => exact cz g0.out HB.out); (case f5 => exact f8.out); (case k9 => exact cz g6.out HB.out); (case l3 => exact g4.out); (case l4 => exact cz g7.out HB.out); (case l5 => exact g5.out); rintro e g1 ⟨rfl, hb⟩; have a7 := Aside0.mk (blk_below (bz a0.out) hb); have a8 := Aside0.mk (blk_below (bz a1.out) hb); have a9 := Aside0.mk (below_step (wz HB.out) hb); clear a0; clear a1; clear HB; have a0 := a7; have a1 := a8; have HB := a9; clear a7 a8 a9; (try clear hb); (try clear f6); (try clear hk); (try clear hi); have h4 : g1.cell? ⟨a2, 0, none⟩ = some (.int .i64 a0_0) := bcz a0 0 rfl; have h5 : g1.cell? ⟨a2, 1, none⟩ = some (.slice A0_1 l0_1.length c0_1) := bcz a0 1 rfl; have h6 : g1.cell? ⟨a2, 2, none⟩ = some (.slice A0_2 l0_2.length c0_2) := bcz a0 2 rfl; have j5 := blk_frozen a0.out 0; have j6 := blk_frozen a0.out 1; have j7 := blk_frozen a0.out 2; have h7 : g1.cell? ⟨a3, 0, none⟩ = some (.int .i64 a1_0) := bcz a1 0 rfl; have h8 : g1.cell? ⟨a3, 1, none⟩ = some (.slice A1_1 l1_1.length c1_1) := bcz a1 1 rfl; have h9 : g1.cell? ⟨a3, 2, none⟩ = some (.slice A1_2 l1_2.length c1_2) := bcz a1 2 rfl; have j8 := blk_frozen a1.out 0; have j9 := blk_frozen a1.out 1; have k0 := blk_frozen a1.out 2) | (go_at_call 56; (with_reducible refine (Pxg.calls k a0_0 _ _ l0_1 _ _ l0_2 a1_0 _ _ l1_1 _ _ l1_2 d4 d2 d3 l7 _ ?f2 ?f3 ?f4 ?f5 ?k9 ?l3 ?l4 ?l5 A5.out).mono ?_); (case f2 => exact cz f9.out HB.out); (case f3 => exact f7.out); (case f4 => exact cz g0.out HB.out); (case f5 => exact f8.out); (case k9 => exact cz g6.out HB.out); (case l3 => exact g4.out); (case l4 => exact cz g7.out HB.out); (case l5 => exact g5.out); rintro e z1 ⟨y4, y5, rfl, e3, q7, hb⟩; have a7 := Aside0.mk (Kd.R_lower e3 (below_size (wz HB.out))); have a8 := Aside0.mk (Kd.R_lower q7 (below_size (wz HB.out))); have a9 := Aside0.mk (blk_below (bz a0.out) hb); have b1 := Aside0.mk (blk_below (bz a1.out) hb); have b3 := Aside0.mk (below_step (wz HB.out) hb); clear a0; clear a1; clear HB; have d5 := a7; have d6 := a8; have a0 := a9; have a1 := b1; have HB := b3; clear a7 a8 a9 b1 b3; (try clear hb); (try clear f6); (try clear hk); (try clear hi); (try clear e3); (try clear q7)) | ((with_reducible refine gate_dst (N := 5) rfl ?_); (try (refine gate_guard (by rfl) ?_; dsimp only)); refine box_event ?hg (N := 5) ?hd (cs := #[.int .i64 0, .slice none 0 0, .slice none 0 0]) (t := 25) ?hr ?_; (case hd => rfl); (case hg => rfl); (case hr => first | (go_simp; done) | (go_simp; rfl)); intro b0 hg g2 hbox hb; have a7 := Aside0.mk (Kd.R_below (rz d5.out) hb); have a8 := Aside0.mk (Kd.R_below (rz d6.out) hb); have a9 := Aside0.mk (blk_below (bz a0.out) hb); have b1 := Aside0.mk (blk_below (bz a1.out) hb); have b3 := Aside0.mk (below_step (wz HB.out) hb); have b8 := Aside0.mk (hbox); have b9 := Aside0.mk ((by rw [hg]; exact (below_size (wz HB.out)) : w.heap.size ≤ b0)); have e9 := Aside0.mk ((by rw [hg]; exact (below_size (wz HB.out)) : w.heap.size ≤ b0)); have q8 := Aside0.mk ((by rw [hg]; exact Nat.ne_of_lt (blk_lt (g := a2) (o := .cells #[.int .i64 a0_0, .slice A0_1 l0_1.length c0_1, .slice A0_2 l0_2.length c0_2] 25 (0, 0)) (bz a0.out)) : a2 ≠ b0)); have q9 := Aside0.mk ((by rw [hg]; exact Nat.ne_of_gt (blk_lt (g := a2) (o := .cells #[.int .i64 a0_0, .slice A0_1 l0_1.length c0_1, .slice A0_2 l0_2.length c0_2] 25 (0, 0)) (bz a0.out)) : b0 ≠ a2)); have m3 := Aside0.mk ((by rw [hg]; exact Nat.ne_of_lt (blk_lt (g := a3) (o := .cells #[.int .i64 a1_0, .slice A1_1 l1_1.length c1_1, .slice A1_2 l1_2.length c1_2] 25 (0, 0)) (bz a1.out)) : a3 ≠ b0)); have m4 := Aside0.mk ((by rw [hg]; exact Nat.ne_of_gt (blk_lt (g := a3) (o := .cells #[.int .i64 a1_0, .slice A1_1 l1_1.length c1_1, .slice A1_2 l1_2.length c1_2] 25 (0, 0)) (bz a1.out)) : b0 ≠ a3)); clear d5; clear d6; clear a0; clear a1; clear HB; have d5 := a7; have d6 := a8; have a0 := a9; have a1 := b1; have HB := b3; have a4 := b8; have v1 := b9; have v0 := e9; have d9 := q8; have e8 := q9; have d7 := m3; have e0 := m4; clear a7 a8 a9 b1 b3 b8 b9 e9 q8 q9 m3 m4; clear hb hbox hg; have w2 := e8.out; have w6 := d9.out; have w3 := e0.out; have w7 := d7.out; have i0 : g2.cell? ⟨b0, 0, none⟩ = some (.int .i64 0) := bcz a4 0 rfl; have i1 : g2.cell? ⟨b0, 1, none⟩ = some (.slice none 0 0) := bcz a4 1 rfl; have i2 : g2.cell? ⟨b0, 2, none⟩ = some (.slice none 0 0) := bcz a4 2 rfl; have k1 := blk_frozen a4.out 0; have k2 := blk_frozen a4.out 1; have k5 := blk_frozen a4.out 2; obtain ⟨e1, e2, r7⟩ := Kd.R_slice d5.out; subst r7; obtain ⟨e5, e6, r8⟩ := Kd.R_slice d6.out; subst r8; have i3 : g2.cell? ⟨a2, 0, none⟩ = some (.int .i64 a0_0) := bcz a0 0 rfl; have i4 : g2.cell? ⟨a2, 1, none⟩ = some (.slice A0_1 l0_1.length c0_1) := bcz a0 1 rfl; have i5 : g2.cell? ⟨a2, 2, none⟩ = some (.slice A0_2 l0_2.length c0_2) := bcz a0 2 rfl; have k6 := blk_frozen a0.out 0; have k7 := blk_frozen a0.out 1; have k8 := blk_frozen a0.out 2) | (go_at_call 17; (with_reducible refine (Pra.calls a0_0 _ _ l0_1 _ _ l0_2 b2 r9 _ ?f2 ?f3 ?f4 ?f5 A6.out).mono ?_); (case f2 => exact Kd.C_below f9.out (wz HB.out)); (case f3 => exact f7.out); (case f4 => exact Kd.C_below g0.out (wz HB.out)); (case f5 => exact f8.out); rintro e z2 ⟨l9, rfl, e3, hb⟩; have a7 := Aside0.mk (Kd.R_below (rz (Kd.R_mono (Kd.R_far (p := ⟨b0, 2, none⟩) (Kd.R_far (p := ⟨b0, 1, none⟩) (Kd.R_far (p := ⟨b0, 0, none⟩) (Kd.R_types d5.out a4.out (by decide)) (fun _ hk => hk.2) (.int .i64 d4)) (fun _ hk => hk.2) (.slice e1 d2.length e2)) (fun _ hk => hk.2) (.slice e5 d3.length e6)) (fun _ h_ => h_.1))) hb); have a8 := Aside0.mk (Kd.R_below (rz (Kd.R_mono (Kd.R_far (p := ⟨b0, 2, none⟩) (Kd.R_far (p := ⟨b0, 1, none⟩) (Kd.R_far (p := ⟨b0, 0, none⟩) (Kd.R_types d6.out a4.out (by decide)) (fun _ hk => hk.2) (.int .i64 d4)) (fun _ hk => hk.2) (.slice e1 d2.length e2)) (fun _ hk => hk.2) (.slice e5 d3.length e6)) (fun _ h_ => h_.1))) hb); have a9 := Aside0.mk (Kd.R_lower e3 (below_size (wz HB.out))); have b1 := Aside0.mk (blk_below (g := a2) (o := .cells #[.int .i64 a0_0, .slice A0_1 l0_1.length c0_1, .slice A0_2 l0_2.length c0_2] 25 (0, 0)) (fz a0.out d9.out) hb); have b3 := Aside0.mk (blk_below (g := a3) (o := .cells #[.int .i64 a1_0, .slice A1_1 l1_1.length c1_1, .slice A1_2 l1_2.length c1_2] 25 (0, 0)) (fz a1.out d7.out) hb); have b8 := Aside0.mk (blk_below (g := b0) (o := .cells #[.int .i64 d4, .slice e1 d2.length e2, .slice e5 d3.length e6] 25 (0, 0)) (by (with_reducible repeat (first | refine blk_drewN ?_ _ | refine blk_drew ?_ | refine blk_alloc ?_ _)); refine blk_put (cs := #[.int .i64 d4, .slice e1 d2.length e2, .slice none 0 0]) ?_ 2 _ rfl; (with_reducible repeat (first | refine blk_drewN ?_ _ | refine blk_drew ?_ | refine blk_alloc ?_ _)); refine blk_put (cs := #[.int .i64 d4, .slice none 0 0, .slice none 0 0]) ?_ 1 _ rfl; (with_reducible repeat (first | refine blk_drewN ?_ _ | refine blk_drew ?_ | refine blk_alloc ?_ _)); refine blk_put (cs := #[.int .i64 0, .slice none 0 0, .slice none 0 0]) ?_ 0 _ rfl; (with_reducible repeat (first | refine blk_drewN ?_ _ | refine blk_drew ?_ | refine blk_alloc ?_ _)); exact a4.out) hb); have b9 := Aside0.mk (below_step (wz HB.out) hb); clear d5; clear d6; clear a0; clear a1; clear a4; clear HB; have d5 := a7; have d6 := a8; have r0 := a9; have a0 := b1; have a1 := b3; have a4 := b8; have HB := b9; clear a7 a8 a9 b1 b3 b8 b9; (try clear hb); (try clear f6); (try clear hk); (try clear hi); (try clear e3))); go_upto_region 5 with (first | ((with_reducible refine gate_dst (N := 2) rfl ?_); (try (refine gate_guard (by rfl) ?_; dsimp only)); refine box_event ?hg (N := 2) ?hd (cs := #[.int .i64 a0_0, .slice A0_1 l0_1.length c0_1, .slice A0_2 l0_2.length c0_2]) (t := 25) ?hr ?_; (case hd => rfl); (case hg => rfl); (case hr => first | (go_simp; done) | (go_simp; rfl)); intro a2 hg w8 hbox hb; have a7 := Aside0.mk (below_step (wz HB.out) hb); have a8 := Aside0.mk (hbox); have a9 := Aside0.mk ((by rw [hg]; exact (below_size (wz HB.out)) : w.heap.size ≤ a2)); have b1 := Aside0.mk ((by rw [hg]; exact (below_size (wz HB.out)) : w.heap.size ≤ a2)); clear HB; have HB := a7; have a0 := a8; have n5 := a9; have n3 := b1; clear a7 a8 a9 b1; clear hb hbox hg) | ((with_reducible refine gate_dst (N := 3) rfl ?_); (try (refine gate_guard (by rfl) ?_; dsimp only)); refine box_event ?hg (N := 3) ?hd (cs := #[.int .i64 a1_0, .slice A1_1 l1_1.length c1_1, .slice A1_2 l1_2.length c1_2]) (t := 25) ?hr ?_; (case hd => rfl); (case hg => rfl); (case hr => first | (go_simp; done) | (go_simp; rfl)); intro a3 hg w9 hbox hb; have a7 := Aside0.mk (blk_below (bz a0.out) hb); have a8 := Aside0.mk (below_step (wz HB.out) hb); have a9 := Aside0.mk (hbox); have b1 := Aside0.mk ((by rw [hg]; exact (below_size (wz HB.out)) : w.heap.size ≤ a3)); have b3 := Aside0.mk ((by rw [hg]; exact (below_size (wz HB.out)) : w.heap.size ≤ a3)); have b8 := Aside0.mk ((by rw [hg]; exact Nat.ne_of_lt (blk_lt (g := a2) (o := .cells #[.int .i64 a0_0, .slice A0_1 l0_1.length c0_1, .slice A0_2 l0_2.length c0_2] 25 (0, 0)) (bz a0.out)) : a2 ≠ a3)); have b9 := Aside0.mk ((by rw [hg]; exact Nat.ne_of_gt (blk_lt (g := a2) (o := .cells #[.int .i64 a0_0, .slice A0_1 l0_1.length c0_1, .slice A0_2 l0_2.length c0_2] 25 (0, 0)) (bz a0.out)) : a3 ≠ a2)); clear a0; clear HB; have a0 := a7; have HB := a8; have a1 := a9; have n6 := b1; have n4 := b3; have d0 := b8; have d1 := b9; clear a7 a8 a9 b1 b3 b8 b9; clear hb hbox hg; have w0 := d0.out; have w5 := d1.out; have g8 : w9.cell? ⟨a2, 0, none⟩ = some (.int .i64 a0_0) := bcz a0 0 rfl; have g9 : w9.cell? ⟨a2, 1, none⟩ = some (.slice A0_1 l0_1.length c0_1) := bcz a0 1 rfl; have h0 : w9.cell? ⟨a2, 2, none⟩ = some (.slice A0_2 l0_2.length c0_2) := bcz a0 2 rfl; have i7 := blk_frozen a0.out 0; have i8 := blk_frozen a0.out 1; have i9 := blk_frozen a0.out 2; have h1 : w9.cell? ⟨a3, 0, none⟩ = some (.int .i64 a1_0) := bcz a1 0 rfl; have h2 : w9.cell? ⟨a3, 1, none⟩ = some (.slice A1_1 l1_1.length c1_1) := bcz a1 1 rfl; have h3 : w9.cell? ⟨a3, 2, none⟩ = some (.slice A1_2 l1_2.length c1_2) := bcz a1 2 rfl; have j2 := blk_frozen a1.out 0; have j3 := blk_frozen a1.out 1; have j4 := blk_frozen a1.out 2) | (go_at_call 54; (with_reducible refine (Pl50c.calls a0_0 _ _ l0_1 _ _ l0_2 a1_0 _ _ l1_1 _ _ l1_2 true _ ?f2 ?f3 ?f4 ?f5 ?k9 ?l3 ?l4 ?l5 A3.out).mono ?_); (case f2 => exact cz f9.out HB.out); (case f3 => exact f7.out); (case f4 => exact cz g0.out HB.out); (case f5 => exact f8.out); (case k9 => exact cz g6.out HB.out); (case l3 => exact g4.out); (case l4 => exact cz g7.out HB.out); (case l5 => exact g5.out); rintro e g1 ⟨rfl, hb⟩; have a7 := Aside0.mk (blk_below (bz a0.out) hb); have a8 := Aside0.mk (blk_below (bz a1.out) hb); have a9 := Aside0.mk (below_step (wz HB.out) hb); clear a0; clear a1; clear HB; have a0 := a7; have a1 := a8; have HB := a9; clear a7 a8 a9; (try clear hb); (try clear f6); (try clear hk); (try clear hi); have h4 : g1.cell? ⟨a2, 0, none⟩ = some (.int .i64 a0_0) := bcz a0 0 rfl; have h5 : g1.cell? ⟨a2, 1, none⟩ = some (.slice A0_1 l0_1.length c0_1) := bcz a0 1 rfl; have h6 : g1.cell? ⟨a2, 2, none⟩ = some (.slice A0_2 l0_2.length c0_2) := bcz a0 2 rfl; have j5 := blk_frozen a0.out 0; have j6 := blk_frozen a0.out 1; have j7 := blk_frozen a0.out 2; have h7 : g1.cell? ⟨a3, 0, none⟩ = some (.int .i64 a1_0) := bcz a1 0 rfl; have h8 : g1.cell? ⟨a3, 1, none⟩ = some (.slice A1_1 l1_1.length c1_1) := bcz a1 1 rfl; have h9 : g1.cell? ⟨a3, 2, none⟩ = some (.slice A1_2 l1_2.length c1_2) := bcz a1 2 rfl; have j8 := blk_frozen a1.out 0; have j9 := blk_frozen a1.out 1; have k0 := blk_frozen a1.out 2) | (go_at_call 56; (with_reducible refine (Pxg.calls k a0_0 _ _ l0_1 _ _ l0_2 a1_0 _ _ l1_1 _ _ l1_2 d4 d2 d3 l7 _ ?f2 ?f3 ?f4 ?f5 ?k9 ?l3 ?l4 ?l5 A5.out).mono ?_); (case f2 => exact cz f9.out HB.out); (case f3 => exact f7.out); (case f4 => exact cz g0.out HB.out); (case f5 => exact f8.out); (case k9 => exact cz g6.out HB.out); (case l3 => exact g4.out); (case l4 => exact cz g7.out HB.out); (case l5 => exact g5.out); rintro e z1 ⟨y4, y5, rfl, e3, q7, hb⟩; have a7 := Aside0.mk (Kd.R_lower e3 (below_size (wz HB.out))); have a8 := Aside0.mk (Kd.R_lower q7 (below_size (wz HB.out))); have a9 := Aside0.mk (blk_below (bz a0.out) hb); have b1 := Aside0.mk (blk_below (bz a1.out) hb); have b3 := Aside0.mk (below_step (wz HB.out) hb); clear a0; clear a1; clear HB; have d5 := a7; have d6 := a8; have a0 := a9; have a1 := b1; have HB := b3; clear a7 a8 a9 b1 b3; (try clear hb); (try clear f6); (try clear hk); (try clear hi); (try clear e3); (try clear q7)) | ((with_reducible refine gate_dst (N := 5) rfl ?_); (try (refine gate_guard (by rfl) ?_; dsimp only)); refine box_event ?hg (N := 5) ?hd (cs := #[.int .i64 0, .slice none 0 0, .slice none 0 0]) (t := 25) ?hr ?_; (case hd => rfl); (case hg => rfl); (case hr => first | (go_simp; done) | (go_simp; rfl)); intro b0 hg g2 hbox hb; have a7 := Aside0.mk (Kd.R_below (rz d5.out) hb); have a8 := Aside0.mk (Kd.R_below (rz d6.out) hb); have a9 := Aside0.mk (blk_below (bz a0.out) hb); have b1 := Aside0.mk (blk_below (bz a1.out) hb); have b3 := Aside0.mk (below_step (wz HB.out) hb); have b8 := Aside0.mk (hbox); have b9 := Aside0.mk ((by rw [hg]; exact (below_size (wz HB.out)) : w.heap.size ≤ b0)); have e9 := Aside0.mk ((by rw [hg]; exact (below_size (wz HB.out)) : w.heap.size ≤ b0)); have q8 := Aside0.mk ((by rw [hg]; exact Nat.ne_of_lt (blk_lt (g := a2) (o := .cells #[.int .i64 a0_0, .slice A0_1 l0_1.length c0_1, .slice A0_2 l0_2.length c0_2] 25 (0, 0)) (bz a0.out)) : a2 ≠ b0)); have q9 := Aside0.mk ((by rw [hg]; exact Nat.ne_of_gt (blk_lt (g := a2) (o := .cells #[.int .i64 a0_0, .slice A0_1 l0_1.length c0_1, .slice A0_2 l0_2.length c0_2] 25 (0, 0)) (bz a0.out)) : b0 ≠ a2)); have m3 := Aside0.mk ((by rw [hg]; exact Nat.ne_of_lt (blk_lt (g := a3) (o := .cells #[.int .i64 a1_0, .slice A1_1 l1_1.length c1_1, .slice A1_2 l1_2.length c1_2] 25 (0, 0)) (bz a1.out)) : a3 ≠ b0)); have m4 := Aside0.mk ((by rw [hg]; exact Nat.ne_of_gt (blk_lt (g := a3) (o := .cells #[.int .i64 a1_0, .slice A1_1 l1_1.length c1_1, .slice A1_2 l1_2.length c1_2] 25 (0, 0)) (bz a1.out)) : b0 ≠ a3)); clear d5; clear d6; clear a0; clear a1; clear HB; have d5 := a7; have d6 := a8; have a0 := a9; have a1 := b1; have HB := b3; have a4 := b8; have v1 := b9; have v0 := e9; have d9 := q8; have e8 := q9; have d7 := m3; have e0 := m4; clear a7 a8 a9 b1 b3 b8 b9 e9 q8 q9 m3 m4; clear hb hbox hg; have w2 := e8.out; have w6 := d9.out; have w3 := e0.out; have w7 := d7.out; have i0 : g2.cell? ⟨b0, 0, none⟩ = some (.int .i64 0) := bcz a4 0 rfl; have i1 : g2.cell? ⟨b0, 1, none⟩ = some (.slice none 0 0) := bcz a4 1 rfl; have i2 : g2.cell? ⟨b0, 2, none⟩ = some (.slice none 0 0) := bcz a4 2 rfl; have k1 := blk_frozen a4.out 0; have k2 := blk_frozen a4.out 1; have k5 := blk_frozen a4.out 2; obtain ⟨e1, e2, r7⟩ := Kd.R_slice d5.out; subst r7; obtain ⟨e5, e6, r8⟩ := Kd.R_slice d6.out; subst r8; have i3 : g2.cell? ⟨a2, 0, none⟩ = some (.int .i64 a0_0) := bcz a0 0 rfl; have i4 : g2.cell? ⟨a2, 1, none⟩ = some (.slice A0_1 l0_1.length c0_1) := bcz a0 1 rfl; have i5 : g2.cell? ⟨a2, 2, none⟩ = some (.slice A0_2 l0_2.length c0_2) := bcz a0 2 rfl; have k6 := blk_frozen a0.out 0; have k7 := blk_frozen a0.out 1; have k8 := blk_frozen a0.out 2) | (go_at_call 17; (with_reducible refine (Pra.calls a0_0 _ _ l0_1 _ _ l0_2 b2 r9 _ ?f2 ?f3 ?f4 ?f5 A6.out).mono ?_); (case f2 => exact Kd.C_below f9.out (wz HB.out)); (case f3 => exact f7.out); (case f4 => exact Kd.C_below g0.out (wz HB.out)); (case f5 => exact f8.out); rintro e z2 ⟨l9, rfl, e3, hb⟩; have a7 := Aside0.mk (Kd.R_below (rz (Kd.R_mono (Kd.R_far (p := ⟨b0, 2, none⟩) (Kd.R_far (p := ⟨b0, 1, none⟩) (Kd.R_far (p := ⟨b0, 0, none⟩) (Kd.R_types d5.out a4.out (by decide)) (fun _ hk => hk.2) (.int .i64 d4)) (fun _ hk => hk.2) (.slice e1 d2.length e2)) (fun _ hk => hk.2) (.slice e5 d3.length e6)) (fun _ h_ => h_.1))) hb); have a8 := Aside0.mk (Kd.R_below (rz (Kd.R_mono (Kd.R_far (p := ⟨b0, 2, none⟩) (Kd.R_far (p := ⟨b0, 1, none⟩) (Kd.R_far (p := ⟨b0, 0, none⟩) (Kd.R_types d6.out a4.out (by decide)) (fun _ hk => hk.2) (.int .i64 d4)) (fun _ hk => hk.2) (.slice e1 d2.length e2)) (fun _ hk => hk.2) (.slice e5 d3.length e6)) (fun _ h_ => h_.1))) hb); have a9 := Aside0.mk (Kd.R_lower e3 (below_size (wz HB.out))); have b1 := Aside0.mk (blk_below (g := a2) (o := .cells #[.int .i64 a0_0, .slice A0_1 l0_1.length c0_1, .slice A0_2 l0_2.length c0_2] 25 (0, 0)) (fz a0.out d9.out) hb); have b3 := Aside0.mk (blk_below (g := a3) (o := .cells #[.int .i64 a1_0, .slice A1_1 l1_1.length c1_1, .slice A1_2 l1_2.length c1_2] 25 (0, 0)) (fz a1.out d7.out) hb); have b8 := Aside0.mk (blk_below (g := b0) (o := .cells #[.int .i64 d4, .slice e1 d2.length e2, .slice e5 d3.length e6] 25 (0, 0)) (by (with_reducible repeat (first | refine blk_drewN ?_ _ | refine blk_drew ?_ | refine blk_alloc ?_ _)); refine blk_put (cs := #[.int .i64 d4, .slice e1 d2.length e2, .slice none 0 0]) ?_ 2 _ rfl; (with_reducible repeat (first | refine blk_drewN ?_ _ | refine blk_drew ?_ | refine blk_alloc ?_ _)); refine blk_put (cs := #[.int .i64 d4, .slice none 0 0, .slice none 0 0]) ?_ 1 _ rfl; (with_reducible repeat (first | refine blk_drewN ?_ _ | refine blk_drew ?_ | refine blk_alloc ?_ _)); refine blk_put (cs := #[.int .i64 0, .slice none 0 0, .slice none 0 0]) ?_ 0 _ rfl; (with_reducible repeat (first | refine blk_drewN ?_ _ | refine blk_drew ?_ | refine blk_alloc ?_ _)); exact a4.out) hb); have b9 := Aside0.mk (below_step (wz HB.out) hb); clear d5; clear d6; clear a0; clear a1; clear a4; clear HB; have d5 := a7; have d6 := a8; have r0 := a9; have a0 := b1; have a1 := b3; have a4 := b8; have HB := b9; clear a7 a8 a9 b1 b3 b8 b9; (try clear hb); (try clear f6); (try clear hk); (try clear hi); (try clear e3))))
  (try simp only [Act.put, qz1, qz2, qz3])
  go_cut [34] (fun D3 wc => ∃ (kq : Nat) (r1 : Bool), D3 = .bool r1 ∧ Aside0 (Pl50a.j0 kq b2 r1 a0_0 l0_1 l0_2 a1_0 l1_1 l1_2 d4 d2 d3 = some r) ∧ Aside0 (kq ≤ k) ∧ Aside0 (Kd.R (Kd.int .i64) 3 wc w.heap.size (fun _ => True) l9 b2) ∧ Aside0 (Kd.R Kd.string 9 wc w.heap.size (fun _ => True) (.slice e1 d2.length e2) d2) ∧ Aside0 (Kd.R k80 80 wc w.heap.size (fun _ => True) (.slice e5 d3.length e6) d3) ∧ Aside0 (wc.heap[a2]? = some (.cells #[.int .i64 a0_0, (.slice A0_1 l0_1.length c0_1), (.slice A0_2 l0_2.length c0_2)] 25 (0, 0))) ∧ Aside0 (wc.heap[a3]? = some (.cells #[.int .i64 a1_0, (.slice A1_1 l1_1.length c1_1), (.slice A1_2 l1_2.length c1_2)] 25 (0, 0))) ∧ Aside0 (wc.heap[b0]? = some (.cells #[.int .i64 d4, (.slice e1 d2.length e2), (.slice e5 d3.length e6)] 25 (0, 0))) ∧ Aside0 (Below w.heap.size w wc))
  case first =>
   have H := y2.out;clear y2;by_cases m2 : l7 = 0
   ·rw [if_pos m2] at H;have c25b0 : (l7 == 0) = true := beq_iff_eq.mpr m2;have c25b1 : (l7 != 0) = false := bne_eq_false_iff_eq.mpr m2;clear m2
    (first | rw [c25b0] | (simp only [i64_w, i32_w]; rw [c25b0]) | skip)
    have H' := Aside0.mk H;clear H;go_wp2
    repeat (go_quiet (fail); try go_wp2)
    go_meet
    case rel => exact ⟨_, ((r9 != 0)), (by first | rfl | (simp; done) | (simp [*]; done)), H', ⟨by first | omega | exact Nat.le_refl _⟩, ⟨rz r0.out⟩, ⟨rz d5.out⟩, ⟨rz d6.out⟩, ⟨bz a0.out⟩, ⟨bz a1.out⟩, ⟨bz a4.out⟩, ⟨wz HB.out⟩⟩
   ·rw [if_neg m2] at H;have c25b0 : (l7 == 0) = false := beq_eq_false_iff_ne.mpr m2;have c25b1 : (l7 != 0) = true := bne_iff_ne.mpr m2
    (first | rw [c25b0] | (simp only [i64_w, i32_w]; rw [c25b0]) | skip)
    have H' := Aside0.mk H;clear H;go_wp2
    repeat (go_quiet (fail); try go_wp2)
    go_meet
    case rel => exact ⟨_, (true), (by first | rfl | (simp; done) | (simp [*]; done)), H', ⟨by first | omega | exact Nat.le_refl _⟩, ⟨rz r0.out⟩, ⟨rz d5.out⟩, ⟨rz d6.out⟩, ⟨bz a0.out⟩, ⟨bz a1.out⟩, ⟨bz a4.out⟩, ⟨wz HB.out⟩⟩
  case rest =>
   clear y2;(try clear c4);(try clear m2);(try clear c25b0);(try clear c25b1);(try clear g8);(try clear g9);(try clear h0);(try clear h1);(try clear h2);(try clear h3);(try clear h4);(try clear h5);(try clear h6);(try clear h7);(try clear h8);(try clear h9);(try clear i0);(try clear i1);(try clear i2);(try clear i3);(try clear i4);(try clear i5);(try clear i7);(try clear i8);(try clear i9);(try clear j2);(try clear j3);(try clear j4);(try clear j5);(try clear j6);(try clear j7);(try clear j8);(try clear j9);(try clear k0);(try clear k1);(try clear k2);(try clear k5);(try clear k6);(try clear k7);(try clear k8);obtain ⟨kq, r1, rfl, HA, m1, b6, a5, a6, a0, a1, a4, HB⟩ := hcut
   cases kq with
   | zero => exact absurd HA.out (by simp [Pl50a.j0])
   | succ kj6 =>
    have H := HA.out;clear HA;simp only [Pl50a.j0] at H;by_cases r2 : r1 = true
    ·subst r2;have H1 : ((Pl50b.f kj6).bind fun q3 => (some q3)) = some r := by rw [if_pos rfl] at H; exact H
     clear H;have H := H1;clear H1;replace H := Option.bind_eq_some_iff.mp H;obtain ⟨q3, x4, H⟩ := H;replace H : (some q3) = some r := H;have x3 := Aside0.mk x4;clear x4;obtain rfl := Option.some.inj H;go_wp2_with (first | (go_at_call 55; (with_reducible refine (Pl50b.calls kj6  q3 _ x3.out hr_).mono ?_); rintro e z3 ⟨rfl, hb⟩; have a7 := Aside0.mk (Kd.R_below (rz b6.out) hb); have a8 := Aside0.mk (Kd.R_below (rz a5.out) hb); have a9 := Aside0.mk (Kd.R_below (rz a6.out) hb); have b1 := Aside0.mk (blk_below (bz a0.out) hb); have b3 := Aside0.mk (blk_below (bz a1.out) hb); have b8 := Aside0.mk (blk_below (bz a4.out) hb); have b9 := Aside0.mk (below_step (wz HB.out) hb); clear b6; clear a5; clear a6; clear a0; clear a1; clear a4; clear HB; have b6 := a7; have a5 := a8; have a6 := a9; have a0 := b1; have a1 := b3; have a4 := b8; have HB := b9; clear a7 a8 a9 b1 b3 b8 b9; (try clear hb); (try clear f6); (try clear hk); (try clear hi)))
     repeat (go_quiet (first | (go_at_call 55; (with_reducible refine (Pl50b.calls kj6  q3 _ x3.out hr_).mono ?_); rintro e z3 ⟨rfl, hb⟩; have a7 := Aside0.mk (Kd.R_below (rz b6.out) hb); have a8 := Aside0.mk (Kd.R_below (rz a5.out) hb); have a9 := Aside0.mk (Kd.R_below (rz a6.out) hb); have b1 := Aside0.mk (blk_below (bz a0.out) hb); have b3 := Aside0.mk (blk_below (bz a1.out) hb); have b8 := Aside0.mk (blk_below (bz a4.out) hb); have b9 := Aside0.mk (below_step (wz HB.out) hb); clear b6; clear a5; clear a6; clear a0; clear a1; clear a4; clear HB; have b6 := a7; have a5 := a8; have a6 := a9; have a0 := b1; have a1 := b3; have a4 := b8; have HB := b9; clear a7 a8 a9 b1 b3 b8 b9; (try clear hb); (try clear f6); (try clear hk); (try clear hi))); try go_wp2_with (first | (go_at_call 55; (with_reducible refine (Pl50b.calls kj6  q3 _ x3.out hr_).mono ?_); rintro e z3 ⟨rfl, hb⟩; have a7 := Aside0.mk (Kd.R_below (rz b6.out) hb); have a8 := Aside0.mk (Kd.R_below (rz a5.out) hb); have a9 := Aside0.mk (Kd.R_below (rz a6.out) hb); have b1 := Aside0.mk (blk_below (bz a0.out) hb); have b3 := Aside0.mk (blk_below (bz a1.out) hb); have b8 := Aside0.mk (blk_below (bz a4.out) hb); have b9 := Aside0.mk (below_step (wz HB.out) hb); clear b6; clear a5; clear a6; clear a0; clear a1; clear a4; clear HB; have b6 := a7; have a5 := a8; have a6 := a9; have a0 := b1; have a1 := b3; have a4 := b8; have HB := b9; clear a7 a8 a9 b1 b3 b8 b9; (try clear hb); (try clear f6); (try clear hk); (try clear hi))))
     go_ret
     exact ⟨by first | rfl | (simp [errW_none, errW_some] <;> rfl) | (simp [*, errW_none, errW_some] <;> rfl), wz HB.out⟩
    ·replace r2 := Bool.eq_false_iff.mpr r2;subst r2;have H1 : ((Pra.f d4 d2 d3).bind fun n7 => (if n7.2 = 0 then (if (b2.length : Int) = a0_0 then (Pl50a.j1 kj6 b2 n7.1 ((n7.1.length : Int) != (wrap64 (a0_0 * a1_0))) a1_0 l1_1 l1_2) else (Pl50a.j1 kj6 b2 n7.1 true a1_0 l1_1 l1_2)) else (Pl50a.j1 kj6 b2 n7.1 true a1_0 l1_1 l1_2))) = some r := by rw [if_neg (show ¬ (false = true) by decide)] at H; exact H
     clear H;have H := H1;clear H1;replace H := Option.bind_eq_some_iff.mp H;obtain ⟨⟨b7, l8⟩, x6, H⟩ := H;replace H : (if l8 = 0 then (if (b2.length : Int) = a0_0 then (Pl50a.j1 kj6 b2 b7 ((b7.length : Int) != (wrap64 (a0_0 * a1_0))) a1_0 l1_1 l1_2) else (Pl50a.j1 kj6 b2 b7 true a1_0 l1_1 l1_2)) else (Pl50a.j1 kj6 b2 b7 true a1_0 l1_1 l1_2)) = some r := H;have x5 := Aside0.mk x6;clear x6;have u3 := Aside0.mk H;clear H;have D5 := e8.out;have E8 := d9.out;have D6 := e0.out;have E9 := d7.out;have n9 : wc.cell? ⟨b0, 0, none⟩ = some (.int .i64 d4) := bcz a4 0 rfl;have o0 : wc.cell? ⟨b0, 1, none⟩ = some (.slice e1 d2.length e2) := bcz a4 1 rfl;have o1 : wc.cell? ⟨b0, 2, none⟩ = some (.slice e5 d3.length e6) := bcz a4 2 rfl;have p1 := blk_frozen a4.out 0;have p2 := blk_frozen a4.out 1;have p3 := blk_frozen a4.out 2;go_upto_region 8 with (first | (go_at_call 17; (with_reducible refine (Pra.calls d4 _ _ d2 _ _ d3 b7 l8 _ ?f2 ?f3 ?f4 ?f5 x5.out).mono ?_); (case f2 => repeat (first | exact (Kd.R_reads' a5.out).2.2 | (with_reducible refine Kd.C_alloc ?_ _) | (with_reducible refine Kd.C_drewN ?_ _) | (with_reducible refine Kd.C_drew ?_))); (case f3 => exact (Kd.R_reads' a5.out).2.1); (case f4 => repeat (first | exact (Kd.R_reads' a6.out).2.2 | (with_reducible refine Kd.C_alloc ?_ _) | (with_reducible refine Kd.C_drewN ?_ _) | (with_reducible refine Kd.C_drew ?_))); (case f5 => exact (Kd.R_reads' a6.out).2.1); rintro e m5 ⟨q4, rfl, e3, hb⟩; have a7 := Aside0.mk (Kd.R_elder' (rz b6.out) (Kd.R_base e3) hb); have a8 := Aside0.mk (Kd.R_below (rz a5.out) hb); have a9 := Aside0.mk (Kd.R_below (rz a6.out) hb); have b1 := Aside0.mk (Kd.R_lower (Kd.R_new' e3 (Kd.R_lt (rz b6.out))) (below_size (wz HB.out))); have b3 := Aside0.mk (blk_below (bz a0.out) hb); have b8 := Aside0.mk (blk_below (bz a1.out) hb); have b9 := Aside0.mk (blk_below (bz a4.out) hb); have e9 := Aside0.mk (below_step (wz HB.out) hb); clear b6; clear a5; clear a6; clear a0; clear a1; clear a4; clear HB; have b6 := a7; have a5 := a8; have a6 := a9; have m6 := b1; have a0 := b3; have a1 := b8; have a4 := b9; have HB := e9; clear a7 a8 a9 b1 b3 b8 b9 e9; (try clear hb); (try clear f6); (try clear hk); (try clear hi); (try clear e3)))
     repeat (go_quiet (first | (go_at_call 17; (with_reducible refine (Pra.calls d4 _ _ d2 _ _ d3 b7 l8 _ ?f2 ?f3 ?f4 ?f5 x5.out).mono ?_); (case f2 => repeat (first | exact (Kd.R_reads' a5.out).2.2 | (with_reducible refine Kd.C_alloc ?_ _) | (with_reducible refine Kd.C_drewN ?_ _) | (with_reducible refine Kd.C_drew ?_))); (case f3 => exact (Kd.R_reads' a5.out).2.1); (case f4 => repeat (first | exact (Kd.R_reads' a6.out).2.2 | (with_reducible refine Kd.C_alloc ?_ _) | (with_reducible refine Kd.C_drewN ?_ _) | (with_reducible refine Kd.C_drew ?_))); (case f5 => exact (Kd.R_reads' a6.out).2.1); rintro e m5 ⟨q4, rfl, e3, hb⟩; have a7 := Aside0.mk (Kd.R_elder' (rz b6.out) (Kd.R_base e3) hb); have a8 := Aside0.mk (Kd.R_below (rz a5.out) hb); have a9 := Aside0.mk (Kd.R_below (rz a6.out) hb); have b1 := Aside0.mk (Kd.R_lower (Kd.R_new' e3 (Kd.R_lt (rz b6.out))) (below_size (wz HB.out))); have b3 := Aside0.mk (blk_below (bz a0.out) hb); have b8 := Aside0.mk (blk_below (bz a1.out) hb); have b9 := Aside0.mk (blk_below (bz a4.out) hb); have e9 := Aside0.mk (below_step (wz HB.out) hb); clear b6; clear a5; clear a6; clear a0; clear a1; clear a4; clear HB; have b6 := a7; have a5 := a8; have a6 := a9; have m6 := b1; have a0 := b3; have a1 := b8; have a4 := b9; have HB := e9; clear a7 a8 a9 b1 b3 b8 b9 e9; (try clear hb); (try clear f6); (try clear hk); (try clear hi); (try clear e3))); go_upto_region 8 with (first | (go_at_call 17; (with_reducible refine (Pra.calls d4 _ _ d2 _ _ d3 b7 l8 _ ?f2 ?f3 ?f4 ?f5 x5.out).mono ?_); (case f2 => repeat (first | exact (Kd.R_reads' a5.out).2.2 | (with_reducible refine Kd.C_alloc ?_ _) | (with_reducible refine Kd.C_drewN ?_ _) | (with_reducible refine Kd.C_drew ?_))); (case f3 => exact (Kd.R_reads' a5.out).2.1); (case f4 => repeat (first | exact (Kd.R_reads' a6.out).2.2 | (with_reducible refine Kd.C_alloc ?_ _) | (with_reducible refine Kd.C_drewN ?_ _) | (with_reducible refine Kd.C_drew ?_))); (case f5 => exact (Kd.R_reads' a6.out).2.1); rintro e m5 ⟨q4, rfl, e3, hb⟩; have a7 := Aside0.mk (Kd.R_elder' (rz b6.out) (Kd.R_base e3) hb); have a8 := Aside0.mk (Kd.R_below (rz a5.out) hb); have a9 := Aside0.mk (Kd.R_below (rz a6.out) hb); have b1 := Aside0.mk (Kd.R_lower (Kd.R_new' e3 (Kd.R_lt (rz b6.out))) (below_size (wz HB.out))); have b3 := Aside0.mk (blk_below (bz a0.out) hb); have b8 := Aside0.mk (blk_below (bz a1.out) hb); have b9 := Aside0.mk (blk_below (bz a4.out) hb); have e9 := Aside0.mk (below_step (wz HB.out) hb); clear b6; clear a5; clear a6; clear a0; clear a1; clear a4; clear HB; have b6 := a7; have a5 := a8; have a6 := a9; have m6 := b1; have a0 := b3; have a1 := b8; have a4 := b9; have HB := e9; clear a7 a8 a9 b1 b3 b8 b9 e9; (try clear hb); (try clear f6); (try clear hk); (try clear hi); (try clear e3))))
     (try simp only [Act.put, qz1, qz2, qz3])
     go_cut [59] (fun D4 wc => ∃ (kq : Nat) (n8 : Bool), D4 = .bool n8 ∧ Aside0 (Pl50a.j1 kq b2 b7 n8 a1_0 l1_1 l1_2 = some r) ∧ Aside0 (kq ≤ kj6) ∧ Aside0 (Kd.R (Kd.int .i64) 3 wc w.heap.size (fun k_ => some k_ ≠ (q4 : Value).ownBlock) l9 b2) ∧ Aside0 (Kd.R (Kd.int .i64) 3 wc w.heap.size (fun k_ => some k_ ≠ (l9 : Value).ownBlock) q4 b7) ∧ Aside0 (Kd.R Kd.string 9 wc w.heap.size (fun _ => True) (.slice e1 d2.length e2) d2) ∧ Aside0 (Kd.R k80 80 wc w.heap.size (fun _ => True) (.slice e5 d3.length e6) d3) ∧ Aside0 (wc.heap[a2]? = some (.cells #[.int .i64 a0_0, (.slice A0_1 l0_1.length c0_1), (.slice A0_2 l0_2.length c0_2)] 25 (0, 0))) ∧ Aside0 (wc.heap[a3]? = some (.cells #[.int .i64 a1_0, (.slice A1_1 l1_1.length c1_1), (.slice A1_2 l1_2.length c1_2)] 25 (0, 0))) ∧ Aside0 (wc.heap[b0]? = some (.cells #[.int .i64 d4, (.slice e1 d2.length e2), (.slice e5 d3.length e6)] 25 (0, 0))) ∧ Aside0 (Below w.heap.size w wc))
     case first =>
      have H := u3.out;clear u3;by_cases m7 : l8 = 0
      ·rw [if_pos m7] at H;have c35b0 : (l8 == 0) = true := beq_iff_eq.mpr m7;have c35b1 : (l8 != 0) = false := bne_eq_false_iff_eq.mpr m7;clear m7
       (first | rw [c35b0] | (simp only [i64_w, i32_w]; rw [c35b0]) | skip)
       by_cases m8 : (b2.length : Int) = a0_0
       ·rw [if_pos m8] at H;have c36b0 : ((b2.length : Int) == a0_0) = true := beq_iff_eq.mpr m8;have c36b1 : ((b2.length : Int) != a0_0) = false := bne_eq_false_iff_eq.mpr m8;clear m8;have H' := Aside0.mk H;clear H;obtain ⟨G3, G9, A0⟩ := Kd.R_slice b6.out;subst A0;have D7 := d0.out;have F0 := d1.out;have D8 := d9.out;have F1 := e8.out;have o2 : m5.cell? ⟨a2, 0, none⟩ = some (.int .i64 a0_0) := bcz a0 0 rfl;have o3 : m5.cell? ⟨a2, 1, none⟩ = some (.slice A0_1 l0_1.length c0_1) := bcz a0 1 rfl;have o4 : m5.cell? ⟨a2, 2, none⟩ = some (.slice A0_2 l0_2.length c0_2) := bcz a0 2 rfl;have p4 := blk_frozen a0.out 0;have p5 := blk_frozen a0.out 1;have p6 := blk_frozen a0.out 2;obtain ⟨G4, H0, A1⟩ := Kd.R_slice m6.out;subst A1;have D9 := d7.out;have F2 := e0.out;have o5 : m5.cell? ⟨a3, 0, none⟩ = some (.int .i64 a1_0) := bcz a1 0 rfl;have o6 : m5.cell? ⟨a3, 1, none⟩ = some (.slice A1_1 l1_1.length c1_1) := bcz a1 1 rfl;have o7 : m5.cell? ⟨a3, 2, none⟩ = some (.slice A1_2 l1_2.length c1_2) := bcz a1 2 rfl;have p7 := blk_frozen a1.out 0;have p8 := blk_frozen a1.out 1;have p9 := blk_frozen a1.out 2;go_wp2
        repeat (go_quiet (fail); try go_wp2)
        go_meet
        case rel => exact ⟨_, (((b7.length : Int) != (wrap64 (a0_0 * a1_0)))), (by first | rfl | (simp; done) | (simp [*]; done)), H', ⟨by have := m1.out; first | omega | exact Nat.le_refl _⟩, ⟨rz (Kd.R_mono b6.out (fun _ hk => hk.2))⟩, ⟨rz (Kd.R_mono m6.out (fun _ hk => hk.2))⟩, ⟨rz a5.out⟩, ⟨rz a6.out⟩, ⟨bz a0.out⟩, ⟨bz a1.out⟩, ⟨bz a4.out⟩, ⟨wz HB.out⟩⟩
       ·rw [if_neg m8] at H;have c36b0 : ((b2.length : Int) == a0_0) = false := beq_eq_false_iff_ne.mpr m8;have c36b1 : ((b2.length : Int) != a0_0) = true := bne_iff_ne.mpr m8;have H' := Aside0.mk H;clear H;obtain ⟨G5, H2, A2⟩ := Kd.R_slice b6.out;subst A2;have E0 := d0.out;have F3 := d1.out;have E1 := d9.out;have F4 := e8.out;have o8 : m5.cell? ⟨a2, 0, none⟩ = some (.int .i64 a0_0) := bcz a0 0 rfl;have o9 : m5.cell? ⟨a2, 1, none⟩ = some (.slice A0_1 l0_1.length c0_1) := bcz a0 1 rfl;have p0 : m5.cell? ⟨a2, 2, none⟩ = some (.slice A0_2 l0_2.length c0_2) := bcz a0 2 rfl;have q0 := blk_frozen a0.out 0;have q1 := blk_frozen a0.out 1;have q2 := blk_frozen a0.out 2;go_wp2
        repeat (go_quiet (fail); try go_wp2)
        go_meet
        case rel => exact ⟨_, (true), (by first | rfl | (simp; done) | (simp [*]; done)), H', ⟨by have := m1.out; first | omega | exact Nat.le_refl _⟩, ⟨rz (Kd.R_mono b6.out (fun _ hk => hk.2))⟩, ⟨rz (Kd.R_mono m6.out (fun _ hk => hk.2))⟩, ⟨rz a5.out⟩, ⟨rz a6.out⟩, ⟨bz a0.out⟩, ⟨bz a1.out⟩, ⟨bz a4.out⟩, ⟨wz HB.out⟩⟩
      ·rw [if_neg m7] at H;have c35b0 : (l8 == 0) = false := beq_eq_false_iff_ne.mpr m7;have c35b1 : (l8 != 0) = true := bne_iff_ne.mpr m7
       (first | rw [c35b0] | (simp only [i64_w, i32_w]; rw [c35b0]) | skip)
       have H' := Aside0.mk H;clear H;go_wp2
       repeat (go_quiet (fail); try go_wp2)
       go_meet
       case rel => exact ⟨_, (true), (by first | rfl | (simp; done) | (simp [*]; done)), H', ⟨by have := m1.out; first | omega | exact Nat.le_refl _⟩, ⟨rz (Kd.R_mono b6.out (fun _ hk => hk.2))⟩, ⟨rz (Kd.R_mono m6.out (fun _ hk => hk.2))⟩, ⟨rz a5.out⟩, ⟨rz a6.out⟩, ⟨bz a0.out⟩, ⟨bz a1.out⟩, ⟨bz a4.out⟩, ⟨wz HB.out⟩⟩
     case rest =>
      clear u3;(try clear c4);(try clear m2);(try clear c25b0);(try clear c25b1);(try clear r2);(try clear m7);(try clear c35b0);(try clear c35b1);(try clear m8);(try clear c36b0);(try clear c36b1);(try clear g8);(try clear g9);(try clear h0);(try clear h1);(try clear h2);(try clear h3);(try clear h4);(try clear h5);(try clear h6);(try clear h7);(try clear h8);(try clear h9);(try clear i0);(try clear i1);(try clear i2);(try clear i3);(try clear i4);(try clear i5);(try clear n9);(try clear o0);(try clear o1);(try clear o2);(try clear o3);(try clear o4);(try clear o5);(try clear o6);(try clear o7);(try clear o8);(try clear o9);(try clear p0);(try clear i7);(try clear i8);(try clear i9);(try clear j2);(try clear j3);(try clear j4);(try clear j5);(try clear j6);(try clear j7);(try clear j8);(try clear j9);(try clear k0);(try clear k1);(try clear k2);(try clear k5);(try clear k6);(try clear k7);(try clear k8);(try clear p1);(try clear p2);(try clear p3);(try clear p4);(try clear p5);(try clear p6);(try clear p7);(try clear p8);(try clear p9);(try clear q0);(try clear q1);(try clear q2);obtain ⟨kq, n8, rfl, HA, m0, b6, e4, a5, a6, a0, a1, a4, HB⟩ := hcut
      cases kq with
      | zero => exact absurd HA.out (by simp [Pl50a.j1])
      | succ kj29 =>
       have H := HA.out;clear HA;simp only [Pl50a.j1] at H;by_cases s0 : n8 = true
       ·subst s0;have H1 : (some false) = some r := by rw [if_pos rfl] at H; exact H
        clear H;have H := H1;clear H1;obtain rfl := Option.some.inj H;exact absurd hr_.out (by decide)
       ·replace s0 := Bool.eq_false_iff.mpr s0;subst s0;have H1 : (Pl50a.l0 kj29 b2 b7 0 a1_0 l1_1 l1_2) = some r := by rw [if_neg (show ¬ (false = true) by decide)] at H; exact H
        clear H;have H := H1;clear H1;have H' := Aside0.mk H;clear H;go_wp2
        repeat (go_quiet (fail); try go_wp2)
        go_loopg [11] kj29 (fun kq D1 w' => ∃ (b5 : Int), D1 = .int .i64 b5 ∧ Aside0 (Pl50a.l0 kq b2 b7 b5 a1_0 l1_1 l1_2 = some r) ∧ Aside0 (kq ≤ kj29) ∧ Aside0 (Kd.R (Kd.int .i64) 3 w' w.heap.size (fun k_ => some k_ ≠ (q4 : Value).ownBlock) l9 b2) ∧ Aside0 (Kd.R (Kd.int .i64) 3 w' w.heap.size (fun k_ => some k_ ≠ (l9 : Value).ownBlock) q4 b7) ∧ Aside0 (Kd.R Kd.string 9 w' w.heap.size (fun _ => True) (.slice e1 d2.length e2) d2) ∧ Aside0 (Kd.R k80 80 w' w.heap.size (fun _ => True) (.slice e5 d3.length e6) d3) ∧ Aside0 (w'.heap[a2]? = some (.cells #[.int .i64 a0_0, (.slice A0_1 l0_1.length c0_1), (.slice A0_2 l0_2.length c0_2)] 25 (0, 0))) ∧ Aside0 (w'.heap[a3]? = some (.cells #[.int .i64 a1_0, (.slice A1_1 l1_1.length c1_1), (.slice A1_2 l1_2.length c1_2)] 25 (0, 0))) ∧ Aside0 (w'.heap[b0]? = some (.cells #[.int .i64 d4, (.slice e1 d2.length e2), (.slice e5 d3.length e6)] 25 (0, 0))) ∧ Aside0 (Below w.heap.size w w'))
        case atStart => exact ⟨(0), (by first | rfl | (simp; done) | (simp [*]; done)), H', ⟨Nat.le_refl _⟩, ⟨rz b6.out⟩, ⟨rz e4.out⟩, ⟨rz a5.out⟩, ⟨rz a6.out⟩, ⟨bz a0.out⟩, ⟨bz a1.out⟩, ⟨bz a4.out⟩, ⟨wz HB.out⟩⟩
        case round =>
         clear H';(try clear c4);(try clear m2);(try clear c25b0);(try clear c25b1);(try clear r2);(try clear m7);(try clear c35b0);(try clear c35b1);(try clear m8);(try clear c36b0);(try clear c36b1);(try clear s0);(try clear g8);(try clear g9);(try clear h0);(try clear h1);(try clear h2);(try clear h3);(try clear h4);(try clear h5);(try clear h6);(try clear h7);(try clear h8);(try clear h9);(try clear i0);(try clear i1);(try clear i2);(try clear i3);(try clear i4);(try clear i5);(try clear n9);(try clear o0);(try clear o1);(try clear o2);(try clear o3);(try clear o4);(try clear o5);(try clear o6);(try clear o7);(try clear o8);(try clear o9);(try clear p0);(try clear i7);(try clear i8);(try clear i9);(try clear j2);(try clear j3);(try clear j4);(try clear j5);(try clear j6);(try clear j7);(try clear j8);(try clear j9);(try clear k0);(try clear k1);(try clear k2);(try clear k5);(try clear k6);(try clear k7);(try clear k8);(try clear p1);(try clear p2);(try clear p3);(try clear p4);(try clear p5);(try clear p6);(try clear p7);(try clear p8);(try clear p9);(try clear q0);(try clear q1);(try clear q2);obtain ⟨b5, rfl, HA, q5, b6, e4, a5, a6, a0, a1, a4, HB⟩ := hrel
         cases gk with
         | zero => exact absurd HA.out (by simp [Pl50a.l0])
         | succ k3 =>
          have H := HA.out;clear HA;simp only [Pl50a.l0] at H;by_cases r3 : b5 < (b7.length : Int)
          ·rw [if_pos r3] at H;have c49b0 : decide (b5 < (b7.length : Int)) = true := decide_eq_true r3;clear r3;have H' := Aside0.mk H;clear H;obtain ⟨y1, y3, A4⟩ := Kd.R_slice e4.out;subst A4;go_wp2
           repeat (go_quiet (fail); try go_wp2)
           go_loopg [12] k3 (fun kq D2 w' => ∃ (b4 : Int), D2 = .int .i64 b4 ∧ Aside0 (Pl50a.l1 kq b2 b7 b5 b4 a1_0 l1_1 l1_2 = some r) ∧ Aside0 (kq ≤ k3) ∧ Aside0 (Kd.R (Kd.int .i64) 3 w' w.heap.size (fun k_ => some k_ ≠ ((.slice y1 b7.length y3) : Value).ownBlock) l9 b2) ∧ Aside0 (Kd.R (Kd.int .i64) 3 w' w.heap.size (fun k_ => some k_ ≠ (l9 : Value).ownBlock) (.slice y1 b7.length y3) b7) ∧ Aside0 (Kd.R Kd.string 9 w' w.heap.size (fun _ => True) (.slice e1 d2.length e2) d2) ∧ Aside0 (Kd.R k80 80 w' w.heap.size (fun _ => True) (.slice e5 d3.length e6) d3) ∧ Aside0 (w'.heap[a2]? = some (.cells #[.int .i64 a0_0, (.slice A0_1 l0_1.length c0_1), (.slice A0_2 l0_2.length c0_2)] 25 (0, 0))) ∧ Aside0 (w'.heap[a3]? = some (.cells #[.int .i64 a1_0, (.slice A1_1 l1_1.length c1_1), (.slice A1_2 l1_2.length c1_2)] 25 (0, 0))) ∧ Aside0 (w'.heap[b0]? = some (.cells #[.int .i64 d4, (.slice e1 d2.length e2), (.slice e5 d3.length e6)] 25 (0, 0))) ∧ Aside0 (Below w.heap.size w w'))
           case atStart => exact ⟨(0), (by first | rfl | (simp; done) | (simp [*]; done)), H', ⟨Nat.le_refl _⟩, ⟨rz b6.out⟩, ⟨rz e4.out⟩, ⟨rz a5.out⟩, ⟨rz a6.out⟩, ⟨bz a0.out⟩, ⟨bz a1.out⟩, ⟨bz a4.out⟩, ⟨wz HB.out⟩⟩
           case round =>
            clear H';(try clear c4);(try clear m2);(try clear c25b0);(try clear c25b1);(try clear r2);(try clear m7);(try clear c35b0);(try clear c35b1);(try clear m8);(try clear c36b0);(try clear c36b1);(try clear s0);(try clear r3);(try clear c49b0);(try clear g8);(try clear g9);(try clear h0);(try clear h1);(try clear h2);(try clear h3);(try clear h4);(try clear h5);(try clear h6);(try clear h7);(try clear h8);(try clear h9);(try clear i0);(try clear i1);(try clear i2);(try clear i3);(try clear i4);(try clear i5);(try clear n9);(try clear o0);(try clear o1);(try clear o2);(try clear o3);(try clear o4);(try clear o5);(try clear o6);(try clear o7);(try clear o8);(try clear o9);(try clear p0);(try clear i7);(try clear i8);(try clear i9);(try clear j2);(try clear j3);(try clear j4);(try clear j5);(try clear j6);(try clear j7);(try clear j8);(try clear j9);(try clear k0);(try clear k1);(try clear k2);(try clear k5);(try clear k6);(try clear k7);(try clear k8);(try clear p1);(try clear p2);(try clear p3);(try clear p4);(try clear p5);(try clear p6);(try clear p7);(try clear p8);(try clear p9);(try clear q0);(try clear q1);(try clear q2);obtain ⟨b4, rfl, HA, q6, b6, e4, a5, a6, a0, a1, a4, HB⟩ := hrel
            cases gk with
            | zero => exact absurd HA.out (by simp [Pl50a.l1])
            | succ k4 =>
             have H := HA.out;clear HA;simp only [Pl50a.l1] at H;by_cases s1 : b4 < b5
             ·rw [if_pos s1] at H;have c51b0 : decide (b4 < b5) = true := decide_eq_true s1;clear s1;by_cases c52 : a1_0 = 0
              ·rw [if_pos c52] at H;exact absurd H (by simp)
              ·rw [if_neg c52] at H;have c52b0 : (a1_0 == 0) = false := beq_eq_false_iff_ne.mpr c52;have c52b1 : (a1_0 != 0) = true := bne_iff_ne.mpr c52;by_cases r4 : (Int.tmod b5 a1_0) = (Int.tmod b4 a1_0)
               ·rw [if_pos r4] at H;have c53b0 : ((Int.tmod b5 a1_0) == (Int.tmod b4 a1_0)) = true := beq_iff_eq.mpr r4;have c53b1 : ((Int.tmod b5 a1_0) != (Int.tmod b4 a1_0)) = false := bne_eq_false_iff_eq.mpr r4;clear r4;obtain ⟨e7, t9⟩ : ∃ j_ : Int, (wrap64 (Int.tdiv b5 a1_0)) = j_ := ⟨_, rfl⟩
                replace H : (if 0 ≤ (e7) then (if (e7) < (b2.length : Int) then (if 0 ≤ (wrap64 (Int.tdiv b4 a1_0)) then (if (wrap64 (Int.tdiv b4 a1_0)) < (b2.length : Int) then (if (rd b2 (e7)) = (rd b2 (wrap64 (Int.tdiv b4 a1_0))) then (if 0 ≤ b5 then (if b5 < (b7.length : Int) then (if 0 ≤ b4 then (if b4 < (b7.length : Int) then (if (rd b7 b5) = (rd b7 b4) then (Pl50a.l1 k4 b2 b7 b5 (wrap64 (b4 + 1)) a1_0 l1_1 l1_2) else (some false)) else (none)) else (none)) else (none)) else (none)) else (Pl50a.l1 k4 b2 b7 b5 (wrap64 (b4 + 1)) a1_0 l1_1 l1_2)) else (none)) else (none)) else (none)) else (none)) = some r := by first | (rw [t9] at H; exact H) | (simp only [t9] at H ⊢; exact H)
                have hji54w : (IntKind.i64.wrap (Int.tdiv b5 a1_0)) = e7 := (i64_w _).trans t9;by_cases v2 : 0 ≤ (e7)
                ·rw [if_pos v2] at H;have c55b0 : decide (0 ≤ (e7)) = true := decide_eq_true v2;clear v2;by_cases v3 : (e7) < (b2.length : Int)
                 ·rw [if_pos v3] at H;have c56b0 : decide ((e7) < (b2.length : Int)) = true := decide_eq_true v3;clear v3;obtain ⟨f1, u0⟩ : ∃ j_ : Int, (wrap64 (Int.tdiv b4 a1_0)) = j_ := ⟨_, rfl⟩
                  replace H : (if 0 ≤ (f1) then (if (f1) < (b2.length : Int) then (if (rd b2 (e7)) = (rd b2 (f1)) then (if 0 ≤ b5 then (if b5 < (b7.length : Int) then (if 0 ≤ b4 then (if b4 < (b7.length : Int) then (if (rd b7 b5) = (rd b7 b4) then (Pl50a.l1 k4 b2 b7 b5 (wrap64 (b4 + 1)) a1_0 l1_1 l1_2) else (some false)) else (none)) else (none)) else (none)) else (none)) else (Pl50a.l1 k4 b2 b7 b5 (wrap64 (b4 + 1)) a1_0 l1_1 l1_2)) else (none)) else (none)) = some r := by first | (rw [u0] at H; exact H) | (simp only [u0] at H ⊢; exact H)
                  have hji57w : (IntKind.i64.wrap (Int.tdiv b4 a1_0)) = f1 := (i64_w _).trans u0;by_cases v4 : 0 ≤ (f1)
                  ·rw [if_pos v4] at H;have c58b0 : decide (0 ≤ (f1)) = true := decide_eq_true v4;clear v4;by_cases v5 : (f1) < (b2.length : Int)
                   ·rw [if_pos v5] at H;have c59b0 : decide ((f1) < (b2.length : Int)) = true := decide_eq_true v5;clear v5;by_cases r5 : (rd b2 (e7)) = (rd b2 (f1))
                    ·rw [if_pos r5] at H;have c60b0 : ((rd b2 (e7)) == (rd b2 (f1))) = true := beq_iff_eq.mpr r5;have c60b1 : ((rd b2 (e7)) != (rd b2 (f1))) = false := bne_eq_false_iff_eq.mpr r5;clear r5;by_cases v6 : 0 ≤ b5
                     ·rw [if_pos v6] at H;have c61b0 : decide (0 ≤ b5) = true := decide_eq_true v6;clear v6;by_cases v7 : b5 < (b7.length : Int)
                      ·rw [if_pos v7] at H;have c62b0 : decide (b5 < (b7.length : Int)) = true := decide_eq_true v7;clear v7;by_cases v8 : 0 ≤ b4
                       ·rw [if_pos v8] at H;have c63b0 : decide (0 ≤ b4) = true := decide_eq_true v8;clear v8;by_cases v9 : b4 < (b7.length : Int)
                        ·rw [if_pos v9] at H;have c64b0 : decide (b4 < (b7.length : Int)) = true := decide_eq_true v9;clear v9;by_cases r6 : (rd b7 b5) = (rd b7 b4)
                         ·rw [if_pos r6] at H;have c65b0 : ((rd b7 b5) == (rd b7 b4)) = true := beq_iff_eq.mpr r6;have c65b1 : ((rd b7 b5) != (rd b7 b4)) = false := bne_eq_false_iff_eq.mpr r6;clear r6;have H' := Aside0.mk H;clear H;have E2 := d1.out;have F5 := d0.out;have E3 := d7.out;have F6 := e0.out;have B0 : wr.cell? ⟨a3, 0, none⟩ = some (.int .i64 a1_0) := bcz a1 0 rfl;have B1 : wr.cell? ⟨a3, 1, none⟩ = some (.slice A1_1 l1_1.length c1_1) := bcz a1 1 rfl;have B2 : wr.cell? ⟨a3, 2, none⟩ = some (.slice A1_2 l1_2.length c1_2) := bcz a1 2 rfl;have C0 := blk_frozen a1.out 0;have C1 := blk_frozen a1.out 1;have C2 := blk_frozen a1.out 2;obtain ⟨G6, H3, A7⟩ := Kd.R_slice b6.out;subst A7;have m9 : 0 ≤ ((e7) : Int) := of_decide_eq_true (by first | (with_reducible assumption) | assumption);have n1 : (e7) < (b2.length : Int) := of_decide_eq_true (by first | (with_reducible assumption) | assumption);obtain ⟨t7, u4, x1⟩ := Kd.at_int (Kd.R_reads' b6.out).2.2 (e7) m9 n1
                          cases u4;replace m9 := eq_true m9;replace n1 := eq_true n1;have n0 : 0 ≤ ((f1) : Int) := of_decide_eq_true (by first | (with_reducible assumption) | assumption);have n2 : (f1) < (b2.length : Int) := of_decide_eq_true (by first | (with_reducible assumption) | assumption);obtain ⟨t8, u5, x2⟩ := Kd.at_int (Kd.R_reads' b6.out).2.2 (f1) n0 n2;obtain rfl : t7 = t8 := (by injection u5)
                          replace n0 := eq_true n0;replace n2 := eq_true n2;have u6 : 0 ≤ (b5 : Int) := of_decide_eq_true (by first | (with_reducible assumption) | assumption);have u8 : b5 < (b7.length : Int) := of_decide_eq_true (by first | (with_reducible assumption) | assumption);obtain ⟨y6, z8, C9⟩ := Kd.at_int (Kd.R_reads' e4.out).2.2 b5 u6 u8
                          cases z8;replace u6 := eq_true u6;replace u8 := eq_true u8;have u7 : 0 ≤ (b4 : Int) := of_decide_eq_true (by first | (with_reducible assumption) | assumption);have u9 : b4 < (b7.length : Int) := of_decide_eq_true (by first | (with_reducible assumption) | assumption);obtain ⟨y7, z9, D0⟩ := Kd.at_int (Kd.R_reads' e4.out).2.2 b4 u7 u9;obtain rfl : y6 = y7 := (by injection z9)
                          replace u7 := eq_true u7;replace u9 := eq_true u9;go_wp2
                          repeat (go_quiet (fail); try go_wp2)
                          go_roundg k4
                          case measure => have := m1.out; have := m0.out; have := q5.out; have := q6.out; omega
                          case rel => exact ⟨(wrap64 (b4 + 1)), (by first | rfl | (simp; done) | (simp [*]; done)), H', ⟨by have := m1.out; have := m0.out; have := q5.out; have := q6.out; omega⟩, ⟨rz b6.out⟩, ⟨rz e4.out⟩, ⟨rz a5.out⟩, ⟨rz a6.out⟩, ⟨bz a0.out⟩, ⟨bz a1.out⟩, ⟨bz a4.out⟩, ⟨wz HB.out⟩⟩
                         ·rw [if_neg r6] at H;have c65b0 : ((rd b7 b5) == (rd b7 b4)) = false := beq_eq_false_iff_ne.mpr r6;have c65b1 : ((rd b7 b5) != (rd b7 b4)) = true := bne_iff_ne.mpr r6;obtain rfl := Option.some.inj H;exact absurd hr_.out (by decide)
                        ·rw [if_neg v9] at H;exact absurd H (by simp)
                       ·rw [if_neg v8] at H;exact absurd H (by simp)
                      ·rw [if_neg v7] at H;exact absurd H (by simp)
                     ·rw [if_neg v6] at H;exact absurd H (by simp)
                    ·rw [if_neg r5] at H;have c60b0 : ((rd b2 (e7)) == (rd b2 (f1))) = false := beq_eq_false_iff_ne.mpr r5;have c60b1 : ((rd b2 (e7)) != (rd b2 (f1))) = true := bne_iff_ne.mpr r5;have H' := Aside0.mk H;clear H;have E4 := d1.out;have F7 := d0.out;have E5 := d7.out;have F8 := e0.out;have B4 : wr.cell? ⟨a3, 0, none⟩ = some (.int .i64 a1_0) := bcz a1 0 rfl;have B5 : wr.cell? ⟨a3, 1, none⟩ = some (.slice A1_1 l1_1.length c1_1) := bcz a1 1 rfl;have B6 : wr.cell? ⟨a3, 2, none⟩ = some (.slice A1_2 l1_2.length c1_2) := bcz a1 2 rfl;have C3 := blk_frozen a1.out 0;have C4 := blk_frozen a1.out 1;have C5 := blk_frozen a1.out 2;obtain ⟨G7, H4, A8⟩ := Kd.R_slice b6.out;subst A8;have m9 : 0 ≤ ((e7) : Int) := of_decide_eq_true (by first | (with_reducible assumption) | assumption);have n1 : (e7) < (b2.length : Int) := of_decide_eq_true (by first | (with_reducible assumption) | assumption);obtain ⟨t7, u4, x1⟩ := Kd.at_int (Kd.R_reads' b6.out).2.2 (e7) m9 n1
                     cases u4;replace m9 := eq_true m9;replace n1 := eq_true n1;have n0 : 0 ≤ ((f1) : Int) := of_decide_eq_true (by first | (with_reducible assumption) | assumption);have n2 : (f1) < (b2.length : Int) := of_decide_eq_true (by first | (with_reducible assumption) | assumption);obtain ⟨t8, u5, x2⟩ := Kd.at_int (Kd.R_reads' b6.out).2.2 (f1) n0 n2;obtain rfl : t7 = t8 := (by injection u5)
                     replace n0 := eq_true n0;replace n2 := eq_true n2;go_wp2
                     repeat (go_quiet (fail); try go_wp2)
                     go_roundg k4
                     case measure => have := m1.out; have := m0.out; have := q5.out; have := q6.out; omega
                     case rel => exact ⟨(wrap64 (b4 + 1)), (by first | rfl | (simp; done) | (simp [*]; done)), H', ⟨by have := m1.out; have := m0.out; have := q5.out; have := q6.out; omega⟩, ⟨rz b6.out⟩, ⟨rz e4.out⟩, ⟨rz a5.out⟩, ⟨rz a6.out⟩, ⟨bz a0.out⟩, ⟨bz a1.out⟩, ⟨bz a4.out⟩, ⟨wz HB.out⟩⟩
                   ·rw [if_neg v5] at H;exact absurd H (by simp)
                  ·rw [if_neg v4] at H;exact absurd H (by simp)
                 ·rw [if_neg v3] at H;exact absurd H (by simp)
                ·rw [if_neg v2] at H;exact absurd H (by simp)
               ·rw [if_neg r4] at H;have c53b0 : ((Int.tmod b5 a1_0) == (Int.tmod b4 a1_0)) = false := beq_eq_false_iff_ne.mpr r4;have c53b1 : ((Int.tmod b5 a1_0) != (Int.tmod b4 a1_0)) = true := bne_iff_ne.mpr r4;have H' := Aside0.mk H;clear H;have E6 := d1.out;have F9 := d0.out;have E7 := d7.out;have G0 := e0.out;have B7 : wr.cell? ⟨a3, 0, none⟩ = some (.int .i64 a1_0) := bcz a1 0 rfl;have B8 : wr.cell? ⟨a3, 1, none⟩ = some (.slice A1_1 l1_1.length c1_1) := bcz a1 1 rfl;have B9 : wr.cell? ⟨a3, 2, none⟩ = some (.slice A1_2 l1_2.length c1_2) := bcz a1 2 rfl;have C6 := blk_frozen a1.out 0;have C7 := blk_frozen a1.out 1;have C8 := blk_frozen a1.out 2;go_wp2
                repeat (go_quiet (fail); try go_wp2)
                go_roundg k4
                case measure => have := m1.out; have := m0.out; have := q5.out; have := q6.out; omega
                case rel => exact ⟨(wrap64 (b4 + 1)), (by first | rfl | (simp; done) | (simp [*]; done)), H', ⟨by have := m1.out; have := m0.out; have := q5.out; have := q6.out; omega⟩, ⟨rz b6.out⟩, ⟨rz e4.out⟩, ⟨rz a5.out⟩, ⟨rz a6.out⟩, ⟨bz a0.out⟩, ⟨bz a1.out⟩, ⟨bz a4.out⟩, ⟨wz HB.out⟩⟩
             ·rw [if_neg s1] at H;have c51b0 : decide (b4 < b5) = false := decide_eq_false s1;clear s1;have H' := Aside0.mk H;clear H;go_wp2
              repeat (go_quiet (fail); try go_wp2)
              go_roundg k4
              case measure => have := m1.out; have := m0.out; have := q5.out; have := q6.out; omega
              case rel => exact ⟨(wrap64 (b5 + 1)), (by first | rfl | (simp; done) | (simp [*]; done)), H', ⟨by have := m1.out; have := m0.out; have := q5.out; have := q6.out; omega⟩, ⟨rz b6.out⟩, ⟨rz e4.out⟩, ⟨rz a5.out⟩, ⟨rz a6.out⟩, ⟨bz a0.out⟩, ⟨bz a1.out⟩, ⟨bz a4.out⟩, ⟨wz HB.out⟩⟩
          ·rw [if_neg r3] at H;have c49b0 : decide (b5 < (b7.length : Int)) = false := decide_eq_false r3;clear r3;replace H := Option.bind_eq_some_iff.mp H;obtain ⟨u2, x8, H⟩ := H;replace H : (some u2) = some r := H;have x7 := Aside0.mk x8;clear x8;obtain rfl := Option.some.inj H;obtain ⟨G8, H5, A9⟩ := Kd.R_slice e4.out;subst A9;go_wp2_with (first | (go_at_call 55; (with_reducible refine (Pl50b.calls k3  u2 _ x7.out hr_).mono ?_); rintro e z4 ⟨rfl, hb⟩; have a7 := Aside0.mk (Kd.R_below (rz b6.out) hb); have a8 := Aside0.mk (Kd.R_below (rz e4.out) hb); have a9 := Aside0.mk (Kd.R_below (rz a5.out) hb); have b1 := Aside0.mk (Kd.R_below (rz a6.out) hb); have b3 := Aside0.mk (blk_below (bz a0.out) hb); have b8 := Aside0.mk (blk_below (bz a1.out) hb); have b9 := Aside0.mk (blk_below (bz a4.out) hb); have e9 := Aside0.mk (below_step (wz HB.out) hb); clear b6; clear e4; clear a5; clear a6; clear a0; clear a1; clear a4; clear HB; have b6 := a7; have e4 := a8; have a5 := a9; have a6 := b1; have a0 := b3; have a1 := b8; have a4 := b9; have HB := e9; clear a7 a8 a9 b1 b3 b8 b9 e9; (try clear hb); (try clear f6); (try clear hk); (try clear hi)))
           repeat (go_quiet (first | (go_at_call 55; (with_reducible refine (Pl50b.calls k3  u2 _ x7.out hr_).mono ?_); rintro e z4 ⟨rfl, hb⟩; have a7 := Aside0.mk (Kd.R_below (rz b6.out) hb); have a8 := Aside0.mk (Kd.R_below (rz e4.out) hb); have a9 := Aside0.mk (Kd.R_below (rz a5.out) hb); have b1 := Aside0.mk (Kd.R_below (rz a6.out) hb); have b3 := Aside0.mk (blk_below (bz a0.out) hb); have b8 := Aside0.mk (blk_below (bz a1.out) hb); have b9 := Aside0.mk (blk_below (bz a4.out) hb); have e9 := Aside0.mk (below_step (wz HB.out) hb); clear b6; clear e4; clear a5; clear a6; clear a0; clear a1; clear a4; clear HB; have b6 := a7; have e4 := a8; have a5 := a9; have a6 := b1; have a0 := b3; have a1 := b8; have a4 := b9; have HB := e9; clear a7 a8 a9 b1 b3 b8 b9 e9; (try clear hb); (try clear f6); (try clear hk); (try clear hi))); try go_wp2_with (first | (go_at_call 55; (with_reducible refine (Pl50b.calls k3  u2 _ x7.out hr_).mono ?_); rintro e z4 ⟨rfl, hb⟩; have a7 := Aside0.mk (Kd.R_below (rz b6.out) hb); have a8 := Aside0.mk (Kd.R_below (rz e4.out) hb); have a9 := Aside0.mk (Kd.R_below (rz a5.out) hb); have b1 := Aside0.mk (Kd.R_below (rz a6.out) hb); have b3 := Aside0.mk (blk_below (bz a0.out) hb); have b8 := Aside0.mk (blk_below (bz a1.out) hb); have b9 := Aside0.mk (blk_below (bz a4.out) hb); have e9 := Aside0.mk (below_step (wz HB.out) hb); clear b6; clear e4; clear a5; clear a6; clear a0; clear a1; clear a4; clear HB; have b6 := a7; have e4 := a8; have a5 := a9; have a6 := b1; have a0 := b3; have a1 := b8; have a4 := b9; have HB := e9; clear a7 a8 a9 b1 b3 b8 b9 e9; (try clear hb); (try clear f6); (try clear hk); (try clear hi))))
           go_ret
           exact ⟨by first | rfl | (simp [errW_none, errW_some] <;> rfl) | (simp [*, errW_none, errW_some] <;> rfl), wz HB.out⟩
 ·replace c4 := Bool.eq_false_iff.mpr c4;subst c4;have H1 : ((Pl50b.f k).bind fun l6 => (some l6)) = some r := by rw [if_neg (show ¬ (false = true) by decide)] at H; exact H
  clear H;have H := H1;clear H1;replace H := Option.bind_eq_some_iff.mp H;obtain ⟨l6, y0, H⟩ := H;replace H : (some l6) = some r := H;have x9 := Aside0.mk y0;clear y0;obtain rfl := Option.some.inj H;go_enter Try.func12, Try.ntmps12
  go_wp2_with (first | ((with_reducible refine gate_dst (N := 2) rfl ?_); (try (refine gate_guard (by rfl) ?_; dsimp only)); refine box_event ?hg (N := 2) ?hd (cs := #[.int .i64 a0_0, .slice A0_1 l0_1.length c0_1, .slice A0_2 l0_2.length c0_2]) (t := 25) ?hr ?_; (case hd => rfl); (case hg => rfl); (case hr => first | (go_simp; done) | (go_simp; rfl)); intro a2 hg z5 hbox hb; have a7 := Aside0.mk (below_step (wz HB.out) hb); have a8 := Aside0.mk (hbox); have a9 := Aside0.mk ((by rw [hg]; exact (below_size (wz HB.out)) : w.heap.size ≤ a2)); have b1 := Aside0.mk ((by rw [hg]; exact (below_size (wz HB.out)) : w.heap.size ≤ a2)); clear HB; have HB := a7; have a0 := a8; have n5 := a9; have n3 := b1; clear a7 a8 a9 b1; clear hb hbox hg) | ((with_reducible refine gate_dst (N := 3) rfl ?_); (try (refine gate_guard (by rfl) ?_; dsimp only)); refine box_event ?hg (N := 3) ?hd (cs := #[.int .i64 a1_0, .slice A1_1 l1_1.length c1_1, .slice A1_2 l1_2.length c1_2]) (t := 25) ?hr ?_; (case hd => rfl); (case hg => rfl); (case hr => first | (go_simp; done) | (go_simp; rfl)); intro a3 hg g3 hbox hb; have a7 := Aside0.mk (blk_below (bz a0.out) hb); have a8 := Aside0.mk (below_step (wz HB.out) hb); have a9 := Aside0.mk (hbox); have b1 := Aside0.mk ((by rw [hg]; exact (below_size (wz HB.out)) : w.heap.size ≤ a3)); have b3 := Aside0.mk ((by rw [hg]; exact (below_size (wz HB.out)) : w.heap.size ≤ a3)); have b8 := Aside0.mk ((by rw [hg]; exact Nat.ne_of_lt (blk_lt (g := a2) (o := .cells #[.int .i64 a0_0, .slice A0_1 l0_1.length c0_1, .slice A0_2 l0_2.length c0_2] 25 (0, 0)) (bz a0.out)) : a2 ≠ a3)); have b9 := Aside0.mk ((by rw [hg]; exact Nat.ne_of_gt (blk_lt (g := a2) (o := .cells #[.int .i64 a0_0, .slice A0_1 l0_1.length c0_1, .slice A0_2 l0_2.length c0_2] 25 (0, 0)) (bz a0.out)) : a3 ≠ a2)); clear a0; clear HB; have a0 := a7; have HB := a8; have a1 := a9; have n6 := b1; have n4 := b3; have d0 := b8; have d1 := b9; clear a7 a8 a9 b1 b3 b8 b9; clear hb hbox hg; have w4 := d0.out; have x0 := d1.out; have s2 : g3.cell? ⟨a2, 0, none⟩ = some (.int .i64 a0_0) := bcz a0 0 rfl; have s3 : g3.cell? ⟨a2, 1, none⟩ = some (.slice A0_1 l0_1.length c0_1) := bcz a0 1 rfl; have s4 : g3.cell? ⟨a2, 2, none⟩ = some (.slice A0_2 l0_2.length c0_2) := bcz a0 2 rfl; have s8 := blk_frozen a0.out 0; have s9 := blk_frozen a0.out 1; have t2 := blk_frozen a0.out 2; have s5 : g3.cell? ⟨a3, 0, none⟩ = some (.int .i64 a1_0) := bcz a1 0 rfl; have s6 : g3.cell? ⟨a3, 1, none⟩ = some (.slice A1_1 l1_1.length c1_1) := bcz a1 1 rfl; have s7 : g3.cell? ⟨a3, 2, none⟩ = some (.slice A1_2 l1_2.length c1_2) := bcz a1 2 rfl; have t4 := blk_frozen a1.out 0; have t5 := blk_frozen a1.out 1; have t6 := blk_frozen a1.out 2) | (go_at_call 54; (with_reducible refine (Pl50c.calls a0_0 _ _ l0_1 _ _ l0_2 a1_0 _ _ l1_1 _ _ l1_2 false _ ?f2 ?f3 ?f4 ?f5 ?k9 ?l3 ?l4 ?l5 A3.out).mono ?_); (case f2 => exact cz f9.out HB.out); (case f3 => exact f7.out); (case f4 => exact cz g0.out HB.out); (case f5 => exact f8.out); (case k9 => exact cz g6.out HB.out); (case l3 => exact g4.out); (case l4 => exact cz g7.out HB.out); (case l5 => exact g5.out); rintro e z6 ⟨rfl, hb⟩; have a7 := Aside0.mk (blk_below (bz a0.out) hb); have a8 := Aside0.mk (blk_below (bz a1.out) hb); have a9 := Aside0.mk (below_step (wz HB.out) hb); clear a0; clear a1; clear HB; have a0 := a7; have a1 := a8; have HB := a9; clear a7 a8 a9; (try clear hb); (try clear f6); (try clear hk); (try clear hi)) | (go_at_call 55; (with_reducible refine (Pl50b.calls k  l6 _ x9.out hr_).mono ?_); rintro e z7 ⟨rfl, hb⟩; have a7 := Aside0.mk (blk_below (bz a0.out) hb); have a8 := Aside0.mk (blk_below (bz a1.out) hb); have a9 := Aside0.mk (below_step (wz HB.out) hb); clear a0; clear a1; clear HB; have a0 := a7; have a1 := a8; have HB := a9; clear a7 a8 a9; (try clear hb); (try clear f6); (try clear hk); (try clear hi)))
  repeat (go_quiet (first | ((with_reducible refine gate_dst (N := 2) rfl ?_); (try (refine gate_guard (by rfl) ?_; dsimp only)); refine box_event ?hg (N := 2) ?hd (cs := #[.int .i64 a0_0, .slice A0_1 l0_1.length c0_1, .slice A0_2 l0_2.length c0_2]) (t := 25) ?hr ?_; (case hd => rfl); (case hg => rfl); (case hr => first | (go_simp; done) | (go_simp; rfl)); intro a2 hg z5 hbox hb; have a7 := Aside0.mk (below_step (wz HB.out) hb); have a8 := Aside0.mk (hbox); have a9 := Aside0.mk ((by rw [hg]; exact (below_size (wz HB.out)) : w.heap.size ≤ a2)); have b1 := Aside0.mk ((by rw [hg]; exact (below_size (wz HB.out)) : w.heap.size ≤ a2)); clear HB; have HB := a7; have a0 := a8; have n5 := a9; have n3 := b1; clear a7 a8 a9 b1; clear hb hbox hg) | ((with_reducible refine gate_dst (N := 3) rfl ?_); (try (refine gate_guard (by rfl) ?_; dsimp only)); refine box_event ?hg (N := 3) ?hd (cs := #[.int .i64 a1_0, .slice A1_1 l1_1.length c1_1, .slice A1_2 l1_2.length c1_2]) (t := 25) ?hr ?_; (case hd => rfl); (case hg => rfl); (case hr => first | (go_simp; done) | (go_simp; rfl)); intro a3 hg g3 hbox hb; have a7 := Aside0.mk (blk_below (bz a0.out) hb); have a8 := Aside0.mk (below_step (wz HB.out) hb); have a9 := Aside0.mk (hbox); have b1 := Aside0.mk ((by rw [hg]; exact (below_size (wz HB.out)) : w.heap.size ≤ a3)); have b3 := Aside0.mk ((by rw [hg]; exact (below_size (wz HB.out)) : w.heap.size ≤ a3)); have b8 := Aside0.mk ((by rw [hg]; exact Nat.ne_of_lt (blk_lt (g := a2) (o := .cells #[.int .i64 a0_0, .slice A0_1 l0_1.length c0_1, .slice A0_2 l0_2.length c0_2] 25 (0, 0)) (bz a0.out)) : a2 ≠ a3)); have b9 := Aside0.mk ((by rw [hg]; exact Nat.ne_of_gt (blk_lt (g := a2) (o := .cells #[.int .i64 a0_0, .slice A0_1 l0_1.length c0_1, .slice A0_2 l0_2.length c0_2] 25 (0, 0)) (bz a0.out)) : a3 ≠ a2)); clear a0; clear HB; have a0 := a7; have HB := a8; have a1 := a9; have n6 := b1; have n4 := b3; have d0 := b8; have d1 := b9; clear a7 a8 a9 b1 b3 b8 b9; clear hb hbox hg; have w4 := d0.out; have x0 := d1.out; have s2 : g3.cell? ⟨a2, 0, none⟩ = some (.int .i64 a0_0) := bcz a0 0 rfl; have s3 : g3.cell? ⟨a2, 1, none⟩ = some (.slice A0_1 l0_1.length c0_1) := bcz a0 1 rfl; have s4 : g3.cell? ⟨a2, 2, none⟩ = some (.slice A0_2 l0_2.length c0_2) := bcz a0 2 rfl; have s8 := blk_frozen a0.out 0; have s9 := blk_frozen a0.out 1; have t2 := blk_frozen a0.out 2; have s5 : g3.cell? ⟨a3, 0, none⟩ = some (.int .i64 a1_0) := bcz a1 0 rfl; have s6 : g3.cell? ⟨a3, 1, none⟩ = some (.slice A1_1 l1_1.length c1_1) := bcz a1 1 rfl; have s7 : g3.cell? ⟨a3, 2, none⟩ = some (.slice A1_2 l1_2.length c1_2) := bcz a1 2 rfl; have t4 := blk_frozen a1.out 0; have t5 := blk_frozen a1.out 1; have t6 := blk_frozen a1.out 2) | (go_at_call 54; (with_reducible refine (Pl50c.calls a0_0 _ _ l0_1 _ _ l0_2 a1_0 _ _ l1_1 _ _ l1_2 false _ ?f2 ?f3 ?f4 ?f5 ?k9 ?l3 ?l4 ?l5 A3.out).mono ?_); (case f2 => exact cz f9.out HB.out); (case f3 => exact f7.out); (case f4 => exact cz g0.out HB.out); (case f5 => exact f8.out); (case k9 => exact cz g6.out HB.out); (case l3 => exact g4.out); (case l4 => exact cz g7.out HB.out); (case l5 => exact g5.out); rintro e z6 ⟨rfl, hb⟩; have a7 := Aside0.mk (blk_below (bz a0.out) hb); have a8 := Aside0.mk (blk_below (bz a1.out) hb); have a9 := Aside0.mk (below_step (wz HB.out) hb); clear a0; clear a1; clear HB; have a0 := a7; have a1 := a8; have HB := a9; clear a7 a8 a9; (try clear hb); (try clear f6); (try clear hk); (try clear hi)) | (go_at_call 55; (with_reducible refine (Pl50b.calls k  l6 _ x9.out hr_).mono ?_); rintro e z7 ⟨rfl, hb⟩; have a7 := Aside0.mk (blk_below (bz a0.out) hb); have a8 := Aside0.mk (blk_below (bz a1.out) hb); have a9 := Aside0.mk (below_step (wz HB.out) hb); clear a0; clear a1; clear HB; have a0 := a7; have a1 := a8; have HB := a9; clear a7 a8 a9; (try clear hb); (try clear f6); (try clear hk); (try clear hi))); try go_wp2_with (first | ((with_reducible refine gate_dst (N := 2) rfl ?_); (try (refine gate_guard (by rfl) ?_; dsimp only)); refine box_event ?hg (N := 2) ?hd (cs := #[.int .i64 a0_0, .slice A0_1 l0_1.length c0_1, .slice A0_2 l0_2.length c0_2]) (t := 25) ?hr ?_; (case hd => rfl); (case hg => rfl); (case hr => first | (go_simp; done) | (go_simp; rfl)); intro a2 hg z5 hbox hb; have a7 := Aside0.mk (below_step (wz HB.out) hb); have a8 := Aside0.mk (hbox); have a9 := Aside0.mk ((by rw [hg]; exact (below_size (wz HB.out)) : w.heap.size ≤ a2)); have b1 := Aside0.mk ((by rw [hg]; exact (below_size (wz HB.out)) : w.heap.size ≤ a2)); clear HB; have HB := a7; have a0 := a8; have n5 := a9; have n3 := b1; clear a7 a8 a9 b1; clear hb hbox hg) | ((with_reducible refine gate_dst (N := 3) rfl ?_); (try (refine gate_guard (by rfl) ?_; dsimp only)); refine box_event ?hg (N := 3) ?hd (cs := #[.int .i64 a1_0, .slice A1_1 l1_1.length c1_1, .slice A1_2 l1_2.length c1_2]) (t := 25) ?hr ?_; (case hd => rfl); (case hg => rfl); (case hr => first | (go_simp; done) | (go_simp; rfl)); intro a3 hg g3 hbox hb; have a7 := Aside0.mk (blk_below (bz a0.out) hb); have a8 := Aside0.mk (below_step (wz HB.out) hb); have a9 := Aside0.mk (hbox); have b1 := Aside0.mk ((by rw [hg]; exact (below_size (wz HB.out)) : w.heap.size ≤ a3)); have b3 := Aside0.mk ((by rw [hg]; exact (below_size (wz HB.out)) : w.heap.size ≤ a3)); have b8 := Aside0.mk ((by rw [hg]; exact Nat.ne_of_lt (blk_lt (g := a2) (o := .cells #[.int .i64 a0_0, .slice A0_1 l0_1.length c0_1, .slice A0_2 l0_2.length c0_2] 25 (0, 0)) (bz a0.out)) : a2 ≠ a3)); have b9 := Aside0.mk ((by rw [hg]; exact Nat.ne_of_gt (blk_lt (g := a2) (o := .cells #[.int .i64 a0_0, .slice A0_1 l0_1.length c0_1, .slice A0_2 l0_2.length c0_2] 25 (0, 0)) (bz a0.out)) : a3 ≠ a2)); clear a0; clear HB; have a0 := a7; have HB := a8; have a1 := a9; have n6 := b1; have n4 := b3; have d0 := b8; have d1 := b9; clear a7 a8 a9 b1 b3 b8 b9; clear hb hbox hg; have w4 := d0.out; have x0 := d1.out; have s2 : g3.cell? ⟨a2, 0, none⟩ = some (.int .i64 a0_0) := bcz a0 0 rfl; have s3 : g3.cell? ⟨a2, 1, none⟩ = some (.slice A0_1 l0_1.length c0_1) := bcz a0 1 rfl; have s4 : g3.cell? ⟨a2, 2, none⟩ = some (.slice A0_2 l0_2.length c0_2) := bcz a0 2 rfl; have s8 := blk_frozen a0.out 0; have s9 := blk_frozen a0.out 1; have t2 := blk_frozen a0.out 2; have s5 : g3.cell? ⟨a3, 0, none⟩ = some (.int .i64 a1_0) := bcz a1 0 rfl; have s6 : g3.cell? ⟨a3, 1, none⟩ = some (.slice A1_1 l1_1.length c1_1) := bcz a1 1 rfl; have s7 : g3.cell? ⟨a3, 2, none⟩ = some (.slice A1_2 l1_2.length c1_2) := bcz a1 2 rfl; have t4 := blk_frozen a1.out 0; have t5 := blk_frozen a1.out 1; have t6 := blk_frozen a1.out 2) | (go_at_call 54; (with_reducible refine (Pl50c.calls a0_0 _ _ l0_1 _ _ l0_2 a1_0 _ _ l1_1 _ _ l1_2 false _ ?f2 ?f3 ?f4 ?f5 ?k9 ?l3 ?l4 ?l5 A3.out).mono ?_); (case f2 => exact cz f9.out HB.out); (case f3 => exact f7.out); (case f4 => exact cz g0.out HB.out); (case f5 => exact f8.out); (case k9 => exact cz g6.out HB.out); (case l3 => exact g4.out); (case l4 => exact cz g7.out HB.out); (case l5 => exact g5.out); rintro e z6 ⟨rfl, hb⟩; have a7 := Aside0.mk (blk_below (bz a0.out) hb); have a8 := Aside0.mk (blk_below (bz a1.out) hb); have a9 := Aside0.mk (below_step (wz HB.out) hb); clear a0; clear a1; clear HB; have a0 := a7; have a1 := a8; have HB := a9; clear a7 a8 a9; (try clear hb); (try clear f6); (try clear hk); (try clear hi)) | (go_at_call 55; (with_reducible refine (Pl50b.calls k  l6 _ x9.out hr_).mono ?_); rintro e z7 ⟨rfl, hb⟩; have a7 := Aside0.mk (blk_below (bz a0.out) hb); have a8 := Aside0.mk (blk_below (bz a1.out) hb); have a9 := Aside0.mk (below_step (wz HB.out) hb); clear a0; clear a1; clear HB; have a0 := a7; have a1 := a8; have HB := a9; clear a7 a8 a9; (try clear hb); (try clear f6); (try clear hk); (try clear hi))))
  go_ret
  exact ⟨by first | rfl | (simp [errW_none, errW_some] <;> rfl) | (simp [*, errW_none, errW_some] <;> rfl), wz HB.out⟩
end Go.Proofs.Ytmcbkmfpmcbdpaa.Pr
set_option linter.unusedVariables false
set_option linter.unusedSimpArgs false
namespace Go.Proofs.Ytmcbkmfpmcbdpaa.H
open Go.RowKit Go.Proofs.Ytmcbkmfpmcbdpaa.Pr Go.Proofs.YtmcbkmfpmcbdpaaW.PrintWords Go.Proofs.Ytmcbkmfpmcbdpaa.Sem Go.Proofs.Ytmcbkmfpmcbdpaa.PL
theorem may_edge {n : Int} {ls : List ByteArray} {es : List Ed} (h : mayR n ls es = true) : ∀ e ∈ es, (0 ≤ e.f0 ∧ e.f0 < n) ∧ (0 ≤ e.f2 ∧ e.f2 < n) ∧ 0 ≤ e.f1 ∧ e.f1 < (ls.length : Int) := fun e he => by
 obtain ⟨k, hk, rfl⟩ := List.getElem_of_mem he
 have := lt_ok h hk
 unfold okAt' at this
 simp only [Bool.and_eq_true, decide_eq_true_eq] at this
 rw [getD_get hk] at this
 exact ⟨this.1, this.2.1, this.2.2.1, this.2.2.2.1⟩
end Go.Proofs.Ytmcbkmfpmcbdpaa.H
set_option linter.unusedVariables false
set_option linter.unusedSimpArgs false
namespace Go.Proofs.Ytmcbkmfpmcbdpaa.H
open Go.RowKit Go.Proofs.Ytmcbkmfpmcbdpaa.Pr Go.Proofs.YtmcbkmfpmcbdpaaW.PrintWords Go.Proofs.Ytmcbkmfpmcbdpaa.Sem Go.Proofs.Ytmcbkmfpmcbdpaa.PL
theorem mul_le {n m : Int} (h1 : 1 ≤ n ∧ n ≤ 255) (h2 : 1 ≤ m ∧ m ≤ 255) : 1 ≤ n * m ∧ n * m ≤ 65025 := by
 constructor
 ·have := Int.mul_le_mul h1.1 h2.1 (by omega) (by omega); omega
 ·have := Int.mul_le_mul h1.2 h2.2 (by omega) (by omega); omega
theorem sortE_mem (es : List Ed) (x : Ed) : x ∈ sortE es ↔ x ∈ es := by
 have := (fold_ins es [] List.Pairwise.nil).2 x
 rw [show sortE es = es.foldl (fun o e => insE e o) [] from rfl, this]
 simp
theorem toList_eq {a b : ByteArray} : a.toList = b.toList ↔ a = b := by
 constructor
 ·intro h
  exact ByteArray.ext (Array.toList_inj.1 (by simpa [ByteArray.toList_eq] using h))
 ·intro h; rw [h]
instance : LawfulBEq ByteArray where
  eq_of_beq {a b} h := by
    have h2 : a.data = b.data := eq_of_beq (show (a.data == b.data) = true from h)
    exact ByteArray.ext h2
  rfl {a} := show (a.data == a.data) = true from beq_self_eq_true _
def plc (ls : List ByteArray) (s : ByteArray) : Int := if s ∈ ls then (ls.idxOf s : Int) else -1
theorem rdS (ls : List ByteArray) {i : Nat} (hi : i < ls.length) : rdOf ByteArray.empty ls (i : Int) = ls[i] := by
 unfold rdOf
 rw [Int.toNat_natCast, getD_get hi]
theorem idxOf_beforeB : ∀ (l : List ByteArray) (k : ByteArray) (j : Nat) (h : j < l.length), j < l.idxOf k → l[j] ≠ k
 | [], _, _, h, _ => by simp at h
 | a :: r, k, j, h, hj => by
  rw [List.idxOf_cons] at hj
  by_cases q : a = k
  ·subst q; simp at hj
  ·rw [show (a == k) = false by simpa using q] at hj
   cases j with
   | zero => simpa using q
   | succ j => simp only [cond_false] at hj; rw [List.getElem_cons_succ]; exact idxOf_beforeB r k j (by simpa using h) (by omega)
theorem plc_at {ls : List ByteArray} {s : ByteArray} {i : Nat} (hi : i < ls.length) (h : ls[i] = s) (hb : ∀ j (hj : j < ls.length), j < i → ls[j] ≠ s) : plc ls s = (i : Int) := by
 unfold plc
 rw [if_pos (h ▸ List.getElem_mem hi)]
 congr 1
 have h1 := List.idxOf_lt_length_of_mem (h ▸ List.getElem_mem hi : s ∈ ls)
 have h2 := List.getElem_idxOf h1
 rcases Nat.lt_trichotomy (ls.idxOf s) i with q | q | q
 ·exact absurd h2 (hb _ h1 q)
 ·exact q
 ·exact absurd h (idxOf_beforeB ls s i hi q)
theorem plc_no {ls : List ByteArray} {s : ByteArray} (hb : ∀ j (hj : j < ls.length), ls[j] ≠ s) : plc ls s = -1 := by
 unfold plc
 rw [if_neg fun h => ?_]
 obtain ⟨j, hj, e⟩ := List.getElem_of_mem h
 exact hb j hj e
theorem index_ev (ls : List ByteArray) (s : ByteArray) (hl : ls.length ≤ 1000000) : Ev (fun k => Pxa.f k ls s) (plc ls s) := by
 have key : ∀ d i : Nat, i + d = ls.length → (∀ j (hj : j < ls.length), j < i → ls[j] ≠ s) → Ev (fun k => Pxa.l0 k ls s (ls.length : Int) (i : Int)) (plc ls s) := by
  intro d
  induction d with
  | zero =>
   intro i h hb
   rw [plc_no fun j hj => hb j hj (by omega)]
   exact Ev.step (fun k => Pxa.l0.eq_2 ..) (Ev.neg (by omega) (Ev.now _))
  | succ d ih =>
   intro i h hb
   have hi : i < ls.length := by omega
   refine Ev.step (fun k => Pxa.l0.eq_2 ..) (Ev.pos (by omega) (Ev.pos (by omega) (Ev.pos (by omega) ?_)))
   rw [rdS ls hi]
   by_cases q : ls[i] = s
   ·rw [plc_at hi q hb]
    exact Ev.pos (toList_eq.2 q.symm) (Ev.now _)
   ·refine Ev.neg (fun h => q (toList_eq.1 h).symm) ?_
    rw [w1n (by omega)]
    refine ih (i + 1) (by omega) fun j hj hji => ?_
    rcases Nat.lt_succ_iff_lt_or_eq.1 hji with h | rfl
    ·exact hb j hj h
    ·exact q
 exact key ls.length 0 (by omega) fun j hj h => by omega
theorem nplace_ev (ls : List ByteArray) (s : ByteArray) (hl : ls.length ≤ 1000000) : Ev (fun k => Pxf.f k ls s) (plc ls s) := Ev.last (index_ev ls s hl)
theorem rdE (es : List Ed) {i : Nat} (hi : i < es.length) : rd_T80 es (i : Int) = es[i] := by
 show es.getD (i : Int).toNat _ = _
 rw [Int.toNat_natCast, getD_get hi]
theorem uniS_snoc (l : List ByteArray) (s : ByteArray) : uniS (l ++ [s]) = insG (lt := slt) s (uniS l) := by simp [uniS, uniG, List.foldl_append]
theorem uniS_len (l : List ByteArray) : (uniS l).length ≤ l.length := by
 induction l using rind with
 | h0 => simp [uniS, uniG]
 | h1 l a ih =>
  rw [uniS_snoc]
  have : ∀ o : List ByteArray, (insG (lt := slt) a o).length ≤ o.length + 1 := by
   intro o
   induction o with
   | nil => simp [insG]
   | cons x r ih =>
    unfold insG
    split
    ·simp
    ·split
     ·simp; omega
     ·simp
  have := this (uniS l)
  simp; omega
theorem ed_eta (e : Ed) : (⟨e.f0, e.f1, e.f2⟩ : Ed) = e := rfl
theorem by_ev (n : Int) (ls : List ByteArray) (es : List Ed) (s : ByteArray) (h1 : ls.length ≤ 1000000) (h2 : es.length ≤ 1000000) : Ev (fun k => Pxh.f k n ls es s) (es.filter (fun e => decide (e.f1 = plc ls s)), decide (plc ls s ≥ 0)) := by
 have key : ∀ d i : Nat, i + d = es.length → ∀ acc : List Ed, acc.length ≤ i → Ev (fun k => Pxh.l0 k (plc ls s) acc es (es.length : Int) (i : Int)) (acc ++ (es.drop i).filter (fun e => decide (e.f1 = plc ls s)), decide (plc ls s ≥ 0)) := by
  intro d
  induction d with
  | zero =>
   intro i h acc ha
   rw [List.drop_of_length_le (by omega)]
   simp only [List.filter_nil, List.append_nil]
   exact Ev.step (fun k => Pxh.l0.eq_2 ..) (Ev.neg (by omega) (Ev.now _))
  | succ d ih =>
   intro i h acc ha
   have hi : i < es.length := by omega
   refine Ev.step (fun k => Pxh.l0.eq_2 ..) (Ev.pos (by omega) (Ev.pos (by omega) (Ev.pos (by omega) ?_)))
   rw [rdE es hi, List.drop_eq_getElem_cons hi]
   by_cases q : es[i].f1 = plc ls s
   ·refine Ev.pos q (Ev.pos (by omega) ?_)
    rw [w1n (by omega), List.filter_cons_of_pos (by simpa using q), ed_eta]
    have := ih (i + 1) (by omega) (acc ++ [es[i]]) (by simp; omega)
    simpa using this
   ·refine Ev.neg q ?_
    rw [w1n (by omega), List.filter_cons_of_neg (by simpa using q)]
    exact ih (i + 1) (by omega) acc (by omega)
 exact Ev.bind (nplace_ev ls s h1) (by simpa using key es.length 0 (by omega) [] (by simp))
def stillL (n : Int) : List Ed := (List.range n.toNat).map fun i : Nat => ⟨(i : Int), 0, (i : Int)⟩
theorem still_ev (n : Int) (h0 : 0 ≤ n) (h1 : n ≤ 1000000) : Ev (fun k => Pxb.f k n) (stillL n) := by
 have key : ∀ d i : Nat, (i : Int) + d = n → Ev (fun k => Pxb.l0 k ((List.range i).map fun i : Nat => (⟨(i : Int), 0, (i : Int)⟩ : Ed)) n (i : Int)) (stillL n) := by
  intro d
  induction d with
  | zero =>
   intro i h
   have : n.toNat = i := by omega
   unfold stillL
   rw [this]
   exact Ev.step (fun k => Pxb.l0.eq_2 ..) (Ev.neg (by omega) (Ev.now _))
  | succ d ih =>
   intro i h
   refine Ev.step (fun k => Pxb.l0.eq_2 ..) (Ev.pos (by omega) (Ev.pos (by simp; omega) ?_))
   rw [w1n (by omega)]
   have := ih (i + 1) (by omega)
   rw [List.range_succ, List.map_append] at this
   exact this
 exact key n.toNat 0 (by omega)
def actX (n : Int) (ls : List ByteArray) (es : List Ed) (s : ByteArray) : List Ed := if plc ls s ≥ 0 then es.filter (fun e => decide (e.f1 = plc ls s)) else stillL n
theorem both_ev {n1 n2 : Int} {ls1 ls2 : List ByteArray} {es1 es2 : List Ed} (s : ByteArray) (h1 : ls1.length ≤ 1000000) (h2 : es1.length ≤ 1000000) (h3 : ls2.length ≤ 1000000) (h4 : es2.length ≤ 1000000) (a1 : 0 ≤ n1 ∧ n1 ≤ 1000000) (a2 : 0 ≤ n2 ∧ n2 ≤ 1000000) :
  Ev (fun k => Pxc.f k n1 ls1 es1 n2 ls2 es2 s) (actX n1 ls1 es1 s, actX n2 ls2 es2 s) := by
 refine Ev.bind (by_ev n1 ls1 es1 s h1 h2) (Ev.bind (by_ev n2 ls2 es2 s h3 h4) ?_)
 unfold actX
 by_cases q1 : plc ls1 s ≥ 0
 ·rw [if_pos q1, decide_eq_true q1]
  refine Ev.pos rfl ?_
  by_cases q2 : plc ls2 s ≥ 0
  ·rw [if_pos q2, decide_eq_true q2]
   exact Ev.pos rfl (Ev.now _)
  ·rw [if_neg q2, decide_eq_false q2]
   exact Ev.neg (by simp) (Ev.bind (still_ev n2 a2.1 a2.2) (Ev.now _))
 ·rw [if_neg q1, decide_eq_false q1]
  refine Ev.neg (by simp) (Ev.bind (still_ev n1 a1.1 a1.2) ?_)
  by_cases q2 : plc ls2 s ≥ 0
  ·rw [if_pos q2, decide_eq_true q2]
   exact Ev.pos rfl (Ev.now _)
  ·rw [if_neg q2, decide_eq_false q2]
   exact Ev.neg (by simp) (Ev.bind (still_ev n2 a2.1 a2.2) (Ev.now _))
def mkE (n2 l : Int) (e f : Ed) : Ed := ⟨wrap64 (wrap64 (e.f0 * n2) + f.f0), l, wrap64 (wrap64 (e.f2 * n2) + f.f2)⟩
section
variable {n1 n2 : Int} {ls1 ls2 U V : List ByteArray} {es1 es2 : List Ed} {N u : Int} {R : Int × List ByteArray × List Ed × Int}
theorem l2_ev {l x48 xl x73 : Int} {X Y : List Ed} {e : Ed} (hY : Y.length ≤ 1000000) : ∀ d j : Nat, j + d = Y.length → ∀ acc : List Ed, acc.length + d ≤ 1000000 →
  Ev (fun k => Pxg.l1 k l Y U u x48 X xl (wrap64 (x73 + 1)) n1 ls1 es1 n2 ls2 es2 N V (acc ++ (Y.drop j).map (mkE n2 l e))) R →
  Ev (fun k => Pxg.l2 k l Y U u x48 X xl x73 Y (Y.length : Int) (j : Int) n1 ls1 es1 n2 ls2 es2 N V acc e.f0 e.f1 e.f2) R := by
 intro d
 induction d with
 | zero =>
  intro j h acc ha hc
  rw [List.drop_of_length_le (by omega)] at hc
  simp only [List.map_nil, List.append_nil] at hc
  exact Ev.step (fun k => Pxg.l2.eq_2 ..) (Ev.neg (by omega) hc)
 | succ d ih =>
  intro j h acc ha hc
  have hj : j < Y.length := by omega
  refine Ev.step (fun k => Pxg.l2.eq_2 ..) (Ev.pos (by omega) (Ev.pos (by omega) (Ev.pos (by omega) (Ev.pos (by omega) ?_))))
  rw [rdE Y hj, w1n (by omega)]
  rw [List.drop_eq_getElem_cons hj, List.map_cons] at hc
  refine ih (j + 1) (by omega) (acc ++ [mkE n2 l e Y[j]]) (by simp; omega) ?_
  rw [List.append_assoc]
  exact hc
theorem l1_ev {l x48 : Int} {X Y : List Ed} (hX : X.length ≤ 1000000) (hY : Y.length ≤ 1000000) : ∀ d i : Nat, i + d = X.length → ∀ acc : List Ed, acc.length + d * Y.length ≤ 1000000 →
  Ev (fun k => Pxg.l0 k U u (wrap64 (x48 + 1)) n1 ls1 es1 n2 ls2 es2 N V (acc ++ (X.drop i).flatMap (fun e => Y.map (mkE n2 l e)))) R →
  Ev (fun k => Pxg.l1 k l Y U u x48 X (X.length : Int) (i : Int) n1 ls1 es1 n2 ls2 es2 N V acc) R := by
 intro d
 induction d with
 | zero =>
  intro i h acc ha hc
  rw [List.drop_of_length_le (by omega)] at hc
  simp only [List.flatMap_nil, List.append_nil] at hc
  exact Ev.step (fun k => Pxg.l1.eq_2 ..) (Ev.neg (by omega) hc)
 | succ d ih =>
  intro i h acc ha hc
  have hi : i < X.length := by omega
  rw [Nat.succ_mul] at ha
  refine Ev.step (fun k => Pxg.l1.eq_2 ..) (Ev.pos (by omega) (Ev.pos (by omega) (Ev.pos (by omega) ?_)))
  rw [rdE X hi]
  refine l2_ev hY Y.length 0 (by omega) acc (by omega) ?_
  rw [w1n (by omega), List.drop_zero]
  rw [List.drop_eq_getElem_cons hi, List.flatMap_cons] at hc
  refine ih (i + 1) (by omega) _ (by rw [List.length_append, List.length_map]; omega) ?_
  rw [List.append_assoc]
  exact hc
def prodE (n1 : Int) (ls1 : List ByteArray) (es1 : List Ed) (n2 : Int) (ls2 : List ByteArray) (es2 : List Ed) (l : Nat) (s : ByteArray) : List Ed := (actX n1 ls1 es1 s).flatMap fun e => (actX n2 ls2 es2 s).map (mkE n2 (l : Int) e)
def prodL (n1 : Int) (ls1 : List ByteArray) (es1 : List Ed) (n2 : Int) (ls2 : List ByteArray) (es2 : List Ed) : Nat → List ByteArray → List Ed
 | _, [] => []
 | l, s :: r => prodE n1 ls1 es1 n2 ls2 es2 l s ++ prodL n1 ls1 es1 n2 ls2 es2 (l + 1) r
theorem actX_len {n : Int} {ls : List ByteArray} {es : List Ed} (s : ByteArray) (hn : n ≤ 200) (he : es.length ≤ 200) : (actX n ls es s).length ≤ 200 := by
 unfold actX
 split
 ·exact Nat.le_trans (List.length_filter_le _ _) he
 ·unfold stillL; simp; omega
theorem fmap_len {X Y : List Ed} (g : Ed → Ed → Ed) : (X.flatMap fun e => Y.map (g e)).length = X.length * Y.length := by
 induction X with
 | nil => simp
 | cons x r ih => rw [List.flatMap_cons, List.length_append, List.length_map, ih, List.length_cons, Nat.succ_mul]; omega
theorem l0_ev (a1 : 0 ≤ n1 ∧ n1 ≤ 200) (a2 : 0 ≤ n2 ∧ n2 ≤ 200) (h1 : ls1.length ≤ 1000000) (h2 : es1.length ≤ 200) (h3 : ls2.length ≤ 1000000) (h4 : es2.length ≤ 200) (hU : U.length ≤ 20) : ∀ d l : Nat, l + d = U.length → ∀ acc : List Ed, acc.length + d * 40000 ≤ 1000000 →
  Pxj.f N V (acc ++ prodL n1 ls1 es1 n2 ls2 es2 l (U.drop l)) = some R →
  Ev (fun k => Pxg.l0 k U (U.length : Int) (l : Int) n1 ls1 es1 n2 ls2 es2 N V acc) R := by
 intro d
 induction d with
 | zero =>
  intro l h acc ha hc;rw [List.drop_of_length_le (by omega)] at hc;rw [show prodL n1 ls1 es1 n2 ls2 es2 l [] = [] from rfl, List.append_nil] at hc;exact Ev.step (fun k => Pxg.l0.eq_2 ..) (Ev.neg (by omega) (Ev.bindS hc (Ev.now _)))
 | succ d ih =>
  intro l h acc ha hc;have hl : l < U.length := by omega
  have hx := actX_len (ls := ls1) U[l] a1.2 h2;have hy := actX_len (ls := ls2) U[l] a2.2 h4;have hxy : (actX n1 ls1 es1 U[l]).length * (actX n2 ls2 es2 U[l]).length ≤ 40000 := Nat.mul_le_mul hx hy;refine Ev.step (fun k => Pxg.l0.eq_2 ..) (Ev.pos (by omega) (Ev.pos (by omega) (Ev.pos (by omega) ?_)));rw [rdS U hl];refine Ev.bind (both_ev U[l] h1 (by omega) h3 (by omega) (by omega) (by omega)) ?_;have hq : ((actX n1 ls1 es1 U[l]).length : Int) * ((actX n2 ls2 es2 U[l]).length : Int) = (((actX n1 ls1 es1 U[l]).length * (actX n2 ls2 es2 U[l]).length : Nat) : Int) := (Int.natCast_mul _ _).symm
  refine Ev.neg (by
   show ¬ wrap64 ((acc.length : Int) + wrap64 (((actX n1 ls1 es1 U[l]).length : Int) * ((actX n2 ls2 es2 U[l]).length : Int))) > 1000000;rw [hq, show wrap64 (((actX n1 ls1 es1 U[l]).length * (actX n2 ls2 es2 U[l]).length : Nat) : Int) = (((actX n1 ls1 es1 U[l]).length * (actX n2 ls2 es2 U[l]).length : Nat) : Int) from wid (by omega) (by omega), wid (by omega) (by omega)];omega) ?_
  refine l1_ev (X := actX n1 ls1 es1 U[l]) (Y := actX n2 ls2 es2 U[l]) (Nat.le_trans hx (by omega)) (Nat.le_trans hy (by omega)) _ 0 (Nat.zero_add _) acc (by omega) ?_;rw [w1n (by omega), List.drop_zero];rw [List.drop_eq_getElem_cons hl, prodL, ← List.append_assoc] at hc;exact ih (l + 1) (by omega) _ (by rw [List.length_append, fmap_len]; omega) hc
end
theorem product_ev {n1 n2 : Int} {ls1 ls2 : List ByteArray} {es1 es2 : List Ed} (m1 : mayR n1 ls1 es1 = true) (m2 : mayR n2 ls2 es2 = true) (a1 : n1 ≤ 6) (a2 : n2 ≤ 6) (h1 : ls1.length ≤ 6) (h2 : es1.length ≤ 200) (h3 : ls2.length ≤ 6) (h4 : es2.length ≤ 200) {R : Int × List ByteArray × List Ed × Int}
  (hR : Pxj.f (n1 * n2) (uniS (ls1 ++ ls2)) (prodL n1 ls1 es1 n2 ls2 es2 0 (uniS (ls1 ++ ls2))) = some R) : Ev (fun k => Pxg.f k n1 ls1 es1 n2 ls2 es2) R := by
 have b1 := lt_n m1;have b2 := lt_n m2;have hmul : 1 ≤ n1 * n2 ∧ n1 * n2 ≤ 65025 := mul_le ⟨b1.1, by omega⟩ ⟨b2.1, by omega⟩;have h36 : n1 * n2 ≤ 36 := by have := Int.mul_le_mul a1 a2 (by omega) (show (0 : Int) ≤ 6 by omega); omega
 have hw : wrap64 (n1 * n2) = n1 * n2 := wid (by omega) (by omega);have hU : (uniS (ls1 ++ ls2)).length ≤ 12 := Nat.le_trans (uniS_len _) (by rw [List.length_append]; omega);have hu : Pxe.f ls1 ls2 = some (uniS (ls1 ++ ls2)) := by unfold Pxe.f; rw [if_pos (by omega)]
 have c1 : Pxi.f n1 ls1 es1 = some 0 := by unfold Pxi.f; rw [m1]; rfl
 have c2 : Pxi.f n2 ls2 es2 = some 0 := by unfold Pxi.f; rw [m2]; rfl
 refine Ev.bindS c1 (Ev.pos rfl (Ev.bindS c2 (Ev.step (fun k => Pxg.j0.eq_2 ..) (Ev.neg (by decide) (Ev.bindS hu (Ev.neg (by rw [hw]; omega) (Ev.step (fun k => Pxg.j1.eq_2 ..) (Ev.neg (by simp; omega) ?_))))))));rw [hw];exact l0_ev (by omega) (by omega) (by omega) h2 (by omega) h4 (by omega) _ 0 (Nat.zero_add _) [] (by simp; omega) (by rw [List.drop_zero, List.nil_append]; exact hR)
theorem product_bad {n1 n2 : Int} {ls1 ls2 : List ByteArray} {es1 es2 : List Ed} (h : mayR n1 ls1 es1 = false ∨ mayR n2 ls2 es2 = false) : Ev (fun k => Pxg.f k n1 ls1 es1 n2 ls2 es2) (0, [], [], 1) := by
 cases m1 : mayR n1 ls1 es1 with
 | false =>
  have c1 : Pxi.f n1 ls1 es1 = some 1 := by unfold Pxi.f; rw [m1]; rfl
  exact Ev.bindS c1 (Ev.neg (by decide) (Ev.step (fun k => Pxg.j0.eq_2 ..) (Ev.pos rfl (Ev.now _))))
 | true =>
  have m2 : mayR n2 ls2 es2 = false := by
   rcases h with h | h
   ·rw [m1] at h; cases h
   ·exact h
  have c1 : Pxi.f n1 ls1 es1 = some 0 := by unfold Pxi.f; rw [m1]; rfl
  have c2 : Pxi.f n2 ls2 es2 = some 1 := by unfold Pxi.f; rw [m2]; rfl
  exact Ev.bindS c1 (Ev.pos rfl (Ev.bindS c2 (Ev.step (fun k => Pxg.j0.eq_2 ..) (Ev.pos rfl (Ev.now _)))))
theorem awake50 : Ev (fun k => Pl50b.f k) true := Ev.of Pl50b.mono (k := 20) (by kernel_rfl)
theorem actX_in {n : Int} {ls : List ByteArray} {es : List Ed} (m : mayR n ls es = true) (s : ByteArray) : ∀ a ∈ actX n ls es s, (0 ≤ a.f0 ∧ a.f0 < n) ∧ (0 ≤ a.f2 ∧ a.f2 < n) := by
 have hn := lt_n m
 intro a ha
 unfold actX at ha
 split at ha
 ·have := may_edge m a (List.mem_filter.1 ha).1
  exact ⟨this.1, this.2.1⟩
 ·obtain ⟨i, hi, rfl⟩ := List.mem_map.1 ha
  have := List.mem_range.1 hi
  exact ⟨⟨by show (0 : Int) ≤ (i : Int); omega, by show (i : Int) < n; omega⟩, ⟨by show (0 : Int) ≤ (i : Int); omega, by show (i : Int) < n; omega⟩⟩
theorem prodL_mem {n1 n2 : Int} {ls1 ls2 : List ByteArray} {es1 es2 : List Ed} {e : Ed} : ∀ (V : List ByteArray) (l : Nat), e ∈ prodL n1 ls1 es1 n2 ls2 es2 l V ↔ ∃ i, i < V.length ∧ e ∈ prodE n1 ls1 es1 n2 ls2 es2 (l + i) (V.getD i ByteArray.empty)
 | [], l => by simp [prodL]
 | s :: r, l => by
  rw [prodL, List.mem_append, prodL_mem r (l + 1)]
  constructor
  ·rintro (h | ⟨i, h1, h2⟩)
   ·exact ⟨0, by simp, by simpa using h⟩
   ·exact ⟨i + 1, by simpa using h1, by rw [List.getD_cons_succ, show l + (i + 1) = l + 1 + i by omega]; exact h2⟩
  ·rintro ⟨i, h1, h2⟩
   cases i with
   | zero => exact .inl (by simpa using h2)
   | succ i => exact .inr ⟨i, by simpa using h1, by rw [List.getD_cons_succ, show l + (i + 1) = l + 1 + i by omega] at h2; exact h2⟩
theorem prodE_mem {n1 n2 : Int} {ls1 ls2 : List ByteArray} {es1 es2 : List Ed} {e : Ed} {l : Nat} {s : ByteArray} : e ∈ prodE n1 ls1 es1 n2 ls2 es2 l s ↔ ∃ a ∈ actX n1 ls1 es1 s, ∃ b ∈ actX n2 ls2 es2 s, mkE n2 (l : Int) a b = e := by
 unfold prodE
 rw [List.mem_flatMap]
 constructor
 ·rintro ⟨a, ha, h⟩
  obtain ⟨b, hb, rfl⟩ := List.mem_map.1 h
  exact ⟨a, ha, b, hb, rfl⟩
 ·rintro ⟨a, ha, b, hb, rfl⟩
  exact ⟨a, ha, List.mem_map.2 ⟨b, hb, rfl⟩⟩
theorem node_in {n1 n2 a b : Int} (ha : 0 ≤ a ∧ a < n1) (hb : 0 ≤ b ∧ b < n2) : 0 ≤ a * n2 + b ∧ a * n2 + b < n1 * n2 := by
 have h1 : 0 ≤ a * n2 := Int.mul_nonneg ha.1 (by omega)
 have h2 : (a + 1) * n2 ≤ n1 * n2 := Int.mul_le_mul_of_nonneg_right (by omega) (by omega)
 rw [Int.add_mul, Int.one_mul] at h2
 omega
theorem node_div {n2 a b : Int} (ha : 0 ≤ a) (hb : 0 ≤ b ∧ b < n2) : Int.tdiv (a * n2 + b) n2 = a ∧ Int.tmod (a * n2 + b) n2 = b := by
 have h1 : 0 ≤ a * n2 := Int.mul_nonneg ha (by omega)
 rw [Int.tdiv_eq_ediv_of_nonneg (by omega), Int.tmod_eq_emod_of_nonneg (by omega)]
 constructor
 ·rw [Int.add_comm, Int.add_mul_ediv_right _ _ (by omega), Int.ediv_eq_zero_of_lt hb.1 hb.2, Int.zero_add]
 ·rw [Int.add_comm, Int.add_mul_emod_self_right, Int.emod_eq_of_lt hb.1 hb.2]
theorem small50 {a0_0 : Int} {l0_1 : List ByteArray} {l0_2 : List Ed} {a1_0 : Int} {l1_1 : List ByteArray} {l1_2 : List Ed} (h : Pl50c.f a0_0 l0_1 l0_2 a1_0 l1_1 l1_2 = some true) : (SmallL a0_0 l0_1 l0_2 ∧ SmallL a1_0 l1_1 l1_2) ∧ ((a0_0 ≤ 6 ∨ 2048 < a0_0) ∧ (a1_0 ≤ 6 ∨ 2048 < a1_0)) ∧ (l0_1.length ≤ 6 ∧ l1_1.length ≤ 6) := by
 unfold Pl50c.f at h
 have h := Option.some.inj h
 simp only [Bool.and_eq_true, Bool.or_eq_true, decide_eq_true_eq] at h
 exact ⟨⟨lightB_small h.1, lightB_small h.2.1⟩, ⟨h.2.2.1, h.2.2.2.1⟩, ⟨by omega, by omega⟩⟩
end Go.Proofs.Ytmcbkmfpmcbdpaa.H
set_option linter.unusedVariables false
set_option linter.unusedSimpArgs false
namespace Go.Proofs.Ytmcbkmfpmcbdpaa.H
open Go.RowKit Go.Proofs.Ytmcbkmfpmcbdpaa.Pr Go.Proofs.YtmcbkmfpmcbdpaaW.PrintWords Go.Proofs.Ytmcbkmfpmcbdpaa.Sem Go.Proofs.Ytmcbkmfpmcbdpaa.PL
theorem es_ndS {n : Nat} {ls : List ByteArray} {es : List Ed} (hm : mayR n ls es = true) : ∀ e ∈ es, Nd n e.f0 ∧ Nd n e.f2 := fun e he => by
 have h := may_edge hm e he
 exact ⟨h.1, h.2.1⟩
theorem class_len (n : Nat) (es : List Ed) : (classL n es).length = n := by simp [classL]
theorem refL_len (n : Nat) (es : List Ed) : (refL n es).length = n := by unfold refL; rw [numK_length, class_len]
theorem refl_at {n : Nat} {ls : List ByteArray} {es : List Ed} (hm : mayR n ls es = true) {s t : Int} (hs : Nd n s) (ht : Nd n t) : (refL n es).getD s.toNat 0 = (refL n es).getD t.toNat 0 ↔ Bis n es s t := by
 obtain ⟨i, rfl⟩ := Int.eq_ofNat_of_zero_le hs.1
 obtain ⟨j, rfl⟩ := Int.eq_ofNat_of_zero_le ht.1
 have hi : i < (classL n es).length := by rw [class_len]; have := hs.2; omega
 have hj : j < (classL n es).length := by rw [class_len]; have := ht.2; omega
 rw [class_iff (es_ndS hm) hi hj]
 exact numK_eq (classL n es) hi hj
theorem prodE_len {n1 n2 : Int} {ls1 ls2 : List ByteArray} {es1 es2 : List Ed} (l : Nat) (s : ByteArray) (a1 : n1 ≤ 200) (a2 : n2 ≤ 200) (h1 : es1.length ≤ 200) (h2 : es2.length ≤ 200) : (prodE n1 ls1 es1 n2 ls2 es2 l s).length ≤ 40000 := by
 unfold prodE
 rw [fmap_len]
 exact Nat.mul_le_mul (actX_len s a1 h1) (actX_len s a2 h2)
theorem prodL_len {n1 n2 : Int} {ls1 ls2 : List ByteArray} {es1 es2 : List Ed} (a1 : n1 ≤ 200) (a2 : n2 ≤ 200) (h1 : es1.length ≤ 200) (h2 : es2.length ≤ 200) : ∀ (V : List ByteArray) (l : Nat), (prodL n1 ls1 es1 n2 ls2 es2 l V).length ≤ V.length * 40000
 | [], l => by simp [prodL]
 | s :: r, l => by
  have h3 := prodE_len (ls1 := ls1) (ls2 := ls2) l s a1 a2 h1 h2
  have h4 := prodL_len (ls1 := ls1) (ls2 := ls2) a1 a2 h1 h2 r (l + 1)
  rw [prodL, List.length_append, List.length_cons, Nat.succ_mul]
  omega
theorem mk_at {n1 n2 : Int} (b1 : n1 ≤ 6) (b2 : n2 ≤ 6) (l : Nat) (a b : Ed) (ha : (0 ≤ a.f0 ∧ a.f0 < n1) ∧ (0 ≤ a.f2 ∧ a.f2 < n1)) (hb : (0 ≤ b.f0 ∧ b.f0 < n2) ∧ (0 ≤ b.f2 ∧ b.f2 < n2)) : mkE n2 (l : Int) a b = ⟨a.f0 * n2 + b.f0, (l : Int), a.f2 * n2 + b.f2⟩ := by
 have hmul : n1 * n2 ≤ 65025 := (mul_le (n := n1) (m := n2) ⟨by omega, by omega⟩ ⟨by omega, by omega⟩).2
 have q1 := node_in ha.1 hb.1
 have q2 := node_in ha.2 hb.2
 have q3 : 0 ≤ a.f0 * n2 := Int.mul_nonneg ha.1.1 (by omega)
 have q4 : 0 ≤ a.f2 * n2 := Int.mul_nonneg ha.2.1 (by omega)
 have wid : ∀ i : Int, 0 ≤ i → i ≤ 65025 → wrap64 i = i := fun i h1 h2 => by unfold wrap64; omega
 unfold mkE
 rw [wid (a.f0 * n2) (by omega) (by omega), wid (a.f2 * n2) (by omega) (by omega), wid _ (by omega) (by omega), wid _ (by omega) (by omega)]
section
variable {n1 n2 : Nat} {ls1 ls2 U : List ByteArray} {es1 es2 : List Ed}
theorem prod_edge (m1 : mayR n1 ls1 es1 = true) (m2 : mayR n2 ls2 es2 = true) (a1 : (n1 : Int) ≤ 6) (a2 : (n2 : Int) ≤ 6) (e : Ed) : e ∈ sortE (prodL n1 ls1 es1 n2 ls2 es2 0 U) ↔ ∃ l, l < U.length ∧ ∃ a ∈ actX n1 ls1 es1 (U.getD l ByteArray.empty), ∃ b ∈ actX n2 ls2 es2 (U.getD l ByteArray.empty), (⟨a.f0 * n2 + b.f0, (l : Int), a.f2 * n2 + b.f2⟩ : Ed) = e := by
 rw [sortE_mem, prodL_mem]
 constructor
 ·rintro ⟨l, hl, h⟩
  obtain ⟨a, ha, b, hb, rfl⟩ := prodE_mem.1 h
  refine ⟨l, hl, a, ha, b, hb, ?_⟩
  rw [mk_at a1 a2 _ a b (actX_in m1 _ a ha) (actX_in m2 _ b hb), Nat.zero_add]
 ·rintro ⟨l, hl, a, ha, b, hb, rfl⟩
  refine ⟨l, hl, prodE_mem.2 ⟨a, ha, b, hb, ?_⟩⟩
  rw [mk_at a1 a2 _ a b (actX_in m1 _ a ha) (actX_in m2 _ b hb), Nat.zero_add]
theorem act_step {n : Nat} {ls : List ByteArray} {es : List Ed} {nm : ByteArray} {s t : Int} (hB : Bis n es s t) {x : Ed} (hx : x ∈ actX n ls es nm) (hs : x.f0 = s) : ∃ y ∈ actX n ls es nm, y.f0 = t ∧ Bis n es x.f2 y.f2 := by
 unfold actX at hx ⊢
 split at hx
 ·rename_i hp
  rw [if_pos hp]
  obtain ⟨h1, h2⟩ := List.mem_filter.1 hx
  obtain ⟨f, hf, p, q, r⟩ := hB.step h1 hs
  refine ⟨f, List.mem_filter.2 ⟨hf, ?_⟩, p, r⟩
  have h2 := of_decide_eq_true h2
  exact decide_eq_true (q.symm.trans h2)
 ·rename_i hp
  rw [if_neg hp]
  obtain ⟨i, hi, rfl⟩ := List.mem_map.1 hx
  have ht := hB.nodes.2
  obtain ⟨j, rfl⟩ := Int.eq_ofNat_of_zero_le ht.1
  have hj : j < n := by have := ht.2; omega
  refine ⟨⟨(j : Int), 0, (j : Int)⟩, List.mem_map.2 ⟨j, List.mem_range.2 (by omega), rfl⟩, rfl, ?_⟩
  have hs : (i : Int) = s := hs
  subst hs
  exact hB
theorem prod_bis (m1 : mayR n1 ls1 es1 = true) (m2 : mayR n2 ls2 es2 = true) (a1 : (n1 : Int) ≤ 6) (a2 : (n2 : Int) ≤ 6) {N : Nat} (hN : (N : Int) = n1 * n2) {a c b : Int} (h : Bis n1 es1 a c) (hb : Nd n2 b) : Bis N (sortE (prodL n1 ls1 es1 n2 ls2 es2 0 U)) (a * n2 + b) (c * n2 + b) := by
 refine Bis.of (R := fun s t => ∃ a c b, Bis n1 es1 a c ∧ Nd n2 b ∧ s = a * n2 + b ∧ t = c * n2 + b) ?_ ?_ ?_ ⟨a, c, b, h, hb, rfl, rfl⟩
 ·rintro s t ⟨a, c, b, h, hb, rfl, rfl⟩;have q1 := node_in h.nodes.1 hb;have q2 := node_in h.nodes.2 hb;exact ⟨⟨q1.1, by rw [hN]; exact q1.2⟩, ⟨q2.1, by rw [hN]; exact q2.2⟩⟩
 ·rintro s t ⟨a, c, b, h, hb, rfl, rfl⟩ e he hs;obtain ⟨l, hl, x, hx, y, hy, rfl⟩ := (prod_edge m1 m2 a1 a2 e).1 he;have ix := actX_in m1 _ x hx;have iy := actX_in m2 _ y hy;have d1 := node_div ix.1.1 iy.1;have d2 := node_div h.nodes.1.1 hb;have hs : x.f0 * (n2 : Int) + y.f0 = a * n2 + b := hs;rw [hs, d2.1, d2.2] at d1;obtain ⟨z, hz, p, q⟩ := act_step h hx d1.1.symm;have iz := actX_in m1 _ z hz;refine ⟨⟨z.f0 * n2 + y.f0, (l : Int), z.f2 * n2 + y.f2⟩, (prod_edge m1 m2 a1 a2 _).2 ⟨l, hl, z, hz, y, hy, rfl⟩, ?_, rfl, x.f2, z.f2, y.f2, q, iy.2, rfl, rfl⟩;show z.f0 * (n2 : Int) + y.f0 = c * n2 + b;rw [p, ← d1.2]
 ·rintro s t ⟨a, c, b, h, hb, rfl, rfl⟩ e he hs;obtain ⟨l, hl, x, hx, y, hy, rfl⟩ := (prod_edge m1 m2 a1 a2 e).1 he;have ix := actX_in m1 _ x hx;have iy := actX_in m2 _ y hy;have d1 := node_div ix.1.1 iy.1;have d2 := node_div h.nodes.2.1 hb;have hs : x.f0 * (n2 : Int) + y.f0 = c * n2 + b := hs;rw [hs, d2.1, d2.2] at d1;obtain ⟨z, hz, p, q⟩ := act_step h.symm hx d1.1.symm;have iz := actX_in m1 _ z hz;refine ⟨⟨z.f0 * n2 + y.f0, (l : Int), z.f2 * n2 + y.f2⟩, (prod_edge m1 m2 a1 a2 _).2 ⟨l, hl, z, hz, y, hy, rfl⟩, ?_, rfl, z.f2, x.f2, y.f2, q.symm, iy.2, rfl, rfl⟩;show z.f0 * (n2 : Int) + y.f0 = a * n2 + b;rw [p, ← d1.2]
end
end Go.Proofs.Ytmcbkmfpmcbdpaa.H
set_option linter.unusedVariables false
set_option linter.unusedSimpArgs false
namespace Go.Proofs.Ytmcbkmfpmcbdpaa.H
open Go.RowKit Go.Proofs.Ytmcbkmfpmcbdpaa.Pr Go.Proofs.YtmcbkmfpmcbdpaaW.PrintWords Go.Proofs.Ytmcbkmfpmcbdpaa.Sem Go.Proofs.Ytmcbkmfpmcbdpaa.PL
theorem node_of {n1 n2 m : Int} (h2 : 1 ≤ n2) (hm : 0 ≤ m ∧ m < n1 * n2) : (0 ≤ Int.tdiv m n2 ∧ Int.tdiv m n2 < n1) ∧ (0 ≤ Int.tmod m n2 ∧ Int.tmod m n2 < n2) ∧ Int.tdiv m n2 * n2 + Int.tmod m n2 = m := by
 rw [Int.tdiv_eq_ediv_of_nonneg hm.1, Int.tmod_eq_emod_of_nonneg hm.1]
 refine ⟨⟨Int.ediv_nonneg hm.1 (by omega), Int.ediv_lt_of_lt_mul (by omega) hm.2⟩, ⟨Int.emod_nonneg _ (by omega), Int.emod_lt_of_pos _ (by omega)⟩, ?_⟩
 rw [Int.mul_comm]
 exact Int.mul_ediv_add_emod m n2
theorem keeps_in {n1 n2 N : Nat} {LS : List ByteArray} {ES : List Ed} {x y : List Int} (hn : 1 ≤ n2) (h36 : N ≤ 36) (hN : (N : Int) = n1 * n2) (hl1 : x.length = n1) (hl2 : y.length = N)
  (key : ∀ i j : Nat, i < N → j < N → Int.tmod (i : Int) n2 = Int.tmod (j : Int) n2 → rd x (Int.tdiv (i : Int) n2) = rd x (Int.tdiv (j : Int) n2) → rd y (i : Int) = rd y (j : Int))
  {i : Nat} (hi : i < N) {r : Bool} (hend : Ev (fun k => Pl50a.l0 k x y ((i + 1 : Nat) : Int) (n2 : Int) LS ES) r) :
  ∀ d j : Nat, j + d = i → Ev (fun k => Pl50a.l1 k x y (i : Int) (j : Int) (n2 : Int) LS ES) r := by
 intro d
 induction d with
 | zero =>
  intro j hj;refine Ev.step (fun k => Pl50a.l1.eq_2 ..) (Ev.neg (by omega) ?_);rw [w1n (by omega)];exact hend
 | succ d ih =>
  intro j hj;have ih' := ih (j + 1) (by omega);have qi := node_of (n1 := (n1 : Int)) (n2 := (n2 : Int)) (m := (i : Int)) (by omega) ⟨by omega, by omega⟩;have qj := node_of (n1 := (n1 : Int)) (n2 := (n2 : Int)) (m := (j : Int)) (by omega) ⟨by omega, by omega⟩;have hk := key i j hi (by omega)
  have h1 : n1 ≤ N := by
   have : n1 * 1 ≤ n1 * n2 := Nat.mul_le_mul_left n1 hn;have hN' : N = n1 * n2 := by have := hN; rw [← Int.natCast_mul] at this; exact Int.ofNat.inj this
   omega
  have wd : ∀ z : Int, 0 ≤ z → z < 100 → wrap64 z = z := fun z h1 h2 => by unfold wrap64; omega
  have wi := wd (Int.tdiv (i : Int) n2) qi.1.1 (by omega);have wj := wd (Int.tdiv (j : Int) n2) qj.1.1 (by omega);refine Ev.step (fun k => Pl50a.l1.eq_2 ..) (Ev.pos (by omega) (Ev.neg (by omega) ?_));rw [wi, wj, w1n (by omega)];generalize Int.tdiv (i : Int) n2 = di at *;generalize Int.tdiv (j : Int) n2 = dj at *;by_cases ht : Int.tmod (i : Int) n2 = Int.tmod (j : Int) n2
  ·refine Ev.pos ht (Ev.pos qi.1.1 (Ev.pos (by omega) (Ev.pos qj.1.1 (Ev.pos (by omega) ?_))));by_cases hx : rd x di = rd x dj
   ·exact Ev.pos hx (Ev.pos (by omega) (Ev.pos (by omega) (Ev.pos (by omega) (Ev.pos (by omega) (Ev.pos (hk ht hx) ih')))))
   ·exact Ev.neg hx ih'
  ·exact Ev.neg ht ih'
theorem keeps_out {n1 n2 N : Nat} {LS : List ByteArray} {ES : List Ed} {x y : List Int} (hn : 1 ≤ n2) (h36 : N ≤ 36) (hN : (N : Int) = n1 * n2) (hl1 : x.length = n1) (hl2 : y.length = N)
  (key : ∀ i j : Nat, i < N → j < N → Int.tmod (i : Int) n2 = Int.tmod (j : Int) n2 → rd x (Int.tdiv (i : Int) n2) = rd x (Int.tdiv (j : Int) n2) → rd y (i : Int) = rd y (j : Int)) :
  ∀ d i : Nat, i + d = N → Ev (fun k => Pl50a.l0 k x y (i : Int) (n2 : Int) LS ES) true := by
 intro d
 induction d with
 | zero =>
  intro i hi
  exact Ev.step (fun k => Pl50a.l0.eq_2 ..) (Ev.neg (by omega) (Ev.last awake50))
 | succ d ih =>
  intro i hi
  exact Ev.step (fun k => Pl50a.l0.eq_2 ..) (Ev.pos (by omega) (keeps_in hn h36 hN hl1 hl2 key (by omega) (ih (i + 1) (by omega)) i 0 (by omega)))
theorem keeps_key {n1 n2 : Nat} {ls1 ls2 U : List ByteArray} {es1 es2 : List Ed} (m1 : mayR n1 ls1 es1 = true) (m2 : mayR n2 ls2 es2 = true) (a1 : (n1 : Int) ≤ 6) (a2 : (n2 : Int) ≤ 6) {N : Nat} (hN : (N : Int) = n1 * n2) {LU : List ByteArray} {E : List Ed} (hE : E = sortE (prodL n1 ls1 es1 n2 ls2 es2 0 U)) (mp : mayR N LU E = true)
  (i j : Nat) (hi : i < N) (hj : j < N) (ht : Int.tmod (i : Int) n2 = Int.tmod (j : Int) n2) (hx : rd (refL n1 es1) (Int.tdiv (i : Int) n2) = rd (refL n1 es1) (Int.tdiv (j : Int) n2)) : rd (refL N E) (i : Int) = rd (refL N E) (j : Int) := by
 have b2 := lt_n m2
 have qi := node_of (n1 := (n1 : Int)) (n2 := (n2 : Int)) (m := (i : Int)) (by omega) ⟨by omega, by omega⟩
 have qj := node_of (n1 := (n1 : Int)) (n2 := (n2 : Int)) (m := (j : Int)) (by omega) ⟨by omega, by omega⟩
 have hB := (refl_at m1 ⟨qi.1.1, qi.1.2⟩ ⟨qj.1.1, qj.1.2⟩).1 hx
 have hP := prod_bis (U := U) m1 m2 a1 a2 hN hB (b := Int.tmod (i : Int) n2) ⟨qi.2.1.1, qi.2.1.2⟩
 rw [← hE, qi.2.2, ht, qj.2.2] at hP
 exact (refl_at mp hP.nodes.1 hP.nodes.2).2 hP
theorem productKeeps_true (n1 : Int) (ls1 : List ByteArray) (es1 : List Ed) (n2 : Int) (ls2 : List ByteArray) (es2 : List Ed) : Ev (fun k => Pl50a.f k n1 ls1 es1 n2 ls2 es2) true := by
 have jt : ∀ x N1 L1 E1 N2 L2 E2 N3 L3 E3, Ev (fun k => Pl50a.j0 k x true N1 L1 E1 N2 L2 E2 N3 L3 E3) true := fun _ _ _ _ _ _ _ _ _ _ => Ev.step (fun k => Pl50a.j0.eq_2 ..) (Ev.pos rfl (Ev.last awake50))
 obtain ⟨b, hb⟩ : ∃ b, Pl50c.f n1 ls1 es1 n2 ls2 es2 = some b := ⟨_, rfl⟩
 refine Ev.bindS hb ?_
 cases b with
 | false => exact Ev.neg (by simp) (Ev.last awake50)
 | true =>
  refine Ev.pos rfl ?_;have hs := small50 hb
  have bad : ∀ R : Int × List ByteArray × List Ed × Int, R.2.2.2 ≠ 0 → Ev (fun k => Pxg.f k n1 ls1 es1 n2 ls2 es2) R → Ev (fun k => (Pxg.f k n1 ls1 es1 n2 ls2 es2).bind fun bt200 => ((Pra.f n1 ls1 es1).bind fun bt209 => (if bt200.2.2.2 = 0 then (Pl50a.j0 k bt209.1 (bt209.2 != 0) n1 ls1 es1 n2 ls2 es2 bt200.1 bt200.2.1 bt200.2.2.1) else (Pl50a.j0 k bt209.1 true n1 ls1 es1 n2 ls2 es2 bt200.1 bt200.2.1 bt200.2.2.1)))) true := fun R h0 hR => by
   obtain ⟨p, hp⟩ : ∃ p, Pra.f n1 ls1 es1 = some p := ⟨_, rfl⟩
   exact Ev.bind hR (Ev.bindS hp (Ev.neg h0 (jt _ _ _ _ _ _ _ _ _ _)))
  cases m1 : mayR n1 ls1 es1 with
  | false => exact bad _ (by decide) (product_bad (.inl m1))
  | true =>
   cases m2 : mayR n2 ls2 es2 with
   | false => exact bad _ (by decide) (product_bad (.inr m2))
   | true =>
    have c1 := lt_n m1;have c2 := lt_n m2;have a1 : n1 ≤ 6 := by have := hs.2.1.1; omega
    have a2 : n2 ≤ 6 := by have := hs.2.1.2; omega
    have e1 := hs.1.1.2.1;have e2 := hs.1.2.2.1;have hU : (uniS (ls1 ++ ls2)).length ≤ 12 := Nat.le_trans (uniS_len _) (by rw [List.length_append]; have := hs.2.2; omega);have hPL := prodL_len (ls1 := ls1) (ls2 := ls2) (n1 := n1) (n2 := n2) (by omega) (by omega) e1 e2 (uniS (ls1 ++ ls2)) 0;obtain ⟨n1, rfl⟩ := Int.eq_ofNat_of_zero_le (show 0 ≤ n1 by omega);obtain ⟨n2, rfl⟩ := Int.eq_ofNat_of_zero_le (show 0 ≤ n2 by omega);have h36 : n1 * n2 ≤ 36 := Nat.mul_le_mul (show n1 ≤ 6 by omega) (show n2 ≤ 6 by omega)
    cases mp : mayR ((n1 : Int) * n2) (uniS (ls1 ++ ls2)) (sortE (prodL n1 ls1 es1 n2 ls2 es2 0 (uniS (ls1 ++ ls2)))) with
    | false =>
     have hR : Pxj.f ((n1 : Int) * n2) (uniS (ls1 ++ ls2)) (prodL n1 ls1 es1 n2 ls2 es2 0 (uniS (ls1 ++ ls2))) = some (0, [], [], 1) := by
      unfold Pxj.f;rw [if_pos ⟨by omega, by omega⟩, mp];rfl
     exact bad _ (by decide) (product_ev m1 m2 a1 a2 hs.2.2.1 e1 hs.2.2.2 e2 hR)
    | true =>
     have hR : Pxj.f ((n1 : Int) * n2) (uniS (ls1 ++ ls2)) (prodL n1 ls1 es1 n2 ls2 es2 0 (uniS (ls1 ++ ls2))) = some ((n1 : Int) * n2, uniS (ls1 ++ ls2), sortE (prodL n1 ls1 es1 n2 ls2 es2 0 (uniS (ls1 ++ ls2))), 0) := by
      unfold Pxj.f;rw [if_pos ⟨by omega, by omega⟩, mp];rfl
     have hp := product_ev m1 m2 a1 a2 hs.2.2.1 e1 hs.2.2.2 e2 hR;refine Ev.bind hp (Ev.bindS (a := (refL n1 es1, 0)) (by unfold Pra.f; rw [m1]; rfl) (Ev.pos rfl ?_));have hN : ((n1 * n2 : Nat) : Int) = (n1 : Int) * n2 := by push_cast; rfl
     refine Ev.step (fun k => Pl50a.j0.eq_2 ..) (Ev.neg (by simp) (Ev.bindS (a := (refL (n1 * n2) (sortE (prodL n1 ls1 es1 n2 ls2 es2 0 (uniS (ls1 ++ ls2)))), 0)) ?_ (Ev.pos rfl (Ev.pos (by rw [refL_len]) ?_))))
     ·unfold Pra.f;rw [mp, ← hN];rfl
     ·rw [refL_len, hN, show wrap64 ((n1 : Int) * n2) = (n1 : Int) * n2 by unfold wrap64; omega, show (((n1 : Int) * n2) != ((n1 : Int) * n2)) = false by simp];refine Ev.step (fun k => Pl50a.j1.eq_2 ..) (Ev.neg (by simp) ?_);exact keeps_out (by omega) h36 hN (refL_len _ _) (refL_len _ _) (keeps_key m1 m2 a1 a2 hN rfl (by rw [hN]; exact mp)) (n1 * n2) 0 (by omega)
end Go.Proofs.Ytmcbkmfpmcbdpaa.H
set_option linter.unusedVariables false
set_option linter.unusedSimpArgs false
namespace Go.Proofs.Ytmcbkmfpmcbdpaa.productKeeps
open Go.ChangeShapes Go.WideShapes Go.ChangeAt Go.RowKit Go.Proofs.Ytmcbkmfpmcbdpaa.Pr Go.Proofs.YtmcbkmfpmcbdpaaW.PrintWords Go.Proofs.Ytmcbkmfpmcbdpaa.H
theorem own : ownKnob Try.prog.godebug = none := by kernel_rfl
set_option maxRecDepth 100000 in
theorem lifted (os : Os) (started : os.Started) (H : Type) (enc : TypeId × Value → H) :
  ReturnsInHanded {} Try.checked os 12 .any (Rows.productKeepsSpec.pre6 enc Try.prog Try.f12 Rows.productKeepsRow.domain false) (Rows.productKeepsSpec.post enc Try.prog Try.f12 false true false false) := by
 refine returnsInHanded_of_change_sized (C := Try.checked) own started (by kernel_rfl) Try.func12
  (ChangeSpec.witness6 (enc := enc) (C := Try.checked) false ⟨#[], #[.agg #[.int .i64 0, .slice none 0 0, .slice none 0 0], .agg #[.int .i64 0, .slice none 0 0, .slice none 0 0]], []⟩ 8 (by kernel_rfl) (by kernel_rfl) (by kernel_rfl) (by kernel_rfl)) ?_
 intro W base args ds gs before hval0 hW hcnd hsz0 _;have hval : ∀ (j : Nat) t v, Try.f12.params[j]? = some t → args[j]? = some v → Value.okWide Try.prog W .any base t v := hval0;have hW' := hW;obtain ⟨p, q, hA0, hV, rfl, hfz, hnd⟩ := hW;have hA : DataW.TrodAll enc Try.prog W 0 (fun _ => true) true Try.f12.params.toList args.toList ds p := hA0;rw [Try.params12] at hA hval;obtain ⟨v0, vs0, d0, ds0, p0, q0, hargs, rfl, rfl, h0, r0⟩ := trodAll_cons hA;obtain ⟨v1, vs1, d1, ds1, p1, q1, rfl, rfl, rfl, h1, r1⟩ := trodAll_cons r0;obtain ⟨rfl, rfl, rfl⟩ := trodAll_nil r1;obtain rfl : args = #[v0, v1] := by cases args; simp_all
 obtain ⟨rfl, rfl⟩ := trodVars_none hV;have k0 := h0;have lt0 : ∀ x ∈ p0, x.block < W.heap.size := by obtain ⟨m, hm⟩ := k0; exact DataW.trod_lt m _ _ _ hm
 obtain ⟨n0, ls0, es0, A0, B0, c0, e0, rfl, wf0, rl0, cl0, re0, ce0⟩ := open_lts2 (hval 0 25 v0 rfl rfl) h0;have k1 := h1;have lt1 : ∀ x ∈ p1, x.block < W.heap.size := by obtain ⟨m, hm⟩ := k1; exact DataW.trod_lt m _ _ _ hm
 obtain ⟨n1, ls1, es1, A1, B1, c1, e1, rfl, wf1, rl1, cl1, re1, ce1⟩ := open_lts2 (hval 1 25 v1 rfl rfl) h1;clear hA0 hval0 hsz0;obtain ⟨k, hk⟩ := (productKeeps_true n0 ls0 es0 n1 ls1 es1).rounds;refine (Pr.Pl50a.calls (k := k) (r := true) (w := W) (hr0_1 := rl0) (hc0_1 := cl0) (hr0_2 := re0) (hc0_2 := ce0) (hr1_1 := rl1) (hc1_1 := cl1) (hr1_2 := re1) (hc1_2 := ce1) (h := hk) (hr_ := ⟨rfl⟩)).mono fun e W' ⟨he, bel⟩ => ?_
 subst he;exact ⟨_, rfl, _, _, _, [], _, [], hW', trodAll_mk1 (shut_bool Try.underlying4 _), (trodAll_cons_mk (Below.trod laid_out (by kernel_rfl) (of_decide_eq_true (by kernel_rfl)) k0 bel lt0) (trodAll_cons_mk (Below.trod laid_out (by kernel_rfl) (of_decide_eq_true (by kernel_rfl)) k1 bel lt1) trodAll_mk0)), rfl, bel.frame _, fun h => by cases h⟩
theorem over : Rows.productKeepsRow.holds Try.pinned (OpenSpec.ofChange Rows.productKeepsSpec) :=
 OpenClaim.holds_of_wide 12 Try.f12 rfl rfl rfl rfl rfl rfl rfl ⟨rfl, rfl, rfl, rfl, rfl⟩ rfl rfl rfl rfl rfl (by kernel_rfl) Try.func12 (by kernel_rfl)
  (of_decide_eq_true (by kernel_rfl)) (by unfold Func.isWrapper; first | (rw [if_pos (by decide +kernel)]; kernel_rfl) | (rw [if_neg (by decide +kernel)]; exact ⟨rfl, rfl⟩))
  (fun os started H enc _ => lifted os started H enc)
theorem proved : Rows.ProductKeepsSaid := over
#print axioms proved
end Go.Proofs.Ytmcbkmfpmcbdpaa.productKeeps
namespace Go.Proofs.Ytmcbkmfpmcbdpaa
theorem productKeeps_holds : Rows.ProductKeepsSaid := productKeeps.proved
end Go.Proofs.Ytmcbkmfpmcbdpaa
