/-
  Parts of the proof of QuotLeast (joined by wip/tools/bundle.py), part 2: plain words and walks of the functions that the law reaches.
-/
import Derived.Test.YtmcbkmfpmcbdpaaZQuotLeast1
set_option linter.unusedVariables false
set_option linter.unusedSimpArgs false
namespace Go.Proofs.Ytmcbkmfpmcbdpaa.H
open Go.RowKit Go.Proofs.Ytmcbkmfpmcbdpaa.Pr Go.Proofs.YtmcbkmfpmcbdpaaW.PrintWords Go.Proofs.Ytmcbkmfpmcbdpaa.Sem
theorem ahead_any (a b : Ed) (r : Bool) (hr : decide (elt a b) = r) (w : World) : Calls Try.prog 70 #[.agg #[.int .i64 a.f0, .int .i64 a.f1, .int .i64 a.f2], .agg #[.int .i64 b.f0, .int .i64 b.f1, .int .i64 b.f2]] w fun e w' => e = .returned (.bool r) ∧ Below w.heap.size w w' := by
 have HB := Aside0.mk (Below.refl w.heap.size w);by_cases h0 : a.f0 = b.f0
 ·by_cases h1 : a.f1 = b.f1
  ·have d0 : (a.f0 != b.f0) = false := by simp [h0]
   have d1 : (a.f1 != b.f1) = false := by simp [h1]
   have e : decide (a.f2 < b.f2) = r := by rw [← hr]; unfold elt; apply decide_eq_decide.2; omega
   have HE := Aside0.mk e;clear h0 h1 hr e;go_enter Try.func70, Try.ntmps70
   go_wp2
   go_ret
   exact ⟨ret_bool HE.out, by repeat (first | exact HB.out | apply below_alloc | apply pw_below_drewN | apply below_drew)⟩
  ·have d0 : (a.f0 != b.f0) = false := by simp [h0]
   have d1 : (a.f1 != b.f1) = true := by simp [h1]
   have e : decide (a.f1 < b.f1) = r := by rw [← hr]; unfold elt; apply decide_eq_decide.2; omega
   have HE := Aside0.mk e;clear h0 h1 hr e;go_enter Try.func70, Try.ntmps70
   go_wp2
   go_ret
   exact ⟨ret_bool HE.out, by repeat (first | exact HB.out | apply below_alloc | apply pw_below_drewN | apply below_drew)⟩
 ·have d0 : (a.f0 != b.f0) = true := by simp [h0]
  have e : decide (a.f0 < b.f0) = r := by rw [← hr]; unfold elt; apply decide_eq_decide.2; omega
  have HE := Aside0.mk e;clear h0 hr e;go_enter Try.func70, Try.ntmps70
  go_wp2
  go_ret
  exact ⟨ret_bool HE.out, by repeat (first | exact HB.out | apply below_alloc | apply pw_below_drewN | apply below_drew)⟩
def labAt (ls : List ByteArray) (i : Nat) : Bool := !tooLong (ls.getD i ByteArray.empty) && (decide (i = 0) || Op.bytesLess (ls.getD (i - 1) ByteArray.empty).toList (ls.getD i ByteArray.empty).toList)
def okAt' (n nl : Int) (es : List Ed) (k : Nat) : Bool :=
 decide (0 ≤ (es.getD k z80).f0 ∧ (es.getD k z80).f0 < n) && (decide (0 ≤ (es.getD k z80).f2 ∧ (es.getD k z80).f2 < n) &&
  (decide (0 ≤ (es.getD k z80).f1) && (decide ((es.getD k z80).f1 < nl) && (decide (k = 0) || decide (elt (es.getD (k - 1) z80) (es.getD k z80))))))
def mayR (n : Int) (ls : List ByteArray) (es : List Ed) : Bool :=
 decide (1 ≤ n) && (decide (n ≤ 2048) && (decide (ls.length ≤ 64) && (decide (es.length ≤ 1000000) && ((List.range ls.length).all (labAt ls) && (List.range es.length).all (okAt' n ls.length es)))))
theorem all_bad {p : Nat → Bool} {m k : Nat} (hk : k < m) (h : p k = false) : (List.range m).all p = false := by
 rw [Bool.eq_false_iff]
 intro he
 have := List.all_eq_true.1 he k (List.mem_range.2 hk)
 rw [h] at this
 cases this
theorem all_good {p : Nat → Bool} {m k : Nat} (hk : ¬ k < m) (h : ∀ j, j < k → p j = true) : (List.range m).all p = true :=
 List.all_eq_true.2 fun j hj => h j (by have := List.mem_range.1 hj; omega)
theorem may_size (n : Int) (ls : List ByteArray) (es : List Ed) (A1 A2 : Option Addr) (c1 c2 : Nat) (w : World) (h : n < 1 ∨ 2048 < n ∨ 64 < ls.length ∨ 1000000 < es.length) :
  Calls Try.prog 18 #[.agg #[.int .i64 n, .slice A1 ls.length c1, .slice A2 es.length c2]] w fun e w' => e = .returned (.bool false) ∧ Below w.heap.size w w' := by
 have HB := Aside0.mk (Below.refl w.heap.size w)
 by_cases h0 : n < 1
 ·clear h
  go_enter Try.func18, Try.ntmps18
  go_wp2
  go_ret
  exact ⟨rfl, below_alloc HB.out _⟩
 ·by_cases h1 : 2048 < n
  ·clear h
   go_enter Try.func18, Try.ntmps18
   go_wp2
   go_ret
   exact ⟨rfl, below_alloc HB.out _⟩
  ·by_cases h2 : (64 : Int) < (ls.length : Int)
   ·clear h
    go_enter Try.func18, Try.ntmps18
    go_wp2
    go_ret
    exact ⟨rfl, below_alloc HB.out _⟩
   ·have h3 : (1000000 : Int) < (es.length : Int) := by omega
    clear h
    go_enter Try.func18, Try.ntmps18
    go_wp2
    go_ret
    exact ⟨rfl, below_alloc HB.out _⟩
set_option maxHeartbeats 8000000 in
set_option maxRecDepth 100000 in
theorem may_main (n : Int) (ls : List ByteArray) (es : List Ed) (A1 A2 : Option Addr) (c1 c2 : Nat) (w : World) (h0 : ¬ n < 1) (h1 : ¬ 2048 < n) (h2 : ¬ (64 : Int) < (ls.length : Int)) (h3 : ¬ (1000000 : Int) < (es.length : Int)) (hr1 : Kd.C Kd.string w A1 ls.length ls) (hr2 : Kd.C k80 w A2 es.length es) :
  Calls Try.prog 18 #[.agg #[.int .i64 n, .slice A1 ls.length c1, .slice A2 es.length c2]] w fun e w' => e = .returned (.bool ((List.range ls.length).all (labAt ls) && (List.range es.length).all (okAt' n ls.length es))) ∧ Below w.heap.size w w' := by
 have a2 := Aside0.mk hr1;have HR := Aside0.mk hr2;clear hr1 hr2;have a4 := Aside0.mk (Below.refl w.heap.size w);go_enter Try.func18, Try.ntmps18
 go_wp2
 go_loopw [3] (fun i wr => ∃ k : Nat, k ≤ ls.length ∧ i = .int .i64 k ∧ Aside0 (∀ j, j < k → labAt ls j = true) ∧ Aside0 (BoxL wr w.heap.size n (.slice A1 ls.length c1) (.slice A2 es.length c2)) ∧ Aside0 (Below w.heap.size w wr)) (fun i _ => ls.length - (intOf i).toNat)
 case atStart => exact ⟨0, Nat.zero_le _, rfl, ⟨fun j hj => by omega⟩, ⟨blk_new w _⟩, ⟨below_alloc a4.out _⟩⟩
 case round =>
  obtain ⟨k, hk, rfl, hz, HXr, HBr⟩ := hrel;have b1 := HXr.out.c1;by_cases hlt : k < ls.length
  ·obtain ⟨ad, hA, g0⟩ := atS a2.out k hlt;subst hA;replace g0 := later HBr.out g0;obtain ⟨s, hs⟩ : ∃ s, s = ls.getD k ByteArray.empty := ⟨_, rfl⟩
   rw [← hs] at g0;have hs' := Aside0.mk hs; clear hs
   by_cases hL : (200 : Int) < (s.size : Int)
   ·have hL' := Aside0.mk (show tooLong s = true from decide_eq_true (by omega));have d1 : decide ((200 : Int) < (s.size : Int)) = true := decide_eq_true hL;have d2 : decide (200 < s.size) = true := decide_eq_true (by omega);go_wp2_with fail
    go_quiet (fail)
    go_wp2
    go_ret
    exact ⟨ret_bool (by rw [all_bad hlt (show labAt ls k = false by unfold labAt; rw [← hs'.out, hL'.out]; rfl)]; rfl), by repeat (first | exact HBr.out | apply below_alloc | apply pw_below_drewN | apply below_drew)⟩
   ·have hL' := Aside0.mk (show tooLong s = false from decide_eq_false (by omega));have d1 : decide ((200 : Int) < (s.size : Int)) = false := decide_eq_false hL;have d2 : decide (200 < s.size) = false := decide_eq_false (by omega);by_cases hK : k = 0
    ·have hK' := Aside0.mk hK;have d3 : decide ((0 : Int) < (k : Int)) = false := decide_eq_false (by omega);have d4 : decide (0 < k) = false := decide_eq_false (by omega);clear hK;go_wp2_with fail
     go_quiet (fail)
     go_wp2
     go_roundw
     case rel => exact ⟨k + 1, by omega, by go_num, ⟨fun j hj => by
      rcases Nat.lt_succ_iff_lt_or_eq.1 hj with h | rfl
      ·exact hz.out j h
      ·unfold labAt; rw [← hs'.out, hL'.out, decide_eq_true hK'.out]; rfl⟩, ⟨HXr.out.below (by repeat (first | exact Below.refl _ _ | apply below_alloc | apply pw_below_drewN | apply below_drew))⟩, ⟨by repeat (first | exact HBr.out | apply below_alloc | apply pw_below_drewN | apply below_drew)⟩⟩
     case measure => simp [intOf]; omega
    ·obtain ⟨ad', hA', p0⟩ := atS a2.out (k - 1) (by omega)
     cases hA';replace p0 := later HBr.out p0;obtain ⟨t, ht⟩ : ∃ t, t = ls.getD (k - 1) ByteArray.empty := ⟨_, rfl⟩
     rw [← ht] at p0;have ht' := Aside0.mk ht; clear ht
     have d3 : decide ((0 : Int) < (k : Int)) = true := decide_eq_true (by omega);have d4 : decide (0 < k) = true := decide_eq_true (by omega);have i0 : (0 : Int) ≤ (k : Int) - 1 := by omega
     have i1 : (k : Int) - 1 < (ls.length : Int) := by omega
     have j0 : (1 : Int) ≤ (k : Int) := by omega
     have j1 : (k : Int) < (ls.length : Int) + 1 := by omega
     have j2 : 1 ≤ k := by omega
     have j3 : k - 1 < ls.length := by omega
     have j4 : (k : Int) ≤ (ls.length : Int) := by omega
     have i3 : (k : Int) < (ls.length : Int) := by omega
     have i4 : (0 : Int) ≤ (k : Int) := by omega
     have a0 : IntKind.i64.wrap ((k : Int) - 1) = (k : Int) - 1 := by rw [IntKind.wrap_i64]; omega
     have a1 : ((k : Int) - 1).toNat = k - 1 := by omega
     cases hb : Op.bytesLess t.toList s.toList with
     | true =>
      go_wp2_with fail
      go_quiet (fail)
      clear a0 a1 i0 i1 i3 i4 j0 j1 j2 j3 j4;go_wp2
      go_roundw
      case rel => exact ⟨k + 1, by omega, by go_num, ⟨fun j hj => by
       rcases Nat.lt_succ_iff_lt_or_eq.1 hj with h | rfl
       ·exact hz.out j h
       ·unfold labAt; rw [← hs'.out, ← ht'.out, hL'.out, hb]; simp⟩, ⟨HXr.out.below (by repeat (first | exact Below.refl _ _ | apply below_alloc | apply pw_below_drewN | apply below_drew))⟩, ⟨by repeat (first | exact HBr.out | apply below_alloc | apply pw_below_drewN | apply below_drew)⟩⟩
      case measure => simp [intOf]; omega
     | false =>
      go_wp2_with fail
      go_quiet (fail)
      clear a0 a1 i0 i1 i3 i4 j0 j1 j2 j3 j4;go_wp2
      go_ret
      exact ⟨ret_bool (by rw [all_bad hlt (show labAt ls k = false by unfold labAt; rw [← hs'.out, ← ht'.out, hL'.out, hb, decide_eq_false hK]; rfl)]; rfl), by repeat (first | exact HBr.out | apply below_alloc | apply pw_below_drewN | apply below_drew)⟩
  ·have HG := Aside0.mk (all_good hlt hz.out);clear hz;go_wp2
   go_loopw [4] (fun i a3 => ∃ k : Nat, k ≤ es.length ∧ i = .int .i64 k ∧ Aside0 (∀ j, j < k → okAt' n ls.length es j = true) ∧ Aside0 (BoxL a3 w.heap.size n (.slice A1 ls.length c1) (.slice A2 es.length c2)) ∧ Aside0 (Below w.heap.size w a3)) (fun i _ => es.length - (intOf i).toNat)
   case atStart => exact ⟨0, Nat.zero_le _, rfl, ⟨fun j hj => by omega⟩, HXr, HBr⟩
   case round =>
    clear HXr HBr hlt hk b1;obtain ⟨k, hk, rfl, hz, HXr, HBr⟩ := hrel;have b2' := HXr.out.c2;by_cases hlt : k < es.length
    ·obtain ⟨ad, hA, g0, g1, g2⟩ := atE HR.out k hlt;subst hA;replace g0 := later HBr.out g0;replace g1 := later HBr.out g1;replace g2 := later HBr.out g2;obtain ⟨x, hx⟩ : ∃ x, x = es.getD k z80 := ⟨_, rfl⟩
     rw [← hx] at g0 g1 g2;have hx' := Aside0.mk hx; clear hx
     go_wp2_with fail
     have b0 : ∀ o, (wr.alloc o).cell? ⟨w.heap.size, 0, none⟩ = some (.int .i64 n) := fun o => (HXr.out.below (below_alloc (Below.refl _ _) o)).c0
     have b1 : ∀ o, (wr.alloc o).cell? ⟨w.heap.size, 1, none⟩ = some (.slice A1 ls.length c1) := fun o => (HXr.out.below (below_alloc (Below.refl _ _) o)).c1
     have b2 : ∀ o, (wr.alloc o).cell? ⟨w.heap.size, 2, none⟩ = some (.slice (some ad) es.length c2) := fun o => (HXr.out.below (below_alloc (Below.refl _ _) o)).c2
     clear b2';by_cases h0_ : x.f0 < 0
     ·have a6 : decide (x.f0 < 0) = true := decide_eq_true h0_;have P0 := Aside0.mk (show decide (0 ≤ x.f0 ∧ x.f0 < n) = false from decide_eq_false (by omega));go_quiet (fail)
      go_wp2
      go_ret
      exact ⟨ret_bool (by rw [all_bad hlt (show okAt' n ls.length es k = false by unfold okAt'; rw [← hx'.out, P0.out]; rfl)]; simp), by repeat (first | exact HBr.out | apply below_alloc | apply pw_below_drewN | apply below_drew)⟩
     ·have a6 : decide (x.f0 < 0) = false := decide_eq_false h0_;by_cases h1_ : n ≤ x.f0
      ·have a7 : decide (n ≤ x.f0) = true := decide_eq_true h1_;have P0 := Aside0.mk (show decide (0 ≤ x.f0 ∧ x.f0 < n) = false from decide_eq_false (by omega));go_quiet (fail)
       go_wp2
       go_ret
       exact ⟨ret_bool (by rw [all_bad hlt (show okAt' n ls.length es k = false by unfold okAt'; rw [← hx'.out, P0.out]; rfl)]; simp), by repeat (first | exact HBr.out | apply below_alloc | apply pw_below_drewN | apply below_drew)⟩
      ·have a7 : decide (n ≤ x.f0) = false := decide_eq_false h1_;have P0 := Aside0.mk (show decide (0 ≤ x.f0 ∧ x.f0 < n) = true from decide_eq_true (by omega));by_cases h2_ : x.f2 < 0
       ·have a8 : decide (x.f2 < 0) = true := decide_eq_true h2_;have P1 := Aside0.mk (show decide (0 ≤ x.f2 ∧ x.f2 < n) = false from decide_eq_false (by omega));go_quiet (fail)
        go_wp2
        go_ret
        exact ⟨ret_bool (by rw [all_bad hlt (show okAt' n ls.length es k = false by unfold okAt'; rw [← hx'.out, P0.out, P1.out]; rfl)]; simp), by repeat (first | exact HBr.out | apply below_alloc | apply pw_below_drewN | apply below_drew)⟩
       ·have a8 : decide (x.f2 < 0) = false := decide_eq_false h2_;by_cases h3_ : n ≤ x.f2
        ·have a9 : decide (n ≤ x.f2) = true := decide_eq_true h3_;have P1 := Aside0.mk (show decide (0 ≤ x.f2 ∧ x.f2 < n) = false from decide_eq_false (by omega));go_quiet (fail)
         go_wp2
         go_ret
         exact ⟨ret_bool (by rw [all_bad hlt (show okAt' n ls.length es k = false by unfold okAt'; rw [← hx'.out, P0.out, P1.out]; rfl)]; simp), by repeat (first | exact HBr.out | apply below_alloc | apply pw_below_drewN | apply below_drew)⟩
        ·have a9 : decide (n ≤ x.f2) = false := decide_eq_false h3_;have P1 := Aside0.mk (show decide (0 ≤ x.f2 ∧ x.f2 < n) = true from decide_eq_true (by omega));by_cases h4_ : x.f1 < 0
         ·have b3 : decide (x.f1 < 0) = true := decide_eq_true h4_;have P2 := Aside0.mk (show decide (0 ≤ x.f1) = false from decide_eq_false (by omega));go_quiet (fail)
          go_wp2
          go_ret
          exact ⟨ret_bool (by rw [all_bad hlt (show okAt' n ls.length es k = false by unfold okAt'; rw [← hx'.out, P0.out, P1.out, P2.out]; rfl)]; simp), by repeat (first | exact HBr.out | apply below_alloc | apply pw_below_drewN | apply below_drew)⟩
         ·have b3 : decide (x.f1 < 0) = false := decide_eq_false h4_;have P2 := Aside0.mk (show decide (0 ≤ x.f1) = true from decide_eq_true (by omega));by_cases h5_ : (ls.length : Int) ≤ x.f1
          ·have b4 : decide ((ls.length : Int) ≤ x.f1) = true := decide_eq_true h5_;have P3 := Aside0.mk (show decide (x.f1 < (ls.length : Int)) = false from decide_eq_false (by omega));go_quiet (fail)
           go_wp2
           go_ret
           exact ⟨ret_bool (by rw [all_bad hlt (show okAt' n ls.length es k = false by unfold okAt'; rw [← hx'.out, P0.out, P1.out, P2.out, P3.out]; rfl)]; simp), by repeat (first | exact HBr.out | apply below_alloc | apply pw_below_drewN | apply below_drew)⟩
          ·have b4 : decide ((ls.length : Int) ≤ x.f1) = false := decide_eq_false h5_;have P3 := Aside0.mk (show decide (x.f1 < (ls.length : Int)) = true from decide_eq_true (by omega));by_cases hK : k = 0
           ·have hK' := Aside0.mk hK;have d7 : decide ((0 : Int) < (k : Int)) = false := decide_eq_false (by omega);have d8 : decide (0 < k) = false := decide_eq_false (by omega);clear hK;go_quiet (fail)
            go_wp2
            go_roundw
            case rel => exact ⟨k + 1, by omega, by go_num, ⟨fun j hj => by
             rcases Nat.lt_succ_iff_lt_or_eq.1 hj with h | rfl
             ·exact hz.out j h
             ·unfold okAt'; rw [← hx'.out, P0.out, P1.out, P2.out, P3.out, decide_eq_true hK'.out]; rfl⟩, ⟨HXr.out.below (by repeat (first | exact Below.refl _ _ | apply below_alloc | apply pw_below_drewN | apply below_drew))⟩, ⟨by repeat (first | exact HBr.out | apply below_alloc | apply pw_below_drewN | apply below_drew)⟩⟩
            case measure => simp [intOf]; omega
           ·obtain ⟨ad', hA', p0, p1, p2⟩ := atE HR.out (k - 1) (by omega)
            cases hA';replace p0 := later HBr.out p0;replace p1 := later HBr.out p1;replace p2 := later HBr.out p2;obtain ⟨y, hy⟩ : ∃ y, y = es.getD (k - 1) z80 := ⟨_, rfl⟩
            rw [← hy] at p0 p1 p2;have hy' := Aside0.mk hy;clear hy;have q0 := fun o => later (below_alloc (Below.refl wr.heap.size wr) o) p0
            have q1 := fun o => later (below_alloc (Below.refl wr.heap.size wr) o) p1
            have q2 := fun o => later (below_alloc (Below.refl wr.heap.size wr) o) p2
            clear p0 p1 p2;have d7 : decide ((0 : Int) < (k : Int)) = true := decide_eq_true (by omega);have d8 : decide (0 < k) = true := decide_eq_true (by omega);have i0 : (0 : Int) ≤ (k : Int) - 1 := by omega
            have i1 : (k : Int) - 1 < (es.length : Int) := by omega
            have j0 : (1 : Int) ≤ (k : Int) := by omega
            have j1 : (k : Int) < (es.length : Int) + 1 := by omega
            have j2 : 1 ≤ k := by omega
            have j3 : k - 1 < es.length := by omega
            have j4 : (k : Int) ≤ (es.length : Int) := by omega
            have a0 : IntKind.i64.wrap ((k : Int) - 1) = (k : Int) - 1 := by rw [IntKind.wrap_i64]; omega
            have a1 : ((k : Int) - 1).toNat = k - 1 := by omega
            cases hC : decide (elt y x) with
            | true =>
             have HC := Aside0.mk hC; clear hC
             go_region_held3 (fun w' => w'.cell? ⟨w.heap.size, 0, none⟩ = some (.int .i64 n) ∧ w'.cell? ⟨w.heap.size, 1, none⟩ = some (.slice A1 ls.length c1) ∧ w'.cell? ⟨w.heap.size, 2, none⟩ = some (.slice (some ad) es.length c2) ∧ w'.cell? ⟨wr.heap.size, 0, none⟩ = some (.int .i64 x.f0) ∧ w'.cell? ⟨wr.heap.size, 1, none⟩ = some (.int .i64 x.f1) ∧ w'.cell? ⟨wr.heap.size, 2, none⟩ = some (.int .i64 x.f2) ∧ w'.cell? (ad.add ((k - 1) * 3)) = some (.int .i64 y.f0) ∧ w'.cell? ⟨(ad.add ((k - 1) * 3)).block, (ad.add ((k - 1) * 3)).off + 1, none⟩ = some (.int .i64 y.f1) ∧ w'.cell? ⟨(ad.add ((k - 1) * 3)).block, (ad.add ((k - 1) * 3)).off + 2, none⟩ = some (.int .i64 y.f2)) (first | go_keep | (refine ⟨later hB ?_, later hB ?_, later hB ?_, later hB ?_, later hB ?_, later hB ?_, later hB ?_, later hB ?_, later hB ?_⟩ <;> go_keep)) (first | (go_at_call 70; refine (ahead_any y x _ HC.out _).mono ?_; rintro e w' ⟨rfl, hB⟩))
             clear a0 a1 i0 i1 j0 j1 j2 j3 j4 q0 q1 q2 b0 b1 b2;have HW := Aside0.mk (below_then (show Below w.heap.size w _ by repeat (first | exact HBr.out | apply below_alloc | apply pw_below_drewN | apply below_drew)) (below_size (by repeat (first | exact HBr.out | apply below_alloc | apply pw_below_drewN | apply below_drew))) hB);have HXw := Aside0.mk ((HXr.out.below (show Below wr.heap.size wr _ by repeat (first | exact Below.refl _ _ | apply below_alloc | apply pw_below_drewN | apply below_drew))).below hB);clear hB;go_wp2
             go_roundw
             case rel => exact ⟨k + 1, by omega, by go_num, ⟨fun j hj => by
              rcases Nat.lt_succ_iff_lt_or_eq.1 hj with h | rfl
              ·exact hz.out j h
              ·unfold okAt'; rw [← hx'.out, ← hy'.out, P0.out, P1.out, P2.out, P3.out, HC.out]; simp⟩, HXw, HW⟩
             case measure => simp [intOf]; omega
            | false =>
             have HC := Aside0.mk hC; clear hC
             go_region_held3 (fun w' => w'.cell? ⟨w.heap.size, 0, none⟩ = some (.int .i64 n) ∧ w'.cell? ⟨w.heap.size, 1, none⟩ = some (.slice A1 ls.length c1) ∧ w'.cell? ⟨w.heap.size, 2, none⟩ = some (.slice (some ad) es.length c2) ∧ w'.cell? ⟨wr.heap.size, 0, none⟩ = some (.int .i64 x.f0) ∧ w'.cell? ⟨wr.heap.size, 1, none⟩ = some (.int .i64 x.f1) ∧ w'.cell? ⟨wr.heap.size, 2, none⟩ = some (.int .i64 x.f2) ∧ w'.cell? (ad.add ((k - 1) * 3)) = some (.int .i64 y.f0) ∧ w'.cell? ⟨(ad.add ((k - 1) * 3)).block, (ad.add ((k - 1) * 3)).off + 1, none⟩ = some (.int .i64 y.f1) ∧ w'.cell? ⟨(ad.add ((k - 1) * 3)).block, (ad.add ((k - 1) * 3)).off + 2, none⟩ = some (.int .i64 y.f2)) (first | go_keep | (refine ⟨later hB ?_, later hB ?_, later hB ?_, later hB ?_, later hB ?_, later hB ?_, later hB ?_, later hB ?_, later hB ?_⟩ <;> go_keep)) (first | (go_at_call 70; refine (ahead_any y x _ HC.out _).mono ?_; rintro e w' ⟨rfl, hB⟩))
             clear a0 a1 i0 i1 j0 j1 j2 j3 j4 q0 q1 q2 b0 b1 b2;have HW := Aside0.mk (below_then (show Below w.heap.size w _ by repeat (first | exact HBr.out | apply below_alloc | apply pw_below_drewN | apply below_drew)) (below_size (by repeat (first | exact HBr.out | apply below_alloc | apply pw_below_drewN | apply below_drew))) hB);have HXw := Aside0.mk ((HXr.out.below (show Below wr.heap.size wr _ by repeat (first | exact Below.refl _ _ | apply below_alloc | apply pw_below_drewN | apply below_drew))).below hB);clear hB;go_wp2
             go_ret
             exact ⟨ret_bool (by rw [all_bad hlt (show okAt' n ls.length es k = false by unfold okAt'; rw [← hx'.out, ← hy'.out, P0.out, P1.out, P2.out, P3.out, HC.out, decide_eq_false hK]; rfl)]; simp), HW.out⟩
    ·have a5 := Aside0.mk (all_good hlt hz.out);go_wp2
     go_ret
     exact ⟨ret_bool (by rw [HG.out, a5.out]; rfl), HBr.out⟩
theorem may_any (n : Int) (ls : List ByteArray) (es : List Ed) (A1 A2 : Option Addr) (c1 c2 : Nat) (w : World) (hr1 : Kd.C Kd.string w A1 ls.length ls) (hr2 : Kd.C k80 w A2 es.length es) :
  Calls Try.prog 18 #[.agg #[.int .i64 n, .slice A1 ls.length c1, .slice A2 es.length c2]] w fun e w' => e = .returned (.bool (mayR n ls es)) ∧ Below w.heap.size w w' := by
 unfold mayR
 by_cases h : n < 1 ∨ 2048 < n ∨ 64 < ls.length ∨ 1000000 < es.length
 ·have : (decide (1 ≤ n) && (decide (n ≤ 2048) && (decide (ls.length ≤ 64) && (decide (es.length ≤ 1000000) && ((List.range ls.length).all (labAt ls) && (List.range es.length).all (okAt' n ls.length es)))))) = false := by
   rcases h with h | h | h | h
   ·rw [decide_eq_false (show ¬ 1 ≤ n by omega)]; rfl
   ·rw [decide_eq_false (show ¬ n ≤ 2048 by omega)]; simp
   ·rw [decide_eq_false (show ¬ ls.length ≤ 64 by omega)]; simp
   ·rw [decide_eq_false (show ¬ es.length ≤ 1000000 by omega)]; simp
  rw [this]
  exact may_size n ls es A1 A2 c1 c2 w h
 ·rw [decide_eq_true (show 1 ≤ n by omega), decide_eq_true (show n ≤ 2048 by omega), decide_eq_true (show ls.length ≤ 64 by omega), decide_eq_true (show es.length ≤ 1000000 by omega)]
  exact may_main n ls es A1 A2 c1 c2 w (by omega) (by omega) (by omega) (by omega) hr1 hr2
theorem bytesLess_lt : ∀ (x y : List UInt8), Op.bytesLess x y = decide (x < y)
 | [], [] => by simp [Op.bytesLess]
 | _ :: _, [] => by simp [Op.bytesLess]
 | [], _ :: _ => by simp [Op.bytesLess]
 | a :: x, b :: y => by
  rw [Op.bytesLess, bytesLess_lt x y]
  simp only [List.cons_lt_cons_iff]
  by_cases h1 : a < b <;> by_cases h2 : a = b <;> by_cases h3 : x < y <;> simp [h1, h2, h3]
theorem okAt_same (n nl : Int) (es : List Ed) (k : Nat) : okAt n nl es k = okAt' n nl es k := by
 unfold okAt okAt'
 rw [decide_eq_decide.2 (cmpE_neg _ _)]
theorem compact_sub (zs : List (List UInt8)) : List.Sublist (Lib.compact zs) zs := by
 unfold Lib.compact Lib.compactUpTo
 have h := (List.filter_sublist (p := Lib.keeps zs.toArray) (l := List.range zs.length)).map (zs.toArray[·]!)
 have e := Lib.range_map_get zs.toArray
 simp only [List.size_toArray] at e
 rw [e] at h
 simpa using h
theorem back_inj {xs ys : List (List UInt8)} (h : (xs.map fun l => (⟨l.toArray⟩ : ByteArray)) = ys.map fun l => ⟨l.toArray⟩) : xs = ys := by
 have := congrArg (List.map fun s : ByteArray => s.data.toList) h
 simpa [List.map_map, Function.comp_def] using this
theorem back_fwd (ls : List ByteArray) : ((ls.map fun s => s.data.toList).map fun l => (⟨l.toArray⟩ : ByteArray)) = ls := by
 rw [List.map_map]
 simp [Function.comp_def]
theorem union_nil (ls : List ByteArray) : unionS ls [] = (Lib.compact ((ls.map fun s => s.data.toList).mergeSort fun x y => decide (x ≤ y))).map fun l => ⟨l.toArray⟩ := by
 unfold unionS cmpt srt
 rw [List.append_nil]
 congr 2
 rw [List.map_map]
 simp [Function.comp_def]
theorem rising_iff (L : List (List UInt8)) : L = Lib.compact (L.mergeSort fun x y => decide (x ≤ y)) ↔ ∀ k, 0 < k → k < L.length → L.getD (k - 1) [] < L.getD k [] := by
 have tr : ∀ a b c : List UInt8, decide (a ≤ b) = true → decide (b ≤ c) = true → decide (a ≤ c) = true := by
  intro a b c h1 h2;simp only [decide_eq_true_eq] at h1 h2 ⊢;exact List.le_trans h1 h2
 have tot : ∀ a b : List UInt8, (decide (a ≤ b) || decide (b ≤ a)) = true := by
  intro a b;simp only [Bool.or_eq_true, decide_eq_true_eq];exact List.le_total a b
 constructor
 ·intro h
  have hlen : (L.mergeSort fun x y => decide (x ≤ y)).length ≤ (Lib.compact (L.mergeSort fun x y => decide (x ≤ y))).length := by
   rw [← h, List.length_mergeSort];exact Nat.le_refl _
  have he := (compact_sub (L.mergeSort fun x y => decide (x ≤ y))).eq_of_length_le hlen;have hs : L = L.mergeSort fun x y => decide (x ≤ y) := h.trans he
  have hp : L.Pairwise fun x y => x ≤ y := by
   have := List.pairwise_mergeSort (le := fun x y : List UInt8 => decide (x ≤ y)) tr tot L;rw [← hs] at this;exact this.imp (by intro a b h; simpa using h)
  intro k h0 hk
  have hle : L.getD (k - 1) [] ≤ L.getD k [] := by
   rw [List.getD_eq_getElem?_getD, List.getD_eq_getElem?_getD, List.getElem?_eq_getElem hk, List.getElem?_eq_getElem (show k - 1 < L.length by omega)];exact List.pairwise_iff_getElem.1 hp (k - 1) k (by omega) hk (by omega)
  have hne : L.getD k [] ≠ L.getD (k - 1) [] := by
   intro e
   have hkeep : Lib.keeps L.toArray k = false := by
    apply Lib.keeps_neg h0;rw [getElem!_pos _ _ (by simpa using hk), getElem!_pos _ _ (by simp; omega)];rw [List.getD_eq_getElem?_getD, List.getD_eq_getElem?_getD, List.getElem?_eq_getElem hk, List.getElem?_eq_getElem (show k - 1 < L.length by omega)] at e;simpa using e
   have hl2 : (Lib.compact L).length < L.length := by
    unfold Lib.compact Lib.compactUpTo;rw [List.length_map];have := List.length_filter_lt_length_iff_exists (p := Lib.keeps L.toArray) (l := List.range L.length);have h2 := this.2 ⟨k, List.mem_range.2 hk, by simp [hkeep]⟩;simpa using h2
   rw [hs] at hl2;rw [he] at hl2;exact Nat.lt_irrefl _ hl2
  exact Std.lt_of_le_of_ne hle (fun e => hne e.symm)
 ·intro h
  have hp : L.Pairwise fun x y => x < y := by
   rw [List.pairwise_iff_getElem];intro i j hi hj hij
   induction j with
   | zero => omega
   | succ j ih =>
    have hs := h (j + 1) (by omega) hj;rw [List.getD_eq_getElem?_getD, List.getD_eq_getElem?_getD, List.getElem?_eq_getElem hj, List.getElem?_eq_getElem (show j + 1 - 1 < L.length by omega)] at hs;simp only [Nat.add_sub_cancel, Option.getD_some] at hs;by_cases e : i = j
    ·subst e; exact hs
    ·exact List.lt_trans (ih (by omega) (by omega)) hs
  have hm : (L.mergeSort fun x y => decide (x ≤ y)) = L := by
   apply List.mergeSort_of_pairwise;exact hp.imp (by intro a b h; simpa using List.le_of_lt h)
  rw [hm];refine (Lib.compact_all L fun j hj => ?_).symm;by_cases h0 : j = 0
  ·subst h0; simp [Lib.keeps]
  ·apply Lib.keeps_pos;rw [getElem!_pos _ _ (by simpa using hj), getElem!_pos _ _ (by simp; omega)];have := List.pairwise_iff_getElem.1 hp (j - 1) j (by omega) hj (by omega);intro e;simp only [List.getElem_toArray] at e;rw [← e] at this;exact List.lt_irrefl _ this
theorem named_same (ls : List ByteArray) : namedB ls = (decide (ls.length ≤ 64) && (List.range ls.length).all (labAt ls)) := by
 unfold namedB;congr 1
 rw [Bool.eq_iff_iff];simp only [Bool.and_eq_true, Bool.not_eq_true', decide_eq_true_eq, List.all_eq_true, List.mem_range, labAt, Bool.or_eq_true]
 have hu : ls = unionS ls [] ↔ ∀ k, 0 < k → k < ls.length → (ls.getD (k - 1) ByteArray.empty).data.toList < (ls.getD k ByteArray.empty).data.toList := by
  have hr := rising_iff (ls.map fun s => s.data.toList);rw [union_nil]
  have e1 : (ls = (Lib.compact ((ls.map fun s => s.data.toList).mergeSort fun x y => decide (x ≤ y))).map fun l => ⟨l.toArray⟩) ↔ ((ls.map fun s => s.data.toList) = Lib.compact ((ls.map fun s => s.data.toList).mergeSort fun x y => decide (x ≤ y))) := by
   constructor
   ·intro h;apply back_inj;rw [back_fwd];exact h
   ·intro h;rw [← h, back_fwd]
  rw [e1, hr]
  have g : ∀ k, k < ls.length → (ls.map fun s => s.data.toList).getD k [] = (ls.getD k ByteArray.empty).data.toList := by
   intro k hk;simp [List.getD_eq_getElem?_getD, List.getElem?_map, List.getElem?_eq_getElem hk]
  constructor
  ·intro h k h0 hk;have := h k h0 (by simpa using hk);rwa [g k hk, g (k - 1) (by omega)] at this
  ·intro h k h0 hk;rw [List.length_map] at hk;rw [g k hk, g (k - 1) (by omega)];exact h k h0 hk
 rw [hu];constructor
 ·rintro ⟨h1, h2⟩ k hk;refine ⟨?_, ?_⟩
  ·have : ls.getD k ByteArray.empty ∈ ls := by
    rw [List.getD_eq_getElem?_getD, List.getElem?_eq_getElem hk];exact List.getElem_mem hk
   rw [Bool.eq_false_iff];intro e;have h3 : ls.any tooLong = true := List.any_eq_true.2 ⟨_, this, e⟩;rw [h1] at h3
   cases h3
  ·by_cases h0 : k = 0
   ·exact Or.inl h0
   ·right
    rw [bytesLess_lt];simp only [ByteArray.toList_eq, decide_eq_true_eq];exact h2 k (by omega) hk
 ·intro h;refine ⟨?_, ?_⟩
  ·rw [List.any_eq_false];intro s hs;obtain ⟨k, hk, rfl⟩ := List.getElem_of_mem hs;have := (h k hk).1;rw [List.getD_eq_getElem?_getD, List.getElem?_eq_getElem hk] at this;simpa using this
  ·intro k h0 hk;rcases (h k hk).2 with h2 | h2
   ·omega
   ·rw [bytesLess_lt] at h2;simp only [ByteArray.toList_eq, decide_eq_true_eq] at h2;exact h2
theorem may_same (n : Int) (ls : List ByteArray) (es : List Ed) : mayB n ls es = mayR n ls es := by
 unfold mayB mayR
 rw [named_same, show (okAt n (ls.length : Int) es) = okAt' n (ls.length : Int) es from funext fun k => okAt_same n _ es k]
 cases decide (1 ≤ n) <;> cases decide (n ≤ 2048) <;> cases decide (ls.length ≤ 64) <;> cases (List.range ls.length).all (labAt ls) <;> simp
end Go.Proofs.Ytmcbkmfpmcbdpaa.H
namespace Go.Proofs.Ytmcbkmfpmcbdpaa.H
open Go.RowKit Go.Proofs.Ytmcbkmfpmcbdpaa.Pr Go.Proofs.YtmcbkmfpmcbdpaaW.PrintWords Go.Proofs.Ytmcbkmfpmcbdpaa.Sem Go.Proofs.YtmcbkmfpmcbdpaaW.PrintLast
abbrev Pair := S71
theorem take_snoc {α : Type} (d : α) {xs : List α} {k : Nat} (hk : k < xs.length) : xs.take (k + 1) = xs.take k ++ [xs.getD k d] := by
 rw [List.take_add_one, List.getElem?_eq_getElem hk, List.getD_eq_getElem?_getD, List.getElem?_eq_getElem hk]
 rfl
def relS (rel : List Pair) : Int → Int → Bool := fun a b => rel.any fun p => decide (p.f0 = a) && decide (p.f1 = b)
theorem n_le {n : Int} {ls : List ByteArray} {es : List Ed} (h : mayR n ls es = true) : 1 ≤ n ∧ n ≤ 2048 := by
 unfold mayR at h
 simp only [Bool.and_eq_true, decide_eq_true_eq] at h
 exact ⟨h.1, h.2.1⟩
theorem es_le {n : Int} {ls : List ByteArray} {es : List Ed} (h : mayR n ls es = true) : es.length ≤ 1000000 := by
 unfold mayR at h
 simp only [Bool.and_eq_true, decide_eq_true_eq] at h
 exact h.2.2.2.1
theorem es_at {n : Int} {ls : List ByteArray} {es : List Ed} (h : mayR n ls es = true) {k : Nat} (hk : k < es.length) : (0 ≤ (es.getD k z80).f0 ∧ (es.getD k z80).f0 < n) ∧ (0 ≤ (es.getD k z80).f2 ∧ (es.getD k z80).f2 < n) := by
 unfold mayR at h
 simp only [Bool.and_eq_true, decide_eq_true_eq] at h
 have := List.all_eq_true.1 h.2.2.2.2.2 k (List.mem_range.2 hk)
 unfold okAt' at this
 simp only [Bool.and_eq_true, decide_eq_true_eq] at this
 exact ⟨this.1, this.2.1⟩
def outE (es : List Ed) (i : Int) : List Ed := es.filter fun e => decide (e.f0 = i)
def answers (S : Int → Int → Bool) (turned : Bool) (e f : Ed) : Bool := (e.f1 == f.f1) && (if turned then S f.f2 e.f2 else S e.f2 f.f2)
def followsB (es : List Ed) (S : Int → Int → Bool) (turned : Bool) (a b : Int) : Bool :=
 (outE es (if turned then b else a)).all fun e => (outE es (if turned then a else b)).any fun f => answers S turned e f
theorem all_no {α : Type} (d : α) {p : α → Bool} {xs : List α} {k : Nat} (hk : k < xs.length) (h : p (xs.getD k d) = false) : xs.all p = false := by
 rw [Bool.eq_false_iff]
 intro he
 have := List.all_eq_true.1 he (xs.getD k d) (by rw [List.getD_eq_getElem?_getD, List.getElem?_eq_getElem hk]; exact List.getElem_mem hk)
 rw [h] at this
 cases this
theorem all_yes {α : Type} (d : α) {p : α → Bool} {xs : List α} {k : Nat} (hk : ¬ k < xs.length) (h : ∀ j, j < k → p (xs.getD j d) = true) : xs.all p = true := by
 rw [List.all_eq_true]
 intro x hx
 obtain ⟨j, hj, rfl⟩ := List.getElem_of_mem hx
 have := h j (by omega)
 rwa [List.getD_eq_getElem?_getD, List.getElem?_eq_getElem hj] at this
def light26 (n : Int) (ls : List ByteArray) (es : List Ed) : Bool :=
 (ls.take 70).all (fun s => decide (s.size ≤ 300)) && (decide (ls.length < 70) && (decide (es.length ≤ 200) && (decide (n ≤ 60) || decide (2048 < n))))
theorem take_getD {α : Type} (d : α) {xs : List α} {k m : Nat} (hk : k < m) : (xs.take m).getD k d = xs.getD k d := by
 simp [List.getD_eq_getElem?_getD, List.getElem?_take, hk]
set_option maxRecDepth 100000 in
theorem light26_any (n : Int) (ls : List ByteArray) (es : List Ed) (A1 A2 : Option Addr) (c1 c2 : Nat) (w : World) (hr1 : Kd.C Kd.string w A1 ls.length ls) (hl2 : es.length ≤ 9223372036854775807) :
  Calls Try.prog 66 #[.agg #[.int .i64 n, .slice A1 ls.length c1, .slice A2 es.length c2]] w fun e w' => e = .returned (.bool (light26 n ls es)) ∧ Below w.heap.size w w' := by
 have a5 := C_len hr1;have a3 := Aside0.mk hr1;clear hr1;have a2 := Aside0.mk (Below.refl w.heap.size w);go_enter Try.func66, Try.ntmps66
 go_wp2
 go_loopw [3] (fun i wr => ∃ k : Nat, k ≤ ls.length ∧ k ≤ 70 ∧ i = .int .i64 k ∧ Aside0 (∀ j, j < k → decide ((ls.getD j ByteArray.empty).size ≤ 300) = true) ∧ Aside0 (BoxL wr w.heap.size n (.slice A1 ls.length c1) (.slice A2 es.length c2)) ∧ Aside0 (Below w.heap.size w wr)) (fun i _ => ls.length - (intOf i).toNat)
 case atStart => exact ⟨0, Nat.zero_le _, by omega, rfl, ⟨fun j hj => by omega⟩, ⟨blk_new w _⟩, ⟨below_alloc a2.out _⟩⟩
 case round =>
  obtain ⟨k, hk, a4, rfl, hz, HXr, HBr⟩ := hrel;have b1 := HXr.out.c1;by_cases hlt : k < ls.length ∧ k < 70
  ·obtain ⟨a0, a1⟩ := hlt;obtain ⟨ad, hA, g0⟩ := atS a3.out k a0;subst hA;replace g0 := later HBr.out g0;obtain ⟨s, hs⟩ : ∃ s, s = ls.getD k ByteArray.empty := ⟨_, rfl⟩
   rw [← hs] at g0;have hs' := Aside0.mk hs; clear hs
   by_cases hL : (300 : Int) < (s.size : Int)
   ·have HBad := Aside0.mk (show light26 n ls es = false by
     unfold light26;rw [all_no ByteArray.empty (k := k) (by rw [List.length_take]; omega) (by rw [take_getD _ a1, ← hs'.out]; exact decide_eq_false (by omega))];rfl)
    go_wp2
    go_ret
    exact ⟨ret_bool HBad.out.symm, HBr.out⟩
   ·have HOk := Aside0.mk (show decide (s.size ≤ 300) = true from decide_eq_true (by omega));go_wp2
    go_roundw
    case rel => exact ⟨k + 1, by omega, by omega, by go_num, ⟨fun j hj => by
     rcases Nat.lt_succ_iff_lt_or_eq.1 hj with h | rfl
     ·exact hz.out j h
     ·rw [← hs'.out]; exact HOk.out⟩, HXr, HBr⟩
    case measure => simp [intOf]; omega
  ·have HAll := Aside0.mk (show (ls.take 70).all (fun s => decide (s.size ≤ 300)) = true from
    all_yes ByteArray.empty (k := k) (by rw [List.length_take]; omega) (fun j hj => by rw [take_getD _ (by omega)]; exact hz.out j hj))
   have b0 := HXr.out.c0;have b2 := HXr.out.c2;have e0 : light26 n ls es = (decide (ls.length < 70) && (decide (es.length ≤ 200) && (decide (n ≤ 60) || decide (2048 < n)))) := by unfold light26; rw [HAll.out, Bool.true_and]
   have E0 := Aside0.mk e0;clear e0;by_cases q0 : (k : Int) < (ls.length : Int)
   ·have q1 : ¬ (k : Int) < 70 := by omega
    have q2 : ¬ (ls.length : Int) < 70 := by omega
    have HF := Aside0.mk (show (decide (ls.length < 70) && (decide (es.length ≤ 200) && (decide (n ≤ 60) || decide (2048 < n)))) = false by rw [decide_eq_false (by omega)]; rfl);go_wp2
    go_ret
    exact ⟨ret_bool (E0.out.trans HF.out).symm, HBr.out⟩
   ·by_cases q2 : (ls.length : Int) < 70
    ·by_cases q3 : (es.length : Int) ≤ 200
     ·by_cases q4 : n ≤ 60
      ·have HF := Aside0.mk (show (decide (ls.length < 70) && (decide (es.length ≤ 200) && (decide (n ≤ 60) || decide (2048 < n)))) = true by rw [decide_eq_true (by omega), decide_eq_true (by omega), decide_eq_true q4]; rfl);go_wp2
       go_ret
       exact ⟨ret_bool (E0.out.trans HF.out).symm, HBr.out⟩
      ·have HF := Aside0.mk (show (decide (ls.length < 70) && (decide (es.length ≤ 200) && (decide (n ≤ 60) || decide (2048 < n)))) = decide (2048 < n) by rw [decide_eq_true (by omega), decide_eq_true (by omega), decide_eq_false q4]; rfl);go_wp2
       go_ret
       exact ⟨ret_bool (E0.out.trans HF.out).symm, HBr.out⟩
     ·have HF := Aside0.mk (show (decide (ls.length < 70) && (decide (es.length ≤ 200) && (decide (n ≤ 60) || decide (2048 < n)))) = false by rw [decide_eq_true (by omega), decide_eq_false (by omega)]; rfl);go_wp2
      go_ret
      exact ⟨ret_bool (E0.out.trans HF.out).symm, HBr.out⟩
    ·have HF := Aside0.mk (show (decide (ls.length < 70) && (decide (es.length ≤ 200) && (decide (n ≤ 60) || decide (2048 < n)))) = false by rw [decide_eq_false (by omega)]; rfl);go_wp2
     go_ret
     exact ⟨ret_bool (E0.out.trans HF.out).symm, HBr.out⟩
def light33 (n : Int) (ls : List ByteArray) (es : List Ed) : Bool :=
 light26 n ls es && ((decide (n ≤ 16) || decide (2048 < n)) && (decide (es.length ≤ 60) && decide (ls.length ≤ 8)))
theorem light33_any (n : Int) (ls : List ByteArray) (es : List Ed) (A1 A2 : Option Addr) (c1 c2 : Nat) (w : World) (hr1 : Kd.C Kd.string w A1 ls.length ls) (hl2 : es.length ≤ 9223372036854775807) :
  Calls Try.prog 15 #[.agg #[.int .i64 n, .slice A1 ls.length c1, .slice A2 es.length c2]] w fun e w' => e = .returned (.bool (light33 n ls es)) ∧ Below w.heap.size w w' := by
 have HC : ∀ W, Below w.heap.size w W → Calls Try.prog 66 #[.agg #[.int .i64 n, .slice A1 ls.length c1, .slice A2 es.length c2]] W fun e w' => e = .returned (.bool (light26 n ls es)) ∧ Below W.heap.size W w' := fun W hW =>
  light26_any n ls es A1 A2 c1 c2 W (Kd.C_below hr1 hW) hl2
 have HC' := Lib.hid HC;clear HC;have a2 := C_len hr1;clear hr1;have a0 := Aside0.mk (Below.refl w.heap.size w);obtain ⟨r, hr⟩ : ∃ r, r = light33 n ls es := ⟨_, rfl⟩
 rw [← hr];unfold light33 at hr
 cases q : light26 n ls es with
 | false =>
  rw [q] at hr HC';have HR := Aside0.mk hr;clear q hr;go_enter Try.func15, Try.ntmps15
  go_wp2_with fail
  refine (HC'.out _ (below_alloc a0.out _)).mono ?_;rintro e w1 ⟨rfl, hB⟩;have a1 := Aside0.mk (below_then (below_alloc a0.out _) (by simp) hB);clear hB;go_wp2
  go_ret
  exact ⟨ret_bool HR.out.symm, a1.out⟩
 | true =>
  rw [q, Bool.true_and] at hr;rw [q] at HC';clear q;by_cases q0 : n ≤ 16
  ·by_cases q1 : (es.length : Int) ≤ 60
   ·have HR := Aside0.mk (show decide (ls.length ≤ 8) = r by rw [hr, decide_eq_true q0, decide_eq_true (show es.length ≤ 60 by omega)]; rfl);clear hr;go_enter Try.func15, Try.ntmps15
    go_wp2_with fail
    refine (HC'.out _ (below_alloc a0.out _)).mono ?_;rintro e w1 ⟨rfl, hB⟩;have a1 := Aside0.mk (below_then (below_alloc a0.out _) (by simp) hB);have hX : BoxL w1 w.heap.size n (.slice A1 ls.length c1) (.slice A2 es.length c2) := blk_below (blk_new w _) hB;have b0 := hX.c0;have b1 := hX.c1;have b2 := hX.c2;clear hB hX;go_wp2
    go_ret
    exact ⟨ret_bool (by rw [← HR.out]; apply decide_eq_decide.2; omega), a1.out⟩
   ·have HR := Aside0.mk (show r = false by rw [hr, decide_eq_false (show ¬ es.length ≤ 60 by omega)]; simp);clear hr;go_enter Try.func15, Try.ntmps15
    go_wp2_with fail
    refine (HC'.out _ (below_alloc a0.out _)).mono ?_;rintro e w1 ⟨rfl, hB⟩;have a1 := Aside0.mk (below_then (below_alloc a0.out _) (by simp) hB);have hX : BoxL w1 w.heap.size n (.slice A1 ls.length c1) (.slice A2 es.length c2) := blk_below (blk_new w _) hB;have b0 := hX.c0;have b1 := hX.c1;have b2 := hX.c2;clear hB hX;go_wp2
    go_ret
    exact ⟨ret_bool HR.out.symm, a1.out⟩
  ·by_cases q2 : 2048 < n
   ·by_cases q1 : (es.length : Int) ≤ 60
    ·have HR := Aside0.mk (show decide (ls.length ≤ 8) = r by rw [hr, decide_eq_false q0, decide_eq_true q2, decide_eq_true (show es.length ≤ 60 by omega)]; rfl);clear hr;go_enter Try.func15, Try.ntmps15
     go_wp2_with fail
     refine (HC'.out _ (below_alloc a0.out _)).mono ?_;rintro e w1 ⟨rfl, hB⟩;have a1 := Aside0.mk (below_then (below_alloc a0.out _) (by simp) hB);have hX : BoxL w1 w.heap.size n (.slice A1 ls.length c1) (.slice A2 es.length c2) := blk_below (blk_new w _) hB;have b0 := hX.c0;have b1 := hX.c1;have b2 := hX.c2;clear hB hX;go_wp2
     go_ret
     exact ⟨ret_bool (by rw [← HR.out]; apply decide_eq_decide.2; omega), a1.out⟩
    ·have HR := Aside0.mk (show r = false by rw [hr, decide_eq_false (show ¬ es.length ≤ 60 by omega)]; simp);clear hr;go_enter Try.func15, Try.ntmps15
     go_wp2_with fail
     refine (HC'.out _ (below_alloc a0.out _)).mono ?_;rintro e w1 ⟨rfl, hB⟩;have a1 := Aside0.mk (below_then (below_alloc a0.out _) (by simp) hB);have hX : BoxL w1 w.heap.size n (.slice A1 ls.length c1) (.slice A2 es.length c2) := blk_below (blk_new w _) hB;have b0 := hX.c0;have b1 := hX.c1;have b2 := hX.c2;clear hB hX;go_wp2
     go_ret
     exact ⟨ret_bool HR.out.symm, a1.out⟩
   ·have HR := Aside0.mk (show r = false by rw [hr, decide_eq_false q0, decide_eq_false q2]; simp);clear hr;go_enter Try.func15, Try.ntmps15
    go_wp2_with fail
    refine (HC'.out _ (below_alloc a0.out _)).mono ?_;rintro e w1 ⟨rfl, hB⟩;have a1 := Aside0.mk (below_then (below_alloc a0.out _) (by simp) hB);have hX : BoxL w1 w.heap.size n (.slice A1 ls.length c1) (.slice A2 es.length c2) := blk_below (blk_new w _) hB;have b0 := hX.c0;have b1 := hX.c1;have b2 := hX.c2;clear hB hX;go_wp2
    go_ret
    exact ⟨ret_bool HR.out.symm, a1.out⟩
def succL (es : List Ed) (node label : Int) : List Int := (es.filter fun e => decide (e.f0 = node) && decide (e.f1 = label)).map (·.f2)
theorem succL_snoc (es : List Ed) (e : Ed) (a b : Int) : succL (es ++ [e]) a b = if e.f0 = a ∧ e.f1 = b then succL es a b ++ [e.f2] else succL es a b := by
 unfold succL
 by_cases h : e.f0 = a ∧ e.f1 = b
 ·rw [if_pos h]; simp [h.1, h.2]
 ·rw [if_neg h]
  have : (decide (e.f0 = a) && decide (e.f1 = b)) = false := by simpa using h
  simp [this]
theorem succL_len (es : List Ed) (a b : Int) : (succL es a b).length ≤ es.length := by
 unfold succL; rw [List.length_map]; exact List.length_filter_le _ _
def MadeI (w : World) (xs : List Int) (e : Ending) (w' : World) : Prop := ∃ v, e = .returned v ∧ Kd.R (Kd.int .i64) 3 w' w.heap.size (fun _ => True) v xs ∧ Below w.heap.size w w'
theorem emptyI (W : World) (base : Nat) (hb : base ≤ W.heap.size) : Kd.R (Kd.int .i64) 3 (W.alloc (.cells #[] 3)) base (fun _ => True) (.slice (some ⟨W.heap.size, 0, none⟩) 0 0) [] :=
 Kd.R_of_own (enc := Value.int .i64) (own_lit_of (enc := Value.int .i64) W base 3 [] hb (by simp)) (fun _ _ => trivial)
set_option maxRecDepth 100000 in
theorem succ_any (n : Int) (ls : List ByteArray) (es : List Ed) (a b : Int) (v1 : Value) (A2 : Option Addr) (c2 : Nat) (w : World) (hr2 : Kd.C k80 w A2 es.length es) (hlen : es.length ≤ 1000000) :
  Calls Try.prog 151 #[.agg #[.int .i64 n, v1, .slice A2 es.length c2], .int .i64 a, .int .i64 b] w (MadeI w (succL es a b)) := by
 have HR := Aside0.mk hr2;clear hr2;have HB0 := Aside0.mk (Below.refl w.heap.size w);go_enter Try.func151, Try.ntmps151
 go_wp2
 go_loopw [7, 8] (fun v i wr => ∃ k : Nat, k ≤ es.length ∧ i = .int .i64 k ∧ Aside0 (Kd.R (Kd.int .i64) 3 wr w.heap.size (fun _ => True) v (succL (es.take k) a b)) ∧ Aside0 (BoxL wr w.heap.size n v1 (.slice A2 es.length c2)) ∧ Aside0 (Below w.heap.size w wr)) (fun _ i _ => es.length - (intOf i).toNat)
 case atStart =>
  refine ⟨0, Nat.zero_le _, rfl, ⟨?_⟩, ⟨blk_below (blk_new w _) (below_alloc (Below.refl _ _) _)⟩, ⟨by repeat (first | exact HB0.out | apply below_alloc)⟩⟩;have := emptyI (w.alloc (Obj.cells #[Value.int IntKind.i64 n, v1, Value.slice A2 es.length c2] 25)) w.heap.size (by simp);simpa [succL] using this
 case round =>
  obtain ⟨k, hk, rfl, HO, HXr, HBr⟩ := hrel;have b2 := HXr.out.c2;by_cases hlt : k < es.length
  ·obtain ⟨ad, hA, g0, g1, g2⟩ := atE HR.out k hlt;subst hA;replace g0 := later HBr.out g0;replace g1 := later HBr.out g1;replace g2 := later HBr.out g2;obtain ⟨x, hx⟩ : ∃ x, x = es.getD k z80 := ⟨_, rfl⟩
   rw [← hx] at g0 g1 g2;have he : es.take (k + 1) = es.take k ++ [x] := by rw [hx]; exact take_snoc z80 hlt
   have HE := Aside0.mk he;clear hx he;obtain ⟨L, hL⟩ : ∃ L, L = succL (es.take k) a b := ⟨_, rfl⟩
   have hLl : L.length ≤ 1000000 := by rw [hL]; have := succL_len (es.take k) a b; rw [List.length_take] at this; omega
   rw [← hL] at HO;have HL := Aside0.mk hL;clear hL;by_cases q0 : x.f0 = a
   ·by_cases q1 : x.f1 = b
    ·have p0 : (x.f0 == a) = true := by simp [q0]
     have p1 : (x.f1 == b) = true := by simp [q1]
     have HN := Aside0.mk (show succL (es.take (k + 1)) a b = L ++ [x.f2] by rw [HE.out, succL_snoc, if_pos ⟨q0, q1⟩, HL.out]);clear q0 q1;go_wp2_with (at_builtin; refine Kd.R_append (Kd.int .i64) (w0 := w) w.heap.size rfl (.tmp 35) (.tmp 42) 28 3 (.int .i64 0) 8 rfl Try.underlying28 info3 rfl (by decide) (by omega) u7 L x.f2 [.int .i64 x.f2] (fun _ => True) (fun _ => False) rfl rfl rfl (fun _ hk => hk.elim) (fun _ _ => trivial) HO.out HBr.out HBr.out.size (by omega) ?_; intro v2 w2 ho hb hg hat; have HO2 := Aside0.mk ho; have HB2 := Aside0.mk hb; have HX2 := Aside0.mk (blk_grown (g := w.heap.size) HXr.out hg (Kd.R_ne HO.out HXr.out (by decide))); clear ho hb hg hat)
     go_roundw
     case rel => exact ⟨k + 1, by omega, by go_num, ⟨by rw [HN.out]; exact HO2.out⟩, HX2, HB2⟩
     case measure => simp [intOf]; omega
    ·have p0 : (x.f0 == a) = true := by simp [q0]
     have p1 : (x.f1 == b) = false := by simp [q1]
     have HN := Aside0.mk (show succL (es.take (k + 1)) a b = L by rw [HE.out, succL_snoc, if_neg (fun h => q1 h.2), HL.out]);clear q0 q1;go_wp2
     go_roundw
     case rel => exact ⟨k + 1, by omega, by go_num, ⟨by rw [HN.out]; exact HO.out⟩, HXr, HBr⟩
     case measure => simp [intOf]; omega
   ·have p0 : (x.f0 == a) = false := by simp [q0]
    have HN := Aside0.mk (show succL (es.take (k + 1)) a b = L by rw [HE.out, succL_snoc, if_neg (fun h => q0 h.1), HL.out]);clear q0;go_wp2
    go_roundw
    case rel => exact ⟨k + 1, by omega, by go_num, ⟨by rw [HN.out]; exact HO.out⟩, HXr, HBr⟩
    case measure => simp [intOf]; omega
  ·have ek : es.take k = es := List.take_of_length_le (by omega);rw [ek] at HO;clear ek;go_wp2
   go_ret
   exact ⟨_, rfl, HO.out, HBr.out⟩
end Go.Proofs.Ytmcbkmfpmcbdpaa.H
namespace Go.Proofs.Ytmcbkmfpmcbdpaa.Pr
open Go.RowKit Go.Proofs.YtmcbkmfpmcbdpaaW.PrintWords Go.Proofs.YtmcbkmfpmcbdpaaW.PrintLast Go.Proofs.YtmcbkmfpmcbdpaaW.PrintMore
def Pl33a.f (k : Nat) (a0_0 : Int) (l0_1 : List ByteArray) (l0_2 : List S80) : Option Bool := some (H.light33 a0_0 l0_1 l0_2)
theorem Pl33a.mono : ∀ a0 a1 a2 k, LeO (Pl33a.f k a0 a1 a2) (Pl33a.f (k + 1) a0 a1 a2) := fun _ _ _ _ => LeO.refl _
theorem Pl33a.calls (k : Nat) (a0_0 : Int) (A0_1 : Option Addr) (c0_1 : Nat) (l0_1 : List ByteArray) (A0_2 : Option Addr) (c0_2 : Nat) (l0_2 : List S80) (r : Bool) (w : World) (hr0_1 : Kd.C Kd.string w A0_1 l0_1.length l0_1) (hc0_1 : l0_1.length ≤ c0_1) (hr0_2 : Kd.C k80 w A0_2 l0_2.length l0_2) (hc0_2 : l0_2.length ≤ c0_2) (h : Pl33a.f k a0_0 l0_1 l0_2 = some r) :
  Calls Try.prog 15 #[.agg #[.int .i64 a0_0, .slice A0_1 l0_1.length c0_1, .slice A0_2 l0_2.length c0_2]] w fun e w' => e = .returned (.bool r) ∧ Below w.heap.size w w' := by
 obtain rfl := Option.some.inj h
 exact H.light33_any a0_0 l0_1 l0_2 A0_1 A0_2 c0_1 c0_2 w hr0_1 (H.C_len hr0_2)
end Go.Proofs.Ytmcbkmfpmcbdpaa.Pr
namespace Go.Proofs.Ytmcbkmfpmcbdpaa.H
open Go.RowKit Go.Proofs.Ytmcbkmfpmcbdpaa.Pr Go.Proofs.YtmcbkmfpmcbdpaaW.PrintWords Go.Proofs.Ytmcbkmfpmcbdpaa.Sem
end Go.Proofs.Ytmcbkmfpmcbdpaa.H
namespace Go.Proofs.Ytmcbkmfpmcbdpaa.Pr
open Go.RowKit Go.Proofs.YtmcbkmfpmcbdpaaW.PrintWords Go.Proofs.YtmcbkmfpmcbdpaaW.PrintLast Go.Proofs.YtmcbkmfpmcbdpaaW.PrintMore
attribute [local go_sem] max2_int min2_int max_two min_two max_three min_three max_four min_four
set_option linter.unusedVariables false
set_option linter.unusedSimpArgs false
structure S25 where
  f0 : Int
  f1 : (List ByteArray)
  f2 : (List S80)
def z25 : S25 := ⟨(0 : Int), ([] : List ByteArray), ([] : List S80)⟩
end Go.Proofs.Ytmcbkmfpmcbdpaa.Pr
set_option linter.unusedSectionVars false
namespace Go.Proofs.Ytmcbkmfpmcbdpaa.H
open Go.RowKit Go.Proofs.Ytmcbkmfpmcbdpaa.Pr Go.Proofs.YtmcbkmfpmcbdpaaW.PrintWords Go.Proofs.Ytmcbkmfpmcbdpaa.Sem
open Go.Maps (Keyed)
structure KB {α : Type} (P : Program) (k : TypeId) (mk : α → Value) (lt : α → Lit) (ok : α → Prop) : Prop where
  K : Keyed P k
  key : ∀ a, ok a → keyOf P k (mk a) = some (lt a)
  inv : ∀ v kl, keyOf P k v = some kl → ∃ a, ok a ∧ v = mk a ∧ kl = lt a
  inj : ∀ a b, mk a = mk b → a = b
def hR (v : Value) : Option (DataW Value × List MemPlace) := some (.held v, [])
section
variable {α : Type} [DecidableEq α] {P : Program} {k : TypeId} {mk : α → Value} {lt : α → Lit} {ok : α → Prop}
theorem KB.ltInj (B : KB P k mk lt ok) {a b : α} (ha : ok a) (hb : ok b) (h : lt a = lt b) : a = b := by
 have h1 := B.key a ha
 rw [h] at h1
 exact B.inj _ _ (B.K.inj h1 (B.key b hb))
theorem KB.same (B : KB P k mk lt ok) {a b : α} (ha : ok a) (hb : ok b) : (lt a).sameKey (lt b) = decide (a = b) := by
 by_cases e : a = b
 ·subst e
  rw [WideAt.sameKey_self (B.K.key (B.key a ha))]
  simp
 ·rw [Maps.sameKey_ne (fun h => e (B.ltInj ha hb h))]
  simp [e]
def Holds (lt : α → Lit) (ok : α → Prop) (D : DataW Value) (f : α → Option Value) : Prop := ∀ a, ok a → Maps.has D (lt a) = (f a).isSome ∧ ∀ z, D.atKey (lt a) (.held z) = .held ((f a).getD z)
def GM (P : Program) (k : TypeId) (lt : α → Lit) (ok : α → Prop) (w : World) (m : Nat) (f : α → Option Value) (c : Nat) : Prop :=
 ∃ D : DataW Value, w.ownsMap P k hR m c D ∧ Maps.size D = c ∧ Holds lt ok D f
theorem ownsMap_tight {w : World} {R : Value → Option (DataW Value × List MemPlace)} {m n : Nat} {D : DataW Value} (h : w.ownsMap P k R m n D) : w.ownsMap P k R m (Maps.size D) D := by
 obtain ⟨es, clock, hb, F, hs, rfl⟩ := h
 exact ⟨es, clock, hb, F, by simp [Maps.size, length_sorted], rfl⟩
def GR (P : Program) (k : TypeId) (lt : α → Lit) (ok : α → Prop) (w : World) (m r : Nat) (f : α → Option Value) (left : α → Bool) (cnt : Nat) : Prop :=
 ∃ (D : DataW Value) (lf : Lit → Bool), w.ranges P k hR m r (Maps.size D) D lf cnt ∧ Holds lt ok D f ∧ ∀ a, ok a → left a = lf (lt a)
def putM (f : α → Option Value) (a : α) (v : Value) : α → Option Value := fun x => if x = a then some v else f x
def delM (f : α → Option Value) (a : α) : α → Option Value := fun x => if x = a then none else f x
variable {w w1 : World} {m c r cnt : Nat} {f : α → Option Value} {left : α → Bool}
theorem GM.lt_ (h : GM P k lt ok w m f c) : m < w.heap.size := by obtain ⟨D, h, _⟩ := h; exact h.lt
theorem GM.blk (h : GM P k lt ok w m f c) : ∃ es c, w.heap[m]? = some (.map es c) := by obtain ⟨D, ⟨es, c, hb, _⟩, _⟩ := h; exact ⟨es, c, hb⟩
theorem GM.same (h : GM P k lt ok w m f c) (hb : w1.heap[m]? = w.heap[m]?) : GM P k lt ok w1 m f c := by
 obtain ⟨D, ⟨es, c, hbl, r⟩, h2⟩ := h
 exact ⟨D, ⟨es, c, hb.trans hbl, r⟩, h2⟩
theorem GM.congr (h : GM P k lt ok w m f c) {g : α → Option Value} (e : ∀ a, ok a → g a = f a) : GM P k lt ok w m g c := by
 obtain ⟨D, h1, h2, h3⟩ := h
 exact ⟨D, h1, h2, fun a ha => by rw [e a ha]; exact h3 a ha⟩
theorem GM.below (h : GM P k lt ok w m f c) (hb : Below w.heap.size w w1) : GM P k lt ok w1 m f c := h.same (hb.block m h.lt_)
theorem GM.grown (h : GM P k lt ok w m f c) {row : Option Nat} (hr : row ≠ some m) (hg : w.grownBy w1 row) : GM P k lt ok w1 m f c := h.same (hg.block m h.lt_ (fun e => hr e.symm))
theorem GM.made (P : Program) (k : TypeId) (lt : α → Lit) (ok : α → Prop) (w : World) : GM P k lt ok (w.alloc (.map #[] 0)) w.heap.size (fun _ => none) 0 :=
 ⟨.map [], World.ownsMap_made _ _ _ _, rfl, fun a _ => ⟨rfl, fun z => rfl⟩⟩
theorem GM.look (B : KB P k mk lt ok) (h : GM P k lt ok w m f c) {a : α} (ha : ok a) {t e : TypeId} (ht : P.underlying t = some (.map k e)) {z : Value} (hz : (zeroValue e).run P w = .ok z w) : (Instr.lookup t (.map (some m)) (mk a) true).run P w = .ok (.tuple #[(f a).getD z, .bool (f a).isSome]) w := by
 obtain ⟨D, h1, _, h2⟩ := h
 obtain ⟨v, ps, hrun, hv⟩ := h1.look_ok B.K ht hz (zd := .held z) (zp := []) rfl (B.key a ha)
 rw [(h2 a ha).2] at hv
 cases hv
 rw [hrun, (h2 a ha).1]
theorem GM.get (B : KB P k mk lt ok) (h : GM P k lt ok w m f c) {a : α} (ha : ok a) {t e : TypeId} (ht : P.underlying t = some (.map k e)) {z : Value} (hz : (zeroValue e).run P w = .ok z w) : (Instr.lookup t (.map (some m)) (mk a) false).run P w = .ok ((f a).getD z) w := by
 obtain ⟨D, h1, _, h2⟩ := h
 obtain ⟨v, ps, hrun, hv⟩ := h1.lookup B.K ht hz (zd := .held z) (zp := []) rfl (B.key a ha)
 rw [(h2 a ha).2] at hv
 cases hv
 exact hrun
theorem GM.len (h : GM P k lt ok w m f c) {t e : TypeId} (ht : P.underlying t = some (.map k e)) (ty : TypeId) : (Builtin.len_ #[t] ty #[.map (some m)]).run P w = .ok (.int .i64 (c : Int)) w := by
 obtain ⟨D, h1, hs, _⟩ := h
 rw [← hs]
 exact h1.len ht ty
theorem GM.put (B : KB P k mk lt ok) (h : GM P k lt ok w m f c) {a : α} (ha : ok a) {v : Value} (hn : c < maxLen) {t e : TypeId} (ht : P.underlying t = some (.map k e)) : ∃ w1, (Instr.mapUpdate t (.map (some m)) (mk a) v).run P w = .ok () w1 ∧ GM P k lt ok w1 m (putM f a v) (if (f a).isSome then c else c + 1) ∧ w.grownBy w1 (some m) ∧ w1.heap.size = w.heap.size := by
 obtain ⟨D, h1, hs, h2⟩ := h
 obtain ⟨w1, hrun, ho, hg⟩ := h1.store B.K ht hn (B.key a ha) (val := v) (d := .held v) (ps := []) rfl
 have hsz : Maps.size (D.put (lt a) (.held v)) = if (f a).isSome then c else c + 1 := by
  rw [Maps.size_put (h1.tidy B.K), (h2 a ha).1, hs]
 refine ⟨w1, hrun, ⟨_, hsz ▸ ownsMap_tight ho, hsz, fun x hx => ?_⟩, hg.grown, ?_⟩
 ·unfold putM
  by_cases e : x = a
  ·subst e
   rw [if_pos rfl, Maps.has_put_same h1.isMap (B.K.key (B.key x ha))]
   exact ⟨rfl, fun z => by rw [Maps.atKey_put_same h1.isMap (B.K.key (B.key x ha))]; rfl⟩
  ·have hne : lt x ≠ lt a := fun h => e (B.ltInj hx ha h)
   rw [if_neg e, Maps.has_put_other hne]
   exact ⟨(h2 x hx).1, fun z => by rw [Maps.atKey_put_other hne]; exact (h2 x hx).2 z⟩
 ·obtain ⟨es, clock, es', clock', hb, rfl⟩ := hg
  simp [ChangeMaps.setBlock]
theorem Holds.del (B : KB P k mk lt ok) {D : DataW Value} (h2 : Holds lt ok D f) {a : α} (ha : ok a) : Holds lt ok (D.del (lt a)) (delM f a) := by
 intro x hx
 unfold delM
 by_cases e : x = a
 ·subst e
  rw [if_pos rfl]
  exact ⟨by rw [Maps.has_del_same]; rfl, fun z => by rw [Maps.atKey_del_same]; rfl⟩
 ·have hne : lt x ≠ lt a := fun h => e (B.ltInj hx ha h)
  rw [if_neg e]
  exact ⟨by rw [Maps.has_del_other hne]; exact (h2 x hx).1, fun z => by rw [Maps.atKey_del_other hne]; exact (h2 x hx).2 z⟩
theorem GM.del (B : KB P k mk lt ok) (h : GM P k lt ok w m f c) {a : α} (ha : ok a) {t e : TypeId} (ht : P.underlying t = some (.map k e)) (ty : TypeId) : ∃ w1, (Builtin.delete_ #[t, k] ty #[.map (some m), mk a]).run P w = .ok (.tuple #[]) w1 ∧ (∃ c', c' ≤ c ∧ GM P k lt ok w1 m (delM f a) c') ∧ w.grownBy w1 (some m) ∧ w1.heap.size = w.heap.size := by
 obtain ⟨D, h1, hs, h2⟩ := h
 obtain ⟨w1, hrun, ho, hg⟩ := h1.drop B.K ht (B.key a ha) ty
 have hle : Maps.size (D.del (lt a)) ≤ c := by
  rw [← hs]
  have := Maps.size_del (h1.tidy B.K) (k := lt a)
  omega
 refine ⟨w1, hrun, ⟨_, hle, _, ownsMap_tight ho, rfl, Holds.del B h2 ha⟩, hg.grown, ?_⟩
 obtain ⟨es, clock, es', clock', hb, rfl⟩ := hg
 simp [ChangeMaps.setBlock]
theorem GM.empty (B : KB P k mk lt ok) (h : GM P k lt ok w m f c) : c = 0 ↔ ∀ a, ok a → f a = none := by
 obtain ⟨D, h1, hs, h2⟩ := h
 obtain ⟨es, rfl, _, hk⟩ := h1.entries B.K
 constructor
 ·intro h0 a ha
  have : es = [] := List.eq_nil_of_length_eq_zero (by rw [← hs] at h0; exact h0)
  subst this
  have h3 := (h2 a ha).1
  cases hf : f a
  ·rfl
  ·rw [hf] at h3; cases h3
 ·intro h0
  rw [← hs]
  cases es with
  | nil => rfl
  | cons p es =>
   obtain ⟨es0, clock, _, F, _, hD⟩ := h1
   have hp : p ∈ (es0.toList.map (WideElems.rg P k hR)).foldr DataW.insert [] := by
    have := DataW.map.inj hD
    rw [← this]; exact List.mem_cons_self ..
   obtain ⟨x, hx, rfl⟩ := List.mem_map.1 (mem_sorted.1 hp)
   obtain ⟨y, hy⟩ := F.reads x hx
   have hkey := WideElems.rd_key hy
   obtain ⟨a, ha, _, e2⟩ := B.inv _ _ hkey
   have h4 := (h2 a ha).1
   rw [h0 a ha] at h4
   have h5 : Maps.has (DataW.map (WideElems.rg P k hR x :: es)) (lt a) = true := by
    refine List.any_eq_true.2 ⟨_, List.mem_cons_self .., ?_⟩
    rw [WideElems.rg_of hy, e2]
    exact WideAt.sameKey_self (B.K.key (B.key a ha))
   rw [h5] at h4
   cases h4
theorem GM.count_le (B : KB P k mk lt ok) (h : GM P k lt ok w m f c) (L : List α) (hL : ∀ a, ok a → (f a).isSome = true → a ∈ L) : c ≤ L.length := by
 obtain ⟨D, h1, hs, h2⟩ := h;obtain ⟨es, rfl, hne, hk⟩ := h1.entries B.K;obtain ⟨es0, clock, _, F, _, hD⟩ := h1
 have hget : ∀ p ∈ es, ∃ a, ok a ∧ p.1 = lt a := by
  intro p hp
  have hp : p ∈ (es0.toList.map (WideElems.rg P k hR)).foldr DataW.insert [] := by
   have := DataW.map.inj hD;rw [← this]; exact hp
  obtain ⟨x, hx, rfl⟩ := List.mem_map.1 (mem_sorted.1 hp);obtain ⟨y, hy⟩ := F.reads x hx;obtain ⟨a, ha, _, e2⟩ := B.inv _ _ (WideElems.rd_key hy);exact ⟨a, ha, by rw [WideElems.rg_of hy]; exact e2⟩
 have hall : ∀ p ∈ es, ∃ a ∈ L, ok a ∧ p.1 = lt a := by
  intro p hp;obtain ⟨a, ha, e⟩ := hget p hp;refine ⟨a, hL a ha ?_, ha, e⟩;rw [← (h2 a ha).1];exact List.any_eq_true.2 ⟨p, hp, by rw [e]; exact WideAt.sameKey_self (B.K.key (B.key a ha))⟩
 rw [← hs];show es.length ≤ L.length;clear hs h2 hk F hD hget hL
 induction es generalizing L with
 | nil => simp
 | cons p r ih =>
  obtain ⟨a, haL, ha, e⟩ := hall p (List.mem_cons_self ..)
  have h3 := ih (L := L.erase a) (List.pairwise_cons.1 hne).2 fun q hq => by
   obtain ⟨b, hbL, hb, e2⟩ := hall q (List.mem_cons_of_mem _ hq);refine ⟨b, (List.mem_erase_of_ne ?_).2 hbL, hb, e2⟩;rintro rfl;exact (List.pairwise_cons.1 hne).1 q hq (e.trans e2.symm)
  rw [List.length_erase_of_mem haL] at h3;have := List.length_pos_of_mem haL;simp only [List.length_cons];omega
theorem GR.map (h : GR P k lt ok w m r f left cnt) : ∃ c, GM P k lt ok w m f c := by
 obtain ⟨D, lf, h1, h2, _⟩ := h
 exact ⟨_, D, h1.owns, rfl, h2⟩
theorem GR.left_eq (h : GR P k lt ok w m r f left cnt) : w.rangeLeft m r = cnt := by
 obtain ⟨D, lf, h1, _⟩ := h
 exact h1.left_eq
theorem GR.lt_ (h : GR P k lt ok w m r f left cnt) : r < w.heap.size := by
 obtain ⟨D, lf, h1, _⟩ := h
 exact h1.lt
theorem GR.mlt (h : GR P k lt ok w m r f left cnt) : m < w.heap.size := by
 obtain ⟨c, h⟩ := h.map
 exact h.lt_
theorem GR.ne (h : GR P k lt ok w m r f left cnt) : r ≠ m := by
 obtain ⟨D, lf, h1, _⟩ := h
 exact h1.ne
theorem GR.iter (h : GR P k lt ok w m r f left cnt) : ∃ b s x c, w.heap[r]? = some (.mapIter b s x c) := by
 obtain ⟨D, lf, ⟨es, clock, since, seen, c0, _, _, _, _, hr, _⟩, _⟩ := h
 exact ⟨_, _, _, _, hr⟩
theorem GR.same (h : GR P k lt ok w m r f left cnt) (hb : w1.heap[m]? = w.heap[m]?) (hr : w1.heap[r]? = w.heap[r]?) : GR P k lt ok w1 m r f left cnt := by
 obtain ⟨D, lf, ⟨es, clock, since, seen, c0, h1, h2, h3, h4, h5, h6⟩, h7⟩ := h
 exact ⟨D, lf, ⟨es, clock, since, seen, c0, hb.trans h1, h2, h3, h4, hr.trans h5, h6⟩, h7⟩
theorem GM.range (h : GM P k lt ok w m f c) (B : KB P k mk lt ok) {t e : TypeId} (ht : P.underlying t = some (.map k e)) :
  ∃ w', (Instr.range t (.map (some m))).run P w = .ok (.pointer (some ⟨w.heap.size, 0, none⟩)) w' ∧ GR P k lt ok w' m w.heap.size f (fun a => (f a).isSome) c ∧ w.grownBy w' none ∧ w'.heap.size = w.heap.size + 1 := by
 obtain ⟨D, h1, hs, h2⟩ := h
 obtain ⟨w', hrun, hr, hg, hz⟩ := h1.range B.K ht
 subst hs
 exact ⟨w', hrun, ⟨D, _, hr, h2, fun a ha => (h2 a ha).1.symm⟩, hg, hz⟩
theorem GR.next (h : GR P k lt ok w m r f left cnt) (B : KB P k mk lt ok) (ty : TypeId) :
  (cnt = 0 ∧ (∀ a, ok a → left a = false) ∧ (Instr.next (.pointer (some ⟨r, 0, none⟩)) false ty).run P w = .ok (.tuple #[.bool false]) w) ∨
  ∃ a v w' cnt', ok a ∧ left a = true ∧ f a = some v ∧ (Instr.next (.pointer (some ⟨r, 0, none⟩)) false ty).run P w = .ok (.tuple #[.bool true, mk a, v]) w' ∧
   GR P k lt ok w' m r f (fun x => left x && !decide (x = a)) cnt' ∧ cnt' < cnt ∧ w.grownBy w' (some r) ∧ w'.heap.size = w.heap.size ∧ (Instr.entry (.pointer (some ⟨r, 0, none⟩))).run P w' = .ok (.tuple #[mk a, v]) w' := by
 obtain ⟨D, lf, h1, h2, h3⟩ := h;rcases h1.next B.K ty with ⟨h0, hl, hrun⟩ | ⟨key, v, kl, y, w', cnt', hkey, hlk, hv, hat, hrun, hrg, hlt, hgr, hsz, hen⟩
 ·exact .inl ⟨h0, fun a ha => by rw [h3 a ha]; exact hl _, hrun⟩
 ·obtain ⟨a, ha, rfl, rfl⟩ := B.inv key kl hkey
  cases hv
  have hfa : f a = some v := by
   cases hf : f a with
   | none =>
    have e1 := (h2 a ha).2 (.bool true);have e2 := (h2 a ha).2 (.bool false);rw [hat, hf] at e1 e2;simp only [Option.getD_none, DataW.held.injEq] at e1 e2;rw [e1] at e2
    cases e2
   | some u =>
    have e1 := (h2 a ha).2 (.bool true);rw [hat, hf] at e1;simp only [Option.getD_some, DataW.held.injEq] at e1;rw [e1]
  refine .inr ⟨a, v, w', cnt', ha, by rw [h3 a ha]; exact hlk, hfa, hrun, ⟨D, _, hrg, h2, fun x hx => ?_⟩, hlt, hgr, hsz, hen⟩;show (left x && !decide (x = a)) = (lf (lt x) && !(lt x).sameKey (lt a));rw [h3 x hx, B.same hx ha]
end
section
variable {α : Type} [DecidableEq α] {P : Program} {k : TypeId} {mk : α → Value} {lt : α → Lit} {ok : α → Prop} (w : World) {ops : Array Oper} {rest : List Oper} {o : Oper} {a : Act} {Q : Exit → Act → World → Prop}
theorem wpList_grange (B : KB P k mk lt ok) (hg : o.guard = none) (x : Operand) (t : TypeId) (hop : o.op = Op.range t x) (e : TypeId) (ht : P.underlying t = some (.map k e)) (m c : Nat) (f : α → Option Value) (hm : a.eval x = .map (some m)) (h : GM P k lt ok w m f c)
  (hK : ∀ w', GR P k lt ok w' m w.heap.size f (fun a => (f a).isSome) c → w.grownBy w' none → w'.heap.size = w.heap.size + 1 → wpList P ops Q rest (a.put o.dst (.pointer (some ⟨w.heap.size, 0, none⟩))) w') :
  wpList P ops Q (o :: rest) a w := by
 refine wpList_plain hg fun K' hK' => ?_
 obtain ⟨w', hrun, r1, r2, r3⟩ := h.range B ht
 unfold Oper.wp
 simp [execOp, hop, hm, hrun, Result.andThen]
 exact hK' _ _ (hK w' r1 r2 r3)
theorem wpList_gnext (B : KB P k mk lt ok) (hg : o.guard = none) (x : Operand) (hop : o.op = Op.next x false) (m r : Nat) (f : α → Option Value) (left : α → Bool) (cnt : Nat) (hit : a.eval x = .pointer (some ⟨r, 0, none⟩)) (h : GR P k lt ok w m r f left cnt)
  (hDone : cnt = 0 → (∀ a, ok a → left a = false) → wpList P ops Q rest (a.put o.dst (.tuple #[.bool false])) w)
  (hMore : ∀ (y : α) (v : Value) (w' : World) (cnt' : Nat), ok y → left y = true → f y = some v → GR P k lt ok w' m r f (fun x => left x && !decide (x = y)) cnt' → cnt' < cnt → w.grownBy w' (some r) → w'.heap.size = w.heap.size →
   (Instr.entry (.pointer (some ⟨r, 0, none⟩))).run P w' = .ok (.tuple #[mk y, v]) w' → wpList P ops Q rest (a.put o.dst (.tuple #[.bool true, mk y, v])) w') :
  wpList P ops Q (o :: rest) a w := by
 refine wpList_plain hg fun K' hK' => ?_
 unfold Oper.wp
 rcases h.next B o.type with ⟨h0, hl, hrun⟩ | ⟨y, v, w', cnt', hy, hl, hf, hrun, hgr, hlt, hg2, hsz, hen⟩
 ·simp [execOp, hop, hit, hrun, Result.andThen]
  exact hK' _ _ (hDone h0 hl)
 ·simp [execOp, hop, hit, hrun, Result.andThen]
  exact hK' _ _ (hMore y v w' cnt' hy hl hf hgr hlt hg2 hsz hen)
theorem wpList_gput (B : KB P k mk lt ok) (hg : o.guard = none) (x y z : Operand) (t : TypeId) (hop : o.op = Op.mapUpdate t x y z) (e : TypeId) (ht : P.underlying t = some (.map k e)) (m c : Nat) (f : α → Option Value) (hm : a.eval x = .map (some m)) (h : GM P k lt ok w m f c) (hn : c < maxLen) (b : α) (hb : ok b) (v : Value) (hy : a.eval y = mk b) (hz : a.eval z = v)
  (hK : ∀ w', GM P k lt ok w' m (putM f b v) (if (f b).isSome then c else c + 1) → w.grownBy w' (some m) → w'.heap.size = w.heap.size → wpList P ops Q rest (a.put o.dst undef) w') :
  wpList P ops Q (o :: rest) a w := by
 refine wpList_plain hg fun K' hK' => ?_
 obtain ⟨w', hrun, r1, r2, r3⟩ := h.put B hb (v := v) hn ht
 unfold Oper.wp
 simp [execOp, hop, hm, hy, hz, hrun, Result.andThen]
 exact hK' _ _ (hK w' r1 r2 r3)
end
def ik (a : Int) : Lit := .int .i64 a
def i64in (a : Int) : Prop := -9223372036854775808 ≤ a ∧ a ≤ 9223372036854775807
theorem ik_wf {a : Int} (h : i64in a) : (Lit.int .i64 a).wf = true := by
 unfold i64in at h
 exact WalkArith.wf_i64 (by omega)
theorem wf_in {a : Int} (h : (Lit.int .i64 a).wf = true) : i64in a := by
 have h1 : IntKind.i64.min = -9223372036854775808 := by kernel_rfl
 have h2 : IntKind.i64.max = 9223372036854775807 := by kernel_rfl
 simp [Lit.wf, h1, h2] at h
 exact h
theorem intKB : KB Try.prog 3 (Value.int .i64) ik i64in where
 K := Maps.int_keyed Try.underlying3
 key := fun a ha => Maps.keyOf_int_mk Try.underlying3 (ik_wf ha)
 inv := fun v kl h => by
  obtain ⟨x, h1, h2, h3⟩ := Maps.keyOf_int_inv Try.underlying3 h
  exact ⟨x, wf_in h3, h1, h2⟩
 inj := fun a b h => by injection h
end Go.Proofs.Ytmcbkmfpmcbdpaa.H
namespace Go.Proofs.Ytmcbkmfpmcbdpaa.PL
theorem rind {α : Type} {P : List α → Prop} (h0 : P []) (h1 : ∀ l a, P l → P (l ++ [a])) (l : List α) : P l := by
 have : ∀ m : List α, P m.reverse := by
  intro m
  induction m with
  | nil => exact h0
  | cons a r ih => rw [List.reverse_cons]; exact h1 _ _ ih
 have := this l.reverse
 rwa [List.reverse_reverse] at this
section
variable {κ : Type} [DecidableEq κ]
def addK (acc : List κ) (k : κ) : List κ := if k ∈ acc then acc else acc ++ [k]
def fstK (ks : List κ) : List κ := ks.foldl addK []
def numK (ks : List κ) : List Int := ks.map fun k => ((fstK ks).idxOf k : Int)
theorem fstK_snoc (ks : List κ) (k : κ) : fstK (ks ++ [k]) = addK (fstK ks) k := by simp [fstK, List.foldl_append]
theorem addK_mem {acc : List κ} {k x : κ} : x ∈ addK acc k ↔ x ∈ acc ∨ x = k := by
 unfold addK
 split
 ·rename_i h
  constructor
  ·exact .inl
  ·rintro (h' | rfl)
   ·exact h'
   ·exact h
 ·simp
theorem addK_nodup {acc : List κ} {k : κ} (h : acc.Nodup) : (addK acc k).Nodup := by
 unfold addK
 split
 ·exact h
 ·rename_i q
  rw [List.nodup_append]
  refine ⟨h, by simp, fun a ha b hb => ?_⟩
  have : b = k := by simpa using hb
  subst this
  intro e
  exact q (e ▸ ha)
theorem fstK_mem (ks : List κ) : ∀ x, x ∈ fstK ks ↔ x ∈ ks := by
 induction ks using rind with
 | h0 => intro x; simp [fstK]
 | h1 l a ih => intro x; rw [fstK_snoc, addK_mem, ih]; simp
theorem fstK_nodup (ks : List κ) : (fstK ks).Nodup := by
 induction ks using rind with
 | h0 => simp [fstK]
 | h1 l a ih => rw [fstK_snoc]; exact addK_nodup ih
theorem fstK_prefix (ks rs : List κ) : fstK ks <+: fstK (ks ++ rs) := by
 induction rs using rind with
 | h0 => simp
 | h1 l a ih =>
  rw [← List.append_assoc, fstK_snoc]
  refine ih.trans ?_
  unfold addK
  split
  ·exact List.prefix_refl _
  ·exact List.prefix_append _ _
theorem idxOf_prefix {a b : List κ} (h : a <+: b) {k : κ} (hk : k ∈ a) : b.idxOf k = a.idxOf k := by
 obtain ⟨r, rfl⟩ := h
 rw [List.idxOf_append, if_pos hk]
theorem idxOf_addK_new {acc : List κ} {k : κ} (h : k ∉ acc) : (addK acc k).idxOf k = acc.length := by
 unfold addK
 rw [if_neg h, List.idxOf_append, if_neg h]
 simp
theorem fstK_length_le (ks : List κ) : (fstK ks).length ≤ ks.length := by
 induction ks using rind with
 | h0 => simp [fstK]
 | h1 l a ih =>
  rw [fstK_snoc]
  unfold addK
  split
  ·simp; omega
  ·simp; omega
theorem numK_length (ks : List κ) : (numK ks).length = ks.length := by simp [numK]
theorem numK_snoc (ks : List κ) (k : κ) : numK (ks ++ [k]) = numK ks ++ [((addK (fstK ks) k).idxOf k : Int)] := by
 unfold numK
 rw [List.map_append, fstK_snoc]
 congr 1
 refine List.map_congr_left fun x hx => ?_
 have hp : fstK ks <+: addK (fstK ks) k := by rw [← fstK_snoc]; exact fstK_prefix ks [k]
 rw [idxOf_prefix hp ((fstK_mem ks x).2 hx)]
theorem idxOf_inj {l : List κ} {a b : κ} (ha : a ∈ l) (hb : b ∈ l) (h : l.idxOf a = l.idxOf b) : a = b := by
 have h1 := List.idxOf_lt_length_of_mem ha
 have h2 := List.idxOf_lt_length_of_mem hb
 have e1 := List.getElem_idxOf h1
 have e2 := List.getElem_idxOf h2
 rw [← e1, ← e2]
 congr 1
theorem numK_eq (ks : List κ) {i j : Nat} (hi : i < ks.length) (hj : j < ks.length) : (numK ks).getD i 0 = (numK ks).getD j 0 ↔ ks[i] = ks[j] := by
 simp only [numK, List.getD_eq_getElem?_getD, List.getElem?_map, List.getElem?_eq_getElem hi, List.getElem?_eq_getElem hj, Option.map_some, Option.getD_some]
 constructor
 ·intro h
  exact idxOf_inj ((fstK_mem ks _).2 (List.getElem_mem hi)) ((fstK_mem ks _).2 (List.getElem_mem hj)) (by omega)
 ·intro h; rw [h]
theorem numK_at (ks : List κ) {i : Nat} (hi : i < ks.length) : (numK ks).getD i 0 = ((fstK ks).idxOf ks[i] : Int) := by
 simp only [numK, List.getD_eq_getElem?_getD, List.getElem?_map, List.getElem?_eq_getElem hi, Option.map_some, Option.getD_some]
theorem numK_range (ks : List κ) : ∀ x ∈ numK ks, 0 ≤ x ∧ x < ((fstK ks).length : Int) := by
 intro x hx
 obtain ⟨k, hk, rfl⟩ := List.mem_map.1 hx
 have := List.idxOf_lt_length_of_mem ((fstK_mem ks k).2 hk)
 omega
end
def Ker {κ τ : Type} (ks : List κ) (ts : List τ) : Prop := ks.length = ts.length ∧ ∀ (i j : Nat) (hi : i < ks.length) (hj : j < ks.length) (hi' : i < ts.length) (hj' : j < ts.length), ks[i] = ks[j] ↔ ts[i] = ts[j]
theorem Ker.symm {κ τ : Type} {ks : List κ} {ts : List τ} (h : Ker ks ts) : Ker ts ks := ⟨h.1.symm, fun i j a b c d => (h.2 i j c d a b).symm⟩
theorem Ker.refl {κ : Type} (ks : List κ) : Ker ks ks := ⟨rfl, fun _ _ _ _ _ _ => Iff.rfl⟩
theorem Ker.trans {κ τ υ : Type} {ks : List κ} {ts : List τ} {us : List υ} (h : Ker ks ts) (g : Ker ts us) : Ker ks us :=
 ⟨h.1.trans g.1, fun i j a b c d => (h.2 i j a b (by rw [← h.1]; exact a) (by rw [← h.1]; exact b)).trans (g.2 i j (by rw [← h.1]; exact a) (by rw [← h.1]; exact b) c d)⟩
theorem Ker.init {κ τ : Type} {ks : List κ} {ts : List τ} {a : κ} {b : τ} (h : Ker (ks ++ [a]) (ts ++ [b])) : Ker ks ts ∧ ∀ (i : Nat) (hi : i < ks.length) (hi' : i < ts.length), ks[i] = a ↔ ts[i] = b := by
 have hl : ks.length = ts.length := by have := h.1; simp at this; exact this
 refine ⟨⟨hl, fun i j hi hj hi' hj' => ?_⟩, fun i hi hi' => ?_⟩
 ·have := h.2 i j (by simp; omega) (by simp; omega) (by simp; omega) (by simp; omega)
  rwa [List.getElem_append_left hi, List.getElem_append_left hj, List.getElem_append_left hi', List.getElem_append_left hj'] at this
 ·have := h.2 i ks.length (by simp; omega) (by simp) (by simp; omega) (by simp; omega)
  rw [List.getElem_append_left hi, List.getElem_append_left hi'] at this
  simpa [hl] using this
theorem rcases_snoc {α : Type} (l : List α) : l = [] ∨ ∃ r a, l = r ++ [a] := by
 induction l using rind with
 | h0 => exact .inl rfl
 | h1 l a ih => exact .inr ⟨l, a, rfl⟩
section
variable {κ τ : Type} [DecidableEq κ] [DecidableEq τ]
theorem numK_ker : ∀ (ks : List κ) (ts : List τ), Ker ks ts → numK ks = numK ts ∧ (fstK ks).length = (fstK ts).length := by
 intro ks
 induction ks using rind with
 | h0 =>
  intro ts h;have : ts = [] := by have := h.1; simpa using this.symm
  subst this;exact ⟨rfl, rfl⟩
 | h1 l a ih =>
  intro ts h;rcases rcases_snoc ts with rfl | ⟨r, b, rfl⟩
  ·have := h.1; simp at this
  ·have hi := h.init;have hk := ih r hi.1;have hl : l.length = r.length := hi.1.1;rw [numK_snoc, numK_snoc, fstK_snoc, fstK_snoc, hk.1];by_cases q : a ∈ l
   ·obtain ⟨i, hil, hia⟩ := List.getElem_of_mem q;have hb := (hi.2 i hil (by omega)).1 hia;have hb' : b ∈ r := hb ▸ List.getElem_mem (show i < r.length by omega);have e1 : addK (fstK l) a = fstK l := by unfold addK; rw [if_pos ((fstK_mem l a).2 q)]
    have e2 : addK (fstK r) b = fstK r := by unfold addK; rw [if_pos ((fstK_mem r b).2 hb')]
    rw [e1, e2];refine ⟨?_, hk.2⟩;have x1 := numK_at l hil;have x2 := numK_at r (i := i) (by omega);rw [hia] at x1;rw [hb] at x2;rw [← x1, ← x2, hk.1]
   ·have hb' : b ∉ r := by
     intro hb;obtain ⟨i, hil, hib⟩ := List.getElem_of_mem hb;exact q ((hi.2 i (by omega) hil).2 hib ▸ List.getElem_mem (show i < l.length by omega))
    have q1 : a ∉ fstK l := fun h => q ((fstK_mem l a).1 h)
    have q2 : b ∉ fstK r := fun h => hb' ((fstK_mem r b).1 h)
    rw [idxOf_addK_new q1, idxOf_addK_new q2, hk.2];refine ⟨rfl, ?_⟩;unfold addK;rw [if_neg q1, if_neg q2];simp [hk.2]
theorem ker_numK (ks : List κ) : Ker (numK ks) ks := by
 refine ⟨numK_length ks, fun i j hi hj hi' hj' => ?_⟩
 have := numK_eq ks hi' hj'
 simpa [List.getD_eq_getElem?_getD, List.getElem?_eq_getElem hi, List.getElem?_eq_getElem hj] using this
end
section
variable {κ : Type} [DecidableEq κ]
def firstN (ks : List κ) (i : Nat) : Nat := match ks[i]? with | some k => (ks.take i).idxOf k | none => i
theorem firstN_at {ks : List κ} {i : Nat} (hi : i < ks.length) : firstN ks i = (ks.take i).idxOf ks[i] := by
 unfold firstN; rw [List.getElem?_eq_getElem hi]
theorem firstN_le {ks : List κ} {i : Nat} (hi : i < ks.length) : firstN ks i ≤ i := by
 rw [firstN_at hi]
 refine Nat.le_trans List.idxOf_le_length ?_
 rw [List.length_take]; omega
theorem firstN_same {ks : List κ} {i : Nat} (hi : i < ks.length) : ks[firstN ks i]'(Nat.lt_of_le_of_lt (firstN_le hi) hi) = ks[i] := by
 by_cases q : ks[i] ∈ ks.take i
 ·have h1 := List.idxOf_lt_length_of_mem q
  have h2 := List.getElem_idxOf h1
  rw [List.getElem_take] at h2
  have e := firstN_at hi
  simp only [e]
  exact h2
 ·have e : firstN ks i = i := by
   rw [firstN_at hi, List.idxOf_eq_length q, List.length_take]; omega
  simp only [e]
theorem firstN_new {ks : List κ} {i : Nat} (hi : i < ks.length) : firstN ks i = i ↔ ks[i] ∉ ks.take i := by
 rw [firstN_at hi]
 constructor
 ·intro h q
  have := List.idxOf_lt_length_of_mem q
  rw [h, List.length_take] at this
  omega
 ·intro q
  rw [List.idxOf_eq_length q, List.length_take]; omega
theorem idxOf_before : ∀ (l : List κ) (k : κ) (j : Nat) (h : j < l.length), j < l.idxOf k → l[j] ≠ k
 | [], _, _, h, _ => by simp at h
 | a :: r, k, j, h, hj => by
  rw [List.idxOf_cons] at hj
  by_cases q : a = k
  ·subst q; simp at hj
  ·rw [show (a == k) = false by simpa using q] at hj
   cases j with
   | zero => simpa using q
   | succ j => simp only [cond_false] at hj; rw [List.getElem_cons_succ]; exact idxOf_before r k j (by simpa using h) (by omega)
theorem firstN_least {ks : List κ} {i j : Nat} (hi : i < ks.length) (hj : j < firstN ks i) : ks[j]'(by have := firstN_le hi; omega) ≠ ks[i] := by
 have hle := firstN_le hi
 rw [firstN_at hi] at hj
 intro e
 have hj2 : j < (ks.take i).length := Nat.lt_of_lt_of_le hj List.idxOf_le_length
 have := idxOf_before _ _ _ hj2 hj
 rw [List.getElem_take] at this
 exact this e
theorem firstN_idem {ks : List κ} {i : Nat} (hi : i < ks.length) : firstN ks (firstN ks i) = firstN ks i := by
 have hle := firstN_le hi
 have hf : firstN ks i < ks.length := by omega
 rw [firstN_new hf]
 intro q
 obtain ⟨j, hj, e⟩ := List.getElem_of_mem q
 rw [List.length_take] at hj
 rw [List.getElem_take] at e
 exact firstN_least hi (j := j) (by omega) (e.trans (firstN_same hi))
def newN (ks : List κ) (m : Nat) : Nat := ((List.range m).filter fun k => firstN ks k == k).length
theorem take_snoc' {α : Type} {l : List α} {m : Nat} (h : m < l.length) : l.take (m + 1) = l.take m ++ [l[m]] := by
 rw [List.take_add_one, List.getElem?_eq_getElem h]; rfl
theorem newN_fst (ks : List κ) : ∀ m, m ≤ ks.length → newN ks m = (fstK (ks.take m)).length
 | 0, _ => by simp [newN, fstK]
 | m + 1, h => by
  have ih := newN_fst ks m (by omega)
  have hm : m < ks.length := by omega
  have e : newN ks (m + 1) = newN ks m + if firstN ks m == m then 1 else 0 := by
   unfold newN
   rw [List.range_succ, List.filter_append, List.length_append]
   congr 1
   by_cases q : firstN ks m == m
   ·simp [q]
   ·simp [q]
  rw [e, ih, take_snoc' hm, fstK_snoc]
  unfold addK
  by_cases q : ks[m] ∈ ks.take m
  ·rw [if_pos ((fstK_mem _ _).2 q), if_neg (by simpa using fun h => (firstN_new hm).1 h q)]; rfl
  ·rw [if_neg (fun h => q ((fstK_mem _ _).1 h)), if_pos (by simpa using (firstN_new hm).2 q)]; simp
theorem num_new {ks : List κ} {i : Nat} (hi : i < ks.length) : (fstK ks).idxOf ks[i] = newN ks (firstN ks i) := by
 have hle := firstN_le hi
 have hf : firstN ks i < ks.length := by omega
 have hs := firstN_same hi
 have hn := (firstN_new hf).1 (firstN_idem hi)
 obtain ⟨f, ef⟩ : ∃ f, f = firstN ks i := ⟨_, rfl⟩
 simp only [← ef] at hle hf hs hn ⊢
 rw [newN_fst ks f (by omega), ← hs]
 have hp : fstK (ks.take (f + 1)) <+: fstK ks := by
  have := fstK_prefix (ks.take (f + 1)) (ks.drop (f + 1))
  rwa [List.take_append_drop] at this
 have hk : ks[f] ∈ fstK (ks.take (f + 1)) := by rw [fstK_mem, take_snoc' hf]; exact List.mem_append_right _ (List.mem_singleton.2 rfl)
 rw [idxOf_prefix hp hk, take_snoc' hf, fstK_snoc]
 exact idxOf_addK_new (fun h => hn ((fstK_mem _ _).1 h))
theorem numK_new {ks : List κ} {i : Nat} (hi : i < ks.length) : (numK ks).getD i 0 = (newN ks (firstN ks i) : Int) := by rw [numK_at ks hi, num_new hi]
theorem count_new (ks : List κ) : (fstK ks).length = newN ks ks.length := by rw [newN_fst ks _ (Nat.le_refl _), List.take_length]
end
end Go.Proofs.Ytmcbkmfpmcbdpaa.PL
namespace Go.Proofs.Ytmcbkmfpmcbdpaa.H
open Go.RowKit Go.Proofs.Ytmcbkmfpmcbdpaa.Pr Go.Proofs.YtmcbkmfpmcbdpaaW.PrintWords Go.Proofs.Ytmcbkmfpmcbdpaa.Sem Go.Proofs.YtmcbkmfpmcbdpaaW.PrintLast Go.Proofs.Ytmcbkmfpmcbdpaa.PL
theorem infoIj : (Try.prog.info? 3).map (fun i => (i.zero, i.size, i.bytes)) = some (some (.int .i64 0), 1, 8) := by kernel_rfl
theorem zeroIj (w : World) : (zeroValue 3).run Try.prog w = .ok (.int .i64 0) w := by kernel_rfl
theorem take_snocJ {α : Type} (d : α) {xs : List α} {k : Nat} (hk : k < xs.length) : xs.take (k + 1) = xs.take k ++ [xs.getD k d] := by
 rw [List.getD_eq_getElem?_getD, List.getElem?_eq_getElem hk, Option.getD_some, List.take_succ_eq_append_getElem hk]
def NumF (ks : List Int) (f : Int → Option Value) : Prop := ∀ a, i64in a → f a = if a ∈ fstK ks then some (.int .i64 ((fstK ks).idxOf a : Int)) else none
set_option maxHeartbeats 8000000 in
set_option maxRecDepth 100000 in
theorem number_any (ks : List Int) (A : Option Addr) (c0 : Nat) (w : World) (hC : Kd.C (Kd.int .i64) w A ks.length ks) (hks : ∀ x ∈ ks, i64in x) (hl : ks.length ≤ 1000000000) :
    Calls Try.prog 118 #[.slice A ks.length c0] w fun e w' => ∃ v, e = .returned v ∧ Kd.R (Kd.int .i64) 3 w' w.heap.size (fun _ => True) v (numK ks) ∧ Below w.heap.size w w' := by
  have hmm := @run_makeMap Try.prog;have HC := Aside0.mk hC;have HK := Aside0.mk hks;clear hC hks;go_enter Try.func118, Try.ntmps118
  go_wp2
  clear hmm;have a2 := Aside0.mk (GM.made Try.prog 3 ik i64in w);have a5 := Aside0.mk (below_alloc (Below.refl w.heap.size w) (Obj.map #[] 0));obtain ⟨M, hM⟩ : ∃ M, M = w.heap.size := ⟨_, rfl⟩
  rw [← hM] at a2 ⊢;have HM := Aside0.mk hM;clear hM;go_loopw [4, 12] (fun v i wr => ∃ (k : Nat) (f : Int → Option Value), k ≤ ks.length ∧ i = .int .i64 k ∧ Aside0 (GM Try.prog 3 ik i64in wr M f (fstK (ks.take k)).length) ∧ Aside0 (NumF (ks.take k) f) ∧ Aside0 (Kd.R (Kd.int .i64) 3 wr w.heap.size (fun q => q ≠ M) v (numK (ks.take k))) ∧ Aside0 (Below w.heap.size w wr)) (fun _ i _ => ks.length - (intOf i).toNat)
  case atStart => exact ⟨0, _, Nat.zero_le _, rfl, a2, ⟨fun a ha => rfl⟩, ⟨Kd.R_nil _ _ _ _ _⟩, a5⟩
  case round =>
    clear a2 a5;obtain ⟨k, f, hk, rfl, HG, HF, HR, HB⟩ := hrel;by_cases hlt : k < ks.length
    · obtain ⟨ad, hA, hc⟩ := atI HC.out k hlt
      subst hA;replace hc := later HB.out hc;have a0 := HK.out (ks.getD k 0) (by simp [List.getD_eq_getElem?_getD, List.getElem?_eq_getElem hlt]);obtain ⟨x, hx⟩ : ∃ x, x = ks.getD k 0 := ⟨_, rfl⟩
      rw [← hx] at hc a0;have HT := Aside0.mk (show ks.take (k + 1) = ks.take k ++ [x] by rw [take_snocJ (0 : Int) hlt, hx]);have hlook := HG.out.look intKB a0 Try.underlying88 (zeroIj _);rw [HF.out x a0] at hlook;have hfl := fstK_length_le (ks.take k);rw [List.length_take] at hfl;have hnl : (numK (ks.take k)).length = k := by rw [numK_length, List.length_take]; omega
      obtain ⟨m, hm⟩ : ∃ m, m = (fstK (ks.take k)).length := ⟨_, rfl⟩
      rw [← hm] at hfl;have HX := Aside0.mk a0;have Hm := Aside0.mk hm;have HNl := Aside0.mk hnl;clear hx a0 hm hnl;by_cases hmem : x ∈ fstK (ks.take k)
      · rw [if_pos hmem] at hlook
        obtain ⟨z, hz⟩ : ∃ z : Nat, z = (fstK (ks.take k)).idxOf x := ⟨_, rfl⟩
        rw [← hz] at hlook;have HZ := Aside0.mk hz;have HMem := Aside0.mk hmem;clear hz hmem;go_wp2_with (at_builtin; refine Kd.R_append (Kd.int .i64) (w0 := w) w.heap.size rfl (.tmp 29) (.tmp 31) 28 3 (.int .i64 0) 8 rfl Try.underlying28 infoIj rfl (by decide) (by omega) _ (numK (ks.take k)) (z : Int) [.int .i64 (z : Int)] (fun q => q ≠ M) (fun _ => False) rfl rfl rfl (fun _ hk => hk.elim) (fun q hq e => by have := HG.out.lt_; omega) HR.out HB.out HB.out.size (by rw [HNl.out]; omega) ?_; intro v9 w9 ho hb hg hat; have a4 := Aside0.mk ho; have a1 := Aside0.mk hb; have a3 := Aside0.mk (HG.out.grown (fun e => HR.out.1 M e rfl) hg); clear ho hb hg hat)
        go_roundw
        case rel =>
          have hadd : addK (fstK (ks.take k)) x = fstK (ks.take k) := by unfold addK; rw [if_pos HMem.out]
          refine ⟨k + 1, f, by omega, by go_num, ⟨?_⟩, ⟨?_⟩, ⟨?_⟩, a1⟩
          · rw [HT.out, fstK_snoc, hadd]; exact a3.out
          · rw [HT.out]
            intro a ha;rw [fstK_snoc, hadd];exact HF.out a ha
          · rw [HT.out, numK_snoc, hadd, ← HZ.out]; exact a4.out
        case measure => simp [intOf]; omega
      · rw [if_neg hmem] at hlook
        have HMem := Aside0.mk hmem;have hlen := HG.out.len Try.underlying88 3;rw [← Hm.out] at hlen;clear hmem
        go_wp2_with (first
          | (refine wpList_gput _ intKB rfl _ _ _ 88 rfl 3 Try.underlying88 M _ f rfl HG.out (by rw [← Hm.out]; unfold maxLen; omega) x HX.out (.int .i64 (m : Int)) rfl rfl ?_
             intro w8 hgm hgg hsz;have a7 := Aside0.mk hgm;have a8 := Aside0.mk (Kd.R_grown HR.out hgg fun q hq e => by cases e; exact hq rfl);have a6 := Aside0.mk (HB.out.grown hgg HB.out.size fun q e => by cases e; rw [HM.out]; exact Nat.le_refl _);clear hgm hgg hsz hlen)
          | (at_builtin
             refine Kd.R_append (Kd.int .i64) (w0 := w) w.heap.size rfl (.tmp 29) (.tmp 31) 28 3 (.int .i64 0) 8 rfl Try.underlying28 infoIj rfl (by decide) (by omega) _ (numK (ks.take k)) (m : Int) [.int .i64 (m : Int)] (fun q => q ≠ M) (fun _ => False) rfl rfl rfl (fun _ hk => hk.elim) (fun q hq e => by have := a7.out.lt_; omega) a8.out a6.out a6.out.size (by rw [HNl.out]; omega) ?_;intro v9 w9 ho hb hg hat;have a4 := Aside0.mk ho;have a1 := Aside0.mk hb;have a3 := Aside0.mk (a7.out.grown (fun e => a8.out.1 M e rfl) hg);clear ho hb hg hat))
        go_roundw
        case rel =>
          have hadd : addK (fstK (ks.take k)) x = fstK (ks.take k) ++ [x] := by unfold addK; rw [if_neg HMem.out]
          have hnone : (f x).isSome = false := by rw [HF.out x HX.out, if_neg HMem.out]; rfl
          have a9 := a3.out;rw [hnone, if_neg (by simp)] at a9;refine ⟨k + 1, putM f x (.int .i64 (m : Int)), by omega, by go_num, ⟨?_⟩, ⟨?_⟩, ⟨?_⟩, a1⟩
          · rw [HT.out, fstK_snoc, hadd, List.length_append]; exact a9
          · rw [HT.out]
            intro a ha;rw [fstK_snoc, hadd];unfold putM;by_cases e : a = x
            · rw [if_pos e, if_pos (by simp [e]), e, List.idxOf_append, if_neg HMem.out, Hm.out]
              simp
            · rw [if_neg e, HF.out a ha]
              by_cases hq : a ∈ fstK (ks.take k)
              · rw [if_pos hq, if_pos (List.mem_append_left _ hq), List.idxOf_append, if_pos hq]
              · rw [if_neg hq, if_neg (by simp [hq, e])]
          · rw [HT.out, numK_snoc, idxOf_addK_new HMem.out, ← Hm.out]; exact a4.out
        case measure => simp [intOf]; omega
    · have ek : ks.take k = ks := List.take_of_length_le (by omega)
      rw [ek] at HR;go_wp2
      go_ret
      exact ⟨_, rfl, Kd.R_mono HR.out fun _ _ => trivial, HB.out⟩
set_option maxHeartbeats 8000000 in
theorem plain_any (ks : List Int) (A : Option Addr) (c0 : Nat) (w : World) (hC : Kd.C (Kd.int .i64) w A ks.length ks) (hks : ∀ x ∈ ks, i64in x) (hl : ks.length ≤ 1000000000) :
  Calls Try.prog 69 #[.slice A ks.length c0] w fun e w' => ∃ v, e = .returned v ∧ Kd.R (Kd.int .i64) 3 w' w.heap.size (fun _ => True) v (numK ks) ∧ Below w.heap.size w w' := by
 go_enter Try.func69, Try.ntmps69
 go_wp2_with (go_at_call 118; refine (number_any ks A c0 w hC hks hl).mono ?_; rintro e w1 ⟨v1, rfl, hR, hB⟩)
 go_ret
 exact ⟨v1, rfl, hR, hB⟩
end Go.Proofs.Ytmcbkmfpmcbdpaa.H
namespace Go.Proofs.Ytmcbkmfpmcbdpaa.Pr
open Go.RowKit Go.Proofs.YtmcbkmfpmcbdpaaW.PrintWords Go.Proofs.YtmcbkmfpmcbdpaaW.PrintLast Go.Proofs.YtmcbkmfpmcbdpaaW.PrintMore
def inW (l : List Int) : Bool := l.all (fun x => decide (-9223372036854775808 ≤ x) && decide (x ≤ 9223372036854775807)) && decide (l.length ≤ 1000000000)
def Pxb.f (l0 : List Int) : Option (List Int) := if inW l0 then some (PL.numK l0) else none
theorem Pxb.calls (A0 : Option Addr) (c0 : Nat) (l0 : List Int) (r : List Int) (w : World) (hr0 : Kd.C (Kd.int .i64) w A0 l0.length l0) (hc0 : l0.length ≤ c0) (h : Pxb.f l0 = some r) :
  Calls Try.prog 69 #[.slice A0 l0.length c0] w fun e w' => ∃ v0_ : Value, e = .returned (v0_) ∧ Kd.R (Kd.int .i64) 3 w' w.heap.size (fun _ => True) v0_ r ∧ Below w.heap.size w w' := by
 unfold Pxb.f at h
 split at h
 ·rename_i hi
  cases h
  unfold inW at hi
  rw [Bool.and_eq_true, List.all_eq_true, decide_eq_true_eq] at hi
  exact (H.plain_any l0 A0 c0 w hr0 (fun x hx => by
   have h1 := hi.1 x hx
   rw [Bool.and_eq_true, decide_eq_true_eq, decide_eq_true_eq] at h1
   exact h1) hi.2).mono fun e w' ⟨v, h1, h2, h3⟩ => ⟨v, h1, h2, h3⟩
 ·cases h
end Go.Proofs.Ytmcbkmfpmcbdpaa.Pr
namespace Go.Proofs.Ytmcbkmfpmcbdpaa.H
open Go.RowKit Go.Proofs.Ytmcbkmfpmcbdpaa.Pr Go.Proofs.YtmcbkmfpmcbdpaaW.PrintWords Go.Proofs.Ytmcbkmfpmcbdpaa.Sem
theorem any_take {α : Type} (d : α) (p : α → Bool) {xs : List α} {j : Nat} (hj : j < xs.length) : (xs.take (j + 1)).any p = ((xs.take j).any p || p (xs.getD j d)) := by
 rw [take_snoc d hj, List.any_append]
 simp
theorem pair_eq {x y : Pair} : x = y ↔ x.f0 = y.f0 ∧ x.f1 = y.f1 := by
 obtain ⟨a, b⟩ := x
 obtain ⟨c, d⟩ := y
 simp
instance : DecidableEq Pair := fun x y => decidable_of_iff _ (pair_eq (x := x) (y := y)).symm
end Go.Proofs.Ytmcbkmfpmcbdpaa.H
namespace Go.Proofs.Ytmcbkmfpmcbdpaa.H
open Go.RowKit Go.Proofs.Ytmcbkmfpmcbdpaa.Pr Go.Proofs.YtmcbkmfpmcbdpaaW.PrintWords Go.Proofs.Ytmcbkmfpmcbdpaa.Sem Go.Proofs.YtmcbkmfpmcbdpaaW.PrintLast
def pairsTo (n k : Nat) : List Pair := (List.range k).flatMap fun s : Nat => (List.range n).map fun t : Nat => (⟨(s : Int), (t : Int)⟩ : Pair)
theorem pairsTo_succ (n k : Nat) : pairsTo n (k + 1) = pairsTo n k ++ (List.range n).map fun t : Nat => (⟨(k : Int), (t : Int)⟩ : Pair) := by
 unfold pairsTo
 rw [List.range_succ, List.flatMap_append]
 simp
theorem pairsTo_length (n k : Nat) : (pairsTo n k).length = k * n := by
 induction k with
 | zero => simp [pairsTo]
 | succ k ih => rw [pairsTo_succ, List.length_append, ih]; simp [Nat.succ_mul]
def bothB (es : List Ed) (S : Int → Int → Bool) (p : Pair) : Bool := followsB es S false p.f0 p.f1 && followsB es S true p.f0 p.f1
def passK (es : List Ed) : List Pair → (Int → Int → Bool) → List Pair
 | [], _ => []
 | p :: r, S => if bothB es S p then p :: passK es r S else passK es r (lessP S p.f0 p.f1)
def passS (es : List Ed) : List Pair → (Int → Int → Bool) → (Int → Int → Bool)
 | [], S => S
 | p :: r, S => if bothB es S p then passS es r S else passS es r (lessP S p.f0 p.f1)
theorem passK_sub (es : List Ed) : ∀ (r : List Pair) (S : Int → Int → Bool), List.Sublist (passK es r S) r
 | [], S => List.Sublist.refl _
 | x :: r, S => by
  unfold passK
  split
  ·exact (passK_sub es r S).cons_cons x
  ·exact (passK_sub es r _).cons x
def rounds (es : List Ed) : Nat → List Pair → (Int → Int → Bool) → List Pair
 | 0, rel, _ => rel
 | f + 1, rel, S => if (passK es rel S).length = rel.length then passK es rel S else rounds es f (passK es rel S) (passS es rel S)
def greatL (n : Nat) (es : List Ed) : List Pair := rounds es (n * n + 1) (pairsTo n n) (relS (pairsTo n n))
theorem step_delete {P : Program} {ops : Array Oper} {o : Oper} {a : Act} {Q : Exit → Act → World → Prop} {K : Act → World → Prop} {W w1 : World} (hw : Region.wanted o (yielded ops a.tmps) = true) (m x : Operand) (t k : TypeId)
  (hop : o.op = Op.call { callee := Callee.builtin Builtin.delete, args := #[m, x], argTypes := #[t, k] }) {b : Nat} {key : Value} (hm : a.eval m = .map (some b)) (hx : a.eval x = key)
  (hrun : (Builtin.delete_ #[t, k] o.type #[.map (some b), key]).run P W = .ok (.tuple #[]) w1) (h : K (a.put o.dst (.tuple #[])) w1) :
  if Region.wanted o (yielded ops a.tmps) = true then Oper.wp P o a W K Q else K (a.put o.dst undef) W := by
 rw [if_pos hw]
 unfold Oper.wp
 simp [execOp, hop, resolve, invoke, builtin, hm, hx, hrun, Result.andThen]
 exact h
def folR (n : Nat) (es : List Ed) (P : List Bool) (s t : Int) : Bool :=
 es.all fun e => !(e.f0 == s) || ((succL es t e.f1).any fun q => P.getD (e.f2 * n + q).toNat false)
theorem succL_at {n : Int} {ls : List ByteArray} {es : List Ed} (h : mayR n ls es = true) (a b : Int) {k : Nat} (hk : k < (succL es a b).length) : 0 ≤ (succL es a b).getD k 0 ∧ (succL es a b).getD k 0 < n := by
 have hm : (succL es a b).getD k 0 ∈ succL es a b := by
  rw [List.getD_eq_getElem?_getD, List.getElem?_eq_getElem hk]
  exact List.getElem_mem hk
 unfold succL at hm
 obtain ⟨e, he, h2⟩ := List.mem_map.1 hm
 obtain ⟨j, hj, hej⟩ := List.getElem_of_mem (List.mem_filter.1 he).1
 have := (es_at h hj).2
 rw [List.getD_eq_getElem?_getD, List.getElem?_eq_getElem hj] at this
 simp only [Option.getD_some, hej] at this
 rw [h2] at this
 exact this
theorem mul_node {n : Nat} {x q : Int} (hx : 0 ≤ x ∧ x < n) (hq : 0 ≤ q ∧ q < n) (hn : n ≤ 2048) : 0 ≤ x * n ∧ x * n ≤ 4194304 ∧ 0 ≤ x * n + q ∧ x * n + q < ((n * n : Nat) : Int) := by
 obtain ⟨a, rfl⟩ := Int.eq_ofNat_of_zero_le hx.1
 obtain ⟨b, rfl⟩ := Int.eq_ofNat_of_zero_le hq.1
 have ha : a < n := by omega
 have hb : b < n := by omega
 have h1 : a * n + b < n * n := by
  have : (a + 1) * n ≤ n * n := Nat.mul_le_mul_right n ha
  rw [Nat.succ_mul] at this
  omega
 have h2 : a * n ≤ 2048 * 2048 := Nat.mul_le_mul (by omega) hn
 have e1 : ((a : Int) * (n : Int)) = ((a * n : Nat) : Int) := by simp
 rw [e1]
 omega
set_option maxHeartbeats 8000000 in
set_option maxRecDepth 100000 in
theorem folR_any (n : Nat) (ls : List ByteArray) (es : List Ed) (P : List Bool) (s t : Int) (r : Bool) (hr : folR n es P s t = r) (v1 : Value) (A2 A3 : Option Addr) (c2 c3 : Nat) (w : World) (hr2 : Kd.C k80 w A2 es.length es) (hr3 : Kd.C Kd.bool w A3 P.length P) (hm : mayR n ls es = true) (hP : P.length = n * n) :
  Calls Try.prog 119 #[.agg #[.int .i64 n, v1, .slice A2 es.length c2], .slice A3 P.length c3, .int .i64 s, .int .i64 t] w fun e w' => e = .returned (.bool r) ∧ Below w.heap.size w w' := by
 have HB := Aside0.mk (Below.refl w.heap.size w);have a7 := Aside0.mk hr2;have b4 := Aside0.mk hr3;have HM := Aside0.mk hm;have hn := (n_le hm).2;have hel := es_le hm;have HRES := Aside0.mk hr;have HP := Aside0.mk hP;clear hr2 hr3 hm hr hP;go_enter Try.func119, Try.ntmps119
 go_wp2
 go_loopw [10] (fun i wr => ∃ k : Nat, k ≤ es.length ∧ i = .int .i64 k ∧ Aside0 (∀ j, j < k → (!((es.getD j z80).f0 == s) || ((succL es t (es.getD j z80).f1).any fun q => P.getD ((es.getD j z80).f2 * n + q).toNat false)) = true) ∧ Aside0 (BoxL wr w.heap.size n v1 (.slice A2 es.length c2)) ∧ Aside0 (Below w.heap.size w wr)) (fun i _ => es.length - (intOf i).toNat)
 case atStart => exact ⟨0, Nat.zero_le _, rfl, ⟨fun j hj => by omega⟩, ⟨blk_new w _⟩, ⟨below_alloc HB.out _⟩⟩
 case round =>
  obtain ⟨k, hk, rfl, hz, HXr, HBr⟩ := hrel;have b2 := HXr.out.c2;by_cases hlt : k < es.length
  ·obtain ⟨ad, hA, g0, g1, g2⟩ := atE a7.out k hlt;subst hA;replace g0 := later HBr.out g0;replace g1 := later HBr.out g1;replace g2 := later HBr.out g2;have hxn := (es_at HM.out hlt).2;obtain ⟨x, hx⟩ : ∃ x, x = es.getD k z80 := ⟨_, rfl⟩
   rw [← hx] at g0 g1 g2 hxn;have hx' := Aside0.mk hx;have HXN := Aside0.mk hxn;clear hx hxn;have a3 := Aside0.mk (HXr.out.below (below_alloc (Below.refl _ _) (Obj.cells #[Value.int IntKind.i64 x.f0, Value.int IntKind.i64 x.f1, Value.int IntKind.i64 x.f2] 80)));have a1 := Aside0.mk (below_then HBr.out HBr.out.size (below_alloc (Below.refl _ _) (Obj.cells #[Value.int IntKind.i64 x.f0, Value.int IntKind.i64 x.f1, Value.int IntKind.i64 x.f2] 80)))
   cases p0 : (x.f0 == s) with
   | false =>
    have p1 : (x.f0 != s) = true := by simpa [bne] using p0
    have HQ := Aside0.mk p0;clear p0;go_wp2
    go_roundw
    case rel => exact ⟨k + 1, by omega, by go_num, ⟨fun j hj => by
     rcases Nat.lt_succ_iff_lt_or_eq.1 hj with h | rfl
     ·exact hz.out j h
     ·rw [← hx'.out, HQ.out]; rfl⟩, a3, a1⟩
    case measure => simp [intOf]; omega
   | true =>
    have p1 : (x.f0 != s) = false := by simpa [bne] using p0
    have HQ := Aside0.mk p0;clear p0;obtain ⟨L, hL⟩ : ∃ L, L = succL es t x.f1 := ⟨_, rfl⟩
    have hLl : L.length ≤ 1000000 := by rw [hL]; exact Nat.le_trans (succL_len _ _ _) hel
    have HL := Aside0.mk hL;have hLn : ∀ j, j < L.length → 0 ≤ L.getD j 0 ∧ L.getD j 0 < n := fun j hj => by rw [hL] at hj ⊢; exact succL_at HM.out t x.f1 hj
    have HLn := Aside0.mk hLn;clear hL hLn;have c0' := fun o => later (below_alloc (Below.refl _ _) o) HXr.out.c0
    have c1' := fun o => later (below_alloc (Below.refl _ _) o) HXr.out.c1
    have c2' := fun o => later (below_alloc (Below.refl _ _) o) HXr.out.c2
    go_wp2_with fail
    clear c0' c1' c2' g0 g1 g2 b2;obtain ⟨E, hE⟩ : ∃ E, E = wr.heap.size := ⟨_, rfl⟩
    rw [← hE];have e2 := (blk_cell (blk_new wr (Obj.cells #[Value.int IntKind.i64 x.f0, Value.int IntKind.i64 x.f1, Value.int IntKind.i64 x.f2] 80)) 2).trans rfl;rw [← hE] at e2;clear hE;generalize (wr.alloc (Obj.cells #[Value.int IntKind.i64 x.f0, Value.int IntKind.i64 x.f1, Value.int IntKind.i64 x.f2] 80)) = U at a3 a1 e2 ⊢;refine (succ_any n ls es t x.f1 _ (some ad) c2 _ (Kd.C_below a7.out a1.out) hel).mono ?_;rintro e w3 ⟨va, rfl, hRa, hBa⟩;obtain ⟨Aa, ca, rfl, _, hCa⟩ := Kd.R_reads hRa;rw [← HL.out] at hCa ⊢;have HCa := Aside0.mk hCa;have b5 := Aside0.mk (a3.out.below hBa);have a2 := Aside0.mk (below_then a1.out a1.out.size hBa);have b3 := Aside0.mk (later hBa e2);clear hRa hBa hCa e2 a3 a1;go_wp2
    go_loopw [13, 14] (fun b i b7 => ∃ j : Nat, j ≤ L.length ∧ i = .int .i64 j ∧ b = .bool ((L.take j).any fun q => P.getD (x.f2 * n + q).toNat false) ∧ Aside0 (Below w3.heap.size w3 b7)) (fun _ i _ => L.length - (intOf i).toNat)
    case atStart => exact ⟨0, Nat.zero_le _, rfl, by simp, ⟨Below.refl _ _⟩⟩
    case round =>
     obtain ⟨j, hj, rfl, rfl, a0⟩ := hrel;by_cases hlt4 : j < L.length
     ·obtain ⟨av, hAv, g0⟩ := atI HCa.out j hlt4;subst hAv;have hqn := HLn.out j hlt4;have f0 := fun o => later (pw_below_drewN a0.out o) g0
      have f2 := fun o => later (pw_below_drewN a0.out o) b3.out
      obtain ⟨q, hq⟩ : ∃ q, q = L.getD j 0 := ⟨_, rfl⟩
      rw [← hq] at f0 hqn;have a4 := Aside0.mk (show ((L.take (j + 1)).any fun q => P.getD (x.f2 * n + q).toNat false) = (((L.take j).any fun q => P.getD (x.f2 * n + q).toNat false) || P.getD (x.f2 * n + q).toNat false) by rw [any_take 0 _ hlt4, hq]);clear g0 hq;have hmul := mul_node HXN.out hqn (by omega);have hPl := HP.out;obtain ⟨ap, hAp, gp⟩ := atB b4.out (x.f2 * n + q).toNat (by omega);subst hAp;have fp := fun o => later (below_then a2.out a2.out.size (pw_below_drewN a0.out o)) gp
      obtain ⟨z, a5⟩ : ∃ z, z = P.getD (x.f2 * n + q).toNat false := ⟨_, rfl⟩
      rw [← a5] at fp a4;clear gp;have b0 : IntKind.i64.wrap (x.f2 * (n : Int)) = x.f2 * (n : Int) := by rw [IntKind.wrap_i64]; omega
      have b1 : IntKind.i64.wrap (x.f2 * (n : Int) + q) = x.f2 * (n : Int) + q := by rw [IntKind.wrap_i64]; omega
      have a8 := hmul.2.2.1;have a9 : x.f2 * (n : Int) + q < (P.length : Int) := by rw [hPl]; exact hmul.2.2.2
      have HZ := Aside0.mk a5;clear hmul hPl a5
      cases hacc : ((L.take j).any fun q => P.getD (x.f2 * n + q).toNat false) with
      | true =>
       clear b0 b1 a8 a9;go_wp2_with fail
       go_quiet (fail)
       go_wp2
       go_roundw
       case rel => exact ⟨j + 1, by omega, by go_num, by rw [a4.out, hacc]; rfl, ⟨pw_below_drewN a0.out _⟩⟩
       case measure => simp [intOf]; omega
      | false =>
       go_wp2_with fail
       go_quiet (fail)
       clear b0 b1 a8 a9;go_wp2
       go_roundw
       case rel => exact ⟨j + 1, by omega, by go_num, by rw [a4.out, hacc]; rfl, ⟨pw_below_drewN a0.out _⟩⟩
       case measure => simp [intOf]; omega
     ·have ej : L.take j = L := List.take_of_length_le (by omega);obtain ⟨fd, hfd⟩ : ∃ fd, fd = (L.any fun q => P.getD (x.f2 * n + q).toNat false) := ⟨_, rfl⟩
      rw [ej, ← hfd];have HFd := Aside0.mk hfd;have b6 := Aside0.mk (b5.out.below a0.out);have a6 := Aside0.mk (below_then a2.out a2.out.size a0.out);clear ej hfd
      cases fd with
      | false =>
       have HF := Aside0.mk (show r = false by
        rw [← HRES.out];exact all_no z80 hlt (by rw [← hx'.out, HQ.out, ← HL.out, ← HFd.out]; rfl))
       go_wp2
       go_ret
       exact ⟨ret_bool HF.out.symm, a6.out⟩
      | true =>
       go_wp2
       go_roundw
       case rel => exact ⟨k + 1, by omega, by go_num, ⟨fun j hj => by
        rcases Nat.lt_succ_iff_lt_or_eq.1 hj with h | rfl
        ·exact hz.out j h
        ·rw [← hx'.out, HQ.out, ← HL.out, ← HFd.out]; rfl⟩, b6, a6⟩
       case measure => simp [intOf]; omega
  ·have HF := Aside0.mk (show r = true by rw [← HRES.out]; exact all_yes z80 hlt hz.out);go_wp2
   go_ret
   exact ⟨ret_bool HF.out.symm, HBr.out⟩
def stepP (n : Nat) (es : List Ed) (P : List Bool) (i : Nat) : List Bool :=
 if P.getD i false && (!folR n es P ((i / n : Nat) : Int) ((i % n : Nat) : Int) || !folR n es P ((i % n : Nat) : Int) ((i / n : Nat) : Int)) then P.set i false else P
def sweepTo (n : Nat) (es : List Ed) (P : List Bool) : Nat → List Bool
 | 0 => P
 | k + 1 => stepP n es (sweepTo n es P k) k
def iterP (n : Nat) (es : List Ed) : Nat → List Bool → List Bool
 | 0, P => P
 | f + 1, P => if sweepTo n es P (n * n) = P then P else iterP n es f (sweepTo n es P (n * n))
def pairsR (n : Nat) (es : List Ed) : List Bool := iterP n es (n * n + 1) (List.replicate (n * n) true)
theorem stepP_length (n : Nat) (es : List Ed) (P : List Bool) (i : Nat) : (stepP n es P i).length = P.length := by
 unfold stepP; split
 ·rw [List.length_set]
 ·rfl
theorem sweepTo_length (n : Nat) (es : List Ed) (P : List Bool) : ∀ k, (sweepTo n es P k).length = P.length
 | 0 => rfl
 | k + 1 => by rw [sweepTo, stepP_length, sweepTo_length n es P k]
theorem count_set_lt {P : List Bool} {i : Nat} (h : P.getD i false = true) : (P.set i false).count true + 1 = P.count true := by
 have hi : i < P.length := by
  rcases Nat.lt_or_ge i P.length with h' | h'
  ·exact h'
  ·rw [List.getD_eq_getElem?_getD, List.getElem?_eq_none h'] at h; cases h
 have hv : P[i] = true := by rw [List.getD_eq_getElem?_getD, List.getElem?_eq_getElem hi] at h; exact h
 rw [List.count_set hi, hv]
 have : 0 < P.count true := List.count_pos_iff.2 (hv ▸ List.getElem_mem hi)
 simp
 omega
theorem stepP_count (n : Nat) (es : List Ed) (P : List Bool) (i : Nat) : stepP n es P i = P ∨ (stepP n es P i).count true < P.count true := by
 unfold stepP
 split
 ·rename_i h
  simp only [Bool.and_eq_true] at h
  right
  have := count_set_lt h.1
  omega
 ·exact .inl rfl
theorem sweepTo_count (n : Nat) (es : List Ed) (P : List Bool) : ∀ k, sweepTo n es P k = P ∨ (sweepTo n es P k).count true < P.count true
 | 0 => .inl rfl
 | k + 1 => by
  rw [sweepTo]
  rcases sweepTo_count n es P k with h | h
  ·rw [h]; exact stepP_count n es P k
  ·rcases stepP_count n es (sweepTo n es P k) k with h2 | h2
   ·rw [h2]; exact .inr h
   ·exact .inr (Nat.lt_trans h2 h)
theorem frozen_later {w w1 : World} (hb : Below w.heap.size w w1) {a : Addr} (ha : a.block < w.heap.size) : w1.frozen? a = w.frozen? a := World.frozen?_of_block (hb.block _ ha)
abbrev RB (w : World) (base : Nat) (v : Value) (xs : List Bool) : Prop := Kd.R Kd.bool 4 w base (fun _ => True) v xs
theorem pull_all {N : Nat} {P : List Bool} (hl : P.length = N) (h : ∀ j, j < N → P.getD j false = true) : P = List.replicate N true := by
 apply List.ext_getElem
 ·simp [hl]
 ·intro i h1 h2
  have := h i (by omega)
  rw [List.getD_eq_getElem?_getD, List.getElem?_eq_getElem h1] at this
  simpa using this
set_option maxHeartbeats 16000000 in
set_option maxRecDepth 100000 in
theorem pairsR_any (n : Nat) (ls : List ByteArray) (es : List Ed) (v1 : Value) (A2 : Option Addr) (c2 : Nat) (w : World) (hr2 : Kd.C k80 w A2 es.length es) (hm : mayR n ls es = true) :
  Calls Try.prog 71 #[.agg #[.int .i64 n, v1, .slice A2 es.length c2]] w fun e w' => ∃ v, e = .returned v ∧ RB w' w.heap.size v (pairsR n es) ∧ Below w.heap.size w w' := by
 have HB := Aside0.mk (Below.refl w.heap.size w);have d8 := Aside0.mk hr2;have HM := Aside0.mk hm;have hn := n_le hm;obtain ⟨N, hN⟩ : ∃ N, N = n * n := ⟨_, rfl⟩
 have e4 : N ≤ 4194304 := by rw [hN]; exact Nat.mul_le_mul (show n ≤ 2048 by omega) (show n ≤ 2048 by omega)
 have hw : IntKind.i64.wrap ((n : Int) * (n : Int)) = (N : Int) := by
  have e1 : ((n : Int) * (n : Int)) = (N : Int) := by rw [hN]; simp
  rw [e1, IntKind.wrap_i64];omega
 have HN := Aside0.mk hN;have hmk := print_make_of (P := Try.prog) 41 4 (.bool false) 1 Try.underlying41 (by kernel_rfl) rfl (by omega) N (by omega);clear hr2 hm hN;go_enter Try.func71, Try.ntmps71
 go_wp2
 clear hmk;obtain ⟨g, hg⟩ : ∃ g, g = w.heap.size + 1 := ⟨_, rfl⟩
 have HG := Aside0.mk (show w.heap.size ≤ g by omega)
 have d1 : RB ((w.alloc (Obj.cells #[Value.int IntKind.i64 n, v1, Value.slice A2 es.length c2] 25)).alloc (Obj.cells (madeCells #[Value.bool false] N) 4)) w.heap.size (.slice (some ⟨g, 0, none⟩) N N) (List.replicate N false) := by
  have h : RB ((w.alloc (Obj.cells #[Value.int IntKind.i64 n, v1, Value.slice A2 es.length c2] 25)).alloc (Obj.cells (madeCells #[Value.bool false] N) 4)) w.heap.size (.slice (some ⟨(w.alloc (Obj.cells #[Value.int IntKind.i64 n, v1, Value.slice A2 es.length c2] 25)).heap.size, 0, none⟩) N N) (List.replicate N false) :=
   Kd.R_of_own (enc := Value.bool) (own_made_of' (enc := Value.bool) (d := false) (w.alloc (Obj.cells #[Value.int IntKind.i64 n, v1, Value.slice A2 es.length c2] 25)) w.heap.size 4 N (by simp) (by omega)) (fun _ _ => trivial)
  rw [show (w.alloc (Obj.cells #[Value.int IntKind.i64 n, v1, Value.slice A2 es.length c2] 25)).heap.size = w.heap.size + 1 by simp] at h;rw [hg];exact h
 rw [← hg];have d2 := Aside0.mk (show BoxL ((w.alloc (Obj.cells #[Value.int IntKind.i64 n, v1, Value.slice A2 es.length c2] 25)).alloc (Obj.cells (madeCells #[Value.bool false] N) 4)) w.heap.size n v1 (.slice A2 es.length c2) from blk_below (blk_new w _) (below_alloc (Below.refl _ _) _));have b8 := Aside0.mk (show Below w.heap.size w ((w.alloc (Obj.cells #[Value.int IntKind.i64 n, v1, Value.slice A2 es.length c2] 25)).alloc (Obj.cells (madeCells #[Value.bool false] N) 4)) by repeat (first | exact HB.out | apply below_alloc));have a0 := Aside0.mk d1;clear hg d1;go_loopw [5] (fun i wr => ∃ (k : Nat) (P : List Bool), k ≤ N ∧ i = .int .i64 k ∧ Aside0 (RB wr w.heap.size (.slice (some ⟨g, 0, none⟩) N N) P) ∧ Aside0 (P.length = N ∧ ∀ j, j < k → P.getD j false = true) ∧ Aside0 (BoxL wr w.heap.size n v1 (.slice A2 es.length c2)) ∧ Aside0 (Below w.heap.size w wr)) (fun i _ => N - (intOf i).toNat)
 case atStart => exact ⟨0, _, Nat.zero_le _, rfl, a0, ⟨by simp, fun j hj => by omega⟩, d2, b8⟩
 case round =>
  clear d2 b8 a0;obtain ⟨k, P, hk, rfl, a0, HP, a1, a2⟩ := hrel;by_cases hlt : k < N
  ·have hcell := Kd.R_cell false (by have := a0.out; rw [← HP.out.1] at this; exact this) (k : Int) (by omega) (by have := HP.out.1; omega);have hc := hcell.1;have hf := hcell.2;rw [Int.toNat_natCast] at hc hf;obtain ⟨a6, a5⟩ := Kd.R_putg a0.out (k : Int) true;rw [Int.toNat_natCast] at a6 a5;have HR2' := Aside0.mk a6;have b1 := Aside0.mk (blk_grown (g := w.heap.size) a1.out a5 (by have := Kd.R_ne a0.out a1.out (by decide); simpa [Value.ownBlock] using this));have b0 := Aside0.mk (below_set (g := g) (j := k) (v := .bool true) a2.out HG.out);clear hcell a6 a5;go_wp2
   go_roundw
   case rel =>
    refine ⟨k + 1, P.set k true, by omega, by go_num, HR2', ⟨by rw [List.length_set]; exact HP.out.1, fun j hj => ?_⟩, b1, b0⟩;by_cases e : j = k
    ·subst e;have := HP.out.1;simp [List.getD_eq_getElem?_getD, List.getElem?_set, this, hlt]
    ·have := HP.out.2 j (by omega);rw [List.getD_eq_getElem?_getD] at this ⊢;rw [List.getElem?_set_ne (by omega)];exact this
   case measure => simp [intOf]; omega
  ·have ek : k = N := by omega
   have hP : P = List.replicate N true := pull_all HP.out.1 (fun j hj => HP.out.2 j (by omega));rw [hP] at a0;have HST := Aside0.mk (show ∃ f, (if true then iterP n es f (List.replicate N true) else List.replicate N true) = pairsR n es ∧ (List.replicate N true).count true < f ∧ (List.replicate N true).length = N from ⟨n * n + 1, by rw [if_pos rfl, HN.out]; rfl, by simp [HN.out], by simp⟩);clear hP HP;go_wp2
   clear hk hlt ek;have d3 : (List.replicate N true).count true ≤ N := by simp
   generalize List.replicate N true = P0 at a0 HST d3;have hnz : ((n : Int) == 0) = false := by have := hn.1; simp; omega
   have e3 : ¬ n = 0 := by have := hn.1; omega
   go_loopg [6] (2 * N + 1) (fun m b wr => ∃ (P : List Bool) (more : Bool), b = .bool more ∧ Aside0 (2 * P.count true + (if more then 1 else 0) ≤ m) ∧ Aside0 (∃ f, (if more then iterP n es f P else P) = pairsR n es ∧ P.count true < f ∧ P.length = N) ∧ Aside0 (RB wr w.heap.size (.slice (some ⟨g, 0, none⟩) N N) P) ∧ Aside0 (BoxL wr w.heap.size n v1 (.slice A2 es.length c2)) ∧ Aside0 (Below w.heap.size w wr))
   case atStart => exact ⟨P0, true, rfl, ⟨by simp; omega⟩, HST, a0, a1, a2⟩
   case round =>
    clear HST a0 a1 a2 d3;obtain ⟨P, more, rfl, d6, HST, a0, a1, a2⟩ := hrel
    cases more with
    | false =>
     have HF := Aside0.mk (show P = pairsR n es by obtain ⟨f, h, _⟩ := HST.out; simpa using h);go_wp2
     go_ret
     exact ⟨_, rfl, by rw [← HF.out]; exact a0.out, a2.out⟩
    | true =>
     go_wp2
     go_loopw [6, 7] (fun b i b7 => ∃ k : Nat, k ≤ N ∧ i = .int .i64 k ∧ b = .bool (decide (sweepTo n es P k ≠ P)) ∧ Aside0 (RB b7 w.heap.size (.slice (some ⟨g, 0, none⟩) N N) (sweepTo n es P k)) ∧ Aside0 (BoxL b7 w.heap.size n v1 (.slice A2 es.length c2)) ∧ Aside0 (Below w.heap.size w b7)) (fun _ i _ => N - (intOf i).toNat)
     case atStart => exact ⟨0, Nat.zero_le _, rfl, by simp [sweepTo], a0, a1, a2⟩
     case round =>
      clear a0 a1 a2;obtain ⟨k, hk, rfl, rfl, a0, a1, a2⟩ := hrel;by_cases hlt : k < N
      ·have HPl := Aside0.mk (show (sweepTo n es P k).length = N by obtain ⟨f, _, _, h⟩ := HST.out; rw [sweepTo_length]; exact h);obtain ⟨Pk, hPk⟩ : ∃ Pk, Pk = sweepTo n es P k := ⟨_, rfl⟩
       obtain ⟨ch, hch⟩ : ∃ ch, ch = decide (sweepTo n es P k ≠ P) := ⟨_, rfl⟩
       have HStep := Aside0.mk (show sweepTo n es P (k + 1) = stepP n es Pk k by rw [hPk]; rfl);rw [← hch];rw [← hPk] at a0 HPl;have HPk := Aside0.mk hPk;have HCh := Aside0.mk hch;clear hPk hch;have hcell := Kd.R_cell false (by have := a0.out; rw [← HPl.out] at this; exact this) (k : Int) (by omega) (by have := HPl.out; omega);have hc := hcell.1;have hf := hcell.2;rw [Int.toNat_natCast] at hc hf;obtain ⟨z, hz⟩ : ∃ z, z = Pk.getD k false := ⟨_, rfl⟩
       have hrd : rdOf false Pk (k : Int) = Pk.getD k false := by simp [rdOf]
       rw [hrd, ← hz] at hc;have HZ := Aside0.mk hz;have b9 := Aside0.mk hf;clear hcell hz hrd hf;have i0 : (0 : Int) ≤ (k : Int) := by omega
       have i1 : (k : Int) < (N : Int) := by omega
       have hcd := fun m => later (pw_below_drewN (Below.refl wr.heap.size wr) m) hc
       cases z with
       | false =>
        have HSame := Aside0.mk (show stepP n es Pk k = Pk by unfold stepP; rw [← HZ.out]; rfl);clear hc;go_wp2_with fail
        go_quiet (fail)
        go_wp2
        go_roundw
        case rel => exact ⟨k + 1, by omega, by go_num, by rw [HCh.out, HStep.out, HSame.out, HPk.out], ⟨by rw [HStep.out, HSame.out]; exact Kd.R_below a0.out (pw_below_drewN (Below.refl _ _) _)⟩, ⟨a1.out.below (pw_below_drewN (Below.refl _ _) _)⟩, ⟨pw_below_drewN a2.out _⟩⟩
        case measure => simp [intOf]; omega
       | true =>
        have b2 := Aside0.mk hc;obtain ⟨kq, hkq⟩ : ∃ q, q = k / n := ⟨_, rfl⟩
        obtain ⟨kr, hkr⟩ : ∃ q, q = k % n := ⟨_, rfl⟩
        have hkl : kq ≤ 4194304 := by rw [hkq]; exact Nat.le_trans (Nat.div_le_self _ _) (by omega)
        have hq : IntKind.i64.wrap (Int.tdiv (k : Int) (n : Int)) = (kq : Int) := by
         rw [show Int.tdiv (k : Int) (n : Int) = ((k / n : Nat) : Int) from rfl, ← hkq, IntKind.wrap_i64];omega
        have e2 : wrap64 (Int.tdiv (k : Int) (n : Int)) = (kq : Int) := by rw [← i64_w]; exact hq
        have hr : Int.tmod (k : Int) (n : Int) = (kr : Int) := by rw [hkr]; rfl
        have e5 : IntKind.i64.wrap ((k : Int) / (n : Int)) = (kq : Int) := hq;have e6 : wrap64 ((k : Int) / (n : Int)) = (kq : Int) := e2;have hr2 : (k : Int) % (n : Int) = (kr : Int) := hr;have hkrl : kr ≤ 4194304 := by rw [hkr]; exact Nat.le_trans (Nat.mod_le _ _) (by omega)
        have e7 : IntKind.i64.wrap ((k : Int) % (n : Int)) = (kr : Int) := by rw [hr2, IntKind.wrap_i64]; omega
        have HKq := Aside0.mk hkq;have HKr := Aside0.mk hkr;clear hkq hkr hkl hkrl hcd;obtain ⟨f1, b5⟩ : ∃ f, f = folR n es Pk kq kr := ⟨_, rfl⟩
        obtain ⟨f2, b6⟩ : ∃ f, f = folR n es Pk kr kq := ⟨_, rfl⟩
        have hfo : ∀ (a b : Int) (r : Bool), folR n es Pk a b = r → ∀ W, Below wr.heap.size wr W → Calls Try.prog 119 #[.agg #[.int .i64 n, v1, .slice A2 es.length c2], .slice (some ⟨g, 0, none⟩) N N, .int .i64 a, .int .i64 b] W fun e w' => e = .returned (.bool r) ∧ Below W.heap.size W w' := fun a b r hr W hW => by
         have := folR_any n ls es Pk a b r hr v1 A2 (some ⟨g, 0, none⟩) c2 N W (Kd.C_below d8.out (below_then a2.out a2.out.size hW)) (Kd.C_below (Kd.R_reads' a0.out).2.2 hW) HM.out (by rw [HPl.out, HN.out]);rwa [HPl.out] at this
        have b3 := Lib.hid (hfo kq kr f1 b5.symm);have d0 := Lib.hid (hfo kr kq f2 b6.symm);have HFs := Aside0.mk (show (!folR n es Pk (kq : Int) (kr : Int) || !folR n es Pk (kr : Int) (kq : Int)) = (!f1 || !f2) by rw [← b5, ← b6]);clear hfo b5 b6
        cases f1 with
        | false =>
         go_wp2_with fail
         refine start_ (n := 28) (S := fun w' => w'.cell? ⟨w.heap.size, 0, none⟩ = some (.int .i64 (n : Int)) ∧ w'.cell? ⟨w.heap.size, 1, none⟩ = some v1 ∧ w'.cell? ⟨w.heap.size, 2, none⟩ = some (.slice A2 es.length c2) ∧ w'.cell? ⟨g, k, none⟩ = some (.bool true)) (ds := []) (bqz 28 0) (by kernel_rfl) rfl rfl ⟨a1.out.c0, a1.out.c1, a1.out.c2, hc⟩ (fun hHeld => ?_);have HV := Aside0.mk (below_drew1 (Below.refl wr.heap.size wr));generalize wr.drew = V at HV hHeld ⊢;clear hc;refine pqz 0 (some 32) (bqz 28 1) rfl rfl (by kernel_rfl) ?_ ?_ (fun _ _ _ h => h) (by rfl) ?_ ?_ ?_;rotate_left 2;intro w';go_simp;(with_reducible rfl);simp only [Act.put, qz1, qz2, qz3, i64_w, i32_w];rfl
         refine pqz 1 (some 33) (bqz 28 3) rfl rfl (by kernel_rfl) ?_ ?_ (fun _ _ _ h => h) (by rfl) ?_ ?_ ?_;rotate_left 2;intro w';go_simp;(with_reducible rfl);simp only [Act.put, qz1, qz2, qz3, i64_w, i32_w];rfl
         refine pqz 2 (some 34) (bqz 28 7) rfl rfl (by kernel_rfl) ?_ ?_ (fun _ _ _ h => h) (by rfl) ?_ ?_ ?_;rotate_left 2;intro w';go_simp;(with_reducible rfl);simp only [Act.put, qz1, qz2, qz3, i64_w, i32_w];rfl
         refine tqz 3 (some 35) (bqz 28 15) rfl rfl (by kernel_rfl) ?_ ?_ (fun _ _ _ h => h) (by rfl) ?_ hHeld ?_ ?_;rotate_left 2;rintro w' ⟨s0, s1, s2, s3⟩;go_simp;(with_reducible rfl);simp only [Act.put, qz1, qz2, qz3, i64_w, i32_w];rfl
         refine pqz 4 (some 36) (bqz 28 31) rfl rfl (by kernel_rfl) ?_ ?_ (fun _ _ _ h => h) (by rfl) ?_ ?_ ?_;rotate_left 2;intro w';go_simp;(with_reducible rfl);simp only [Act.put, qz1, qz2, qz3, i64_w, i32_w];rfl
         refine pqz 6 (some 38) (bqz 28 95) rfl rfl (by kernel_rfl) ?_ ?_ (fun _ _ _ h => h) (by rfl) ?_ ?_ ?_;rotate_left 2;intro w';go_simp;(with_reducible rfl);simp only [Act.put, qz1, qz2, qz3, i64_w, i32_w];rfl
         refine pqz 7 (some 39) (bqz 28 223) rfl rfl (by kernel_rfl) ?_ ?_ (fun _ _ _ h => h) (by rfl) ?_ ?_ ?_;rotate_left 2;intro w';go_simp;(with_reducible rfl);simp only [Act.put, qz1, qz2, qz3, i64_w, i32_w];rfl
         refine pqz 8 (some 40) (bqz 28 479) rfl rfl (by kernel_rfl) ?_ ?_ (fun _ _ _ h => h) (by rfl) ?_ ?_ ?_;rotate_left 2;intro w';go_simp;(with_reducible rfl);simp only [Act.put, qz1, qz2, qz3, i64_w, i32_w];rfl
         refine pqz 9 (some 41) (bqz 28 991) rfl rfl (by kernel_rfl) ?_ ?_ (fun _ _ _ h => h) (by rfl) ?_ ?_ ?_;rotate_left 2;intro w';go_simp;(with_reducible rfl);simp only [Act.put, qz1, qz2, qz3, i64_w, i32_w];rfl
         refine pqz 10 (some 42) (bqz 28 2015) rfl rfl (by kernel_rfl) ?_ ?_ (fun _ _ _ h => h) (by rfl) ?_ ?_ ?_;rotate_left 2;intro w';go_simp;(with_reducible rfl);simp only [Act.put, qz1, qz2, qz3, i64_w, i32_w];rfl
         refine pqz 11 (some 43) (bqz 28 4063) rfl rfl (by kernel_rfl) ?_ ?_ (fun _ _ _ h => h) (by rfl) ?_ ?_ ?_;rotate_left 2;intro w';go_simp;(with_reducible rfl);simp only [Act.put, qz1, qz2, qz3, i64_w, i32_w];rfl
         refine pqz 12 (some 44) (bqz 28 8159) rfl rfl (by kernel_rfl) ?_ ?_ (fun _ _ _ h => h) (by rfl) ?_ ?_ ?_;rotate_left 2;intro w';go_simp;(with_reducible rfl);simp only [Act.put, qz1, qz2, qz3, i64_w, i32_w];rfl
         refine tqz 5 (some 37) (bqz 28 8191) rfl rfl (by kernel_rfl) ?_ ?_ (fun _ _ _ h => h) (by rfl) ?_ hHeld ?_ ?_;rotate_left 2;rintro w' ⟨s0, s1, s2, s3⟩;go_simp;(with_reducible rfl);simp only [Act.put, qz1, qz2, qz3, i64_w, i32_w];rfl
         refine one_ (i := 13) (N := some 45) (bqz 28 16383) rfl rfl (by kernel_rfl) (by decide) (fun K hK => ?_);refine goes_ Try.func119 (by kernel_rfl) rfl #[.agg #[.int .i64 n, v1, .slice A2 es.length c2], .slice (some ⟨g, 0, none⟩) N N, .int .i64 (kq : Int), .int .i64 (kr : Int)] (by rfl) rfl rfl (by simp only [List.map_toArray, List.map_cons, List.map_nil]; rfl) ?_;refine (b3.out _ HV.out).mono ?_;rintro e w3 ⟨rfl, hB⟩;refine ⟨_, rfl, ?_⟩;have a3 := Aside0.mk hB;have a4 := Aside0.mk (below_then HV.out HV.out.size hB);clear hB;refine hK.out _ _ ⟨later a3.out hHeld.1, later a3.out hHeld.2.1, later a3.out hHeld.2.2.1, later a3.out hHeld.2.2.2⟩ (fun hHeld => ?_);clear hK K;refine norm_ (a' := ?_) ?_ ?_;rotate_left
         ·show Act.put _ (some 45) _ = _;simp only [Act.put, qz1, qz2, qz3, i64_w, i32_w];rfl
         refine pqz 14 (some 46) (bqz 28 32767) rfl rfl (by kernel_rfl) ?_ ?_ (fun _ _ _ h => h) (by rfl) ?_ ?_ ?_;rotate_left 2;intro w';go_simp;(with_reducible rfl);simp only [Act.put, qz1, qz2, qz3, i64_w, i32_w];rfl
         refine pqz 15 (some 47) (bqz 28 65535) rfl rfl (by kernel_rfl) ?_ ?_ (fun _ _ _ h => h) (by rfl) ?_ ?_ ?_;rotate_left 2;intro w';go_simp;(with_reducible rfl);simp only [Act.put, qz1, qz2, qz3, i64_w, i32_w];rfl
         refine pure_ (i := 16) (N := some 48) (v := undef) (a' := ?_) (bqz 28 131071) rfl rfl (by kernel_rfl) (fun _ _ _ h => h) (Or.inr ⟨by rfl, rfl⟩) ?_ ?_;rotate_left
         ·simp only [Act.put, qz1, qz2, qz3, i64_w, i32_w];rfl
         refine pure_ (i := 17) (N := some 49) (v := undef) (a' := ?_) (bqz 28 262143) rfl rfl (by kernel_rfl) (fun _ _ _ h => h) (Or.inr ⟨by rfl, rfl⟩) ?_ ?_;rotate_left
         ·simp only [Act.put, qz1, qz2, qz3, i64_w, i32_w];rfl
         refine pure_ (i := 18) (N := some 50) (v := undef) (a' := ?_) (bqz 28 524287) rfl rfl (by kernel_rfl) (fun _ _ _ h => h) (Or.inr ⟨by rfl, rfl⟩) ?_ ?_;rotate_left
         ·simp only [Act.put, qz1, qz2, qz3, i64_w, i32_w];rfl
         refine pure_ (i := 19) (N := some 51) (v := undef) (a' := ?_) (bqz 28 1048575) rfl rfl (by kernel_rfl) (fun _ _ _ h => h) (Or.inr ⟨by rfl, rfl⟩) ?_ ?_;rotate_left
         ·simp only [Act.put, qz1, qz2, qz3, i64_w, i32_w];rfl
         refine pure_ (i := 20) (N := some 52) (v := undef) (a' := ?_) (bqz 28 2097151) rfl rfl (by kernel_rfl) (fun _ _ _ h => h) (Or.inr ⟨by rfl, rfl⟩) ?_ ?_;rotate_left
         ·simp only [Act.put, qz1, qz2, qz3, i64_w, i32_w];rfl
         refine pure_ (i := 21) (N := some 53) (v := undef) (a' := ?_) (bqz 28 4194303) rfl rfl (by kernel_rfl) (fun _ _ _ h => h) (Or.inr ⟨by rfl, rfl⟩) ?_ ?_;rotate_left
         ·simp only [Act.put, qz1, qz2, qz3, i64_w, i32_w];rfl
         refine pure_ (i := 22) (N := some 54) (v := undef) (a' := ?_) (bqz 28 8388607) rfl rfl (by kernel_rfl) (fun _ _ _ h => h) (Or.inr ⟨by rfl, rfl⟩) ?_ ?_;rotate_left
         ·simp only [Act.put, qz1, qz2, qz3, i64_w, i32_w];rfl
         refine pure_ (i := 23) (N := some 55) (v := undef) (a' := ?_) (bqz 28 16777215) rfl rfl (by kernel_rfl) (fun _ _ _ h => h) (Or.inr ⟨by rfl, rfl⟩) ?_ ?_;rotate_left
         ·simp only [Act.put, qz1, qz2, qz3, i64_w, i32_w];rfl
         refine pure_ (i := 24) (N := some 56) (v := undef) (a' := ?_) (bqz 28 33554431) rfl rfl (by kernel_rfl) (fun _ _ _ h => h) (Or.inr ⟨by rfl, rfl⟩) ?_ ?_;rotate_left
         ·simp only [Act.put, qz1, qz2, qz3, i64_w, i32_w];rfl
         refine pure_ (i := 25) (N := some 57) (v := undef) (a' := ?_) (bqz 28 67108863) rfl rfl (by kernel_rfl) (fun _ _ _ h => h) (Or.inr ⟨by rfl, rfl⟩) ?_ ?_;rotate_left
         ·simp only [Act.put, qz1, qz2, qz3, i64_w, i32_w];rfl
         refine pqz 26 (some 58) (bqz 28 134217727) rfl rfl (by kernel_rfl) ?_ ?_ (fun _ _ _ h => h) (by rfl) ?_ ?_ ?_;rotate_left 2;intro w';go_simp;(with_reducible rfl);simp only [Act.put, qz1, qz2, qz3, i64_w, i32_w];rfl
         refine pqz 27 (some 59) (bqz 28 268435455) rfl rfl (by kernel_rfl) ?_ ?_ (fun _ _ _ h => h) (by rfl) ?_ ?_ ?_;rotate_left 2;intro w';go_simp;(with_reducible rfl);simp only [Act.put, qz1, qz2, qz3, i64_w, i32_w];rfl
         refine done_ (by kernel_rfl) ?_;have HSet := Aside0.mk (show stepP n es Pk k = Pk.set k false by unfold stepP; rw [← HZ.out, ← HKq.out, ← HKr.out, HFs.out]; rfl);have d9 := later a4.out b2.out;have e0 := (frozen_later a4.out (World.block_lt_of_cell? _ _ b2.out)).trans b9.out;obtain ⟨a6, a5⟩ := Kd.R_putg (Kd.R_below a0.out a4.out) (k : Int) false;rw [Int.toNat_natCast] at a6 a5;have HR2' := Aside0.mk a6;have b1 := Aside0.mk (blk_grown (g := w.heap.size) (a1.out.below a4.out) a5 (by have := Kd.R_ne a0.out a1.out (by decide); simpa [Value.ownBlock] using this));have b0 := Aside0.mk (below_set (g := g) (j := k) (v := .bool false) (below_then a2.out a2.out.size a4.out) HG.out)
         have HDec := Aside0.mk (show decide (sweepTo n es P (k + 1) ≠ P) = true by
          rw [HStep.out, HSet.out, decide_eq_true_eq];intro e;have h1 := count_set_lt (P := Pk) (i := k) HZ.out.symm;rw [e] at h1;rcases sweepTo_count n es P k with h2 | h2
          ·rw [← HPk.out] at h2; rw [h2] at h1; omega
          ·rw [← HPk.out] at h2; omega)
         clear a6 a5;go_wp2
         go_roundw
         case rel => exact ⟨k + 1, by omega, by go_num, by rw [HDec.out], ⟨by rw [HStep.out, HSet.out]; exact HR2'.out⟩, b1, b0⟩
         case measure => simp [intOf]; omega
        | true =>
         cases f2 with
         | false =>
          go_wp2_with fail
          refine start_ (n := 28) (S := fun w' => w'.cell? ⟨w.heap.size, 0, none⟩ = some (.int .i64 (n : Int)) ∧ w'.cell? ⟨w.heap.size, 1, none⟩ = some v1 ∧ w'.cell? ⟨w.heap.size, 2, none⟩ = some (.slice A2 es.length c2) ∧ w'.cell? ⟨g, k, none⟩ = some (.bool true)) (ds := []) (bqz 28 0) (by kernel_rfl) rfl rfl ⟨a1.out.c0, a1.out.c1, a1.out.c2, hc⟩ (fun hHeld => ?_);have HV := Aside0.mk (below_drew1 (Below.refl wr.heap.size wr));generalize wr.drew = V at HV hHeld ⊢;clear hc;refine pqz 0 (some 32) (bqz 28 1) rfl rfl (by kernel_rfl) ?_ ?_ (fun _ _ _ h => h) (by rfl) ?_ ?_ ?_;rotate_left 2;intro w';go_simp;(with_reducible rfl);simp only [Act.put, qz1, qz2, qz3, i64_w, i32_w];rfl
          refine pqz 1 (some 33) (bqz 28 3) rfl rfl (by kernel_rfl) ?_ ?_ (fun _ _ _ h => h) (by rfl) ?_ ?_ ?_;rotate_left 2;intro w';go_simp;(with_reducible rfl);simp only [Act.put, qz1, qz2, qz3, i64_w, i32_w];rfl
          refine pqz 2 (some 34) (bqz 28 7) rfl rfl (by kernel_rfl) ?_ ?_ (fun _ _ _ h => h) (by rfl) ?_ ?_ ?_;rotate_left 2;intro w';go_simp;(with_reducible rfl);simp only [Act.put, qz1, qz2, qz3, i64_w, i32_w];rfl
          refine tqz 3 (some 35) (bqz 28 15) rfl rfl (by kernel_rfl) ?_ ?_ (fun _ _ _ h => h) (by rfl) ?_ hHeld ?_ ?_;rotate_left 2;rintro w' ⟨s0, s1, s2, s3⟩;go_simp;(with_reducible rfl);simp only [Act.put, qz1, qz2, qz3, i64_w, i32_w];rfl
          refine pqz 4 (some 36) (bqz 28 31) rfl rfl (by kernel_rfl) ?_ ?_ (fun _ _ _ h => h) (by rfl) ?_ ?_ ?_;rotate_left 2;intro w';go_simp;(with_reducible rfl);simp only [Act.put, qz1, qz2, qz3, i64_w, i32_w];rfl
          refine pqz 6 (some 38) (bqz 28 95) rfl rfl (by kernel_rfl) ?_ ?_ (fun _ _ _ h => h) (by rfl) ?_ ?_ ?_;rotate_left 2;intro w';go_simp;(with_reducible rfl);simp only [Act.put, qz1, qz2, qz3, i64_w, i32_w];rfl
          refine pqz 7 (some 39) (bqz 28 223) rfl rfl (by kernel_rfl) ?_ ?_ (fun _ _ _ h => h) (by rfl) ?_ ?_ ?_;rotate_left 2;intro w';go_simp;(with_reducible rfl);simp only [Act.put, qz1, qz2, qz3, i64_w, i32_w];rfl
          refine pqz 8 (some 40) (bqz 28 479) rfl rfl (by kernel_rfl) ?_ ?_ (fun _ _ _ h => h) (by rfl) ?_ ?_ ?_;rotate_left 2;intro w';go_simp;(with_reducible rfl);simp only [Act.put, qz1, qz2, qz3, i64_w, i32_w];rfl
          refine pqz 9 (some 41) (bqz 28 991) rfl rfl (by kernel_rfl) ?_ ?_ (fun _ _ _ h => h) (by rfl) ?_ ?_ ?_;rotate_left 2;intro w';go_simp;(with_reducible rfl);simp only [Act.put, qz1, qz2, qz3, i64_w, i32_w];rfl
          refine pqz 10 (some 42) (bqz 28 2015) rfl rfl (by kernel_rfl) ?_ ?_ (fun _ _ _ h => h) (by rfl) ?_ ?_ ?_;rotate_left 2;intro w';go_simp;(with_reducible rfl);simp only [Act.put, qz1, qz2, qz3, i64_w, i32_w];rfl
          refine pqz 11 (some 43) (bqz 28 4063) rfl rfl (by kernel_rfl) ?_ ?_ (fun _ _ _ h => h) (by rfl) ?_ ?_ ?_;rotate_left 2;intro w';go_simp;(with_reducible rfl);simp only [Act.put, qz1, qz2, qz3, i64_w, i32_w];rfl
          refine pqz 12 (some 44) (bqz 28 8159) rfl rfl (by kernel_rfl) ?_ ?_ (fun _ _ _ h => h) (by rfl) ?_ ?_ ?_;rotate_left 2;intro w';go_simp;(with_reducible rfl);simp only [Act.put, qz1, qz2, qz3, i64_w, i32_w];rfl
          refine tqz 5 (some 37) (bqz 28 8191) rfl rfl (by kernel_rfl) ?_ ?_ (fun _ _ _ h => h) (by rfl) ?_ hHeld ?_ ?_;rotate_left 2;rintro w' ⟨s0, s1, s2, s3⟩;go_simp;(with_reducible rfl);simp only [Act.put, qz1, qz2, qz3, i64_w, i32_w];rfl
          refine one_ (i := 13) (N := some 45) (bqz 28 16383) rfl rfl (by kernel_rfl) (by decide) (fun K hK => ?_);refine goes_ Try.func119 (by kernel_rfl) rfl #[.agg #[.int .i64 n, v1, .slice A2 es.length c2], .slice (some ⟨g, 0, none⟩) N N, .int .i64 (kq : Int), .int .i64 (kr : Int)] (by rfl) rfl rfl (by simp only [List.map_toArray, List.map_cons, List.map_nil]; rfl) ?_;refine (b3.out _ HV.out).mono ?_;rintro e w3 ⟨rfl, hB⟩;refine ⟨_, rfl, ?_⟩;have a3 := Aside0.mk hB;have a4 := Aside0.mk (below_then HV.out HV.out.size hB);clear hB;refine hK.out _ _ ⟨later a3.out hHeld.1, later a3.out hHeld.2.1, later a3.out hHeld.2.2.1, later a3.out hHeld.2.2.2⟩ (fun hHeld => ?_);clear hK K;refine norm_ (a' := ?_) ?_ ?_;rotate_left
          ·show Act.put _ (some 45) _ = _;simp only [Act.put, qz1, qz2, qz3, i64_w, i32_w];rfl
          refine pqz 14 (some 46) (bqz 28 32767) rfl rfl (by kernel_rfl) ?_ ?_ (fun _ _ _ h => h) (by rfl) ?_ ?_ ?_;rotate_left 2;intro w';go_simp;(with_reducible rfl);simp only [Act.put, qz1, qz2, qz3, i64_w, i32_w];rfl
          refine pqz 15 (some 47) (bqz 28 65535) rfl rfl (by kernel_rfl) ?_ ?_ (fun _ _ _ h => h) (by rfl) ?_ ?_ ?_;rotate_left 2;intro w';go_simp;(with_reducible rfl);simp only [Act.put, qz1, qz2, qz3, i64_w, i32_w];rfl
          refine pqz 17 (some 49) (bqz 28 196607) rfl rfl (by kernel_rfl) ?_ ?_ (fun _ _ _ h => h) (by rfl) ?_ ?_ ?_;rotate_left 2;intro w';go_simp;(with_reducible rfl);simp only [Act.put, qz1, qz2, qz3, i64_w, i32_w];rfl
          refine pqz 18 (some 50) (bqz 28 458751) rfl rfl (by kernel_rfl) ?_ ?_ (fun _ _ _ h => h) (by rfl) ?_ ?_ ?_;rotate_left 2;intro w';go_simp;(with_reducible rfl);simp only [Act.put, qz1, qz2, qz3, i64_w, i32_w];rfl
          refine pqz 19 (some 51) (bqz 28 983039) rfl rfl (by kernel_rfl) ?_ ?_ (fun _ _ _ h => h) (by rfl) ?_ ?_ ?_;rotate_left 2;intro w';go_simp;(with_reducible rfl);simp only [Act.put, qz1, qz2, qz3, i64_w, i32_w];rfl
          refine pqz 20 (some 52) (bqz 28 2031615) rfl rfl (by kernel_rfl) ?_ ?_ (fun _ _ _ h => h) (by rfl) ?_ ?_ ?_;rotate_left 2;intro w';go_simp;(with_reducible rfl);simp only [Act.put, qz1, qz2, qz3, i64_w, i32_w];rfl
          refine pqz 21 (some 53) (bqz 28 4128767) rfl rfl (by kernel_rfl) ?_ ?_ (fun _ _ _ h => h) (by rfl) ?_ ?_ ?_;rotate_left 2;intro w';go_simp;(with_reducible rfl);simp only [Act.put, qz1, qz2, qz3, i64_w, i32_w];rfl
          refine pqz 22 (some 54) (bqz 28 8323071) rfl rfl (by kernel_rfl) ?_ ?_ (fun _ _ _ h => h) (by rfl) ?_ ?_ ?_;rotate_left 2;intro w';go_simp;(with_reducible rfl);simp only [Act.put, qz1, qz2, qz3, i64_w, i32_w];rfl
          refine pqz 23 (some 55) (bqz 28 16711679) rfl rfl (by kernel_rfl) ?_ ?_ (fun _ _ _ h => h) (by rfl) ?_ ?_ ?_;rotate_left 2;intro w';go_simp;(with_reducible rfl);simp only [Act.put, qz1, qz2, qz3, i64_w, i32_w];rfl
          refine tqz 16 (some 48) (bqz 28 16777215) rfl rfl (by kernel_rfl) ?_ ?_ (fun _ _ _ h => h) (by rfl) ?_ hHeld ?_ ?_;rotate_left 2;rintro w' ⟨s0, s1, s2, s3⟩;go_simp;(with_reducible rfl);simp only [Act.put, qz1, qz2, qz3, i64_w, i32_w];rfl
          refine one_ (i := 24) (N := some 56) (bqz 28 33554431) rfl rfl (by kernel_rfl) (by decide) (fun K hK => ?_);refine goes_ Try.func119 (by kernel_rfl) rfl #[.agg #[.int .i64 n, v1, .slice A2 es.length c2], .slice (some ⟨g, 0, none⟩) N N, .int .i64 (kr : Int), .int .i64 (kq : Int)] (by rfl) rfl rfl (by simp only [List.map_toArray, List.map_cons, List.map_nil]; rfl) ?_;refine (d0.out _ a4.out).mono ?_;rintro e w4 ⟨rfl, hB⟩;refine ⟨_, rfl, ?_⟩;have a7 := Aside0.mk hB;have a8 := Aside0.mk (below_then a4.out a4.out.size hB);clear hB;refine hK.out _ _ ⟨later a7.out hHeld.1, later a7.out hHeld.2.1, later a7.out hHeld.2.2.1, later a7.out hHeld.2.2.2⟩ (fun hHeld => ?_);clear hK K;refine norm_ (a' := ?_) ?_ ?_;rotate_left
          ·show Act.put _ (some 56) _ = _;simp only [Act.put, qz1, qz2, qz3, i64_w, i32_w];rfl
          refine pqz 25 (some 57) (bqz 28 67108863) rfl rfl (by kernel_rfl) ?_ ?_ (fun _ _ _ h => h) (by rfl) ?_ ?_ ?_;rotate_left 2;intro w';go_simp;(with_reducible rfl);simp only [Act.put, qz1, qz2, qz3, i64_w, i32_w];rfl
          refine pqz 26 (some 58) (bqz 28 134217727) rfl rfl (by kernel_rfl) ?_ ?_ (fun _ _ _ h => h) (by rfl) ?_ ?_ ?_;rotate_left 2;intro w';go_simp;(with_reducible rfl);simp only [Act.put, qz1, qz2, qz3, i64_w, i32_w];rfl
          refine pqz 27 (some 59) (bqz 28 268435455) rfl rfl (by kernel_rfl) ?_ ?_ (fun _ _ _ h => h) (by rfl) ?_ ?_ ?_;rotate_left 2;intro w';go_simp;(with_reducible rfl);simp only [Act.put, qz1, qz2, qz3, i64_w, i32_w];rfl
          refine done_ (by kernel_rfl) ?_;have HSet := Aside0.mk (show stepP n es Pk k = Pk.set k false by unfold stepP; rw [← HZ.out, ← HKq.out, ← HKr.out, HFs.out]; rfl);have d9 := later a8.out b2.out;have e0 := (frozen_later a8.out (World.block_lt_of_cell? _ _ b2.out)).trans b9.out;obtain ⟨a6, a5⟩ := Kd.R_putg (Kd.R_below a0.out a8.out) (k : Int) false;rw [Int.toNat_natCast] at a6 a5;have HR2' := Aside0.mk a6;have b1 := Aside0.mk (blk_grown (g := w.heap.size) (a1.out.below a8.out) a5 (by have := Kd.R_ne a0.out a1.out (by decide); simpa [Value.ownBlock] using this));have b0 := Aside0.mk (below_set (g := g) (j := k) (v := .bool false) (below_then a2.out a2.out.size a8.out) HG.out)
          have HDec := Aside0.mk (show decide (sweepTo n es P (k + 1) ≠ P) = true by
           rw [HStep.out, HSet.out, decide_eq_true_eq];intro e;have h1 := count_set_lt (P := Pk) (i := k) HZ.out.symm;rw [e] at h1;rcases sweepTo_count n es P k with h2 | h2
           ·rw [← HPk.out] at h2; rw [h2] at h1; omega
           ·rw [← HPk.out] at h2; omega)
          clear a6 a5;go_wp2
          go_roundw
          case rel => exact ⟨k + 1, by omega, by go_num, by rw [HDec.out], ⟨by rw [HStep.out, HSet.out]; exact HR2'.out⟩, b1, b0⟩
          case measure => simp [intOf]; omega
         | true =>
          have HSame := Aside0.mk (show stepP n es Pk k = Pk by unfold stepP; rw [← HZ.out, ← HKq.out, ← HKr.out, HFs.out]; rfl);go_wp2_with fail
          refine start_ (n := 28) (S := fun w' => w'.cell? ⟨w.heap.size, 0, none⟩ = some (.int .i64 (n : Int)) ∧ w'.cell? ⟨w.heap.size, 1, none⟩ = some v1 ∧ w'.cell? ⟨w.heap.size, 2, none⟩ = some (.slice A2 es.length c2) ∧ w'.cell? ⟨g, k, none⟩ = some (.bool true)) (ds := []) (bqz 28 0) (by kernel_rfl) rfl rfl ⟨a1.out.c0, a1.out.c1, a1.out.c2, hc⟩ (fun hHeld => ?_);have HV := Aside0.mk (below_drew1 (Below.refl wr.heap.size wr));generalize wr.drew = V at HV hHeld ⊢;clear hc;refine pqz 0 (some 32) (bqz 28 1) rfl rfl (by kernel_rfl) ?_ ?_ (fun _ _ _ h => h) (by rfl) ?_ ?_ ?_;rotate_left 2;intro w';go_simp;(with_reducible rfl);simp only [Act.put, qz1, qz2, qz3, i64_w, i32_w];rfl
          refine pqz 1 (some 33) (bqz 28 3) rfl rfl (by kernel_rfl) ?_ ?_ (fun _ _ _ h => h) (by rfl) ?_ ?_ ?_;rotate_left 2;intro w';go_simp;(with_reducible rfl);simp only [Act.put, qz1, qz2, qz3, i64_w, i32_w];rfl
          refine pqz 2 (some 34) (bqz 28 7) rfl rfl (by kernel_rfl) ?_ ?_ (fun _ _ _ h => h) (by rfl) ?_ ?_ ?_;rotate_left 2;intro w';go_simp;(with_reducible rfl);simp only [Act.put, qz1, qz2, qz3, i64_w, i32_w];rfl
          refine tqz 3 (some 35) (bqz 28 15) rfl rfl (by kernel_rfl) ?_ ?_ (fun _ _ _ h => h) (by rfl) ?_ hHeld ?_ ?_;rotate_left 2;rintro w' ⟨s0, s1, s2, s3⟩;go_simp;(with_reducible rfl);simp only [Act.put, qz1, qz2, qz3, i64_w, i32_w];rfl
          refine pqz 4 (some 36) (bqz 28 31) rfl rfl (by kernel_rfl) ?_ ?_ (fun _ _ _ h => h) (by rfl) ?_ ?_ ?_;rotate_left 2;intro w';go_simp;(with_reducible rfl);simp only [Act.put, qz1, qz2, qz3, i64_w, i32_w];rfl
          refine pqz 6 (some 38) (bqz 28 95) rfl rfl (by kernel_rfl) ?_ ?_ (fun _ _ _ h => h) (by rfl) ?_ ?_ ?_;rotate_left 2;intro w';go_simp;(with_reducible rfl);simp only [Act.put, qz1, qz2, qz3, i64_w, i32_w];rfl
          refine pqz 7 (some 39) (bqz 28 223) rfl rfl (by kernel_rfl) ?_ ?_ (fun _ _ _ h => h) (by rfl) ?_ ?_ ?_;rotate_left 2;intro w';go_simp;(with_reducible rfl);simp only [Act.put, qz1, qz2, qz3, i64_w, i32_w];rfl
          refine pqz 8 (some 40) (bqz 28 479) rfl rfl (by kernel_rfl) ?_ ?_ (fun _ _ _ h => h) (by rfl) ?_ ?_ ?_;rotate_left 2;intro w';go_simp;(with_reducible rfl);simp only [Act.put, qz1, qz2, qz3, i64_w, i32_w];rfl
          refine pqz 9 (some 41) (bqz 28 991) rfl rfl (by kernel_rfl) ?_ ?_ (fun _ _ _ h => h) (by rfl) ?_ ?_ ?_;rotate_left 2;intro w';go_simp;(with_reducible rfl);simp only [Act.put, qz1, qz2, qz3, i64_w, i32_w];rfl
          refine pqz 10 (some 42) (bqz 28 2015) rfl rfl (by kernel_rfl) ?_ ?_ (fun _ _ _ h => h) (by rfl) ?_ ?_ ?_;rotate_left 2;intro w';go_simp;(with_reducible rfl);simp only [Act.put, qz1, qz2, qz3, i64_w, i32_w];rfl
          refine pqz 11 (some 43) (bqz 28 4063) rfl rfl (by kernel_rfl) ?_ ?_ (fun _ _ _ h => h) (by rfl) ?_ ?_ ?_;rotate_left 2;intro w';go_simp;(with_reducible rfl);simp only [Act.put, qz1, qz2, qz3, i64_w, i32_w];rfl
          refine pqz 12 (some 44) (bqz 28 8159) rfl rfl (by kernel_rfl) ?_ ?_ (fun _ _ _ h => h) (by rfl) ?_ ?_ ?_;rotate_left 2;intro w';go_simp;(with_reducible rfl);simp only [Act.put, qz1, qz2, qz3, i64_w, i32_w];rfl
          refine tqz 5 (some 37) (bqz 28 8191) rfl rfl (by kernel_rfl) ?_ ?_ (fun _ _ _ h => h) (by rfl) ?_ hHeld ?_ ?_;rotate_left 2;rintro w' ⟨s0, s1, s2, s3⟩;go_simp;(with_reducible rfl);simp only [Act.put, qz1, qz2, qz3, i64_w, i32_w];rfl
          refine one_ (i := 13) (N := some 45) (bqz 28 16383) rfl rfl (by kernel_rfl) (by decide) (fun K hK => ?_);refine goes_ Try.func119 (by kernel_rfl) rfl #[.agg #[.int .i64 n, v1, .slice A2 es.length c2], .slice (some ⟨g, 0, none⟩) N N, .int .i64 (kq : Int), .int .i64 (kr : Int)] (by rfl) rfl rfl (by simp only [List.map_toArray, List.map_cons, List.map_nil]; rfl) ?_;refine (b3.out _ HV.out).mono ?_;rintro e w3 ⟨rfl, hB⟩;refine ⟨_, rfl, ?_⟩;have a3 := Aside0.mk hB;have a4 := Aside0.mk (below_then HV.out HV.out.size hB);clear hB;refine hK.out _ _ ⟨later a3.out hHeld.1, later a3.out hHeld.2.1, later a3.out hHeld.2.2.1, later a3.out hHeld.2.2.2⟩ (fun hHeld => ?_);clear hK K;refine norm_ (a' := ?_) ?_ ?_;rotate_left
          ·show Act.put _ (some 45) _ = _;simp only [Act.put, qz1, qz2, qz3, i64_w, i32_w];rfl
          refine pqz 14 (some 46) (bqz 28 32767) rfl rfl (by kernel_rfl) ?_ ?_ (fun _ _ _ h => h) (by rfl) ?_ ?_ ?_;rotate_left 2;intro w';go_simp;(with_reducible rfl);simp only [Act.put, qz1, qz2, qz3, i64_w, i32_w];rfl
          refine pqz 15 (some 47) (bqz 28 65535) rfl rfl (by kernel_rfl) ?_ ?_ (fun _ _ _ h => h) (by rfl) ?_ ?_ ?_;rotate_left 2;intro w';go_simp;(with_reducible rfl);simp only [Act.put, qz1, qz2, qz3, i64_w, i32_w];rfl
          refine pqz 17 (some 49) (bqz 28 196607) rfl rfl (by kernel_rfl) ?_ ?_ (fun _ _ _ h => h) (by rfl) ?_ ?_ ?_;rotate_left 2;intro w';go_simp;(with_reducible rfl);simp only [Act.put, qz1, qz2, qz3, i64_w, i32_w];rfl
          refine pqz 18 (some 50) (bqz 28 458751) rfl rfl (by kernel_rfl) ?_ ?_ (fun _ _ _ h => h) (by rfl) ?_ ?_ ?_;rotate_left 2;intro w';go_simp;(with_reducible rfl);simp only [Act.put, qz1, qz2, qz3, i64_w, i32_w];rfl
          refine pqz 19 (some 51) (bqz 28 983039) rfl rfl (by kernel_rfl) ?_ ?_ (fun _ _ _ h => h) (by rfl) ?_ ?_ ?_;rotate_left 2;intro w';go_simp;(with_reducible rfl);simp only [Act.put, qz1, qz2, qz3, i64_w, i32_w];rfl
          refine pqz 20 (some 52) (bqz 28 2031615) rfl rfl (by kernel_rfl) ?_ ?_ (fun _ _ _ h => h) (by rfl) ?_ ?_ ?_;rotate_left 2;intro w';go_simp;(with_reducible rfl);simp only [Act.put, qz1, qz2, qz3, i64_w, i32_w];rfl
          refine pqz 21 (some 53) (bqz 28 4128767) rfl rfl (by kernel_rfl) ?_ ?_ (fun _ _ _ h => h) (by rfl) ?_ ?_ ?_;rotate_left 2;intro w';go_simp;(with_reducible rfl);simp only [Act.put, qz1, qz2, qz3, i64_w, i32_w];rfl
          refine pqz 22 (some 54) (bqz 28 8323071) rfl rfl (by kernel_rfl) ?_ ?_ (fun _ _ _ h => h) (by rfl) ?_ ?_ ?_;rotate_left 2;intro w';go_simp;(with_reducible rfl);simp only [Act.put, qz1, qz2, qz3, i64_w, i32_w];rfl
          refine pqz 23 (some 55) (bqz 28 16711679) rfl rfl (by kernel_rfl) ?_ ?_ (fun _ _ _ h => h) (by rfl) ?_ ?_ ?_;rotate_left 2;intro w';go_simp;(with_reducible rfl);simp only [Act.put, qz1, qz2, qz3, i64_w, i32_w];rfl
          refine tqz 16 (some 48) (bqz 28 16777215) rfl rfl (by kernel_rfl) ?_ ?_ (fun _ _ _ h => h) (by rfl) ?_ hHeld ?_ ?_;rotate_left 2;rintro w' ⟨s0, s1, s2, s3⟩;go_simp;(with_reducible rfl);simp only [Act.put, qz1, qz2, qz3, i64_w, i32_w];rfl
          refine one_ (i := 24) (N := some 56) (bqz 28 33554431) rfl rfl (by kernel_rfl) (by decide) (fun K hK => ?_);refine goes_ Try.func119 (by kernel_rfl) rfl #[.agg #[.int .i64 n, v1, .slice A2 es.length c2], .slice (some ⟨g, 0, none⟩) N N, .int .i64 (kr : Int), .int .i64 (kq : Int)] (by rfl) rfl rfl (by simp only [List.map_toArray, List.map_cons, List.map_nil]; rfl) ?_;refine (d0.out _ a4.out).mono ?_;rintro e w4 ⟨rfl, hB⟩;refine ⟨_, rfl, ?_⟩;have a7 := Aside0.mk hB;have a8 := Aside0.mk (below_then a4.out a4.out.size hB);clear hB;refine hK.out _ _ ⟨later a7.out hHeld.1, later a7.out hHeld.2.1, later a7.out hHeld.2.2.1, later a7.out hHeld.2.2.2⟩ (fun hHeld => ?_);clear hK K;refine norm_ (a' := ?_) ?_ ?_;rotate_left
          ·show Act.put _ (some 56) _ = _;simp only [Act.put, qz1, qz2, qz3, i64_w, i32_w];rfl
          refine pqz 25 (some 57) (bqz 28 67108863) rfl rfl (by kernel_rfl) ?_ ?_ (fun _ _ _ h => h) (by rfl) ?_ ?_ ?_;rotate_left 2;intro w';go_simp;(with_reducible rfl);simp only [Act.put, qz1, qz2, qz3, i64_w, i32_w];rfl
          refine pqz 26 (some 58) (bqz 28 134217727) rfl rfl (by kernel_rfl) ?_ ?_ (fun _ _ _ h => h) (by rfl) ?_ ?_ ?_;rotate_left 2;intro w';go_simp;(with_reducible rfl);simp only [Act.put, qz1, qz2, qz3, i64_w, i32_w];rfl
          refine pqz 27 (some 59) (bqz 28 268435455) rfl rfl (by kernel_rfl) ?_ ?_ (fun _ _ _ h => h) (by rfl) ?_ ?_ ?_;rotate_left 2;intro w';go_simp;(with_reducible rfl);simp only [Act.put, qz1, qz2, qz3, i64_w, i32_w];rfl
          refine done_ (by kernel_rfl) ?_;go_wp2
          go_roundw
          case rel => exact ⟨k + 1, by omega, by go_num, by rw [HCh.out, HStep.out, HSame.out, HPk.out], ⟨by rw [HStep.out, HSame.out]; exact Kd.R_below a0.out a8.out⟩, ⟨a1.out.below a8.out⟩, ⟨below_then a2.out a2.out.size a8.out⟩⟩
          case measure => simp [intOf]; omega
      ·have ek : k = N := by omega
       obtain ⟨P2, a9⟩ : ∃ P2, P2 = sweepTo n es P k := ⟨_, rfl⟩
       have hst : ∃ f, (if decide (P2 ≠ P) then iterP n es f P2 else P2) = pairsR n es ∧ P2.count true < f ∧ P2.length = N := by
        obtain ⟨f, h1, h2, h3⟩ := HST.out;replace h1 : iterP n es f P = pairsR n es := by simpa using h1
        cases f with
        | zero => omega
        | succ f =>
         unfold iterP at h1;rw [← HN.out, ← ek, ← a9] at h1;by_cases e : P2 = P
         ·rw [if_pos e] at h1;rw [decide_eq_false (by simpa using e)];exact ⟨f + 1, by rw [e]; simpa using h1, by rw [e]; exact h2, by rw [e]; exact h3⟩
         ·rw [if_neg e] at h1
          have d5 : P2.count true < P.count true := by
           rcases sweepTo_count n es P k with h4 | h4
           ·exact absurd (a9.trans h4) e
           ·rw [a9]; exact h4
          rw [decide_eq_true e];exact ⟨f, by simpa using h1, by omega, by rw [a9, sweepTo_length]; exact h3⟩
       have b4 := Aside0.mk hst
       have hms : 2 * P2.count true + (if decide (P2 ≠ P) then 1 else 0) < 2 * P.count true + 1 := by
        by_cases e : P2 = P
        ·rw [decide_eq_false (by simpa using e), e]; simp
        ·have d5 : P2.count true < P.count true := by
          rcases sweepTo_count n es P k with h4 | h4
          ·exact absurd (a9.trans h4) e
          ·rw [a9]; exact h4
         rw [decide_eq_true e];simp;omega
       have HMs := Aside0.mk hms;rw [← a9] at a0 ⊢;obtain ⟨ch, hch⟩ : ∃ ch, ch = decide (P2 ≠ P) := ⟨_, rfl⟩
       rw [← hch] at b4 HMs ⊢
       have d4 : 2 * P2.count true + (if ch then 1 else 0) < gk := by
        have h1 := HMs.out;have h2 : 2 * P.count true + 1 ≤ gk := by simpa using d6.out
        omega
       have d7 := Aside0.mk d4;clear d4 hch a9 hst hms;go_wp2
       go_roundg (2 * P2.count true + (if ch then 1 else 0))
       case measure => exact d7.out
       case rel => exact ⟨P2, ch, rfl, ⟨Nat.le_refl _⟩, b4, a0, a1, a2⟩
end Go.Proofs.Ytmcbkmfpmcbdpaa.H
namespace Go.Proofs.Ytmcbkmfpmcbdpaa.H
open Go.RowKit Go.Proofs.Ytmcbkmfpmcbdpaa.Pr Go.Proofs.YtmcbkmfpmcbdpaaW.PrintWords Go.Proofs.Ytmcbkmfpmcbdpaa.Sem
def Post (es : List Ed) (S : Int → Int → Bool) : Prop := ∀ a b, S a b = true → followsB es S false a b = true ∧ followsB es S true a b = true
theorem fol_iff (es : List Ed) (S : Int → Int → Bool) (a b : Int) : followsB es S false a b = true ↔ ∀ e ∈ es, e.f0 = a → ∃ f ∈ es, f.f0 = b ∧ e.f1 = f.f1 ∧ S e.f2 f.f2 = true := by
 unfold followsB outE answers
 simp only [Bool.false_eq_true, if_false, List.all_eq_true, List.any_eq_true, List.mem_filter, decide_eq_true_eq, Bool.and_eq_true, beq_iff_eq]
 constructor
 ·intro h e he hea
  obtain ⟨f, ⟨h1, h2⟩, h3, h4⟩ := h e ⟨he, hea⟩
  exact ⟨f, h1, h2, h3, h4⟩
 ·rintro h e ⟨he, hea⟩
  obtain ⟨f, h1, h2, h3, h4⟩ := h e he hea
  exact ⟨f, ⟨h1, h2⟩, h3, h4⟩
theorem folT_iff (es : List Ed) (S : Int → Int → Bool) (a b : Int) : followsB es S true a b = true ↔ ∀ e ∈ es, e.f0 = b → ∃ f ∈ es, f.f0 = a ∧ e.f1 = f.f1 ∧ S f.f2 e.f2 = true := by
 unfold followsB outE answers
 simp only [if_true, List.all_eq_true, List.any_eq_true, List.mem_filter, decide_eq_true_eq, Bool.and_eq_true, beq_iff_eq]
 constructor
 ·intro h e he hea
  obtain ⟨f, ⟨h1, h2⟩, h3, h4⟩ := h e ⟨he, hea⟩
  exact ⟨f, h1, h2, h3, h4⟩
 ·rintro h e ⟨he, hea⟩
  obtain ⟨f, h1, h2, h3, h4⟩ := h e he hea
  exact ⟨f, ⟨h1, h2⟩, h3, h4⟩
theorem fol_mono {es : List Ed} {S S' : Int → Int → Bool} (h : ∀ x y, S x y = true → S' x y = true) (t : Bool) (a b : Int) (hf : followsB es S t a b = true) : followsB es S' t a b = true := by
 cases t with
 | false =>
  rw [fol_iff] at hf ⊢
  intro e he hea
  obtain ⟨f, h1, h2, h3, h4⟩ := hf e he hea
  exact ⟨f, h1, h2, h3, h _ _ h4⟩
 | true =>
  rw [folT_iff] at hf ⊢
  intro e he hea
  obtain ⟨f, h1, h2, h3, h4⟩ := hf e he hea
  exact ⟨f, h1, h2, h3, h _ _ h4⟩
theorem both_iff (es : List Ed) (S : Int → Int → Bool) (p : Pair) : bothB es S p = true ↔ followsB es S false p.f0 p.f1 = true ∧ followsB es S true p.f0 p.f1 = true := by
 unfold bothB
 rw [Bool.and_eq_true]
theorem relS_iff (rel : List Pair) (a b : Int) : relS rel a b = true ↔ (⟨a, b⟩ : Pair) ∈ rel := by
 unfold relS
 rw [List.any_eq_true]
 constructor
 ·rintro ⟨p, hp, h⟩
  simp only [Bool.and_eq_true, decide_eq_true_eq] at h
  have : p = ⟨a, b⟩ := pair_eq.2 h
  rwa [← this]
 ·intro h
  exact ⟨_, h, by simp⟩
theorem pass_keep {es : List Ed} {R : Int → Int → Bool} (hR : Post es R) : ∀ (rel : List Pair) (S : Int → Int → Bool), (∀ x y, R x y = true → S x y = true) → ∀ x y, R x y = true → passS es rel S x y = true
 | [], S, h => h
 | p :: r, S, h => by
  cases hb : bothB es S p with
  | false =>
   have hnp : R p.f0 p.f1 = false := by
    rw [Bool.eq_false_iff]
    intro hp
    have := hR _ _ hp
    have h2 := (both_iff es S p).2 ⟨fol_mono h false _ _ this.1, fol_mono h true _ _ this.2⟩
    rw [hb] at h2
    cases h2
   have h' : ∀ x y, R x y = true → lessP S p.f0 p.f1 x y = true := by
    intro x y hxy
    unfold lessP
    rw [h x y hxy]
    have : ¬ (x = p.f0 ∧ y = p.f1) := by
     rintro ⟨rfl, rfl⟩
     rw [hnp] at hxy
     cases hxy
    have e : (decide (x = p.f0) && decide (y = p.f1)) = false := by simpa using this
    rw [e]
    rfl
   have := pass_keep hR r _ h'
   simpa [passS, hb] using this
  | true =>
   have := pass_keep hR r S h
   simpa [passS, hb] using this
theorem pass_stable (es : List Ed) : ∀ (rel : List Pair) (S : Int → Int → Bool), (passK es rel S).length = rel.length → passK es rel S = rel ∧ ∀ p ∈ rel, bothB es S p = true
 | [], S, _ => ⟨rfl, by simp⟩
 | p :: r, S, h => by
  cases hb : bothB es S p with
  | false =>
   simp [passK, hb] at h
   have := (passK_sub es r (lessP S p.f0 p.f1)).length_le
   omega
  | true =>
   simp [passK, hb] at h
   obtain ⟨a, c⟩ := pass_stable es r S h
   refine ⟨by simp [passK, hb, a], fun q hq => ?_⟩
   rcases List.mem_cons.1 hq with rfl | hq
   ·exact hb
   ·exact c q hq
theorem relS_less {pre r : List Pair} {p : Pair} (h : (pre ++ p :: r).Nodup) : lessP (relS (pre ++ p :: r)) p.f0 p.f1 = relS (pre ++ r) := by
 have hp1 : p ∉ pre := fun hm => by
  have := (List.nodup_append.1 h).2.2 p hm p (List.mem_cons_self ..)
  exact this rfl
 have hp2 : p ∉ r := (List.nodup_cons.1 (List.nodup_append.1 h).2.1).1
 funext a b
 rw [Bool.eq_iff_iff]
 unfold lessP
 rw [Bool.and_eq_true, relS_iff, relS_iff]
 simp only [List.mem_append, List.mem_cons, Bool.not_eq_true', Bool.and_eq_false_iff, decide_eq_false_iff_not]
 constructor
 ·rintro ⟨h1 | h1 | h1, h2⟩
  ·exact .inl h1
  ·rcases pair_eq.1 h1 with ⟨h3, h4⟩
   simp only at h3 h4
   rcases h2 with h2 | h2
   ·exact absurd h3 h2
   ·exact absurd h4 h2
  ·exact .inr h1
 ·intro h1
  refine ⟨?_, ?_⟩
  ·rcases h1 with h1 | h1
   ·exact .inl h1
   ·exact .inr (.inr h1)
  ·by_cases h2 : a = p.f0
   ·by_cases h3 : b = p.f1
    ·have e : (⟨a, b⟩ : Pair) = p := pair_eq.2 ⟨h2, h3⟩
     rw [e] at h1
     rcases h1 with h1 | h1
     ·exact absurd h1 hp1
     ·exact absurd h1 hp2
    ·exact .inr h3
   ·exact .inl h2
theorem pass_rel (es : List Ed) : ∀ (rel pre : List Pair), (pre ++ rel).Nodup → passS es rel (relS (pre ++ rel)) = relS (pre ++ passK es rel (relS (pre ++ rel)))
 | [], pre, _ => by simp [passS, passK]
 | p :: r, pre, h => by
  cases hb : bothB es (relS (pre ++ p :: r)) p with
  | false =>
   have e := relS_less h
   have h2 : (pre ++ r).Nodup := by
    refine h.sublist ?_
    exact List.Sublist.append (List.Sublist.refl _) (List.sublist_cons_self _ _)
   have := pass_rel es r pre h2
   simpa [passS, passK, hb, e] using this
  | true =>
   have := pass_rel es r (pre ++ [p]) (by simpa using h)
   simpa [passS, passK, hb] using this
theorem rounds_spec (es : List Ed) : ∀ (f : Nat) (rel : List Pair), rel.length < f → rel.Nodup → List.Sublist (rounds es f rel (relS rel)) rel ∧ (∀ p ∈ rounds es f rel (relS rel), bothB es (relS (rounds es f rel (relS rel))) p = true) ∧
  ∀ R, Post es R → (∀ x y, R x y = true → relS rel x y = true) → ∀ x y, R x y = true → relS (rounds es f rel (relS rel)) x y = true
 | 0, rel, h, _ => by omega
 | f + 1, rel, h, hn => by
  unfold rounds
  by_cases hl : (passK es rel (relS rel)).length = rel.length
  ·rw [if_pos hl]
   obtain ⟨a, c⟩ := pass_stable es rel (relS rel) hl
   rw [a]
   exact ⟨List.Sublist.refl _, c, fun R _ h => h⟩
  ·rw [if_neg hl]
   have hsub := passK_sub es rel (relS rel)
   have hS : passS es rel (relS rel) = relS (passK es rel (relS rel)) := by
    have := pass_rel es rel [] (by simpa using hn)
    simpa using this
   have hlt := hsub.length_le
   obtain ⟨g1, g2, g3⟩ := rounds_spec es f (passK es rel (relS rel)) (by omega) (hn.sublist hsub)
   rw [hS]
   refine ⟨g1.trans hsub, g2, fun R hR h2 => g3 R hR fun x y hxy => ?_⟩
   have := pass_keep hR rel (relS rel) h2 x y hxy
   rwa [hS] at this
theorem pairsTo_map (n : Nat) : ∀ k, pairsTo n k = (List.range (k * n)).map fun i : Nat => (⟨((i / n : Nat) : Int), ((i % n : Nat) : Int)⟩ : Pair)
 | 0 => by simp [pairsTo]
 | k + 1 => by
  rw [pairsTo_succ, pairsTo_map n k, Nat.succ_mul, List.range_add, List.map_append, List.map_map]
  congr 1
  refine List.map_congr_left fun j hj => ?_
  have hj' := List.mem_range.1 hj
  have e1 : (k * n + j) / n = k := by
   rw [Nat.mul_comm, Nat.mul_add_div (by omega), Nat.div_eq_of_lt hj']
   rfl
  have e2 : (k * n + j) % n = j := by rw [Nat.mul_comm, Nat.mul_add_mod, Nat.mod_eq_of_lt hj']
  simp only [Function.comp, e1, e2]
theorem pairsTo_mem {n : Nat} {p : Pair} : p ∈ pairsTo n n ↔ (0 ≤ p.f0 ∧ p.f0 < n) ∧ (0 ≤ p.f1 ∧ p.f1 < n) := by
 unfold pairsTo
 constructor
 ·intro h
  obtain ⟨s, hs, hp⟩ := List.mem_flatMap.1 h
  obtain ⟨t, ht, rfl⟩ := List.mem_map.1 hp
  have h1 := List.mem_range.1 hs
  have h2 := List.mem_range.1 ht
  simp only
  omega
 ·rintro ⟨⟨h0, h1⟩, h2, h3⟩
  obtain ⟨a, b⟩ := p
  simp only at h0 h1 h2 h3
  obtain ⟨i, rfl⟩ := Int.eq_ofNat_of_zero_le h0
  obtain ⟨j, rfl⟩ := Int.eq_ofNat_of_zero_le h2
  exact List.mem_flatMap.2 ⟨i, List.mem_range.2 (by omega), List.mem_map.2 ⟨j, List.mem_range.2 (by omega), rfl⟩⟩
theorem pairsTo_nodup (n : Nat) : (pairsTo n n).Nodup := by
 rw [pairsTo_map]
 unfold List.Nodup
 rw [List.pairwise_map]
 refine List.Pairwise.imp_of_mem ?_ (List.nodup_range (n := n * n))
 intro a b ha hb hab e
 rcases pair_eq.1 e with ⟨h1, h2⟩
 simp only at h1 h2
 have e1 : a / n = b / n := by omega
 have e2 : a % n = b % n := by omega
 apply hab
 rw [← Nat.div_add_mod a n, ← Nat.div_add_mod b n, e1, e2]
theorem great_spec (n : Nat) (es : List Ed) : List.Sublist (greatL n es) (pairsTo n n) ∧ Post es (relS (greatL n es)) ∧ ∀ R, Post es R → (∀ x y, R x y = true → (0 ≤ x ∧ x < n) ∧ (0 ≤ y ∧ y < n)) → ∀ x y, R x y = true → relS (greatL n es) x y = true := by
 obtain ⟨g1, g2, g3⟩ := rounds_spec es (n * n + 1) (pairsTo n n) (by rw [pairsTo_length]; omega) (pairsTo_nodup n)
 refine ⟨g1, fun a b hab => ?_, fun R hR hr => g3 R hR fun x y hxy => (relS_iff _ _ _).2 (pairsTo_mem.2 (hr x y hxy))⟩
 exact (both_iff es _ ⟨a, b⟩).1 (g2 _ ((relS_iff _ _ _).1 hab))
def Half (es : List Ed) (X : Int → Int → Bool) (a b : Int) : Prop := ∀ e ∈ es, e.f0 = a → ∃ f ∈ es, f.f0 = b ∧ e.f1 = f.f1 ∧ X e.f2 f.f2 = true
def PostR (es : List Ed) (X : Int → Int → Bool) : Prop := ∀ a b, X a b = true → Half es X a b ∧ Half es X b a
theorem succ_mem (es : List Ed) (a l q : Int) : q ∈ succL es a l ↔ ∃ f ∈ es, f.f0 = a ∧ f.f1 = l ∧ f.f2 = q := by
 unfold succL
 simp only [List.mem_map, List.mem_filter, Bool.and_eq_true, decide_eq_true_eq]
 constructor
 ·rintro ⟨f, ⟨h1, h2, h3⟩, h4⟩; exact ⟨f, h1, h2, h3, h4⟩
 ·rintro ⟨f, h1, h2, h3, h4⟩; exact ⟨f, ⟨h1, h2, h3⟩, h4⟩
theorem folR_iff (n : Nat) (es : List Ed) (P : List Bool) (s t : Int) : folR n es P s t = true ↔ ∀ e ∈ es, e.f0 = s → ∃ f ∈ es, f.f0 = t ∧ e.f1 = f.f1 ∧ P.getD (e.f2 * n + f.f2).toNat false = true := by
 unfold folR
 rw [List.all_eq_true]
 constructor
 ·intro h e he hes
  have := h e he
  rw [hes] at this
  simp only [beq_self_eq_true, Bool.not_true, Bool.false_or, List.any_eq_true] at this
  obtain ⟨q, hq, hP⟩ := this
  obtain ⟨f, h1, h2, h3, h4⟩ := (succ_mem es t e.f1 q).1 hq
  exact ⟨f, h1, h2, h3.symm, by rw [h4]; exact hP⟩
 ·intro h e he
  by_cases hes : e.f0 = s
  ·obtain ⟨f, h1, h2, h3, h4⟩ := h e he hes
   simp only [Bool.or_eq_true, List.any_eq_true]
   exact .inr ⟨f.f2, (succ_mem es t e.f1 f.f2).2 ⟨f, h1, h2, h3.symm, rfl⟩, h4⟩
  ·have : (e.f0 == s) = false := by simpa using hes
   rw [this]; rfl
def Within (n : Nat) (X : Int → Int → Bool) (P : List Bool) : Prop := ∀ a b, X a b = true → P.getD (a * n + b).toNat false = true
def InNodes (n : Nat) (X : Int → Int → Bool) : Prop := ∀ a b, X a b = true → (0 ≤ a ∧ a < n) ∧ (0 ≤ b ∧ b < n)
theorem half_fol {n : Nat} {es : List Ed} {X : Int → Int → Bool} {P : List Bool} (hW : Within n X P) {a b : Int} (h : Half es X a b) : folR n es P a b = true := by
 rw [folR_iff]
 intro e he hea
 obtain ⟨f, h1, h2, h3, h4⟩ := h e he hea
 exact ⟨f, h1, h2, h3, hW _ _ h4⟩
theorem idx_split {n : Nat} {a b : Int} (ha : 0 ≤ a ∧ a < n) (hb : 0 ≤ b ∧ b < n) : (a * n + b).toNat / n = a.toNat ∧ (a * n + b).toNat % n = b.toNat ∧ (a * n + b).toNat < n * n := by
 obtain ⟨i, rfl⟩ := Int.eq_ofNat_of_zero_le ha.1
 obtain ⟨j, rfl⟩ := Int.eq_ofNat_of_zero_le hb.1
 have hi : i < n := by omega
 have hj : j < n := by omega
 have e0 : ((i : Int) * (n : Int) + (j : Int)).toNat = i * n + j := by
  have : ((i : Int) * (n : Int)) = ((i * n : Nat) : Int) := by simp
  rw [this]; omega
 rw [e0]
 have h1 : i * n + j < n * n := by
  have : (i + 1) * n ≤ n * n := Nat.mul_le_mul_right n hi
  rw [Nat.succ_mul] at this
  omega
 refine ⟨?_, ?_, h1⟩
 ·rw [Nat.mul_comm, Nat.mul_add_div (by omega), Nat.div_eq_of_lt hj]; rfl
 ·rw [Nat.mul_comm, Nat.mul_add_mod, Nat.mod_eq_of_lt hj]; rfl
theorem step_keep {n : Nat} {es : List Ed} {X : Int → Int → Bool} (hX : PostR es X) (hN : InNodes n X) {P : List Bool} (hW : Within n X P) (i : Nat) : Within n X (stepP n es P i) := by
 unfold stepP
 split
 ·rename_i h
  simp only [Bool.and_eq_true, Bool.or_eq_true, Bool.not_eq_true'] at h
  intro a b hab
  obtain ⟨ha, hb⟩ := hN a b hab
  obtain ⟨s1, s2, s3⟩ := idx_split ha hb
  have hne : i ≠ (a * n + b).toNat := by
   intro e
   rw [e, s1, s2] at h
   have ea : ((a.toNat : Nat) : Int) = a := Int.toNat_of_nonneg ha.1
   have eb : ((b.toNat : Nat) : Int) = b := Int.toNat_of_nonneg hb.1
   rw [ea, eb, half_fol hW (hX a b hab).1, half_fol hW (hX a b hab).2] at h
   rcases h.2 with h | h <;> cases h
  have := hW a b hab
  rw [List.getD_eq_getElem?_getD] at this ⊢
  rw [List.getElem?_set_ne hne]
  exact this
 ·exact hW
theorem sweep_keep {n : Nat} {es : List Ed} {X : Int → Int → Bool} (hX : PostR es X) (hN : InNodes n X) {P : List Bool} (hW : Within n X P) : ∀ k, Within n X (sweepTo n es P k)
 | 0 => hW
 | k + 1 => step_keep hX hN (sweep_keep hX hN hW k) k
theorem iter_spec (n : Nat) (es : List Ed) : ∀ (f : Nat) (P : List Bool), P.length = n * n → P.count true < f → (iterP n es f P).length = n * n ∧ sweepTo n es (iterP n es f P) (n * n) = iterP n es f P ∧
  ∀ X, PostR es X → InNodes n X → Within n X P → Within n X (iterP n es f P)
 | 0, P, _, h => by omega
 | f + 1, P, hl, h => by
  unfold iterP
  by_cases hs : sweepTo n es P (n * n) = P
  ·rw [if_pos hs]
   exact ⟨hl, hs, fun X _ _ h => h⟩
  ·rw [if_neg hs]
   have hc : (sweepTo n es P (n * n)).count true < P.count true := by
    rcases sweepTo_count n es P (n * n) with h' | h'
    ·exact absurd h' hs
    ·exact h'
   obtain ⟨g1, g2, g3⟩ := iter_spec n es f (sweepTo n es P (n * n)) (by rw [sweepTo_length]; exact hl) (by omega)
   exact ⟨g1, g2, fun X hX hN hW => g3 X hX hN (sweep_keep hX hN hW _)⟩
theorem sweep_down (n : Nat) (es : List Ed) (P : List Bool) (k : Nat) : ∀ d, (sweepTo n es P (k + d)).count true ≤ (sweepTo n es P k).count true
 | 0 => Nat.le_refl _
 | d + 1 => by
  rw [← Nat.add_assoc, sweepTo]
  rcases stepP_count n es (sweepTo n es P (k + d)) (k + d) with h | h
  ·rw [h]; exact sweep_down n es P k d
  ·exact Nat.le_trans (Nat.le_of_lt h) (sweep_down n es P k d)
theorem sweep_fixed {n : Nat} {es : List Ed} {P : List Bool} {m : Nat} (h : sweepTo n es P m = P) {k : Nat} (hk : k ≤ m) : sweepTo n es P k = P := by
 rcases sweepTo_count n es P k with h' | h'
 ·exact h'
 ·have := sweep_down n es P k (m - k)
  rw [show k + (m - k) = m by omega, h] at this
  omega
theorem stable_fol {n : Nat} {es : List Ed} {P : List Bool} (h : sweepTo n es P (n * n) = P) {i : Nat} (hi : i < n * n) (hP : P.getD i false = true) : folR n es P ((i / n : Nat) : Int) ((i % n : Nat) : Int) = true ∧ folR n es P ((i % n : Nat) : Int) ((i / n : Nat) : Int) = true := by
 have h1 := sweep_fixed h (show i ≤ n * n by omega)
 have h2 := sweep_fixed h (show i + 1 ≤ n * n by omega)
 rw [sweepTo, h1] at h2
 unfold stepP at h2
 split at h2
 ·have := count_set_lt hP
  rw [h2] at this
  omega
 ·rename_i hc
  rw [hP] at hc
  simpa using hc
def relP (n : Nat) (P : List Bool) : Int → Int → Bool := fun a b => decide ((0 ≤ a ∧ a < n) ∧ (0 ≤ b ∧ b < n)) && P.getD (a * n + b).toNat false
theorem relP_iff (n : Nat) (P : List Bool) (a b : Int) : relP n P a b = true ↔ ((0 ≤ a ∧ a < n) ∧ (0 ≤ b ∧ b < n)) ∧ P.getD (a * n + b).toNat false = true := by
 unfold relP
 rw [Bool.and_eq_true, decide_eq_true_eq]
theorem relP_post {n : Nat} {ls : List ByteArray} {es : List Ed} (hm : mayR n ls es = true) {P : List Bool} (h : sweepTo n es P (n * n) = P) : PostR es (relP n P) := by
 intro a b hab
 obtain ⟨⟨ha, hb⟩, hP⟩ := (relP_iff n P a b).1 hab
 obtain ⟨s1, s2, s3⟩ := idx_split ha hb
 have hf := stable_fol h s3 hP
 rw [s1, s2, Int.toNat_of_nonneg ha.1, Int.toNat_of_nonneg hb.1] at hf
 have node : ∀ e ∈ es, 0 ≤ e.f2 ∧ e.f2 < (n : Int) := by
  intro e he
  obtain ⟨j, hj, rfl⟩ := List.getElem_of_mem he
  have := (es_at hm hj).2
  rw [List.getD_eq_getElem?_getD, List.getElem?_eq_getElem hj] at this
  exact this
 have half : ∀ s t, folR n es P s t = true → Half es (relP n P) s t := by
  intro s t hst e he hes
  obtain ⟨f, h1, h2, h3, h4⟩ := (folR_iff n es P s t).1 hst e he hes
  exact ⟨f, h1, h2, h3, (relP_iff n P _ _).2 ⟨⟨node e he, node f h1⟩, h4⟩⟩
 exact ⟨half a b hf.1, half b a hf.2⟩
theorem great_rel (n : Nat) (ls : List ByteArray) (es : List Ed) (hm : mayR n ls es = true) (a b : Int) : relS (greatL n es) a b = relP n (pairsR n es) a b := by
 obtain ⟨g1, g2, g3⟩ := great_spec n es;obtain ⟨i1, i2, i3⟩ := iter_spec n es (n * n + 1) (List.replicate (n * n) true) (by simp) (by simp);have hin : ∀ x y, relS (greatL n es) x y = true → (0 ≤ x ∧ x < n) ∧ (0 ≤ y ∧ y < n) := fun x y h => pairsTo_mem.1 (g1.subset ((relS_iff _ _ _).1 h))
 rw [Bool.eq_iff_iff];constructor
 ·intro h;refine (relP_iff _ _ _ _).2 ⟨hin a b h, ?_⟩
  have hX : PostR es (fun x y => relS (greatL n es) x y || relS (greatL n es) y x) := by
   have key : ∀ x y, relS (greatL n es) x y = true → Half es (fun x y => relS (greatL n es) x y || relS (greatL n es) y x) x y ∧ Half es (fun x y => relS (greatL n es) x y || relS (greatL n es) y x) y x := by
    intro x y hxy;obtain ⟨k1, k2⟩ := g2 x y hxy;rw [fol_iff] at k1;rw [folT_iff] at k2;refine ⟨fun e he hex => ?_, fun e he hey => ?_⟩
    ·obtain ⟨f, h1, h2, h3, h4⟩ := k1 e he hex;exact ⟨f, h1, h2, h3, by simp [h4]⟩
    ·obtain ⟨f, h1, h2, h3, h4⟩ := k2 e he hey;exact ⟨f, h1, h2, h3, by simp [h4]⟩
   intro x y hxy;simp only [Bool.or_eq_true] at hxy;rcases hxy with hxy | hxy
   ·exact key x y hxy
   ·exact (key y x hxy).symm
  refine i3 _ hX (fun x y hxy => ?_) (fun x y hxy => ?_) a b (by simp [h])
  ·simp only [Bool.or_eq_true] at hxy;rcases hxy with hxy | hxy
   ·exact hin x y hxy
   ·exact (hin y x hxy).symm
  ·simp only [Bool.or_eq_true] at hxy
   have hxn : (0 ≤ x ∧ x < n) ∧ (0 ≤ y ∧ y < n) := by
    rcases hxy with hxy | hxy
    ·exact hin x y hxy
    ·exact (hin y x hxy).symm
   have := (idx_split hxn.1 hxn.2).2.2;rw [List.getD_eq_getElem?_getD, List.getElem?_replicate, if_pos this];rfl
 ·intro h;have hP := relP_post hm i2
  have hX : Post es (fun x y => relP n (pairsR n es) x y || relP n (pairsR n es) y x) := by
   have key : ∀ x y, relP n (pairsR n es) x y = true → (followsB es (fun x y => relP n (pairsR n es) x y || relP n (pairsR n es) y x) false x y = true ∧ followsB es (fun x y => relP n (pairsR n es) x y || relP n (pairsR n es) y x) true x y = true) ∧ (followsB es (fun x y => relP n (pairsR n es) x y || relP n (pairsR n es) y x) false y x = true ∧ followsB es (fun x y => relP n (pairsR n es) x y || relP n (pairsR n es) y x) true y x = true) := by
    intro x y hxy;obtain ⟨k1, k2⟩ := hP x y hxy;rw [fol_iff, folT_iff, fol_iff, folT_iff];refine ⟨⟨fun e he hex => ?_, fun e he hey => ?_⟩, fun e he hey => ?_, fun e he hex => ?_⟩
    ·obtain ⟨f, h1, h2, h3, h4⟩ := k1 e he hex;exact ⟨f, h1, h2, h3, by unfold pairsR; simp [h4]⟩
    ·obtain ⟨f, h1, h2, h3, h4⟩ := k2 e he hey;exact ⟨f, h1, h2, h3, by unfold pairsR; simp [h4]⟩
    ·obtain ⟨f, h1, h2, h3, h4⟩ := k2 e he hey;exact ⟨f, h1, h2, h3, by unfold pairsR; simp [h4]⟩
    ·obtain ⟨f, h1, h2, h3, h4⟩ := k1 e he hex;exact ⟨f, h1, h2, h3, by unfold pairsR; simp [h4]⟩
   intro x y hxy;simp only [Bool.or_eq_true] at hxy;rcases hxy with hxy | hxy
   ·exact (key x y hxy).1
   ·exact (key y x hxy).2
  refine g3 _ hX (fun x y hxy => ?_) a b (by simp [h]);simp only [Bool.or_eq_true] at hxy;rcases hxy with hxy | hxy
  ·exact ((relP_iff _ _ _ _).1 hxy).1
  ·exact ((relP_iff _ _ _ _).1 hxy).1.symm
def Nd (n : Nat) (s : Int) : Prop := 0 ≤ s ∧ s < n
def Bis (n : Nat) (es : List Ed) (s t : Int) : Prop := relS (greatL n es) s t = true
theorem Bis.nodes {n : Nat} {es : List Ed} {s t : Int} (h : Bis n es s t) : Nd n s ∧ Nd n t := by
 have h1 := (relS_iff _ _ _).1 h
 exact pairsTo_mem.1 ((great_spec n es).1.subset h1)
theorem Bis.step {n : Nat} {es : List Ed} {s t : Int} (h : Bis n es s t) {e : Ed} (he : e ∈ es) (hs : e.f0 = s) : ∃ f ∈ es, f.f0 = t ∧ e.f1 = f.f1 ∧ Bis n es e.f2 f.f2 :=
 (fol_iff es _ s t).1 ((great_spec n es).2.1 s t h).1 e he hs
theorem Bis.back {n : Nat} {es : List Ed} {s t : Int} (h : Bis n es s t) {e : Ed} (he : e ∈ es) (ht : e.f0 = t) : ∃ f ∈ es, f.f0 = s ∧ e.f1 = f.f1 ∧ Bis n es f.f2 e.f2 :=
 (folT_iff es _ s t).1 ((great_spec n es).2.1 s t h).2 e he ht
theorem Bis.of {n : Nat} {es : List Ed} {R : Int → Int → Prop} (hN : ∀ s t, R s t → Nd n s ∧ Nd n t)
  (h1 : ∀ s t, R s t → ∀ e ∈ es, e.f0 = s → ∃ f ∈ es, f.f0 = t ∧ e.f1 = f.f1 ∧ R e.f2 f.f2) (h2 : ∀ s t, R s t → ∀ e ∈ es, e.f0 = t → ∃ f ∈ es, f.f0 = s ∧ e.f1 = f.f1 ∧ R f.f2 e.f2) {s t : Int} (h : R s t) : Bis n es s t := by
 classical
 refine (great_spec n es).2.2 (fun a b => decide (R a b)) ?_ ?_ s t (decide_eq_true h)
 ·intro a b hab
  have hab := of_decide_eq_true hab
  refine ⟨(fol_iff _ _ _ _).2 fun e he hs => ?_, (folT_iff _ _ _ _).2 fun e he hs => ?_⟩
  ·obtain ⟨f, hf, x, y, z⟩ := h1 a b hab e he hs
   exact ⟨f, hf, x, y, decide_eq_true z⟩
  ·obtain ⟨f, hf, x, y, z⟩ := h2 a b hab e he hs
   exact ⟨f, hf, x, y, decide_eq_true z⟩
 ·intro x y hxy
  exact hN x y (of_decide_eq_true hxy)
theorem Bis.refl {n : Nat} {es : List Ed} (hes : ∀ e ∈ es, Nd n e.f0 ∧ Nd n e.f2) {s : Int} (hs : Nd n s) : Bis n es s s :=
 Bis.of (R := fun a b => a = b ∧ Nd n a) (fun a b h => ⟨h.2, h.1 ▸ h.2⟩) (fun a b h e he hs => ⟨e, he, h.1 ▸ hs, rfl, rfl, (hes e he).2⟩) (fun a b h e he hs => ⟨e, he, by rw [h.1]; exact hs, rfl, rfl, (hes e he).2⟩) ⟨rfl, hs⟩
theorem Bis.symm {n : Nat} {es : List Ed} {s t : Int} (h : Bis n es s t) : Bis n es t s :=
 Bis.of (R := fun a b => Bis n es b a) (fun a b h => ⟨h.nodes.2, h.nodes.1⟩) (fun a b h e he hs => by
  obtain ⟨f, hf, x, y, z⟩ := h.back he hs; exact ⟨f, hf, x, y, z⟩) (fun a b h e he hs => by
  obtain ⟨f, hf, x, y, z⟩ := h.step he hs; exact ⟨f, hf, x, y, z⟩) h
theorem Bis.trans {n : Nat} {es : List Ed} {s t u : Int} (h : Bis n es s t) (g : Bis n es t u) : Bis n es s u :=
 Bis.of (R := fun a c => ∃ b, Bis n es a b ∧ Bis n es b c) (fun a c ⟨b, x, y⟩ => ⟨x.nodes.1, y.nodes.2⟩) (fun a c ⟨b, x, y⟩ e he hs => by
  obtain ⟨f, hf, x1, x2, x3⟩ := x.step he hs
  obtain ⟨g, hg, y1, y2, y3⟩ := y.step hf x1
  exact ⟨g, hg, y1, x2.trans y2, f.f2, x3, y3⟩) (fun a c ⟨b, x, y⟩ e he hs => by
  obtain ⟨f, hf, y1, y2, y3⟩ := y.back he hs
  obtain ⟨g, hg, x1, x2, x3⟩ := x.back hf y1
  exact ⟨g, hg, x1, y2.trans x2, f.f2, x3, y3⟩) ⟨t, h, g⟩
def Into (es : List Ed) (H : Int → Int) (s l h : Int) : Prop := ∃ e ∈ es, e.f0 = s ∧ e.f1 = l ∧ H e.f2 = h
structure RefI (n : Nat) (es : List Ed) (B H : Int → Int) : Prop where
  i3 : ∀ s t, Bis n es s t → B s = B t
  i6 : ∀ s t, Nd n s → Nd n t → B s = B t → H s = H t
  i4 : ∀ s t, Nd n s → Nd n t → B s = B t → ∀ l h, Into es H s l h → Into es H t l h
def CutR (n : Nat) (B B' : Int → Int) (X : Int → Prop) : Prop := ∀ s t, Nd n s → Nd n t → (B' s = B' t ↔ B s = B t ∧ (X s ↔ X t))
structure RefJ (n : Nat) (es : List Ed) (B0 H0 B H : Int → Int) (fresh old : Int) (k : Nat) : Prop where
  base : RefI n es B0 H0
  fin : ∀ s t, Nd n s → Nd n t → B s = B t → B0 s = B0 t
  i3 : ∀ s t, Bis n es s t → B s = B t
  taken : ∃ b, (∀ s, Nd n s → H s = if B0 s = b then fresh else H0 s) ∧ (∀ s, Nd n s → B0 s = b → H0 s = old)
  new : ∀ s, Nd n s → H0 s ≠ fresh
  ne : fresh ≠ old
  some_ : ∀ l : Int, 0 ≤ l → l < k → ∀ s t, Nd n s → Nd n t → B s = B t → Into es H s l fresh → Into es H t l fresh
  only : ∀ l : Int, 0 ≤ l → l < k → ∀ s t, Nd n s → Nd n t → B s = B t → (Into es H s l fresh ∧ ¬ Into es H s l old) → (Into es H t l fresh ∧ ¬ Into es H t l old)
section
variable {n : Nat} {es : List Ed} {B H B0 H0 B' : Int → Int} {fresh old : Int} {k : Nat}
theorem RefI.take (h : RefI n es B H) {b : Int} {H' : Int → Int} (hH : ∀ s, Nd n s → H' s = if B s = b then fresh else H s) (ho : ∀ s, Nd n s → B s = b → H s = old) (hn : ∀ s, Nd n s → H s ≠ fresh) (hne : fresh ≠ old) : RefJ n es B H B H' fresh old 0 :=
 ⟨h, fun _ _ _ _ e => e, h.i3, ⟨b, hH, ho⟩, hn, hne, fun l h0 h1 => by omega, fun l h0 h1 => by omega⟩
theorem RefJ.i6 (h : RefJ n es B0 H0 B H fresh old k) {s t : Int} (hs : Nd n s) (ht : Nd n t) (e : B s = B t) : H s = H t := by
 obtain ⟨b, hb, _⟩ := h.taken
 rw [hb s hs, hb t ht, h.fin s t hs ht e, h.base.i6 s t hs ht (h.fin s t hs ht e)]
theorem RefJ.resp (h : RefJ n es B0 H0 B H fresh old k) {s t : Int} (hst : Bis n es s t) {l x : Int} (hi : Into es H s l x) : Into es H t l x := by
 obtain ⟨e, he, h0, h1, h2⟩ := hi
 obtain ⟨f, hf, g0, g1, g2⟩ := hst.step he h0
 exact ⟨f, hf, g0, by rw [← g1]; exact h1, by rw [← h2]; exact (h.i6 g2.nodes.1 g2.nodes.2 (h.i3 _ _ g2)).symm⟩
theorem RefJ.cut (h : RefJ n es B0 H0 B H fresh old k) {X : Int → Prop} (hX : ∀ s t, Bis n es s t → X s → X t) (hc : CutR n B B' X) : RefJ n es B0 H0 B' H fresh old k where
 base := h.base
 fin := fun s t hs ht e => h.fin s t hs ht ((hc s t hs ht).1 e).1
 i3 := fun s t hst => (hc s t hst.nodes.1 hst.nodes.2).2 ⟨h.i3 s t hst, hX s t hst, hX t s hst.symm⟩
 taken := h.taken
 new := h.new
 ne := h.ne
 some_ := fun l h0 h1 s t hs ht e => h.some_ l h0 h1 s t hs ht ((hc s t hs ht).1 e).1
 only := fun l h0 h1 s t hs ht e => h.only l h0 h1 s t hs ht ((hc s t hs ht).1 e).1
theorem RefJ.label (h : RefJ n es B0 H0 B H fresh old k) {B1 B2 : Int → Int} (h1 : CutR n B B1 fun s => Into es H s k fresh) (h2 : CutR n B1 B2 fun s => Into es H s k fresh ∧ ¬ Into es H s k old) : RefJ n es B0 H0 B2 H fresh old (k + 1) := by
 have j1 := h.cut (fun s t hst hi => h.resp hst hi) h1
 have j2 := j1.cut (B' := B2) (fun s t hst hi => ⟨h.resp hst hi.1, fun hn => hi.2 (h.resp hst.symm hn)⟩) h2
 refine ⟨j2.base, j2.fin, j2.i3, j2.taken, j2.new, j2.ne, fun l h0 hl s t hs ht e => ?_, fun l h0 hl s t hs ht e => ?_⟩
 ·by_cases hk : l < k
  ·exact j2.some_ l h0 hk s t hs ht e
  ·have : l = k := by omega
   subst this
   exact ((h1 s t hs ht).1 ((h2 s t hs ht).1 e).1).2.1
 ·by_cases hk : l < k
  ·exact j2.only l h0 hk s t hs ht e
  ·have : l = k := by omega
   subst this
   exact ((h2 s t hs ht).1 e).2.1
theorem RefJ.end_ (h : RefJ n es B0 H0 B H fresh old k) (hes : ∀ e ∈ es, Nd n e.f0 ∧ (0 ≤ e.f1 ∧ e.f1 < k) ∧ Nd n e.f2) : RefI n es B H where
 i3 := h.i3
 i6 := fun s t hs ht e => h.i6 hs ht e
 i4 := by
  intro s t hs ht e l x hi;obtain ⟨f, hf, f0, f1, f2⟩ := id hi;have hl := (hes f hf).2.1;rw [f1] at hl;obtain ⟨b, hb, hbo⟩ := h.taken;have e0 := h.fin s t hs ht e;have elder : ∀ s t, Nd n s → Nd n t → B0 s = B0 t → ∀ y, Into es H0 s l y → Into es H0 t l y := fun s t hs ht e y => h.base.i4 s t hs ht e l y
  by_cases hx : x = fresh
  ·subst hx;exact h.some_ l hl.1 hl.2 s t hs ht e hi
  ·have hf2 : H0 f.f2 = x := by
    have := hb f.f2 (hes f hf).2.2;rw [f2] at this;split at this
    ·exact absurd this hx
    ·exact this.symm
   have h0 : Into es H0 t l x := elder s t hs ht e0 x ⟨f, hf, f0, f1, hf2⟩;by_cases ho : x = old
   ·subst ho;by_cases hsome : Into es H s l fresh
    ·by_cases hto : Into es H t l x
     ·exact hto
     ·exact absurd hi ((h.only l hl.1 hl.2 t s ht hs e.symm ⟨h.some_ l hl.1 hl.2 s t hs ht e hsome, hto⟩).2)
    ·have hnt : ¬ Into es H t l fresh := fun hn => hsome (h.some_ l hl.1 hl.2 t s ht hs e.symm hn)
     obtain ⟨g, hg, g0, g1, g2⟩ := h0;refine ⟨g, hg, g0, g1, ?_⟩;rw [hb g.f2 (hes g hg).2.2];by_cases hgb : B0 g.f2 = b
     ·exact absurd ⟨g, hg, g0, g1, by rw [hb g.f2 (hes g hg).2.2, if_pos hgb]⟩ hnt
     ·rw [if_neg hgb]; exact g2
   ·obtain ⟨g, hg, g0, g1, g2⟩ := h0;refine ⟨g, hg, g0, g1, ?_⟩;rw [hb g.f2 (hes g hg).2.2];by_cases hgb : B0 g.f2 = b
    ·exact absurd (g2.symm.trans (hbo g.f2 (hes g hg).2.2 hgb)) ho
    ·rw [if_neg hgb]; exact g2
structure RefB (n : Nat) (es : List Ed) (B : Int → Int) (k : Nat) : Prop where
  i3 : ∀ s t, Bis n es s t → B s = B t
  has : ∀ l : Int, 0 ≤ l → l < k → ∀ s t, Nd n s → Nd n t → B s = B t → (∃ e ∈ es, e.f0 = s ∧ e.f1 = l) → ∃ e ∈ es, e.f0 = t ∧ e.f1 = l
theorem RefB.label (h : RefB n es B k) (hc : CutR n B B' fun s => ∃ e ∈ es, e.f0 = s ∧ e.f1 = k) : RefB n es B' (k + 1) := by
 refine ⟨fun s t hst => (hc s t hst.nodes.1 hst.nodes.2).2 ⟨h.i3 s t hst, ?_, ?_⟩, fun l h0 hl s t hs ht e => ?_⟩
 ·rintro ⟨e, he, h0, h1⟩
  obtain ⟨f, hf, g0, g1, _⟩ := hst.step he h0
  exact ⟨f, hf, g0, by rw [← g1]; exact h1⟩
 ·rintro ⟨e, he, h0, h1⟩
  obtain ⟨f, hf, g0, g1, _⟩ := hst.symm.step he h0
  exact ⟨f, hf, g0, by rw [← g1]; exact h1⟩
 ·by_cases hk : l < k
  ·exact h.has l h0 hk s t hs ht ((hc s t hs ht).1 e).1
  ·have : l = k := by omega
   subst this
   exact ((hc s t hs ht).1 e).2.1
theorem RefB.start : RefB n es (fun _ => 0) 0 := ⟨fun _ _ _ => rfl, fun l h0 h1 => by omega⟩
theorem RefB.end_ (h : RefB n es B k) {h0 : Int} (hH : ∀ s, Nd n s → H s = h0) (hes : ∀ e ∈ es, Nd n e.f0 ∧ (0 ≤ e.f1 ∧ e.f1 < k) ∧ Nd n e.f2) : RefI n es B H where
 i3 := h.i3
 i6 := fun s t hs ht _ => by rw [hH s hs, hH t ht]
 i4 := by
  intro s t hs ht e l x ⟨f, hf, f0, f1, f2⟩
  have hl := (hes f hf).2.1
  rw [f1] at hl
  obtain ⟨g, hg, g0, g1⟩ := h.has l hl.1 hl.2 s t hs ht e ⟨f, hf, f0, f1⟩
  exact ⟨g, hg, g0, g1, by rw [hH _ (hes g hg).2.2, ← hH _ (hes f hf).2.2]; exact f2⟩
theorem RefI.last (h : RefI n es B H) (h1 : ∀ s t, Nd n s → Nd n t → H s = H t → B s = B t) (hes : ∀ e ∈ es, Nd n e.f0 ∧ Nd n e.f2) {s t : Int} (hs : Nd n s) (ht : Nd n t) : Bis n es s t ↔ B s = B t := by
 refine ⟨h.i3 s t, fun e => Bis.of (R := fun a b => Nd n a ∧ Nd n b ∧ B a = B b) (fun a b x => ⟨x.1, x.2.1⟩) ?_ ?_ ⟨hs, ht, e⟩⟩
 ·rintro a b ⟨ha, hb, hab⟩ e he rfl
  obtain ⟨f, hf, f0, f1, f2⟩ := h.i4 _ b ha hb hab e.f1 (H e.f2) ⟨e, he, rfl, rfl, rfl⟩
  exact ⟨f, hf, f0, f1.symm, (hes e he).2, (hes f hf).2, h1 _ _ (hes e he).2 (hes f hf).2 f2.symm⟩
 ·rintro a b ⟨ha, hb, hab⟩ e he rfl
  obtain ⟨f, hf, f0, f1, f2⟩ := h.i4 _ a hb ha hab.symm e.f1 (H e.f2) ⟨e, he, rfl, rfl, rfl⟩
  exact ⟨f, hf, f0, f1.symm, (hes f hf).2, (hes e he).2, h1 _ _ (hes f hf).2 (hes e he).2 f2⟩
end
end Go.Proofs.Ytmcbkmfpmcbdpaa.H
namespace Go.Proofs.Ytmcbkmfpmcbdpaa.H
open Go.RowKit Go.Proofs.Ytmcbkmfpmcbdpaa.Pr Go.Proofs.YtmcbkmfpmcbdpaaW.PrintWords Go.Proofs.Ytmcbkmfpmcbdpaa.Sem
def gi (l : List Int) (x : Int) : Int := l.getD x.toNat 0
def gl (l : List (List Int)) (x : Int) : List Int := l.getD x.toNat []
theorem Nd.nat {n : Nat} {x : Int} (h : Nd n x) : ∃ k : Nat, x = (k : Int) ∧ k < n := ⟨x.toNat, by have := h.1; omega, by have := h.1; have := h.2; omega⟩
theorem Nd.mono {n m : Nat} {x : Int} (h : Nd n x) (hm : n ≤ m) : Nd m x := ⟨h.1, by have := h.2; omega⟩
theorem nd_iff {n : Nat} {k : Nat} : Nd n (k : Int) ↔ k < n := by unfold Nd; omega
theorem nodup_sub : ∀ {l l' : List Int}, l.Nodup → (∀ x ∈ l, x ∈ l') → l.length ≤ l'.length
 | [], l', _, _ => by simp
 | a :: l, l', h, hs => by
  obtain ⟨h1, h2⟩ := List.nodup_cons.1 h
  have := nodup_sub (l := l) (l' := l'.erase a) h2 fun x hx => (List.mem_erase_of_ne (by rintro rfl; exact h1 hx)).2 (hs x (List.mem_cons_of_mem _ hx))
  rw [List.length_erase_of_mem (hs a (List.mem_cons_self ..))] at this
  have hp : 0 < l'.length := List.length_pos_of_mem (hs a (List.mem_cons_self ..))
  simp only [List.length_cons]
  omega
theorem nodup_le {l : List Int} {n : Nat} (h : l.Nodup) (hn : ∀ x ∈ l, Nd n x) : l.length ≤ n := by
 have := nodup_sub (l' := (List.range n).map fun k : Nat => (k : Int)) h fun x hx => by
  obtain ⟨k, rfl, hk⟩ := (hn x hx).nat
  exact List.mem_map.2 ⟨k, List.mem_range.2 hk, rfl⟩
 simpa using this
structure PSt where
  block : List Int
  blocks : List (List Int)
  heap : List Int
  heaps : List (List Int)
structure PW (n : Nat) (p : PSt) : Prop where
  bl : p.block.length = n
  hl : p.heap.length = p.blocks.length
  br : ∀ x, Nd n x → Nd p.blocks.length (gi p.block x)
  bn : ∀ b, Nd p.blocks.length b → (gl p.blocks b).Nodup
  bm : ∀ b, Nd p.blocks.length b → ∀ x, x ∈ gl p.blocks b ↔ Nd n x ∧ gi p.block x = b
  be : ∀ b, Nd p.blocks.length b → gl p.blocks b ≠ []
  hr : ∀ b, Nd p.blocks.length b → Nd p.heaps.length (gi p.heap b)
  hn : ∀ h, Nd p.heaps.length h → (gl p.heaps h).Nodup
  hm : ∀ h, Nd p.heaps.length h → ∀ b, b ∈ gl p.heaps h ↔ Nd p.blocks.length b ∧ gi p.heap b = h
  he : ∀ h, Nd p.heaps.length h → gl p.heaps h ≠ []
theorem parts_le {n : Nat} {ls : List (List Int)} {f : Int → Int} (hm : ∀ b, Nd ls.length b → ∀ x, x ∈ gl ls b → Nd n x ∧ f x = b) (he : ∀ b, Nd ls.length b → gl ls b ≠ []) : ls.length ≤ n := by
 have hd : ∀ b : Nat, b < ls.length → ∃ x, x ∈ gl ls (b : Int) := fun b hb => by
  have := he b (nd_iff.2 hb)
  cases h : gl ls (b : Int) with
  | nil => exact absurd h this
  | cons x r => exact ⟨x, List.mem_cons_self ..⟩
 let g : Nat → Int := fun b => (gl ls (b : Int)).headD 0
 have hg : ∀ b : Nat, b < ls.length → g b ∈ gl ls (b : Int) := fun b hb => by
  have := he b (nd_iff.2 hb)
  show (gl ls (b : Int)).headD 0 ∈ gl ls (b : Int)
  cases h : gl ls (b : Int) with
  | nil => exact absurd h this
  | cons x r => exact List.mem_cons_self ..
 have h1 : ((List.range ls.length).map g).Nodup := by
  refine List.pairwise_map.2 (List.Pairwise.imp_of_mem ?_ List.pairwise_lt_range)
  intro a b ha hb hab e
  have ha' := List.mem_range.1 ha
  have hb' := List.mem_range.1 hb
  have e1 := (hm a (nd_iff.2 ha') _ (hg a ha')).2
  have e2 := (hm b (nd_iff.2 hb') _ (hg b hb')).2
  rw [e, e2] at e1
  omega
 have := nodup_le (n := n) h1 fun x hx => by
  obtain ⟨b, hb, rfl⟩ := List.mem_map.1 hx
  exact (hm b (nd_iff.2 (List.mem_range.1 hb)) _ (hg b (List.mem_range.1 hb))).1
 simpa using this
section
variable {n : Nat} {p : PSt}
theorem PW.nb_le (h : PW n p) : p.blocks.length ≤ n := parts_le (fun b hb x hx => (h.bm b hb x).1 hx) h.be
theorem PW.nh_le (h : PW n p) : p.heaps.length ≤ p.blocks.length := parts_le (fun b hb x hx => (h.hm b hb x).1 hx) h.he
theorem PW.len_b (h : PW n p) {b : Int} (hb : Nd p.blocks.length b) : (gl p.blocks b).length ≤ n := nodup_le (h.bn b hb) fun x hx => ((h.bm b hb x).1 hx).1
theorem PW.len_h (h : PW n p) {b : Int} (hb : Nd p.heaps.length b) : (gl p.heaps b).length ≤ p.blocks.length := nodup_le (h.hn b hb) fun x hx => ((h.hm b hb x).1 hx).1
end
def setAll (l : List Int) (ins : List Int) (v : Int) : List Int := ins.foldl (fun l x => l.set x.toNat v) l
theorem setAll_len (l ins : List Int) (v : Int) : (setAll l ins v).length = l.length := by
 induction ins using PL.rind with
 | h0 => rfl
 | h1 r a ih => rw [show setAll l (r ++ [a]) v = (setAll l r v).set a.toNat v from by simp [setAll, List.foldl_append], List.length_set, ih]
theorem setAll_snoc (l r : List Int) (a v : Int) : setAll l (r ++ [a]) v = (setAll l r v).set a.toNat v := by simp [setAll, List.foldl_append]
theorem gi_set {l : List Int} {x y v : Int} (hx : Nd l.length x) (hy : Nd l.length y) : gi (l.set x.toNat v) y = if y = x then v else gi l y := by
 obtain ⟨a, rfl, ha⟩ := hx.nat
 obtain ⟨b, rfl, hb⟩ := hy.nat
 unfold gi
 simp only [Int.toNat_natCast, List.getD_eq_getElem?_getD, List.getElem?_set]
 by_cases e : a = b
 ·subst e; simp [ha]
 ·rw [if_neg e, if_neg (by omega)]
theorem gl_set {l : List (List Int)} {x y : Int} {v : List Int} (hx : Nd l.length x) (hy : Nd l.length y) : gl (l.set x.toNat v) y = if y = x then v else gl l y := by
 obtain ⟨a, rfl, ha⟩ := hx.nat
 obtain ⟨b, rfl, hb⟩ := hy.nat
 unfold gl
 simp only [Int.toNat_natCast, List.getD_eq_getElem?_getD, List.getElem?_set]
 by_cases e : a = b
 ·subst e; simp [ha]
 ·rw [if_neg e, if_neg (by omega)]
theorem gl_snoc {l : List (List Int)} {v : List Int} {y : Int} (hy : Nd (l.length + 1) y) : gl (l ++ [v]) y = if y = (l.length : Int) then v else gl l y := by
 obtain ⟨b, rfl, hb⟩ := hy.nat
 unfold gl
 simp only [Int.toNat_natCast, List.getD_eq_getElem?_getD]
 by_cases e : b = l.length
 ·subst e; simp
 ·rw [if_neg (by omega), List.getElem?_append_left (by omega)]
theorem gi_snoc {l : List Int} {v : Int} {y : Int} (hy : Nd (l.length + 1) y) : gi (l ++ [v]) y = if y = (l.length : Int) then v else gi l y := by
 obtain ⟨b, rfl, hb⟩ := hy.nat
 unfold gi
 simp only [Int.toNat_natCast, List.getD_eq_getElem?_getD]
 by_cases e : b = l.length
 ·subst e; simp
 ·rw [if_neg (by omega), List.getElem?_append_left (by omega)]
theorem gi_setAll {l ins : List Int} {v x : Int} (hi : ∀ y ∈ ins, Nd l.length y) (hx : Nd l.length x) : gi (setAll l ins v) x = if x ∈ ins then v else gi l x := by
 induction ins using PL.rind with
 | h0 => simp [setAll]
 | h1 r a ih =>
  have ih := ih fun y hy => hi y (List.mem_append_left _ hy)
  rw [setAll_snoc, gi_set (by rw [setAll_len]; exact hi a (by simp)) (by rw [setAll_len]; exact hx), ih]
  by_cases e : x = a
  ·subst e; simp
  ·rw [if_neg e]
   simp [e]
def HP (p : PSt) (x : Int) : Int := gi p.heap (gi p.block x)
def cutP (p : PSt) (b : Int) (ins : List Int) : PSt where
 block := setAll p.block ins p.blocks.length
 blocks := (p.blocks.set b.toNat ((gl p.blocks b).filter fun x => decide (gi (setAll p.block ins p.blocks.length) x = b))) ++ [ins]
 heap := p.heap ++ [gi p.heap b]
 heaps := p.heaps.set (gi p.heap b).toNat (gl p.heaps (gi p.heap b) ++ [(p.blocks.length : Int)])
section
variable {n : Nat} {p : PSt} {b : Int} {ins : List Int}
theorem cut_blk (h : PW n p) (hb : Nd p.blocks.length b) (hs : ∀ x ∈ ins, x ∈ gl p.blocks b) {x : Int} (hx : Nd n x) : gi (cutP p b ins).block x = if x ∈ ins then (p.blocks.length : Int) else gi p.block x :=
 gi_setAll (fun y hy => by rw [h.bl]; exact ((h.bm b hb y).1 (hs y hy)).1) (by rw [h.bl]; exact hx)
theorem cut_hp (h : PW n p) (hb : Nd p.blocks.length b) (hs : ∀ x ∈ ins, x ∈ gl p.blocks b) {x : Int} (hx : Nd n x) : HP (cutP p b ins) x = HP p x := by
 unfold HP
 rw [cut_blk h hb hs hx]
 show gi (p.heap ++ [gi p.heap b]) _ = _
 by_cases e : x ∈ ins
 ·rw [if_pos e, gi_snoc (by rw [h.hl]; exact nd_iff.2 (by omega)), if_pos (by rw [h.hl]), ((h.bm b hb x).1 (hs x e)).2]
 ·rw [if_neg e, gi_snoc (by rw [h.hl]; exact (h.br x hx).mono (by omega)), if_neg (by have := (h.br x hx).2; rw [h.hl]; omega)]
theorem PW.cut (h : PW n p) (hb : Nd p.blocks.length b) (hn : ins.Nodup) (hs : ∀ x ∈ ins, x ∈ gl p.blocks b) (h0 : ins ≠ []) (hlt : ins.length < (gl p.blocks b).length) : PW n (cutP p b ins) := by
 have hlen : (cutP p b ins).blocks.length = p.blocks.length + 1 := by simp [cutP]
 have hB : ∀ x, Nd n x → gi (cutP p b ins).block x = if x ∈ ins then (p.blocks.length : Int) else gi p.block x := fun x hx => cut_blk h hb hs hx
 have hbs : ∀ c, Nd (p.blocks.length + 1) c → gl (cutP p b ins).blocks c = if c = (p.blocks.length : Int) then ins else if c = b then (gl p.blocks b).filter (fun x => decide (gi (setAll p.block ins p.blocks.length) x = b)) else gl p.blocks c := by
  intro c hc;show gl (p.blocks.set b.toNat _ ++ [ins]) c = _;rw [gl_snoc (by rw [List.length_set]; exact hc), List.length_set];by_cases e : c = (p.blocks.length : Int)
  ·rw [if_pos e, if_pos e]
  ·rw [if_neg e, if_neg e, gl_set hb ⟨hc.1, by have := hc.2; omega⟩]
 have hrest : ∀ x, x ∈ (gl p.blocks b).filter (fun x => decide (gi (setAll p.block ins p.blocks.length) x = b)) ↔ x ∈ gl p.blocks b ∧ x ∉ ins := by
  intro x;rw [List.mem_filter];constructor
  ·rintro ⟨h1, h2⟩;refine ⟨h1, fun hi => ?_⟩;have h3 := hB x ((h.bm b hb x).1 h1).1;rw [if_pos hi] at h3;have h4 : gi (setAll p.block ins p.blocks.length) x = b := of_decide_eq_true h2;rw [show (cutP p b ins).block = setAll p.block ins p.blocks.length from rfl, h4] at h3;have := hb.2;omega
  ·rintro ⟨h1, h2⟩;refine ⟨h1, decide_eq_true ?_⟩;have h3 := hB x ((h.bm b hb x).1 h1).1;rw [if_neg h2, ((h.bm b hb x).1 h1).2] at h3;exact h3
 have hH : ∀ c, Nd (p.blocks.length + 1) c → gi (cutP p b ins).heap c = if c = (p.blocks.length : Int) then gi p.heap b else gi p.heap c := by
  intro c hc;show gi (p.heap ++ [gi p.heap b]) c = _;rw [gi_snoc (by rw [h.hl]; exact hc), h.hl]
 have hhb := h.hr b hb
 have hHs : ∀ c, Nd p.heaps.length c → gl (cutP p b ins).heaps c = if c = gi p.heap b then gl p.heaps (gi p.heap b) ++ [(p.blocks.length : Int)] else gl p.heaps c := by
  intro c hc;show gl (p.heaps.set (gi p.heap b).toNat _) c = _;rw [gl_set hhb hc]
 have hhl : (cutP p b ins).heaps.length = p.heaps.length := by simp [cutP]
 refine ⟨by rw [show (cutP p b ins).block = setAll p.block ins p.blocks.length from rfl, setAll_len, h.bl], by rw [hlen]; simp [cutP, h.hl], ?_, ?_, ?_, ?_, ?_, ?_, ?_, ?_⟩
 ·intro x hx;rw [hlen, hB x hx];split
  ·exact nd_iff.2 (by omega)
  ·exact (h.br x hx).mono (by omega)
 ·intro c hc;rw [hlen] at hc;rw [hbs c hc];split
  ·exact hn
  ·split
   ·exact (h.bn b hb).sublist List.filter_sublist
   ·exact h.bn c ⟨hc.1, by have := hc.2; omega⟩
 ·intro c hc x;rw [hlen] at hc;rw [hbs c hc];by_cases e : c = (p.blocks.length : Int)
  ·rw [if_pos e];constructor
   ·intro hx;have hN := ((h.bm b hb x).1 (hs x hx)).1;exact ⟨hN, by rw [hB x hN, if_pos hx, e]⟩
   ·rintro ⟨hN, h2⟩;rw [hB x hN] at h2;by_cases hi : x ∈ ins
    ·exact hi
    ·rw [if_neg hi, e] at h2;have := (h.br x hN).2;omega
  ·rw [if_neg e];have hc' : Nd p.blocks.length c := ⟨hc.1, by have := hc.2; omega⟩
   by_cases e2 : c = b
   ·rw [if_pos e2, hrest, h.bm b hb];constructor
    ·rintro ⟨⟨hN, h1⟩, h2⟩;exact ⟨hN, by rw [hB x hN, if_neg h2, h1, e2]⟩
    ·rintro ⟨hN, h1⟩;rw [hB x hN] at h1;by_cases hi : x ∈ ins
     ·rw [if_pos hi] at h1;exact absurd h1.symm e
     ·rw [if_neg hi, e2] at h1;exact ⟨⟨hN, h1⟩, hi⟩
   ·rw [if_neg e2, h.bm c hc'];constructor
    ·rintro ⟨hN, h1⟩;refine ⟨hN, ?_⟩;rw [hB x hN, if_neg]
     ·exact h1
     ·intro hi;have := ((h.bm b hb x).1 (hs x hi)).2;exact e2 (h1.symm.trans this)
    ·rintro ⟨hN, h1⟩;refine ⟨hN, ?_⟩;rw [hB x hN] at h1;by_cases hi : x ∈ ins
     ·rw [if_pos hi] at h1;exact absurd h1.symm e
     ·rwa [if_neg hi] at h1
 ·intro c hc;rw [hlen] at hc;rw [hbs c hc];split
  ·exact h0
  ·split
   ·intro hnil
    have : (gl p.blocks b).length ≤ ins.length := nodup_sub (h.bn b hb) fun x hx => by
     by_cases hi : x ∈ ins
     ·exact hi
     ·have := (hrest x).2 ⟨hx, hi⟩;rw [hnil] at this
      cases this
    omega
   ·exact h.be c ⟨hc.1, by have := hc.2; omega⟩
 ·intro c hc;rw [hlen] at hc;rw [hhl, hH c hc];split
  ·exact hhb
  ·exact h.hr c ⟨hc.1, by have := hc.2; omega⟩
 ·intro c hc;rw [hhl] at hc;rw [hHs c hc];split
  ·rw [List.nodup_append];refine ⟨h.hn _ hhb, by simp, fun x hx y hy e => ?_⟩;have := ((h.hm _ hhb x).1 hx).1.2;have h2 : y = (p.blocks.length : Int) := by simpa using hy
   omega
  ·exact h.hn c hc
 ·intro c hc x;rw [hhl] at hc;rw [hHs c hc, hlen];by_cases e : c = gi p.heap b
  ·rw [if_pos e, List.mem_append, h.hm _ hhb x, List.mem_singleton];constructor
   ·rintro (⟨h1, h2⟩ | h1)
    ·refine ⟨h1.mono (by omega), ?_⟩;rw [hH x (h1.mono (by omega)), if_neg (by have := h1.2; omega), h2, e]
    ·subst h1;exact ⟨nd_iff.2 (by omega), by rw [hH _ (nd_iff.2 (by omega)), if_pos rfl, e]⟩
   ·rintro ⟨h1, h2⟩;rw [hH x h1] at h2;by_cases e2 : x = (p.blocks.length : Int)
    ·exact .inr e2
    ·rw [if_neg e2, e] at h2;exact .inl ⟨⟨h1.1, by have := h1.2; omega⟩, h2⟩
  ·rw [if_neg e, h.hm c hc x];constructor
   ·rintro ⟨h1, h2⟩;refine ⟨h1.mono (by omega), ?_⟩;rw [hH x (h1.mono (by omega)), if_neg (by have := h1.2; omega), h2]
   ·rintro ⟨h1, h2⟩;rw [hH x h1] at h2;by_cases e2 : x = (p.blocks.length : Int)
    ·rw [if_pos e2] at h2;exact absurd h2.symm e
    ·rw [if_neg e2] at h2;exact ⟨⟨h1.1, by have := h1.2; omega⟩, h2⟩
 ·intro c hc;rw [hhl] at hc;rw [hHs c hc];split
  ·simp
  ·exact h.he c hc
end
def Wt (p : PSt) (w : Int → Bool) : Prop := ∀ h, w h = true ↔ Nd p.heaps.length h ∧ 2 ≤ (gl p.heaps h).length
theorem Wt.cut {n : Nat} {p : PSt} {b : Int} {ins : List Int} {w : Int → Bool} (hw : Wt p w) (h : PW n p) (hb : Nd p.blocks.length b) : Wt (cutP p b ins) fun x => decide (x = gi p.heap b) || w x := by
 intro c
 have hhb := h.hr b hb
 have hhl : (cutP p b ins).heaps.length = p.heaps.length := by simp [cutP]
 have hHs : ∀ c, Nd p.heaps.length c → gl (cutP p b ins).heaps c = if c = gi p.heap b then gl p.heaps (gi p.heap b) ++ [(p.blocks.length : Int)] else gl p.heaps c := by
  intro c hc
  show gl (p.heaps.set (gi p.heap b).toNat _) c = _
  rw [gl_set hhb hc]
 rw [hhl, Bool.or_eq_true, hw c]
 by_cases e : c = gi p.heap b
 ·have h2 : 0 < (gl p.heaps (gi p.heap b)).length := List.length_pos_iff.2 (h.he _ hhb)
  subst e
  rw [hHs _ hhb, if_pos rfl]
  simp only [decide_true, true_or, true_iff]
  exact ⟨hhb, by simp; omega⟩
 ·simp only [e, decide_false, Bool.false_eq_true, false_or]
  constructor
  ·rintro ⟨h1, h2⟩; exact ⟨h1, by rw [hHs c h1, if_neg e]; exact h2⟩
  ·rintro ⟨h1, h2⟩; exact ⟨h1, by rw [hHs c h1, if_neg e] at h2; exact h2⟩
def takeP (p : PSt) (old : Int) (a : Nat) : PSt where
 block := p.block
 blocks := p.blocks
 heap := p.heap.set ((gl p.heaps old).getD a 0).toNat p.heaps.length
 heaps := (p.heaps.set old.toNat ((gl p.heaps old).eraseIdx a)) ++ [[(gl p.heaps old).getD a 0]]
section
variable {n : Nat} {p : PSt} {old : Int} {a : Nat}
theorem take_mem (h : PW n p) (ho : Nd p.heaps.length old) (ha : a < (gl p.heaps old).length) : Nd p.blocks.length ((gl p.heaps old).getD a 0) ∧ gi p.heap ((gl p.heaps old).getD a 0) = old :=
 (h.hm old ho _).1 (by simp [List.getD_eq_getElem?_getD, List.getElem?_eq_getElem ha])
theorem take_heap (h : PW n p) (ho : Nd p.heaps.length old) (ha : a < (gl p.heaps old).length) {c : Int} (hc : Nd p.blocks.length c) : gi (takeP p old a).heap c = if c = (gl p.heaps old).getD a 0 then (p.heaps.length : Int) else gi p.heap c :=
 gi_set (by rw [h.hl]; exact (take_mem h ho ha).1) (by rw [h.hl]; exact hc)
theorem take_heaps (ho : Nd p.heaps.length old) {c : Int} (hc : Nd (p.heaps.length + 1) c) : gl (takeP p old a).heaps c = if c = (p.heaps.length : Int) then [(gl p.heaps old).getD a 0] else if c = old then (gl p.heaps old).eraseIdx a else gl p.heaps c := by
 show gl (p.heaps.set old.toNat _ ++ [_]) c = _
 rw [gl_snoc (by rw [List.length_set]; exact hc), List.length_set]
 by_cases e : c = (p.heaps.length : Int)
 ·rw [if_pos e, if_pos e]
 ·rw [if_neg e, if_neg e, gl_set ho ⟨hc.1, by have := hc.2; omega⟩]
theorem take_hp (h : PW n p) (ho : Nd p.heaps.length old) (ha : a < (gl p.heaps old).length) {x : Int} (hx : Nd n x) : HP (takeP p old a) x = if gi p.block x = (gl p.heaps old).getD a 0 then (p.heaps.length : Int) else HP p x :=
 take_heap h ho ha (h.br x hx)
theorem mem_eraseIdx {l : List Int} (hn : l.Nodup) {a : Nat} (ha : a < l.length) (x : Int) : x ∈ l.eraseIdx a ↔ x ∈ l ∧ x ≠ l.getD a 0 := by
 have hg : l.getD a 0 = l[a] := by simp [List.getD_eq_getElem?_getD, List.getElem?_eq_getElem ha]
 rw [hg, List.mem_eraseIdx_iff_getElem?]
 constructor
 ·rintro ⟨i, hi, hx⟩
  refine ⟨List.mem_of_getElem? hx, fun e => hi ?_⟩
  have h1 : l[i]? = l[a]? := by rw [hx, List.getElem?_eq_getElem ha, e]
  exact (List.getElem?_inj (by have := (List.getElem?_eq_some_iff.1 hx).1; exact this) hn).1 h1
 ·rintro ⟨hx, hne⟩
  obtain ⟨i, hi⟩ := List.getElem?_of_mem hx
  refine ⟨i, fun e => hne ?_, hi⟩
  subst e
  rw [List.getElem?_eq_getElem ha] at hi
  exact (Option.some.inj hi).symm
theorem PW.take (h : PW n p) (ho : Nd p.heaps.length old) (ha : a < (gl p.heaps old).length) (h2 : 2 ≤ (gl p.heaps old).length) : PW n (takeP p old a) := by
 obtain ⟨t1, t2⟩ := take_mem h ho ha;have hlen : (takeP p old a).heaps.length = p.heaps.length + 1 := by simp [takeP]
 generalize hq : (gl p.heaps old).getD a 0 = q at t1 t2;refine ⟨h.bl, by show (p.heap.set _ _).length = _; rw [List.length_set]; exact h.hl, h.br, h.bn, h.bm, h.be, ?_, ?_, ?_, ?_⟩
 ·intro c hc;rw [hlen, take_heap h ho ha hc];split
  ·exact nd_iff.2 (by omega)
  ·exact (h.hr c hc).mono (by omega)
 ·intro c hc;rw [hlen] at hc;rw [take_heaps ho hc];split
  ·simp
  ·split
   ·exact (h.hn old ho).sublist (List.eraseIdx_sublist _ _)
   ·exact h.hn c ⟨hc.1, by have := hc.2; omega⟩
 ·intro c hc x;rw [hlen] at hc;rw [take_heaps ho hc, hq];show _ ↔ Nd p.blocks.length x ∧ _;by_cases e : c = (p.heaps.length : Int)
  ·rw [if_pos e, List.mem_singleton];constructor
   ·rintro rfl;exact ⟨t1, by rw [take_heap h ho ha t1, hq, if_pos rfl, e]⟩
   ·rintro ⟨hN, h1⟩;rw [take_heap h ho ha hN, hq] at h1;by_cases e2 : x = q
    ·exact e2
    ·rw [if_neg e2, e] at h1;have := (h.hr x hN).2;omega
  ·rw [if_neg e];have hc' : Nd p.heaps.length c := ⟨hc.1, by have := hc.2; omega⟩
   by_cases e2 : c = old
   ·rw [if_pos e2, mem_eraseIdx (h.hn old ho) ha, hq, h.hm old ho];constructor
    ·rintro ⟨⟨hN, h1⟩, h3⟩;exact ⟨hN, by rw [take_heap h ho ha hN, hq, if_neg h3, h1, e2]⟩
    ·rintro ⟨hN, h1⟩;rw [take_heap h ho ha hN, hq] at h1;by_cases e3 : x = q
     ·rw [if_pos e3] at h1;exact absurd h1.symm e
     ·rw [if_neg e3, e2] at h1;exact ⟨⟨hN, h1⟩, e3⟩
   ·rw [if_neg e2, h.hm c hc'];constructor
    ·rintro ⟨hN, h1⟩;refine ⟨hN, ?_⟩;rw [take_heap h ho ha hN, hq, if_neg]
     ·exact h1
     ·rintro rfl;exact e2 (h1.symm.trans t2)
    ·rintro ⟨hN, h1⟩;rw [take_heap h ho ha hN, hq] at h1;by_cases e3 : x = q
     ·rw [if_pos e3] at h1;exact absurd h1.symm e
     ·rw [if_neg e3] at h1;exact ⟨hN, h1⟩
 ·intro c hc;rw [hlen] at hc;rw [take_heaps ho hc];split
  ·simp
  ·split
   ·intro hnil;have := congrArg List.length hnil;rw [List.length_eraseIdx_of_lt ha] at this;simp at this;omega
   ·exact h.he c ⟨hc.1, by have := hc.2; omega⟩
theorem Wt.take {w : Int → Bool} (hw : Wt p w) (ho : Nd p.heaps.length old) (ha : a < (gl p.heaps old).length) (h2 : 2 ≤ (gl p.heaps old).length) :
  Wt (takeP p old a) fun x => w x && !(decide (x = old) && decide ((gl p.heaps old).length = 2)) := by
 intro c
 have hlen : (takeP p old a).heaps.length = p.heaps.length + 1 := by simp [takeP]
 rw [hlen, Bool.and_eq_true, hw c]
 constructor
 ·rintro ⟨⟨h1, h3⟩, h4⟩
  refine ⟨h1.mono (by omega), ?_⟩
  rw [take_heaps ho (h1.mono (by omega)), if_neg (by have := h1.2; omega)]
  by_cases e : c = old
  ·subst e
   rw [if_pos rfl, List.length_eraseIdx_of_lt ha]
   simp at h4
   omega
  ·rw [if_neg e]; exact h3
 ·rintro ⟨h1, h3⟩
  rw [take_heaps ho h1] at h3
  by_cases e : c = (p.heaps.length : Int)
  ·rw [if_pos e] at h3
   simp at h3
  ·rw [if_neg e] at h3
   have hc' : Nd p.heaps.length c := ⟨h1.1, by have := h1.2; omega⟩
   by_cases e2 : c = old
   ·subst e2
    rw [if_pos rfl, List.length_eraseIdx_of_lt ha] at h3
    refine ⟨⟨hc', h2⟩, ?_⟩
    simp
    omega
   ·rw [if_neg e2] at h3
    exact ⟨⟨hc', h3⟩, by simp [e2]⟩
theorem PW.apart (h : PW n p) (hw : ∀ c, Nd p.heaps.length c → (gl p.heaps c).length < 2) {x y : Int} (hx : Nd n x) (hy : Nd n y) (e : HP p x = HP p y) : gi p.block x = gi p.block y := by
 have h1 := (h.hm _ (h.hr _ (h.br x hx)) (gi p.block x)).2 ⟨h.br x hx, rfl⟩
 have h2 := (h.hm _ (h.hr _ (h.br x hx)) (gi p.block y)).2 ⟨h.br y hy, e.symm⟩
 have h3 := hw _ (h.hr _ (h.br x hx))
 generalize gl p.heaps (gi p.heap (gi p.block x)) = l at h1 h2 h3
 match l, h3 with
 | [], _ => cases h1
 | [z], _ =>
  rw [List.mem_singleton.1 h1, List.mem_singleton.1 h2]
end
def cntE (es : List Ed) (P : Int → Bool) (s l : Int) : Int := ((es.filter fun e => decide (e.f0 = s) && decide (e.f1 = l) && P e.f2).length : Nat)
theorem cntE_congr {es : List Ed} {P Q : Int → Bool} (h : ∀ e ∈ es, P e.f2 = Q e.f2) (s l : Int) : cntE es P s l = cntE es Q s l := by
 unfold cntE
 congr 2
 refine List.filter_congr fun e he => ?_
 rw [h e he]
theorem cntE_pos {es : List Ed} {P : Int → Bool} {s l : Int} : cntE es P s l ≠ 0 ↔ ∃ e ∈ es, e.f0 = s ∧ e.f1 = l ∧ P e.f2 = true := by
 unfold cntE
 constructor
 ·intro h
  have h1 : (es.filter fun e => decide (e.f0 = s) && decide (e.f1 = l) && P e.f2) ≠ [] := fun e => h (by rw [e]; rfl)
  obtain ⟨e, he⟩ := List.exists_mem_of_ne_nil _ h1
  obtain ⟨h2, h3⟩ := List.mem_filter.1 he
  simp only [Bool.and_eq_true, decide_eq_true_eq] at h3
  exact ⟨e, h2, h3.1.1, h3.1.2, h3.2⟩
 ·rintro ⟨e, he, h0, h1, h2⟩ h3
  have : e ∈ es.filter fun e => decide (e.f0 = s) && decide (e.f1 = l) && P e.f2 := List.mem_filter.2 ⟨he, by simp [h0, h1, h2]⟩
  have h4 := List.length_pos_of_mem this
  omega
theorem cntE_nn (es : List Ed) (P : Int → Bool) (s l : Int) : 0 ≤ cntE es P s l ∧ cntE es P s l ≤ es.length := by
 unfold cntE
 have := List.length_filter_le (fun e : Ed => decide (e.f0 = s) && decide (e.f1 = l) && P e.f2) es
 omega
theorem len_split {α : Type} (P Q : α → Bool) (l : List α) : (l.filter P).length = (l.filter fun x => P x && Q x).length + (l.filter fun x => P x && !Q x).length := by
 induction l with
 | nil => rfl
 | cons x r ih =>
  simp only [List.filter_cons]
  cases P x <;> cases Q x <;> simp <;> omega
theorem cntE_sub (es : List Ed) (P Q : Int → Bool) (h : ∀ e ∈ es, Q e.f2 = true → P e.f2 = true) (s l : Int) : cntE es P s l - cntE es Q s l = cntE es (fun x => P x && !Q x) s l := by
 have h1 := len_split (fun e : Ed => decide (e.f0 = s) && decide (e.f1 = l) && P e.f2) (fun e => Q e.f2) es
 have h2 : (es.filter fun e => (decide (e.f0 = s) && decide (e.f1 = l) && P e.f2) && Q e.f2) = es.filter fun e => decide (e.f0 = s) && decide (e.f1 = l) && Q e.f2 := by
  refine List.filter_congr fun e he => ?_
  have := h e he
  cases hq : Q e.f2
  ·simp
  ·rw [this hq]; simp
 have h3 : (es.filter fun e => (decide (e.f0 = s) && decide (e.f1 = l) && P e.f2) && !Q e.f2) = es.filter fun e => decide (e.f0 = s) && decide (e.f1 = l) && (P e.f2 && !Q e.f2) := by
  refine List.filter_congr fun e he => ?_
  rw [Bool.and_assoc]
 rw [h2, h3] at h1
 unfold cntE
 show ((es.filter fun e => decide (e.f0 = s) && decide (e.f1 = l) && P e.f2).length : Int) - ((es.filter fun e => decide (e.f0 = s) && decide (e.f1 = l) && Q e.f2).length : Int) = ((es.filter fun e => decide (e.f0 = s) && decide (e.f1 = l) && (P e.f2 && !Q e.f2)).length : Int)
 omega
end Go.Proofs.Ytmcbkmfpmcbdpaa.H
namespace Go.Proofs.Ytmcbkmfpmcbdpaa.H
open Go.RowKit Go.Proofs.Ytmcbkmfpmcbdpaa.Pr Go.Proofs.YtmcbkmfpmcbdpaaW.PrintWords Go.Proofs.Ytmcbkmfpmcbdpaa.Sem
open Go.Maps (Keyed)
open Go.ChangeMaps
def ptV (p : Int × Int) : Value := .agg #[.int .i64 p.1, .int .i64 p.2]
def ptL (p : Int × Int) : Lit := .string (keyBytes [.int .i64 p.1, .int .i64 p.2])
def ptOk (p : Int × Int) : Prop := i64in p.1 ∧ i64in p.2
theorem pt_keyed : Keyed Try.prog 167 := Keyed.of_law (deep_law_laid laid_out (m := 2) (by omega) (of_decide_eq_true (by kernel_rfl)) (by kernel_rfl) (by kernel_rfl))
theorem pt_type : Try.prog.keyType 167 = true := by kernel_rfl
theorem pt_cells : Try.prog.cellsOf 167 = 2 := by kernel_rfl
theorem pt_int : Try.prog.cellsOf 3 = 1 := by kernel_rfl
theorem pt_under : ∃ fs, Try.prog.underlying 167 = some (.struct fs) ∧ (fs.toList.map fun f => (f.type, f.offset)) = [(3, 0), (3, 1)] ∧ fs.all (fun f => f.name != "_") = true := ⟨_, Try.underlying167, by kernel_rfl, by kernel_rfl⟩
theorem pt_types : ∃ m, Try.prog.types.size = m + 3 := ⟨Try.prog.types.size - 3, by have : 3 ≤ Try.prog.types.size := of_decide_eq_true (by kernel_rfl); omega⟩
theorem keyLits_i (d : Nat) {a : Int} (h : i64in a) : Try.prog.keyLits (d + 1) 3 [.int .i64 a] = some [.int .i64 a] := by
 unfold Program.keyLits
 simp only [Try.underlying3]
 rw [if_pos ⟨trivial, ik_wf h⟩]
theorem pt_lits (d : Nat) (a b : Value) : Try.prog.keyLits (d + 2) 167 [a, b] = (Try.prog.keyLits (d + 1) 3 [a]).bind fun x => (Try.prog.keyLits (d + 1) 3 [b]).bind fun y => some (x ++ y) := by
 obtain ⟨fs, hu, hf, hn⟩ := pt_under
 conv => lhs; unfold Program.keyLits
 simp only [hu]
 rw [if_pos ⟨by rw [pt_cells]; rfl, by exact hn⟩]
 have e : (fs.toList.mapM fun f => Try.prog.keyLits (d + 1) f.type (([a, b].drop f.offset).take (Try.prog.cellsOf f.type))) = (fs.toList.map fun f => (f.type, f.offset)).mapM fun p => Try.prog.keyLits (d + 1) p.1 (([a, b].drop p.2).take (Try.prog.cellsOf p.1)) := by
  generalize fs.toList = L
  induction L with
  | nil => rfl
  | cons x r ih => simp only [List.mapM_cons, List.map_cons, ih]
 rw [e, hf]
 simp only [List.mapM_cons, List.mapM_nil, pt_int, List.drop_zero, List.take_succ_cons, List.take_zero, List.drop_succ_cons]
 cases h1 : Try.prog.keyLits (d + 1) 3 [a] <;> cases h2 : Try.prog.keyLits (d + 1) 3 [b] <;> simp
theorem pt_key {p : Int × Int} (h : ptOk p) : keyOf Try.prog 167 (ptV p) = some (ptL p) := by
 obtain ⟨fs, hu, hf, hn⟩ := pt_under
 obtain ⟨m, hm⟩ := pt_types
 unfold keyOf ptV ptL
 simp only [hu]
 rw [if_pos (by rw [pt_type]; simp [Value.formed, hu, pt_cells]), hm]
 show (Try.prog.keyLits (m + 2 + 2) 167 [.int .i64 p.1, .int .i64 p.2]).map _ = _
 rw [pt_lits, keyLits_i _ h.1, keyLits_i _ h.2]
 rfl
theorem keyLits_inv {d : Nat} {v : Value} {l : List Lit} (h : Try.prog.keyLits (d + 1) 3 [v] = some l) : ∃ a, v = .int .i64 a ∧ i64in a ∧ l = [.int .i64 a] := by
 obtain ⟨a, h1, rfl⟩ := keyLits_int' Try.underlying3 h
 obtain rfl : v = .int .i64 a := by simpa using h1
 refine ⟨a, rfl, ?_, rfl⟩
 unfold Program.keyLits at h
 simp only [Try.underlying3] at h
 split at h
 ·rename_i hc
  exact wf_in hc.2
 ·cases h
set_option maxRecDepth 10000 in
theorem pt_inv {v : Value} {kl : Lit} (h : keyOf Try.prog 167 v = some kl) : ∃ p, ptOk p ∧ v = ptV p ∧ kl = ptL p := by
 obtain ⟨fs, hu, hf, hn⟩ := pt_under
 obtain ⟨m, hm⟩ := pt_types
 unfold keyOf at h
 simp only [hu] at h
 split at h
 ·rename_i hc
  rw [pt_type, Bool.true_and] at hc
  obtain ⟨cs, rfl⟩ : ∃ cs, v = .agg cs := by
   unfold Value.formed at hc
   cases v <;> simp [hu] at hc
   exact ⟨_, rfl⟩
  have hs : cs.size = 2 := by
   unfold Value.formed at hc
   simpa [hu, pt_cells] using hc
  obtain ⟨l⟩ := cs
  match l, hs with
  | [a, b], _ =>
   rw [hm, show m + 3 + 1 = m + 2 + 2 from rfl, show (Value.agg ⟨[a, b]⟩).cells.toList = [a, b] from rfl] at h
   rw [pt_lits] at h
   cases h1 : Try.prog.keyLits (m + 2 + 1) 3 [a] with
   | none => rw [h1] at h; cases h
   | some x =>
    cases h2 : Try.prog.keyLits (m + 2 + 1) 3 [b] with
    | none => rw [h1, h2] at h; cases h
    | some y =>
     rw [h1, h2] at h
     obtain ⟨a', rfl, ha, rfl⟩ := keyLits_inv h1
     obtain ⟨b', rfl, hb, rfl⟩ := keyLits_inv h2
     simp only [Option.bind_some, Option.map_some, Option.some.injEq] at h
     exact ⟨(a', b'), ⟨ha, hb⟩, rfl, h.symm⟩
 ·cases h
theorem ptKB : KB Try.prog 167 ptV ptL ptOk where
 K := pt_keyed
 key := fun a ha => pt_key ha
 inv := fun v kl h => pt_inv h
 inj := fun a b h => by
  unfold ptV at h
  obtain ⟨a1, a2⟩ := a
  obtain ⟨b1, b2⟩ := b
  simpa using h
end Go.Proofs.Ytmcbkmfpmcbdpaa.H
namespace Go.Proofs.Ytmcbkmfpmcbdpaa.H
open Go.RowKit Go.Proofs.Ytmcbkmfpmcbdpaa.Pr Go.Proofs.YtmcbkmfpmcbdpaaW.PrintWords Go.Proofs.Ytmcbkmfpmcbdpaa.Sem Go.Proofs.YtmcbkmfpmcbdpaaW.PrintLast
abbrev Sl := Option Addr × Nat × Nat
def slV (x : Sl) : Value := .slice x.1 x.2.1 x.2.2
def kSl : Kd Sl := Kd.scalar slV (fun _ => rfl)
abbrev nilL : Sl := (none, 0, 0)
theorem infoSI : (Try.prog.info? 28).map (fun i => (i.zero, i.size, i.bytes)) = some (some (.slice none 0 0), 1, 24) := by kernel_rfl
theorem infoI : (Try.prog.info? 3).map (fun i => (i.zero, i.size, i.bytes)) = some (some (.int .i64 0), 1, 8) := by kernel_rfl
theorem run_st1 {P : Program} (w : World) (g i : Nat) (ty : TypeId) (v : Value) (h1 : v.oneCell' = true) (hc : ∃ old, w.cell? ⟨g, i, none⟩ = some old) (hf : w.frozen? ⟨g, i, none⟩ = false) (hi : (P.info? ty).map (·.size) = some 1) :
  (storeVar ty ⟨g, i, none⟩ v).run P w = .ok () (w.setCell ⟨g, i, none⟩ v) := by
 obtain ⟨old, hc⟩ := hc
 have hcs : v.cells = #[v] := by cases v <;> first | rfl | cases h1
 cases hq : P.info? ty with
 | none => simp [hq] at hi
 | some k =>
  have hs : k.size = 1 := by simpa [hq] using hi
  have ha : (⟨g, i, none⟩ : Addr).add 0 = ⟨g, i, none⟩ := by unfold Addr.add; split <;> simp_all
  simp [storeVar, sizeOf, typeInfo, hq, hcs, hs, storeCells, run_store _ _ _ _ _ h1, ha, hc, hf]
theorem wpList_st1 {P : Program} {w : World} {ops : Array Oper} {rest : List Oper} {o : Oper} {a : Act} {Q : Exit → Act → World → Prop} (hgd : o.guard = none) (ty : TypeId) (x y : Operand) (ho : o.op = .store ty x y)
  (g i : Nat) (v : Value) (hx : a.eval x = .pointer (some ⟨g, i, none⟩)) (hy : a.eval y = v) (h1 : v.oneCell' = true) (hc : ∃ old, w.cell? ⟨g, i, none⟩ = some old) (hf : w.frozen? ⟨g, i, none⟩ = false) (hi : (P.info? ty).map (·.size) = some 1)
  (h : ∀ w1, w1 = w.setCell ⟨g, i, none⟩ v → wpList P ops Q rest (a.put o.dst undef) w1) : wpList P ops Q (o :: rest) a w :=
 wpList_plain hgd fun _ hK => by
  unfold Oper.wp execOp
  simp only [ho, hx, hy, Instr.storeAt, Instr.sureAddr, Sem.run_bind, Sem.run_pure, Result.andThen_ok, run_st1 w g i ty v h1 hc hf hi]
  exact hK _ _ (h _ rfl)
theorem sizeI : (Try.prog.info? 3).map (·.size) = some 1 := by kernel_rfl
theorem sizeSI : (Try.prog.info? 28).map (·.size) = some 1 := by kernel_rfl
theorem sizeSSI : (Try.prog.info? 40).map (·.size) = some 1 := by kernel_rfl
inductive Cl where
  | tt | blk | hp | bs | hs | mc | mw | tab | tro
  | bro (i : Nat) | hro (i : Nat) | cmp (i : Nat) | far (j : Nat)
def Cl.own : Cl → Bool
 | .far _ => false
 | _ => true
abbrev IR (w : World) (base : Nat) (cls : Nat → Cl) (c : Cl) (v : Value) (xs : List Int) : Prop := Kd.R (Kd.int .i64) 3 w base (fun k => cls k = c) v xs
abbrev SR (w : World) (base : Nat) (cls : Nat → Cl) (c : Cl) (v : Value) (xs : List Sl) : Prop := Kd.R kSl 28 w base (fun k => cls k = c) v xs
abbrev XR (w : World) (base : Nat) (cls : Nat → Cl) (c : Cl) (v : Value) (xs : List Sl) : Prop := Kd.R kSl 23 w base (fun k => cls k = c) v xs
abbrev ER (w : World) (base : Nat) (cls : Nat → Cl) (c : Cl) (v : Value) (xs : List Ed) : Prop := Kd.R k80 80 w base (fun k => cls k = c) v xs
abbrev G1 (w : World) (m : Nat) (f : Int → Option Value) (c : Nat) : Prop := GM Try.prog 3 ik i64in w m f c
abbrev G2 (w : World) (m : Nat) (f : Int × Int → Option Value) (c : Nat) : Prop := GM Try.prog 167 ptL ptOk w m f c
structure Sg where
  tc : List Value
  vI : Value
  is : List Sl
  ins : List (List Ed)
  vB : Value
  block : List Int
  vBs : Value
  bs : List Sl
  bsl : List Sl
  blocks : List (List Int)
  vH : Value
  heap : List Int
  vHs : Value
  hs : List Sl
  hsl : List Sl
  heaps : List (List Int)
  mC : Nat
  fC : Int → Option Value
  cC : Nat
  cm : List Nat
  fc : Nat → Int × Int → Option Value
  cc : Nat → Nat
  mW : Nat
  fW : Int → Option Value
  cW : Nat
def Part (base T : Nat) (w : World) (cls : Nat → Cl) (s : Sg) : Cl → Prop
 | .tt => w.heap[T]? = some (.cells s.tc.toArray 90 (0, 0)) ∧ cls T = .tt ∧ base ≤ T
 | .blk => IR w base cls .blk s.vB s.block
 | .hp => IR w base cls .hp s.vH s.heap
 | .bs => SR w base cls .bs s.vBs s.bs
 | .hs => SR w base cls .hs s.vHs s.hs
 | .tab => XR w base cls .tab s.vI s.is
 | .tro => ∀ i, i < s.is.length → ER w base cls .tro (slV (s.is.getD i nilL)) (s.ins.getD i [])
 | .bro i => i < s.bsl.length → IR w base cls (.bro i) (slV (s.bsl.getD i nilL)) (s.blocks.getD i [])
 | .hro i => i < s.hsl.length → IR w base cls (.hro i) (slV (s.hsl.getD i nilL)) (s.heaps.getD i [])
 | .mc => cls s.mC = .mc ∧ G1 w s.mC s.fC s.cC ∧ base ≤ s.mC
 | .mw => cls s.mW = .mw ∧ G1 w s.mW s.fW s.cW ∧ base ≤ s.mW
 | .cmp i => i < s.cm.length → cls (s.cm.getD i 0) = .cmp i ∧ G2 w (s.cm.getD i 0) (s.fc i) (s.cc i) ∧ base ≤ s.cm.getD i 0
 | .far _ => True
def SP (base T : Nat) (w : World) (cls : Nat → Cl) (s : Sg) : Prop := ∀ c, Part base T w cls s c
section
variable {base T : Nat} {w w1 : World} {cls cls' : Nat → Cl} {s s' : Sg} {c : Cl} {C : Cl → Prop}
theorem R_moved {α : Type} {d : Kd α} {e : Nat} {v : Value} {xs : List α} (h : d.R e w base (fun k => cls k = c) v xs) (hk : Kept w w1 (fun k => C (cls k))) (hc : ¬ C c) (hcl : ∀ k, k < w.heap.size → cls k = c → cls' k = c) : d.R e w1 base (fun k => cls' k = c) v xs :=
 Kd.R_mono (Kd.R_move (Kd.R_bound h) fun k hk2 => hk.2 k hk2.2.2.1 (by show ¬ C (cls _); rw [hk2.1]; exact hc)) fun k hk2 => hcl k hk2.2.2.1 hk2.1
theorem Part.move (h : Part base T w cls s c) (hk : Kept w w1 (fun k => C (cls k))) (hc : ¬ C c) (hcl : ∀ k, k < w.heap.size → cls k = c → cls' k = c) : Part base T w1 cls' s c := by
 have blk : ∀ {m : Nat} {o : Obj}, cls m = c → w.heap[m]? = some o → w1.heap[m]? = some o := fun hm ho => blk_kept ho hk (by show ¬ C (cls _); rw [hm]; exact hc)
 cases c with
 | tt => exact ⟨blk h.2.1 h.1, hcl T (blk_lt h.1) h.2.1, h.2.2⟩
 | blk => exact R_moved h hk hc hcl
 | hp => exact R_moved h hk hc hcl
 | bs => exact R_moved h hk hc hcl
 | hs => exact R_moved h hk hc hcl
 | tab => exact R_moved h hk hc hcl
 | tro => exact fun i hi => R_moved (h i hi) hk hc hcl
 | bro i => exact fun hi => R_moved (h hi) hk hc hcl
 | hro i => exact fun hi => R_moved (h hi) hk hc hcl
 | mc => exact ⟨hcl _ h.2.1.lt_ h.1, h.2.1.same (hk.2 _ h.2.1.lt_ (by show ¬ C (cls _); rw [h.1]; exact hc)), h.2.2⟩
 | mw => exact ⟨hcl _ h.2.1.lt_ h.1, h.2.1.same (hk.2 _ h.2.1.lt_ (by show ¬ C (cls _); rw [h.1]; exact hc)), h.2.2⟩
 | cmp i => exact fun hi => ⟨hcl _ (h hi).2.1.lt_ (h hi).1, (h hi).2.1.same (hk.2 _ (h hi).2.1.lt_ (by show ¬ C (cls _); rw [(h hi).1]; exact hc)), (h hi).2.2⟩
 | far j => trivial
theorem SP.upd (h : SP base T w cls s) (C : Cl → Prop) (hk : Kept w w1 (fun k => C (cls k))) (hcl : ∀ k, k < w.heap.size → (cls k).own = true → cls' k = cls k)
  (same : ∀ c, ¬ C c → Part base T w1 cls' s c → Part base T w1 cls' s' c) (new : ∀ c, C c → Part base T w1 cls' s' c) : SP base T w1 cls' s' := by
 intro c
 by_cases hc : C c
 ·exact new c hc
 ·cases ho : c.own with
  | true => exact same c hc (Part.move (h c) hk hc fun k hk2 e => by rw [hcl k hk2 (by rw [e]; exact ho), e])
  | false =>
   cases c <;> first | trivial | cases ho
theorem SP.stay (h : SP base T w cls s) (hk : Kept w w1 (fun k => (cls k).own = false)) (hcl : ∀ k, k < w.heap.size → (cls k).own = true → cls' k = cls k) : SP base T w1 cls' s :=
 h.upd (fun c => c.own = false) hk hcl (fun c _ hp => hp) fun c hc => by cases c <;> first | trivial | cases hc
theorem SP.below (h : SP base T w cls s) (hb : Below w.heap.size w w1) : SP base T w1 cls s := h.stay (Kept.of_below hb _) fun _ _ _ => rfl
theorem IR.far {j : Nat} {v : Value} {xs : List Int} (h : IR w base cls (.far j) v xs) (hk : Kept w w1 (fun k => (cls k).own = true)) (hcl : ∀ k, k < w.heap.size → cls k = .far j → cls' k = .far j) : IR w1 base cls' (.far j) v xs :=
 R_moved (C := fun c => c.own = true) h hk (by simp [Cl.own]) hcl
theorem IR.alloc {v : Value} {xs : List Int} (h : IR w base cls c v xs) (o : Obj) : IR (w.alloc o) base cls c v xs := Kd.R_alloc h o
noncomputable def up (cls : Nat → Cl) (v : Value) (c : Cl) : Nat → Cl := fun k => if v.ownBlock = some k then c else cls k
theorem up_self {v : Value} {k : Nat} (h : v.ownBlock = some k) : up cls v c k = c := by unfold up; rw [if_pos h]
theorem up_ne {v : Value} {k : Nat} (h : v.ownBlock ≠ some k) : up cls v c k = cls k := by unfold up; rw [if_neg h]
theorem up_keep {v v9 : Value} (hat : v9.ownBlock = v.ownBlock ∨ ∃ b, v9.ownBlock = some b ∧ w.heap.size ≤ b) (hv : ∀ k, v.ownBlock = some k → cls k = c) : ∀ k, k < w.heap.size → up cls v9 c k = cls k := by
 intro k hk
 unfold up
 split
 ·rename_i e
  rcases hat with hat | ⟨b, hb, hle⟩
  ·exact (hv k (by rw [← hat]; exact e)).symm
  ·rw [hb] at e
   cases e
   omega
 ·rfl
theorem R_up {α : Type} {d : Kd α} {e : Nat} {v : Value} {xs : List α} {ok : Nat → Prop} (hE : d.E = []) (h : d.R e w base ok v xs) : d.R e w base (fun k => up cls v c k = c) v xs := Kd.R_mono (Kd.R_tight hE h) fun k hk => up_self hk.symm
theorem kept_grown {row : Option Nat} (hg : w.grownBy w1 row) {S : Nat → Prop} (hr : ∀ k, row = some k → S k) : Kept w w1 S := ⟨hg.size, fun i hi hn => hg.block i hi fun e => hn (hr i e.symm)⟩
theorem set_at {g i : Nat} {cs : List Value} {t : TypeId} {v : Value} (h : w.heap[g]? = some (.cells cs.toArray t (0, 0))) : (w.setCell ⟨g, i, none⟩ v).heap[g]? = some (.cells (cs.set i v).toArray t (0, 0)) := by
 simp [World.setCell, Array.getElem?_modify, h]
theorem cell_at {g i : Nat} {cs : List Value} {t : TypeId} (h : w.heap[g]? = some (.cells cs.toArray t (0, 0))) (hi : i < cs.length) : w.cell? ⟨g, i, none⟩ = some cs[i] := by
 have := blk_cell h i
 rw [this]
 simp [hi]
theorem SP.ownT (h : SP base T w cls s) : T < w.heap.size := blk_lt (h .tt).1
theorem SP.cell (h : SP base T w cls s) (i : Nat) (v : Value) (hi : s.tc[i]? = some v) : w.cell? ⟨T, i, none⟩ = some v := by
 obtain ⟨hl, e⟩ := List.getElem?_eq_some_iff.1 hi
 rw [cell_at (h .tt).1 hl, e]
theorem SP.setT (h : SP base T w cls s) (i : Nat) (v : Value) : SP base T (w.setCell ⟨T, i, none⟩ v) cls { s with tc := s.tc.set i v } := by
 have hc := (h .tt).2.1
 refine h.upd (· = .tt) ((Kept.refl w _).setCell (.inl hc) v) (fun _ _ _ => rfl) (fun c hne hp => ?_) (fun c e => ?_)
 ·cases c <;> first | exact hp | exact absurd rfl hne
 ·subst e
  exact ⟨set_at (h .tt).1, hc, (h .tt).2.2⟩
theorem SP.setBlk (h : SP base T w cls s) {g c0 : Nat} (hv : s.vB = .slice (some ⟨g, 0, none⟩) s.block.length c0) (x : Nat) (v : Int) : SP base T (w.setCell ⟨g, x, none⟩ (.int .i64 v)) cls { s with block := s.block.set x v } := by
 have h1 : IR w base cls .blk s.vB s.block := h .blk
 rw [hv] at h1
 obtain ⟨h2, hg⟩ := Kd.R_put h1 (x : Int) v
 rw [Int.toNat_natCast] at h2 hg
 refine h.upd (· = .blk) (kept_grown hg fun k e => by cases e; exact h1.1 g rfl) (fun _ _ _ => rfl) (fun c hne hp => ?_) (fun c e => ?_)
 ·cases c <;> first | exact hp | exact absurd rfl hne
 ·subst e
  show IR _ _ _ _ s.vB _
  rw [hv]
  have h3 := h2
  rw [show (Kd.scalar (Value.int IntKind.i64) _) = Kd.int .i64 from rfl] at h3
  simpa using h3
theorem SP.setHp (h : SP base T w cls s) {g c0 : Nat} (hv : s.vH = .slice (some ⟨g, 0, none⟩) s.heap.length c0) (x : Nat) (v : Int) : SP base T (w.setCell ⟨g, x, none⟩ (.int .i64 v)) cls { s with heap := s.heap.set x v } := by
 have h1 : IR w base cls .hp s.vH s.heap := h .hp
 rw [hv] at h1
 obtain ⟨h2, hg⟩ := Kd.R_put h1 (x : Int) v
 rw [Int.toNat_natCast] at h2 hg
 refine h.upd (· = .hp) (kept_grown hg fun k e => by cases e; exact h1.1 g rfl) (fun _ _ _ => rfl) (fun c hne hp => ?_) (fun c e => ?_)
 ·cases c <;> first | exact hp | exact absurd rfl hne
 ·subst e
  show IR _ _ _ _ s.vH _
  rw [hv]
  have h3 := h2
  rw [show (Kd.scalar (Value.int IntKind.i64) _) = Kd.int .i64 from rfl] at h3
  simpa using h3
theorem gD_set {α : Type} (l : List α) (i j : Nat) (x d : α) (hi : i < l.length) : (l.set i x).getD j d = if j = i then x else l.getD j d := by
 by_cases e : j = i
 ·subst e; simp [List.getD_eq_getElem?_getD, hi]
 ·rw [if_neg e]; simp [List.getD_eq_getElem?_getD, List.getElem?_set, Ne.symm e]
theorem gD_snoc {α : Type} (l : List α) (j : Nat) (x d : α) : (l ++ [x]).getD j d = if j = l.length then x else l.getD j d := by
 by_cases e : j = l.length
 ·subst e; simp [List.getD_eq_getElem?_getD]
 ·rw [if_neg e]
  rcases Nat.lt_or_gt_of_ne e with h | h
  ·simp [List.getD_eq_getElem?_getD, List.getElem?_append_left h]
  ·rw [List.getD_eq_getElem?_getD, List.getD_eq_getElem?_getD, List.getElem?_eq_none (by simp; omega), List.getElem?_eq_none (by omega)]
theorem SP.setBs (h : SP base T w cls s) {g c0 : Nat} (hv : s.vBs = .slice (some ⟨g, 0, none⟩) s.bs.length c0) (b : Nat) (r : Sl) (rest : List Int) {j : Nat} (hr : IR w base cls (.far j) (slV r) rest) (hb : b < s.bsl.length) (hbl : s.blocks.length = s.bsl.length) :
  SP base T (w.setCell ⟨g, b, none⟩ (slV r)) (up cls (slV r) (.bro b)) { s with bs := s.bs.set b r, bsl := s.bsl.set b r, blocks := s.blocks.set b rest } := by
 have h1 : SR w base cls .bs s.vBs s.bs := h .bs;rw [hv] at h1;obtain ⟨h2, hg⟩ := Kd.R_put h1 (b : Int) r;rw [Int.toNat_natCast] at h2 hg;have hgc : cls g = .bs := h1.1 g rfl;have hnew : ∀ k, (slV r).ownBlock = some k → cls k = .far j := fun k hk => hr.1 k hk
 have hcl : ∀ k, (cls k).own = true → up cls (slV r) (.bro b) k = cls k := fun k ho => up_ne fun e => by rw [hnew k e] at ho; cases ho
 have hK : Kept w (w.setCell ⟨g, b, none⟩ (slV r)) (fun k => cls k = .bs) := kept_grown hg fun k e => by cases e; exact hgc
 refine h.upd (fun c => c = .bs ∨ c = .bro b) (hK.mono fun k hk => .inl hk) (fun k _ ho => hcl k ho) (fun c hne hp => ?_) (fun c e => ?_)
 ·cases c with
  | bro i =>
   have hi : i ≠ b := fun e => hne (.inr (by rw [e]))
   intro hl;have hl' : i < s.bsl.length := by simpa using hl
   show IR _ _ _ _ (slV ((s.bsl.set b r).getD i nilL)) ((s.blocks.set b rest).getD i []);rw [gD_set _ _ _ _ _ hb, gD_set _ _ _ _ _ (by omega), if_neg hi, if_neg hi];exact hp hl'
  | bs => exact absurd (.inl rfl) hne
  | _ => exact hp
 ·rcases e with rfl | rfl
  ·show SR _ _ _ _ s.vBs _;rw [hv];have h3 : SR (w.setCell ⟨g, b, none⟩ (slV r)) base cls .bs (.slice (some ⟨g, 0, none⟩) s.bs.length c0) (s.bs.set b r) := h2;have h4 : SR (w.setCell ⟨g, b, none⟩ (slV r)) base (up cls (slV r) (.bro b)) .bs (.slice (some ⟨g, 0, none⟩) s.bs.length c0) (s.bs.set b r) := Kd.R_mono h3 fun k hk => by rw [hcl k (by rw [hk]; rfl)]; exact hk
   simpa using h4
  ·intro _;show IR _ _ _ _ (slV ((s.bsl.set b r).getD b nilL)) ((s.blocks.set b rest).getD b []);rw [gD_set _ _ _ _ _ hb, gD_set _ _ _ _ _ (by omega), if_pos rfl, if_pos rfl];exact R_up rfl (R_moved (cls' := cls) (C := fun c => c = .bs) hr hK (by simp) fun _ _ e => e)
theorem SP.pushBs (h : SP base T w cls s) {w9 : World} {v9 : Value} (r : Sl) (rest : List Int) {j : Nat} (hr : IR w base cls (.far j) (slV r) rest) (hbl : s.blocks.length = s.bsl.length) (hl : s.bs.length = s.bsl.length)
  (ho : Kd.R kSl 28 w9 base (fun k => cls k = .bs ∨ w.heap.size ≤ k) v9 (s.bs ++ [r])) (hg : w.grownBy w9 s.vBs.ownBlock) (hat : v9.ownBlock = s.vBs.ownBlock ∨ ∃ b, v9.ownBlock = some b ∧ w.heap.size ≤ b) :
  SP base T (w9.setCell ⟨T, 5, none⟩ v9) (up (up cls v9 .bs) (slV r) (.bro s.bsl.length)) { s with vBs := v9, bs := s.bs ++ [r], bsl := s.bsl ++ [r], blocks := s.blocks ++ [rest], tc := s.tc.set 5 v9 } := by
 have hT := (h .tt).2.1;have hTl := h.ownT;have hob : ∀ k, s.vBs.ownBlock = some k → cls k = .bs := (h .bs).1;have hk1 := up_keep (c := .bs) hat hob;have hnew : ∀ k, (slV r).ownBlock = some k → cls k = .far j := fun k hk => hr.1 k hk
 have hrl : ∀ k, (slV r).ownBlock = some k → k < w.heap.size := Kd.R_lt hr
 have hv9r : ∀ k, v9.ownBlock = some k → (slV r).ownBlock ≠ some k := fun k hk e => by
  rcases ho.1 k hk with h1 | h1
  ·rw [hnew k e] at h1; cases h1
  ·have := hrl k e; omega
 have hcl : ∀ k, k < w.heap.size → (cls k).own = true → up (up cls v9 .bs) (slV r) (.bro s.bsl.length) k = cls k := fun k hk ho2 => by
  rw [up_ne fun e => by rw [hnew k e] at ho2; cases ho2];exact hk1 k hk
 have hK1 : Kept w w9 (fun k => cls k = .bs) := kept_grown hg hob;have hK : Kept w (w9.setCell ⟨T, 5, none⟩ v9) (fun k => cls k = .bs ∨ cls k = .tt) := (hK1.mono fun k hk => .inl hk).setCell (.inl (.inr hT)) v9;have hT9 : w9.heap[T]? = some (.cells s.tc.toArray 90 (0, 0)) := blk_kept (h .tt).1 hK1 (by show ¬ cls T = _; rw [hT]; simp);refine h.upd (fun c => c = .bs ∨ c = .tt ∨ c = .bro s.bsl.length) (hK.mono fun k hk => hk.elim .inl fun e => .inr (.inl e)) hcl (fun c hne hp => ?_) (fun c e => ?_)
 ·cases c with
  | bro i =>
   have hi : i ≠ s.bsl.length := fun e => hne (.inr (.inr (by rw [e])))
   intro hl2
   have hl' : i < s.bsl.length := by
    have : i < (s.bsl ++ [r]).length := hl2;simp at this;omega
   show IR _ _ _ _ (slV ((s.bsl ++ [r]).getD i nilL)) ((s.blocks ++ [rest]).getD i []);rw [gD_snoc, gD_snoc, if_neg hi, if_neg (by omega)];exact hp hl'
  | bs => exact absurd (.inl rfl) hne
  | tt => exact absurd (.inr (.inl rfl)) hne
  | _ => exact hp
 ·rcases e with rfl | rfl | rfl
  ·have h3 := Kd.R_far (p := ⟨T, 5, none⟩) ho (fun k hk e => by
    have e : k = T := e;rw [e] at hk;rcases hk with h1 | h1
    ·rw [hT] at h1; cases h1
    ·have : w.heap.size ≤ T := h1;omega) v9
   exact Kd.R_mono (Kd.R_tight rfl h3) fun k hk => by
    rw [up_ne (hv9r k hk.symm)];exact up_self hk.symm
  ·exact ⟨set_at hT9, by rw [hcl T hTl (by rw [hT]; rfl), hT], (h .tt).2.2⟩
  ·intro _;show IR _ _ _ _ (slV ((s.bsl ++ [r]).getD s.bsl.length nilL)) ((s.blocks ++ [rest]).getD s.bsl.length []);rw [gD_snoc, gD_snoc, if_pos rfl, if_pos hbl.symm];exact R_up rfl (R_moved (cls' := cls) (C := fun c => c = .bs ∨ c = .tt) hr hK (by simp) fun _ _ e => e)
theorem SP.pushHp (h : SP base T w cls s) {w9 : World} {v9 : Value} (x : Int)
  (ho : Kd.R (Kd.int .i64) 3 w9 base (fun k => cls k = .hp ∨ w.heap.size ≤ k) v9 (s.heap ++ [x])) (hg : w.grownBy w9 s.vH.ownBlock) (hat : v9.ownBlock = s.vH.ownBlock ∨ ∃ b, v9.ownBlock = some b ∧ w.heap.size ≤ b) :
  SP base T (w9.setCell ⟨T, 6, none⟩ v9) (up cls v9 .hp) { s with vH := v9, heap := s.heap ++ [x], tc := s.tc.set 6 v9 } := by
 have hT := (h .tt).2.1
 have hTl := h.ownT
 have hob : ∀ k, s.vH.ownBlock = some k → cls k = .hp := (h .hp).1
 have hk1 := up_keep (c := .hp) hat hob
 have hK1 : Kept w w9 (fun k => cls k = .hp) := kept_grown hg hob
 have hK : Kept w (w9.setCell ⟨T, 6, none⟩ v9) (fun k => cls k = .hp ∨ cls k = .tt) := (hK1.mono fun k hk => .inl hk).setCell (.inl (.inr hT)) v9
 have hT9 : w9.heap[T]? = some (.cells s.tc.toArray 90 (0, 0)) := blk_kept (h .tt).1 hK1 (by show ¬ cls T = _; rw [hT]; simp)
 refine h.upd (fun c => c = .hp ∨ c = .tt) hK (fun k hk _ => hk1 k hk) (fun c hne hp => ?_) (fun c e => ?_)
 ·cases c with
  | hp => exact absurd (.inl rfl) hne
  | tt => exact absurd (.inr rfl) hne
  | _ => exact hp
 ·rcases e with rfl | rfl
  ·have h3 := Kd.R_far (p := ⟨T, 6, none⟩) ho (fun k hk e => by
    have e : k = T := e
    rw [e] at hk
    rcases hk with h1 | h1
    ·rw [hT] at h1; cases h1
    ·have : w.heap.size ≤ T := h1
     omega) v9
   exact R_up rfl h3
  ·exact ⟨set_at hT9, by rw [hk1 T hTl, hT], (h .tt).2.2⟩
theorem SP.pushHs (h : SP base T w cls s) {w9 : World} {v9 : Value} (r : Sl) (rest : List Int) {j : Nat} (hr : IR w base cls (.far j) (slV r) rest) (hbl : s.heaps.length = s.hsl.length) (hl : s.hs.length = s.hsl.length)
  (ho : Kd.R kSl 28 w9 base (fun k => cls k = .hs ∨ w.heap.size ≤ k) v9 (s.hs ++ [r])) (hg : w.grownBy w9 s.vHs.ownBlock) (hat : v9.ownBlock = s.vHs.ownBlock ∨ ∃ b, v9.ownBlock = some b ∧ w.heap.size ≤ b) :
  SP base T (w9.setCell ⟨T, 7, none⟩ v9) (up (up cls v9 .hs) (slV r) (.hro s.hsl.length)) { s with vHs := v9, hs := s.hs ++ [r], hsl := s.hsl ++ [r], heaps := s.heaps ++ [rest], tc := s.tc.set 7 v9 } := by
 have hT := (h .tt).2.1;have hTl := h.ownT;have hob : ∀ k, s.vHs.ownBlock = some k → cls k = .hs := (h .hs).1;have hk1 := up_keep (c := .hs) hat hob;have hnew : ∀ k, (slV r).ownBlock = some k → cls k = .far j := fun k hk => hr.1 k hk
 have hrl : ∀ k, (slV r).ownBlock = some k → k < w.heap.size := Kd.R_lt hr
 have hv9r : ∀ k, v9.ownBlock = some k → (slV r).ownBlock ≠ some k := fun k hk e => by
  rcases ho.1 k hk with h1 | h1
  ·rw [hnew k e] at h1; cases h1
  ·have := hrl k e; omega
 have hcl : ∀ k, k < w.heap.size → (cls k).own = true → up (up cls v9 .hs) (slV r) (.hro s.hsl.length) k = cls k := fun k hk ho2 => by
  rw [up_ne fun e => by rw [hnew k e] at ho2; cases ho2];exact hk1 k hk
 have hK1 : Kept w w9 (fun k => cls k = .hs) := kept_grown hg hob;have hK : Kept w (w9.setCell ⟨T, 7, none⟩ v9) (fun k => cls k = .hs ∨ cls k = .tt) := (hK1.mono fun k hk => .inl hk).setCell (.inl (.inr hT)) v9;have hT9 : w9.heap[T]? = some (.cells s.tc.toArray 90 (0, 0)) := blk_kept (h .tt).1 hK1 (by show ¬ cls T = _; rw [hT]; simp);refine h.upd (fun c => c = .hs ∨ c = .tt ∨ c = .hro s.hsl.length) (hK.mono fun k hk => hk.elim .inl fun e => .inr (.inl e)) hcl (fun c hne hp => ?_) (fun c e => ?_)
 ·cases c with
  | hro i =>
   have hi : i ≠ s.hsl.length := fun e => hne (.inr (.inr (by rw [e])))
   intro hl2
   have hl' : i < s.hsl.length := by
    have : i < (s.hsl ++ [r]).length := hl2;simp at this;omega
   show IR _ _ _ _ (slV ((s.hsl ++ [r]).getD i nilL)) ((s.heaps ++ [rest]).getD i []);rw [gD_snoc, gD_snoc, if_neg hi, if_neg (by omega)];exact hp hl'
  | hs => exact absurd (.inl rfl) hne
  | tt => exact absurd (.inr (.inl rfl)) hne
  | _ => exact hp
 ·rcases e with rfl | rfl | rfl
  ·have h3 := Kd.R_far (p := ⟨T, 7, none⟩) ho (fun k hk e => by
    have e : k = T := e;rw [e] at hk;rcases hk with h1 | h1
    ·rw [hT] at h1; cases h1
    ·have : w.heap.size ≤ T := h1;omega) v9
   exact Kd.R_mono (Kd.R_tight rfl h3) fun k hk => by
    rw [up_ne (hv9r k hk.symm)];exact up_self hk.symm
  ·exact ⟨set_at hT9, by rw [hcl T hTl (by rw [hT]; rfl), hT], (h .tt).2.2⟩
  ·intro _;show IR _ _ _ _ (slV ((s.hsl ++ [r]).getD s.hsl.length nilL)) ((s.heaps ++ [rest]).getD s.hsl.length []);rw [gD_snoc, gD_snoc, if_pos rfl, if_pos hbl.symm];exact R_up rfl (R_moved (cls' := cls) (C := fun c => c = .hs ∨ c = .tt) hr hK (by simp) fun _ _ e => e)
theorem SP.setHs (h : SP base T w cls s) {g c0 : Nat} (hv : s.vHs = .slice (some ⟨g, 0, none⟩) s.hs.length c0) (b : Nat) (r : Sl) (rest : List Int) {j : Nat} (hr : IR w base cls (.far j) (slV r) rest) (hb : b < s.hsl.length) (hbl : s.heaps.length = s.hsl.length) :
  SP base T (w.setCell ⟨g, b, none⟩ (slV r)) (up cls (slV r) (.hro b)) { s with hs := s.hs.set b r, hsl := s.hsl.set b r, heaps := s.heaps.set b rest } := by
 have h1 : SR w base cls .hs s.vHs s.hs := h .hs;rw [hv] at h1;obtain ⟨h2, hg⟩ := Kd.R_put h1 (b : Int) r;rw [Int.toNat_natCast] at h2 hg;have hgc : cls g = .hs := h1.1 g rfl;have hnew : ∀ k, (slV r).ownBlock = some k → cls k = .far j := fun k hk => hr.1 k hk
 have hcl : ∀ k, (cls k).own = true → up cls (slV r) (.hro b) k = cls k := fun k ho => up_ne fun e => by rw [hnew k e] at ho; cases ho
 have hK : Kept w (w.setCell ⟨g, b, none⟩ (slV r)) (fun k => cls k = .hs) := kept_grown hg fun k e => by cases e; exact hgc
 refine h.upd (fun c => c = .hs ∨ c = .hro b) (hK.mono fun k hk => .inl hk) (fun k _ ho => hcl k ho) (fun c hne hp => ?_) (fun c e => ?_)
 ·cases c with
  | hro i =>
   have hi : i ≠ b := fun e => hne (.inr (by rw [e]))
   intro hl;have hl' : i < s.hsl.length := by simpa using hl
   show IR _ _ _ _ (slV ((s.hsl.set b r).getD i nilL)) ((s.heaps.set b rest).getD i []);rw [gD_set _ _ _ _ _ hb, gD_set _ _ _ _ _ (by omega), if_neg hi, if_neg hi];exact hp hl'
  | hs => exact absurd (.inl rfl) hne
  | _ => exact hp
 ·rcases e with rfl | rfl
  ·show SR _ _ _ _ s.vHs _;rw [hv];have h3 : SR (w.setCell ⟨g, b, none⟩ (slV r)) base cls .hs (.slice (some ⟨g, 0, none⟩) s.hs.length c0) (s.hs.set b r) := h2;have h4 : SR (w.setCell ⟨g, b, none⟩ (slV r)) base (up cls (slV r) (.hro b)) .hs (.slice (some ⟨g, 0, none⟩) s.hs.length c0) (s.hs.set b r) := Kd.R_mono h3 fun k hk => by rw [hcl k (by rw [hk]; rfl)]; exact hk
   simpa using h4
  ·intro _;show IR _ _ _ _ (slV ((s.hsl.set b r).getD b nilL)) ((s.heaps.set b rest).getD b []);rw [gD_set _ _ _ _ _ hb, gD_set _ _ _ _ _ (by omega), if_pos rfl, if_pos rfl];exact R_up rfl (R_moved (cls' := cls) (C := fun c => c = .hs) hr hK (by simp) fun _ _ e => e)
theorem SP.appHs (h : SP base T w cls s) {w9 : World} {r : Sl} {g c0 : Nat} (hv : s.vHs = .slice (some ⟨g, 0, none⟩) s.hs.length c0) (b : Nat) (x : Int) (hb : b < s.hsl.length) (hbl : s.heaps.length = s.hsl.length)
  (ho : Kd.R (Kd.int .i64) 3 w9 base (fun k => cls k = .hro b ∨ w.heap.size ≤ k) (slV r) (s.heaps.getD b [] ++ [x])) (hg : w.grownBy w9 (slV (s.hsl.getD b nilL)).ownBlock) (hat : (slV r).ownBlock = (slV (s.hsl.getD b nilL)).ownBlock ∨ ∃ k, (slV r).ownBlock = some k ∧ w.heap.size ≤ k) :
  SP base T (w9.setCell ⟨g, b, none⟩ (slV r)) (up cls (slV r) (.hro b)) { s with hs := s.hs.set b r, hsl := s.hsl.set b r, heaps := s.heaps.set b (s.heaps.getD b [] ++ [x]) } := by
 have hob : ∀ k, (slV (s.hsl.getD b nilL)).ownBlock = some k → cls k = .hro b := (h (.hro b) hb).1;have hk1 := up_keep (c := .hro b) hat hob;have hK1 : Kept w w9 (fun k => cls k = .hro b) := kept_grown hg hob
 have h1 : SR w9 base cls .hs (.slice (some ⟨g, 0, none⟩) s.hs.length c0) s.hs := by
  have h0 : SR w base cls .hs s.vHs s.hs := h .hs;rw [hv] at h0;exact R_moved (C := fun c => c = .hro b) h0 hK1 (by simp) fun _ _ e => e
 obtain ⟨h2, hg2⟩ := Kd.R_put h1 (b : Int) r;rw [Int.toNat_natCast] at h2 hg2;have hgc : cls g = .hs := h1.1 g rfl
 have hgl : g < w.heap.size := by
  have h0 : SR w base cls .hs s.vHs s.hs := h .hs;rw [hv] at h0;exact Kd.R_lt h0 g rfl
 have hK : Kept w (w9.setCell ⟨g, b, none⟩ (slV r)) (fun k => cls k = .hs ∨ cls k = .hro b) := (hK1.mono fun k hk => .inr hk).setCell (.inl (.inl hgc)) _;refine h.upd (fun c => c = .hs ∨ c = .hro b) hK (fun k hk _ => hk1 k hk) (fun c hne hp => ?_) (fun c e => ?_)
 ·cases c with
  | hro i =>
   have hi : i ≠ b := fun e => hne (.inr (by rw [e]))
   intro hl;have hl' : i < s.hsl.length := by simpa using hl
   show IR _ _ _ _ (slV ((s.hsl.set b r).getD i nilL)) ((s.heaps.set b _).getD i []);rw [gD_set _ _ _ _ _ hb, gD_set _ _ _ _ _ (by omega), if_neg hi, if_neg hi];exact hp hl'
  | hs => exact absurd (.inl rfl) hne
  | _ => exact hp
 ·rcases e with rfl | rfl
  ·show SR _ _ _ _ s.vHs _;rw [hv];have h3 : SR (w9.setCell ⟨g, b, none⟩ (slV r)) base cls .hs (.slice (some ⟨g, 0, none⟩) s.hs.length c0) (s.hs.set b r) := h2
   have h4 : SR (w9.setCell ⟨g, b, none⟩ (slV r)) base (up cls (slV r) (.hro b)) .hs (.slice (some ⟨g, 0, none⟩) s.hs.length c0) (s.hs.set b r) := Kd.R_mono (Kd.R_tight rfl h3) fun k hk => by
    have : g = k := by simpa [Value.ownBlock] using hk.symm
    subst this;rw [hk1 g hgl, hgc]
   simpa using h4
  ·intro _;show IR _ _ _ _ (slV ((s.hsl.set b r).getD b nilL)) ((s.heaps.set b _).getD b []);rw [gD_set _ _ _ _ _ hb, gD_set _ _ _ _ _ (by omega), if_pos rfl, if_pos rfl];refine R_up rfl (Kd.R_far (p := ⟨g, b, none⟩) ho (fun k hk e => ?_) (slV r));have e : k = g := e;rw [e] at hk;rcases hk with e | e
   ·rw [hgc] at e; cases e
   ·have : w.heap.size ≤ g := e;omega
theorem SP.setW (h : SP base T w cls s) {f : Int → Option Value} {n : Nat} (hm : G1 w1 s.mW f n) (hg : w.grownBy w1 (some s.mW)) : SP base T w1 cls { s with fW := f, cW := n } := by
 have hc := (h .mw).1
 refine h.upd (· = .mw) (kept_grown hg fun k e => by cases e; exact hc) (fun _ _ _ => rfl) (fun c hne hp => ?_) (fun c e => ?_)
 ·cases c <;> first | exact hp | exact absurd rfl hne
 ·subst e
  exact ⟨hc, hm, (h .mw).2.2⟩
theorem SP.setC (h : SP base T w cls s) {i : Nat} (hi : i < s.cm.length) {f : Int × Int → Option Value} {n : Nat} (hm : G2 w1 (s.cm.getD i 0) f n) (hg : w.grownBy w1 (some (s.cm.getD i 0))) :
  SP base T w1 cls { s with fc := fun j => if j = i then f else s.fc j, cc := fun j => if j = i then n else s.cc j } := by
 have hc := (h (.cmp i) hi).1
 refine h.upd (· = .cmp i) (kept_grown hg fun k e => by cases e; exact hc) (fun _ _ _ => rfl) (fun c hne hp => ?_) (fun c e => ?_)
 ·cases c with
  | cmp j =>
   have hj : j ≠ i := fun e => hne (by rw [e])
   intro hl
   show cls (s.cm.getD j 0) = .cmp j ∧ G2 w1 (s.cm.getD j 0) (if j = i then f else s.fc j) (if j = i then n else s.cc j) ∧ base ≤ s.cm.getD j 0
   rw [if_neg hj, if_neg hj]
   exact hp hl
  | _ => exact hp
 ·subst e
  intro _
  show cls (s.cm.getD i 0) = .cmp i ∧ G2 w1 (s.cm.getD i 0) (if i = i then f else s.fc i) (if i = i then n else s.cc i) ∧ base ≤ s.cm.getD i 0
  rw [if_pos rfl, if_pos rfl]
  exact ⟨hc, hm, (h (.cmp i) hi).2.2⟩
theorem SP.pushC (h : SP base T w cls s) {m : Nat} {f : Int × Int → Option Value} {n : Nat} {fC : Int → Option Value} {nC : Nat} {j : Nat} (hc : cls m = .far j) (hb : base ≤ m) (hm : G2 w m f n) (hM : G1 w1 s.mC fC nC) (hg : w.grownBy w1 (some s.mC)) :
  SP base T w1 (fun k => if k = m then .cmp s.cm.length else cls k) { s with fC := fC, cC := nC, cm := s.cm ++ [m], fc := fun i => if i = s.cm.length then f else s.fc i, cc := fun i => if i = s.cm.length then n else s.cc i } := by
 have hmc := (h .mc).1
 have hcl : ∀ k, (cls k).own = true → (fun k => if k = m then Cl.cmp s.cm.length else cls k) k = cls k := fun k ho => by
  show (if k = m then Cl.cmp s.cm.length else cls k) = cls k;rw [if_neg];rintro rfl;rw [hc] at ho
  cases ho
 have hK : Kept w w1 (fun k => cls k = .mc) := kept_grown hg fun k e => by cases e; exact hmc
 refine h.upd (fun c => c = .mc ∨ c = .cmp s.cm.length) (hK.mono fun k hk => .inl hk) (fun k _ ho => hcl k ho) (fun c hne hp => ?_) (fun c e => ?_)
 ·cases c with
  | cmp i =>
   have hi : i ≠ s.cm.length := fun e => hne (.inr (by rw [e]))
   intro hl
   have hl' : i < s.cm.length := by
    have : i < (s.cm ++ [m]).length := hl;simp at this;omega
   show (if (s.cm ++ [m]).getD i 0 = m then Cl.cmp s.cm.length else cls ((s.cm ++ [m]).getD i 0)) = .cmp i ∧ G2 w1 ((s.cm ++ [m]).getD i 0) (if i = s.cm.length then f else s.fc i) (if i = s.cm.length then n else s.cc i) ∧ base ≤ (s.cm ++ [m]).getD i 0;rw [gD_snoc, if_neg hi, if_neg hi, if_neg hi];exact hp hl'
  | mc => exact absurd (.inl rfl) hne
  | _ => exact hp
 ·rcases e with rfl | rfl
  ·exact ⟨by rw [hcl _ (by rw [hmc]; rfl)]; exact hmc, hM, (h .mc).2.2⟩
  ·intro _;show (if (s.cm ++ [m]).getD s.cm.length 0 = m then Cl.cmp s.cm.length else cls ((s.cm ++ [m]).getD s.cm.length 0)) = .cmp s.cm.length ∧ G2 w1 ((s.cm ++ [m]).getD s.cm.length 0) (if s.cm.length = s.cm.length then f else s.fc s.cm.length) (if s.cm.length = s.cm.length then n else s.cc s.cm.length) ∧ base ≤ (s.cm ++ [m]).getD s.cm.length 0;rw [gD_snoc, if_pos rfl, if_pos rfl, if_pos rfl, if_pos rfl];exact ⟨rfl, hm.same (hK.2 _ hm.lt_ (by show ¬ cls m = _; rw [hc]; simp)), hb⟩
end
end Go.Proofs.Ytmcbkmfpmcbdpaa.H
namespace Go.Proofs.Ytmcbkmfpmcbdpaa.Pr
open Go.RowKit Go.Proofs.YtmcbkmfpmcbdpaaW.PrintWords
def classL (n : Nat) (es : List S80) : List Int := (List.range n).map fun i : Nat => (((List.range n).find? fun k : Nat => H.relS (H.greatL n es) (i : Int) (k : Int)).getD i : Nat)
def refL (n : Nat) (es : List S80) : List Int := PL.numK (classL n es)
end Go.Proofs.Ytmcbkmfpmcbdpaa.Pr
namespace Go.Proofs.Ytmcbkmfpmcbdpaa.H
open Go.RowKit Go.Proofs.Ytmcbkmfpmcbdpaa.Pr Go.Proofs.YtmcbkmfpmcbdpaaW.PrintWords Go.Proofs.Ytmcbkmfpmcbdpaa.Sem
theorem RefI.congr {n : Nat} {es : List Ed} {B H H' : Int → Int} (h : RefI n es B H) (hH : ∀ x, Nd n x → H' x = H x) (hes : ∀ e ∈ es, Nd n e.f2) : RefI n es B H' where
 i3 := h.i3
 i6 := fun s t hs ht e => by rw [hH s hs, hH t ht]; exact h.i6 s t hs ht e
 i4 := fun s t hs ht e l x ⟨f, hf, f0, f1, f2⟩ => by
  obtain ⟨g, hg, g0, g1, g2⟩ := h.i4 s t hs ht e l x ⟨f, hf, f0, f1, by rw [← hH _ (hes f hf)]; exact f2⟩
  exact ⟨g, hg, g0, g1, by rw [hH _ (hes g hg)]; exact g2⟩
theorem take_ref {n : Nat} {es : List Ed} {p : PSt} {old a : Nat} (hP : PW n p) (ho : old < p.heaps.length) (ha : a < (gl p.heaps (old : Int)).length) (h2 : 2 ≤ (gl p.heaps (old : Int)).length) (hR : RefI n es (gi p.block) (HP p)) :
  ∃ b : Nat, PW n (takeP p (old : Int) a) ∧ p.heaps.length < (takeP p (old : Int) a).heaps.length ∧ gl (takeP p (old : Int) a).heaps (p.heaps.length : Int) = [(b : Int)] ∧ (∀ x ∈ gl (takeP p (old : Int) a).blocks (b : Int), HP p x = (old : Int)) ∧
   (∀ x, Nd n x → HP (takeP p (old : Int) a) x = if gi (takeP p (old : Int) a).block x = (b : Int) then (p.heaps.length : Int) else HP p x) ∧ (∀ x, Nd n x → HP p x < (p.heaps.length : Int)) ∧ RefJ n es (gi (takeP p (old : Int) a).block) (HP p) (gi (takeP p (old : Int) a).block) (HP (takeP p (old : Int) a)) (p.heaps.length : Int) (old : Int) 0 := by
 have hoN : Nd p.heaps.length (old : Int) := nd_iff.2 ho;obtain ⟨t1, t2⟩ := take_mem hP hoN ha;obtain ⟨b, hb, hbn⟩ := t1.nat
 have hh : ∀ x, Nd n x → HP (takeP p (old : Int) a) x = if gi (takeP p (old : Int) a).block x = (b : Int) then (p.heaps.length : Int) else HP p x := fun x hx => by
  rw [take_hp hP hoN ha hx, hb];rfl
 have hlt : ∀ x, Nd n x → HP p x < (p.heaps.length : Int) := fun x hx => (hP.hr _ (hP.br x hx)).2
 have hbo : ∀ x, gi p.block x = (b : Int) → HP p x = (old : Int) := fun x e => by
  show gi p.heap (gi p.block x) = _;rw [e, ← hb];exact t2
 refine ⟨b, hP.take hoN ha h2, by simp [takeP], ?_, ?_, hh, hlt, ?_⟩
 ·rw [take_heaps hoN (nd_iff.2 (by omega)), if_pos rfl, hb]
 ·intro x hx;have hx : x ∈ gl p.blocks (b : Int) := hx;exact hbo x ((hP.bm _ (nd_iff.2 hbn) x).1 hx).2
 ·exact RefI.take (b := (b : Int)) hR hh (fun s _ e => hbo s e) (fun s hs => by have := hlt s hs; omega) (by omega)
theorem class_iff {n : Nat} {es : List Ed} (hes : ∀ e ∈ es, Nd n e.f0 ∧ Nd n e.f2) {i j : Nat} (hi' : i < (classL n es).length) (hj' : j < (classL n es).length) : Bis n es (i : Int) (j : Int) ↔ (classL n es)[i] = (classL n es)[j] := by
 have hlen : (classL n es).length = n := by simp [classL]
 have hat : ∀ (i : Nat) (hi : i < (classL n es).length), (classL n es)[i] = ((((List.range n).find? fun k : Nat => relS (greatL n es) (i : Int) (k : Int)).getD i : Nat) : Int) := fun i hi => by simp [classL]
 have hex : ∀ i, i < n → ∃ k, ((List.range n).find? fun k : Nat => relS (greatL n es) (i : Int) (k : Int)) = some k ∧ Bis n es (i : Int) (k : Int) := fun i hi => by
  have h1 : ((List.range n).find? fun k : Nat => relS (greatL n es) (i : Int) (k : Int)).isSome = true := List.find?_isSome.2 ⟨i, List.mem_range.2 hi, Bis.refl hes (nd_iff.2 hi)⟩;obtain ⟨k, hk⟩ := Option.isSome_iff_exists.1 h1;exact ⟨k, hk, List.find?_some (p := fun k : Nat => relS (greatL n es) (i : Int) (k : Int)) hk⟩
 have hi2 : i < n := by omega
 have hj2 : j < n := by omega
 rw [hat i hi', hat j hj'];obtain ⟨k, hk, hbk⟩ := hex i hi2;obtain ⟨m, hm, hbm⟩ := hex j hj2;constructor
 ·intro hij
  have e : (fun k : Nat => relS (greatL n es) (i : Int) (k : Int)) = fun k : Nat => relS (greatL n es) (j : Int) (k : Int) := by
   funext k
   have h1 : relS (greatL n es) (i : Int) (k : Int) = true ↔ relS (greatL n es) (j : Int) (k : Int) = true := ⟨fun x => Bis.trans (Bis.symm hij) x, fun x => Bis.trans hij x⟩
   exact Bool.eq_iff_iff.2 h1
  rw [e, hm];simp
 ·intro e;rw [hk, hm] at e;simp only [Option.getD_some] at e;have e : k = m := by omega
  subst e;exact hbk.trans hbm.symm
theorem ker_class {n : Nat} {es : List Ed} {bl : List Int} (hes : ∀ e ∈ es, Nd n e.f0 ∧ Nd n e.f2) (hl : bl.length = n) (h : ∀ s t, Nd n s → Nd n t → (Bis n es s t ↔ gi bl s = gi bl t)) : PL.Ker bl (classL n es) := by
 have hlen : (classL n es).length = n := by simp [classL]
 refine ⟨by rw [hl, hlen], fun i j hi hj hi' hj' => ?_⟩
 rw [← class_iff hes hi' hj', h _ _ (nd_iff.2 (by omega)) (nd_iff.2 (by omega))]
 unfold gi
 simp [List.getD_eq_getElem?_getD, List.getElem?_eq_getElem hi, List.getElem?_eq_getElem hj]
theorem ref_end {n : Nat} {es : List Ed} {p : PSt} (hP : PW n p) (hR : RefI n es (gi p.block) (HP p)) (hw : ∀ c, Nd p.heaps.length c → (gl p.heaps c).length < 2) (hes : ∀ e ∈ es, Nd n e.f0 ∧ Nd n e.f2) :
  PL.numK p.block = refL n es ∧ (p.blocks.length : Int) = ((PL.fstK (classL n es)).length : Int) := by
 have hk := PL.numK_ker _ _ (ker_class hes hP.bl fun s t hs ht => RefI.last hR (fun s t hs ht e => hP.apart hw hs ht e) hes hs ht);refine ⟨hk.1, ?_⟩;rw [← hk.2]
 have hin : ∀ x, x ∈ PL.fstK p.block ↔ Nd p.blocks.length x := fun x => by
  rw [PL.fstK_mem];constructor
  ·intro hx;obtain ⟨i, hi, rfl⟩ := List.getElem_of_mem hx;have := hP.br (i : Int) (nd_iff.2 (by rw [← hP.bl]; exact hi));unfold gi at this;simpa [List.getD_eq_getElem?_getD, List.getElem?_eq_getElem hi] using this
  ·intro hx;obtain ⟨y, hy⟩ := List.exists_mem_of_ne_nil _ (hP.be x hx);obtain ⟨hy1, hy2⟩ := (hP.bm x hx y).1 hy;obtain ⟨k, rfl, hk⟩ := hy1.nat;rw [← hy2];unfold gi;rw [← hP.bl] at hk;simp [List.getD_eq_getElem?_getD, List.getElem?_eq_getElem hk]
 have h1 : (PL.fstK p.block).length ≤ p.blocks.length := nodup_le (PL.fstK_nodup _) fun x hx => (hin x).1 hx
 have h2 := nodup_sub (l := (List.range p.blocks.length).map fun k : Nat => (k : Int)) (l' := PL.fstK p.block) (List.pairwise_map.2 (List.Pairwise.imp (fun h e => absurd h (by omega)) List.pairwise_lt_range)) fun x hx => by
  obtain ⟨k, hk, rfl⟩ := List.mem_map.1 hx;exact (hin _).2 (nd_iff.2 (List.mem_range.1 hk))
 simp at h2;omega
end Go.Proofs.Ytmcbkmfpmcbdpaa.H
namespace Go.Proofs.Ytmcbkmfpmcbdpaa.H
open Go.RowKit Go.Proofs.Ytmcbkmfpmcbdpaa.Pr Go.Proofs.YtmcbkmfpmcbdpaaW.PrintWords Go.Proofs.Ytmcbkmfpmcbdpaa.Sem Go.Proofs.YtmcbkmfpmcbdpaaW.PrintLast
def upS (s : Nat → Nat) (i b : Nat) : Nat → Nat := fun k => if k = i then b else s k
theorem upS_self (s : Nat → Nat) (i b : Nat) : upS s i b i = b := by unfold upS; rw [if_pos rfl]
theorem upS_ne (s : Nat → Nat) {i j : Nat} (b : Nat) (h : j ≠ i) : upS s i b j = s j := by unfold upS; rw [if_neg h]
def BegL (obj : (Nat → Nat) → Nat → Obj) (w0 : World) (D : List Nat) (s : Nat → Nat) (w : World) : Prop := Below w0.heap.size w0 w ∧ ∀ i ∈ D, w0.heap.size ≤ s i ∧ w.heap[s i]? = some (obj s i) ∧ ∀ j ∈ D, s i = s j → i = j
theorem BegL.start (obj : (Nat → Nat) → Nat → Obj) (w : World) (s : Nat → Nat) : BegL obj w [] s w := ⟨Below.refl _ _, fun i h => by cases h⟩
theorem BegL.step {obj : (Nat → Nat) → Nat → Obj} {w0 : World} {D : List Nat} {s : Nat → Nat} {w : World} (h : BegL obj w0 D s w) (i : Nat) (hi : i ∉ D) (hobj : ∀ j b, j = i ∨ j ∈ D → obj (upS s i b) j = obj s j) {D' : List Nat} (hD : ∀ j ∈ D', j = i ∨ j ∈ D) : BegL obj w0 D' (upS s i w.heap.size) (w.alloc (obj s i)) := by
 have ui : upS s i w.heap.size i = w.heap.size := upS_self _ _ _
 have uj : ∀ j, j ≠ i → upS s i w.heap.size j = s j := fun j hj => upS_ne _ _ hj
 have hlt : ∀ j ∈ D, s j < w.heap.size := fun j hj => blk_lt (h.2 j hj).2.1
 refine ⟨below_alloc h.1 _, fun j hj => ?_⟩
 rw [hobj j _ (hD j hj)]
 by_cases e : j = i
 ·subst e
  rw [ui]
  refine ⟨h.1.size, blk_new w _, fun k hk he => ?_⟩
  rcases hD k hk with hk | hk
  ·exact hk.symm
  ·have hne : k ≠ j := fun e => hi (e ▸ hk)
   rw [uj k hne] at he
   have := hlt k hk
   omega
 ·have hjD : j ∈ D := (hD j hj).resolve_left e
  rw [uj j e]
  refine ⟨(h.2 j hjD).1, blk_below (h.2 j hjD).2.1 (below_alloc (Below.refl _ _) _), fun k hk he => ?_⟩
  rcases hD k hk with hk | hk
  ·subst hk
   rw [ui] at he
   have := hlt j hjD
   omega
  ·have hne : k ≠ i := fun e => hi (e ▸ hk)
   rw [uj k hne] at he
   exact (h.2 j hjD).2.2 k hk he
def listedP (l0 : Array Bool) (p : Nat → Bool) : Array Bool := l0.mapIdx fun k b => b || p k
theorem listedP_at (l0 : Array Bool) (p : Nat → Bool) (k : Nat) : (listedP l0 p)[k]? = (l0[k]?).map fun b => b || p k := by unfold listedP; rw [Array.getElem?_mapIdx]
theorem listedP_set (l0 : Array Bool) (p : Nat → Bool) (i : Nat) : (listedP l0 p).setIfInBounds i true = listedP l0 fun k => p k || decide (k = i) := by
 apply Array.ext_getElem?
 intro k
 rw [listedP_at]
 by_cases e : i = k
 ·subst e
  rw [Array.getElem?_setIfInBounds]
  rw [if_pos rfl]
  cases h : l0[i]? with
  | none =>
   have : ¬ i < l0.size := by intro h2; rw [Array.getElem?_eq_getElem h2] at h; cases h
   rw [if_neg (by simpa [listedP] using this)]
   rfl
  | some b =>
   have := (Array.getElem?_eq_some_iff.1 h).1
   rw [if_pos (by simpa [listedP] using this)]
   simp
 ·rw [Array.getElem?_setIfInBounds_ne e, listedP_at]
  have : ¬ k = i := fun h => e h.symm
  simp [this]
def subs : List Nat → List (List Nat)
 | [] => [[]]
 | x :: r => subs r ++ (subs r).map (x :: ·)
theorem filter_subs (p : Nat → Bool) : ∀ C : List Nat, C.filter p ∈ subs C
 | [] => by simp [subs]
 | x :: r => by
  have ih := filter_subs p r
  unfold subs
  rw [List.filter_cons]
  split
  ·exact List.mem_append_right _ (List.mem_map.2 ⟨_, ih, rfl⟩)
  ·exact List.mem_append_left _ ih
theorem filter_more {p : Nat → Bool} {i : Nat} : ∀ {C : List Nat}, C.Nodup → i ∈ C → p i = false → (C.filter fun k => p k || decide (k = i)).length = (C.filter p).length + 1
 | [], _, hi, _ => by cases hi
 | x :: r, hn, hi, hpi => by
  obtain ⟨h1, h2⟩ := List.nodup_cons.1 hn
  rw [List.filter_cons, List.filter_cons]
  by_cases e : x = i
  ·subst e
   have : r.filter (fun k => p k || decide (k = x)) = r.filter p := List.filter_congr fun y hy => by
    have : y ≠ x := fun e => h1 (e ▸ hy)
    simp [this]
   simp [hpi, this]
  ·have := filter_more h2 ((List.mem_cons.1 hi).resolve_left (Ne.symm e)) hpi
   simp only [e, decide_false, Bool.or_false]
   split
   ·simp [this]
   ·exact this
def allocB (md : Region.Mode) (ops : Array Oper) (l0 l1 : Array Bool) (C : List Nat) (needs : Nat → List Nat) : Bool :=
 decide (listedP l0 (fun k => C.contains k) = l1) && (subs C).all fun D => D.length == C.length || !(D.all fun j => (needs j).all fun k => D.contains k) ||
  (!(Region.ready md ops (listedP l0 fun k => D.contains k)).isEmpty && (Region.ready md ops (listedP l0 fun k => D.contains k)).all fun i => C.contains i && !D.contains i && (needs i).all fun k => D.contains k)
structure ActP (C : List Nat) (slot : Nat → Tmp) (val : (Nat → Nat) → Nat → Value) (a0 : Act) (p : Nat → Bool) (s : Nat → Nat) (a : Act) : Prop where
  size : a.tmps.size = a0.tmps.size
  defs : a.defers = a0.defers
  old : ∀ k, (∀ i ∈ C, slot i ≠ k) → a.tmps[k]? = a0.tmps[k]?
  new : ∀ i ∈ C, p i = true → a.tmps[slot i]? = some (val s i)
section
variable {P : Program} {ops : Array Oper} {Q : Exit → Act → World → Prop} {md : Region.Mode} {S : World → Prop}
variable {C : List Nat} {slot : Nat → Tmp} {val : (Nat → Nat) → Nat → Value} {obj : (Nat → Nat) → Nat → Obj} {needs : Nat → List Nat} {a0 : Act} {l0 l1 : Array Bool} {V : World}
theorem wpOp_val {i : Nat} {o : Oper} {v : Value} {a : Act} {w w1 : World} {K : Act → World → Prop} (ho : ops[i]? = some o) (hg : o.guard = none) (hrun : (execOp a.eval o).run P w = .ok (.value v) w1) (h : K (a.put o.dst v) w1) : wpOp P ops Q i K a w := by
 unfold wpOp
 rw [ho]
 show if Region.wanted o (yielded ops a.tmps) = true then _ else _
 rw [if_pos (by unfold Region.wanted; rw [hg])]
 left
 unfold Oper.wp
 rw [hrun]
 exact h
theorem run_mkS {a : Act} {o : Oper} {t : TypeId} {x : Operand} {z v : Value} {W W1 : World} (ho : o.op = .makeSlice t x x) (hx : a.eval x = z) (h : (Instr.makeSlice t z z).run P W = .ok v W1) : (execOp a.eval o).run P W = .ok (.value v) W1 := by
 unfold execOp
 simp only [ho, hx, Sem.run_bind, Sem.run_pure, h, Result.andThen_ok]
theorem run_mkM {a : Act} {o : Oper} {t : TypeId} {v : Value} {W W1 : World} (ho : o.op = .makeMap t none) (h : (Instr.makeMap t none).run P W = .ok v W1) : (execOp a.eval o).run P W = .ok (.value v) W1 := by
 unfold execOp
 simp [ho, h]
theorem ActP.eval {p : Nat → Bool} {s : Nat → Nat} {a : Act} (h : ActP C slot val a0 p s a) (k : Nat) (hk : ∀ i ∈ C, slot i ≠ k) : a.eval (.tmp k) = a0.eval (.tmp k) := by
 show a.tmps.getD k undef = a0.tmps.getD k undef
 have := h.old k hk
 simp [this]
theorem ActP.evalN {p : Nat → Bool} {s : Nat → Nat} {a : Act} (h : ActP C slot val a0 p s a) {i : Nat} (hi : i ∈ C) (hp : p i = true) : a.eval (.tmp (slot i)) = val s i := by
 show a.tmps.getD (slot i) undef = _
 have := h.new i hi hp
 simp [this]
theorem ActP.step {p : Nat → Bool} {s : Nat → Nat} {a : Act} (h : ActP C slot val a0 p s a) {i b : Nat} (hi : i ∈ C) (hp : p i = false) (hinj : ∀ i ∈ C, ∀ j ∈ C, slot i = slot j → i = j) (hlt : ∀ i ∈ C, slot i < a0.tmps.size) (hval : ∀ s i j b, j ≠ i → val (upS s i b) j = val s j) :
  ActP C slot val a0 (fun k => p k || decide (k = i)) (upS s i b) (a.put (some (slot i)) (val (upS s i b) i)) where
 size := by simp [Act.put, h.size]
 defs := h.defs
 old := fun k hk => by
  have := hk i hi
  simp only [Act.put]
  rw [Array.getElem?_setIfInBounds_ne this]
  exact h.old k hk
 new := fun j hj hpj => by
  simp only [Act.put]
  by_cases e : j = i
  ·subst e
   rw [Array.getElem?_setIfInBounds_self_of_lt (by rw [h.size]; exact hlt j hj)]
  ·have hne : slot i ≠ slot j := fun e2 => e (hinj i hi j hj e2).symm
   rw [Array.getElem?_setIfInBounds_ne hne, hval _ _ _ _ e]
   refine h.new j hj ?_
   simpa [e] using hpj
theorem putAll_eq : ∀ (L : List (Tmp × Value)) (a0 a : Act), (L.map Prod.fst).Nodup → (∀ x ∈ L, x.1 < a0.tmps.size) → a.tmps.size = a0.tmps.size → a.defers = a0.defers → (∀ k, k ∉ L.map Prod.fst → a.tmps[k]? = a0.tmps[k]?) → (∀ x ∈ L, a.tmps[x.1]? = some x.2) → putAll a0 L = a
 | [], a0, a, _, _, hs, hd, h1, _ => by
  have e : a0.tmps = a.tmps := Array.ext_getElem? fun k => (h1 k (by simp)).symm
  show a0 = a
  cases a0; cases a
  simp only [Act.mk.injEq]
  exact ⟨e, hd.symm⟩
 | (n, v) :: r, a0, a, hn, hlt, hs, hd, h1, h2 => by
  obtain ⟨hn1, hn2⟩ := List.nodup_cons.1 hn
  show putAll (a0.put (some n) v) r = a
  have hsz : (a0.put (some n) v).tmps.size = a0.tmps.size := by simp [Act.put]
  refine putAll_eq r _ a hn2 (fun x hx => by rw [hsz]; exact hlt x (List.mem_cons_of_mem _ hx)) (by rw [hsz]; exact hs) hd (fun k hk => ?_) fun x hx => h2 x (List.mem_cons_of_mem _ hx)
  simp only [Act.put]
  by_cases e : n = k
  ·subst e
   rw [Array.getElem?_setIfInBounds_self_of_lt (hlt (n, v) (List.mem_cons_self ..))]
   exact h2 (n, v) (List.mem_cons_self ..)
  ·rw [Array.getElem?_setIfInBounds_ne e]
   exact h1 k (by simp only [List.map_cons, List.mem_cons]; rintro (h | h); exact e h.symm; exact hk h)
theorem ActP.full {p : Nat → Bool} {s : Nat → Nat} {a : Act} (h : ActP C slot val a0 p s a) (hp : ∀ i ∈ C, p i = true) (hnd : (C.map slot).Nodup) (hlt : ∀ i ∈ C, slot i < a0.tmps.size) : putAll a0 (C.map fun i => (slot i, val s i)) = a := by
 have e : (C.map fun i => (slot i, val s i)).map Prod.fst = C.map slot := by rw [List.map_map]; rfl
 refine putAll_eq _ a0 a (by rw [e]; exact hnd) (fun x hx => ?_) h.size h.defs (fun k hk => ?_) fun x hx => ?_
 ·obtain ⟨i, hi, rfl⟩ := List.mem_map.1 hx
  exact hlt i hi
 ·rw [e] at hk
  exact h.old k fun i hi he => hk (List.mem_map.2 ⟨i, hi, he⟩)
 ·obtain ⟨i, hi, rfl⟩ := List.mem_map.1 hx
  exact h.new i hi (hp i hi)
theorem alloc_region {fuel m : Nat} (hm : m = C.length + fuel) (hchk : allocB md ops l0 l1 C needs = true) (hnd : (C.map slot).Nodup) (hlt : ∀ i ∈ C, slot i < a0.tmps.size) (hval : ∀ s i j b, j ≠ i → val (upS s i b) j = val s j) (hobj : ∀ s i j b, i ∉ needs j → obj (upS s i b) j = obj s j) (hself : ∀ i ∈ C, i ∉ needs i)
  (hSa : ∀ w o, S w → S (w.alloc o)) (hS : S V)
  (hrun : ∀ i ∈ C, ∀ (p : Nat → Bool) (s : Nat → Nat) (a : Act) (w : World), ActP C slot val a0 p s a → (∀ j ∈ needs i, p j = true) → ∃ o, ops[i]? = some o ∧ o.guard = none ∧ o.dst = some (slot i) ∧ (execOp a.eval o).run P w = .ok (.value (val (upS s i w.heap.size) i)) (w.alloc (obj s i)))
  (hcont : ∀ (s : Nat → Nat) (w : World), BegL obj V C s w → S w → wpAnyLast P md ops Q S [] fuel l1 (putAll a0 (C.map fun i => (slot i, val s i))) w) : wpAnyLast P md ops Q S [] m l0 a0 V := by
 unfold allocB at hchk;rw [Bool.and_eq_true, decide_eq_true_eq, List.all_eq_true] at hchk;obtain ⟨a4, hchk⟩ := hchk
 have hinj : ∀ i ∈ C, ∀ j ∈ C, slot i = slot j → i = j := by
  intro i hi j hj e;obtain ⟨x, hx, rfl⟩ := List.getElem_of_mem hi;obtain ⟨y, hy, rfl⟩ := List.getElem_of_mem hj;have h1 : (C.map slot)[x]'(by simpa using hx) = (C.map slot)[y]'(by simpa using hy) := by simpa using e
  have h2 := (List.getElem_inj hnd).1 h1;subst h2;rfl
 have key : ∀ (k : Nat) (p : Nat → Bool) (s : Nat → Nat) (a : Act) (w : World), (∀ i, p i = true → i ∈ C) → (∀ j, p j = true → ∀ i ∈ needs j, p i = true) → (C.filter p).length + k = C.length → ActP C slot val a0 p s a → BegL obj V (C.filter p) s w → S w → wpAnyLast P md ops Q S [] (k + fuel) (listedP l0 p) a w := by
  intro k
  induction k with
  | zero =>
   intro p s a w hpC hcl hk hA hL hSw;have hall : ∀ i ∈ C, p i = true := List.filter_eq_self.1 ((List.filter_sublist (p := p) (l := C)).eq_of_length (by omega))
   have hp : p = fun k => C.contains k := by
    funext i
    rw [Bool.eq_iff_iff];simp only [List.contains_iff_mem];exact ⟨hpC i, hall i⟩
   rw [List.filter_eq_self.2 hall] at hL;have h := hcont s w hL hSw;rw [hA.full hall hnd hlt, ← a4, ← hp] at h;rwa [Nat.zero_add]
  | succ k ih =>
   intro p s a w hpC hcl hk hA hL hSw
   have hp : p = fun k => (C.filter p).contains k := by
    funext i
    rw [Bool.eq_iff_iff];simp only [List.contains_iff_mem, List.mem_filter];exact ⟨fun h => ⟨hpC i h, h⟩, fun h => h.2⟩
   have hD := hchk _ (filter_subs p C);rw [← hp] at hD;have h1 : ((C.filter p).length == C.length) = false := by simpa using (show (C.filter p).length ≠ C.length by omega)
   have h2 : ((C.filter p).all fun j => (needs j).all fun k => p k) = true := by
    rw [List.all_eq_true];intro j hj;rw [List.all_eq_true];exact hcl j (List.mem_filter.1 hj).2
   have hc : ∀ k, (C.filter p).contains k = p k := fun k => (congrFun hp k).symm
   simp only [hc] at hD;rw [h1, h2, Bool.not_true, Bool.or_false, Bool.false_or, Bool.and_eq_true, List.all_eq_true] at hD;obtain ⟨hne, hrd⟩ := hD
   have a2 : Region.ready md ops (listedP l0 p) ≠ [] := by
    intro e;rw [e] at hne;simp at hne
   rw [Nat.succ_add];refine wpAnyLast_all rfl a2 fun i hi => ?_
   have h3 := hrd i hi;simp only [Bool.and_eq_true, List.contains_iff_mem, Bool.not_eq_true', List.all_eq_true] at h3;obtain ⟨⟨hiC, hpi⟩, hni⟩ := h3;obtain ⟨o, ho, hg, hd, hr⟩ := hrun i hiC p s a w hA hni;refine wpOp_val ho hg hr ?_;rw [hd, listedP_set]
   have hmem : ∀ j, j ∈ C.filter (fun k => p k || decide (k = i)) → j = i ∨ j ∈ C.filter p := fun j hj => by
    obtain ⟨a3, a1⟩ := List.mem_filter.1 hj;simp only [Bool.or_eq_true, decide_eq_true_eq] at a1;rcases a1 with h | h
    ·exact .inr (List.mem_filter.2 ⟨a3, h⟩)
    ·exact .inl h
   have hiF : i ∉ C.filter p := fun h => by rw [(List.mem_filter.1 h).2] at hpi; cases hpi
   refine ⟨fun _ hS => hSa _ _ hS, ih _ _ _ _ (fun j hj => ?_) (fun j hj l hl => ?_) ?_ (hA.step hiC hpi hinj hlt hval) (hL.step i hiF (fun j b hj => hobj _ _ _ _ ?_) hmem) (hSa _ _ hSw)⟩
   ·simp only [Bool.or_eq_true, decide_eq_true_eq] at hj;rcases hj with h | h
    ·exact hpC j h
    ·exact h ▸ hiC
   ·simp only [Bool.or_eq_true, decide_eq_true_eq] at hj ⊢;left
    rcases hj with h | h
    ·exact hcl j h l hl
    ·subst h; exact hni l hl
   ·have hCn : C.Nodup := by
     have := hnd;exact (List.pairwise_map.1 this).imp fun h e => h (by rw [e])
    have e1 := filter_more hCn hiC hpi;omega
   ·rcases hj with h | h
    ·subst h; exact hself _ hiC
    ·intro h4;exact hiF (List.mem_filter.2 ⟨hpC i (hcl j (List.mem_filter.1 h).2 i h4), hcl j (List.mem_filter.1 h).2 i h4⟩)
 subst hm
 have h0 : listedP l0 (fun _ => false) = l0 := by
  apply Array.ext
  ·simp [listedP]
  ·intro k h1 h2; simp [listedP]
 have hf : C.filter (fun _ => false) = [] := List.filter_eq_nil_iff.2 fun _ _ => by simp
 have := key C.length (fun _ => false) (fun _ => 0) a0 V (fun _ h => by cases h) (fun _ h => by cases h) (by rw [hf]; simp) ⟨rfl, rfl, fun _ _ => rfl, fun _ _ h => by cases h⟩ (by rw [hf]; exact BegL.start _ _ _) hS;rwa [h0] at this
end
end Go.Proofs.Ytmcbkmfpmcbdpaa.H
