/-
  Walks of the document's own answer: edges' order, which systems may be.
-/
import Derived.Test.YtmpiokdomjchiaaHc
import Derived.WalkLawsBesides
set_option linter.unusedVariables false
set_option linter.unusedSimpArgs false
namespace Go.Proofs.Ytmpiokdomjchiaa.H
open Go.RowKit Go.Proofs.Ytmpiokdomjchiaa.Pr Go.Proofs.YtmpiokdomjchiaaW.PrintWords Go.Proofs.Ytmpiokdomjchiaa.Sem

theorem ahead_any (a b : Ed) (r : Bool) (hr : decide (elt a b) = r) (w : World) : Calls Try.prog 67 #[.agg #[.int .i64 a.f0, .int .i64 a.f1, .int .i64 a.f2], .agg #[.int .i64 b.f0, .int .i64 b.f1, .int .i64 b.f2]] w fun e w' => e = .returned (.bool r) ∧ Below w.heap.size w w' := by
  have HB := Aside0.mk (Below.refl w.heap.size w)
  by_cases h0 : a.f0 = b.f0
  · by_cases h1 : a.f1 = b.f1
    · have d0 : (a.f0 != b.f0) = false := by simp [h0]
      have d1 : (a.f1 != b.f1) = false := by simp [h1]
      have e : decide (a.f2 < b.f2) = r := by rw [← hr]; unfold elt; apply decide_eq_decide.2; omega
      have HE := Aside0.mk e
      clear h0 h1 hr e
      go_enter Try.func67, Try.ntmps67
      go_wp2
      go_ret
      exact ⟨ret_bool HE.out, by repeat (first | exact HB.out | apply below_alloc | apply pw_below_drewN | apply below_drew)⟩
    · have d0 : (a.f0 != b.f0) = false := by simp [h0]
      have d1 : (a.f1 != b.f1) = true := by simp [h1]
      have e : decide (a.f1 < b.f1) = r := by rw [← hr]; unfold elt; apply decide_eq_decide.2; omega
      have HE := Aside0.mk e
      clear h0 h1 hr e
      go_enter Try.func67, Try.ntmps67
      go_wp2
      go_ret
      exact ⟨ret_bool HE.out, by repeat (first | exact HB.out | apply below_alloc | apply pw_below_drewN | apply below_drew)⟩
  · have d0 : (a.f0 != b.f0) = true := by simp [h0]
    have e : decide (a.f0 < b.f0) = r := by rw [← hr]; unfold elt; apply decide_eq_decide.2; omega
    have HE := Aside0.mk e
    clear h0 hr e
    go_enter Try.func67, Try.ntmps67
    go_wp2
    go_ret
    exact ⟨ret_bool HE.out, by repeat (first | exact HB.out | apply below_alloc | apply pw_below_drewN | apply below_drew)⟩

/-- May label i be, behind those ahead? -/
def labAt (ls : List ByteArray) (i : Nat) : Bool := !tooLong (ls.getD i ByteArray.empty) && (decide (i = 0) || Op.bytesLess (ls.getD (i - 1) ByteArray.empty).toList (ls.getD i ByteArray.empty).toList)
def okAt' (n nl : Int) (es : List Ed) (k : Nat) : Bool :=
  decide (0 ≤ (es.getD k z81).f0 ∧ (es.getD k z81).f0 < n) && (decide (0 ≤ (es.getD k z81).f2 ∧ (es.getD k z81).f2 < n) &&
    (decide (0 ≤ (es.getD k z81).f1) && (decide ((es.getD k z81).f1 < nl) && (decide (k = 0) || decide (elt (es.getD (k - 1) z81) (es.getD k z81))))))
def mayR (n : Int) (ls : List ByteArray) (es : List Ed) : Bool :=
  decide (1 ≤ n) && (decide (n ≤ 2048) && (decide (ls.length ≤ 64) && (decide (es.length ≤ 1000000) && ((List.range ls.length).all (labAt ls) && (List.range es.length).all (okAt' n ls.length es)))))
theorem all_bad {p : Nat → Bool} {m k : Nat} (hk : k < m) (h : p k = false) : (List.range m).all p = false := by
  rw [Bool.eq_false_iff]
  intro he
  have := List.all_eq_true.1 he k (List.mem_range.2 hk)
  rw [h] at this
  cases this
theorem all_good {p : Nat → Bool} {m k : Nat} (hk : ¬ k < m) (h : ∀ j, j < k → p j = true) : (List.range m).all p = true :=
  List.all_eq_true.2 fun j hj => h j (by have := List.mem_range.1 hj; omega)

theorem may_size (n : Int) (ls : List ByteArray) (es : List Ed) (A1 A2 : Option Addr) (c1 c2 : Nat) (w : World) (h : n < 1 ∨ 2048 < n ∨ 64 < ls.length ∨ 1000000 < es.length) :
    Calls Try.prog 21 #[.agg #[.int .i64 n, .slice A1 ls.length c1, .slice A2 es.length c2]] w fun e w' => e = .returned (.bool false) ∧ Below w.heap.size w w' := by
  have HB := Aside0.mk (Below.refl w.heap.size w)
  by_cases h0 : n < 1
  · clear h
    go_enter Try.func21, Try.ntmps21
    go_wp2
    go_ret
    exact ⟨rfl, below_alloc HB.out _⟩
  · by_cases h1 : 2048 < n
    · clear h
      go_enter Try.func21, Try.ntmps21
      go_wp2
      go_ret
      exact ⟨rfl, below_alloc HB.out _⟩
    · by_cases h2 : (64 : Int) < (ls.length : Int)
      · clear h
        go_enter Try.func21, Try.ntmps21
        go_wp2
        go_ret
        exact ⟨rfl, below_alloc HB.out _⟩
      · have h3 : (1000000 : Int) < (es.length : Int) := by omega
        clear h
        go_enter Try.func21, Try.ntmps21
        go_wp2
        go_ret
        exact ⟨rfl, below_alloc HB.out _⟩
set_option maxHeartbeats 8000000 in
set_option maxRecDepth 100000 in
theorem may_main (n : Int) (ls : List ByteArray) (es : List Ed) (A1 A2 : Option Addr) (c1 c2 : Nat) (w : World) (h0 : ¬ n < 1) (h1 : ¬ 2048 < n) (h2 : ¬ (64 : Int) < (ls.length : Int)) (h3 : ¬ (1000000 : Int) < (es.length : Int)) (hr1 : Kd.C Kd.string w A1 ls.length ls) (hr2 : Kd.C k81 w A2 es.length es) :
    Calls Try.prog 21 #[.agg #[.int .i64 n, .slice A1 ls.length c1, .slice A2 es.length c2]] w fun e w' => e = .returned (.bool ((List.range ls.length).all (labAt ls) && (List.range es.length).all (okAt' n ls.length es))) ∧ Below w.heap.size w w' := by
  have HR1 := Aside0.mk hr1
  have HR := Aside0.mk hr2
  clear hr1 hr2
  have HB0 := Aside0.mk (Below.refl w.heap.size w)
  go_enter Try.func21, Try.ntmps21
  go_wp2
  go_loopw [3] (fun i wr => ∃ k : Nat, k ≤ ls.length ∧ i = .int .i64 k ∧ Aside0 (∀ j, j < k → labAt ls j = true) ∧ Aside0 (BoxL wr w.heap.size n (.slice A1 ls.length c1) (.slice A2 es.length c2)) ∧ Aside0 (Below w.heap.size w wr)) (fun i _ => ls.length - (intOf i).toNat)
  case atStart => exact ⟨0, Nat.zero_le _, rfl, ⟨fun j hj => by omega⟩, ⟨blk_new w _⟩, ⟨below_alloc HB0.out _⟩⟩
  case round =>
    obtain ⟨k, hk, rfl, hz, HXr, HBr⟩ := hrel
    have b1 := HXr.out.c1
    by_cases hlt : k < ls.length
    · obtain ⟨ad, hA, g0⟩ := atS HR1.out k hlt
      subst hA
      replace g0 := later HBr.out g0
      obtain ⟨s, hs⟩ : ∃ s, s = ls.getD k ByteArray.empty := ⟨_, rfl⟩
      rw [← hs] at g0
      have hs' := Aside0.mk hs; clear hs
      by_cases hL : (200 : Int) < (s.size : Int)
      · have hL' := Aside0.mk (show tooLong s = true from decide_eq_true (by omega))
        have d1 : decide ((200 : Int) < (s.size : Int)) = true := decide_eq_true hL
        have d2 : decide (200 < s.size) = true := decide_eq_true (by omega)
        go_wp2_with fail
        go_quiet (fail)
        go_wp2
        go_ret
        exact ⟨ret_bool (by rw [all_bad hlt (show labAt ls k = false by unfold labAt; rw [← hs'.out, hL'.out]; rfl)]; rfl), by repeat (first | exact HBr.out | apply below_alloc | apply pw_below_drewN | apply below_drew)⟩
      · have hL' := Aside0.mk (show tooLong s = false from decide_eq_false (by omega))
        have d1 : decide ((200 : Int) < (s.size : Int)) = false := decide_eq_false hL
        have d2 : decide (200 < s.size) = false := decide_eq_false (by omega)
        by_cases hK : k = 0
        · have hK' := Aside0.mk hK
          have d3 : decide ((0 : Int) < (k : Int)) = false := decide_eq_false (by omega)
          have d4 : decide (0 < k) = false := decide_eq_false (by omega)
          clear hK
          go_wp2_with fail
          go_quiet (fail)
          go_wp2
          go_roundw
          case rel => exact ⟨k + 1, by omega, by go_num, ⟨fun j hj => by
            rcases Nat.lt_succ_iff_lt_or_eq.1 hj with h | rfl
            · exact hz.out j h
            · unfold labAt; rw [← hs'.out, hL'.out, decide_eq_true hK'.out]; rfl⟩, ⟨HXr.out.below (by repeat (first | exact Below.refl _ _ | apply below_alloc | apply pw_below_drewN | apply below_drew))⟩, ⟨by repeat (first | exact HBr.out | apply below_alloc | apply pw_below_drewN | apply below_drew)⟩⟩
          case measure => simp [intOf]; omega
        · obtain ⟨ad', hA', p0⟩ := atS HR1.out (k - 1) (by omega)
          cases hA'
          replace p0 := later HBr.out p0
          obtain ⟨t, ht⟩ : ∃ t, t = ls.getD (k - 1) ByteArray.empty := ⟨_, rfl⟩
          rw [← ht] at p0
          have ht' := Aside0.mk ht; clear ht
          have d3 : decide ((0 : Int) < (k : Int)) = true := decide_eq_true (by omega)
          have d4 : decide (0 < k) = true := decide_eq_true (by omega)
          have i0 : (0 : Int) ≤ (k : Int) - 1 := by omega
          have i1 : (k : Int) - 1 < (ls.length : Int) := by omega
          have j0 : (1 : Int) ≤ (k : Int) := by omega
          have j1 : (k : Int) < (ls.length : Int) + 1 := by omega
          have j2 : 1 ≤ k := by omega
          have j3 : k - 1 < ls.length := by omega
          have j4 : (k : Int) ≤ (ls.length : Int) := by omega
          have i3 : (k : Int) < (ls.length : Int) := by omega
          have i4 : (0 : Int) ≤ (k : Int) := by omega
          have hw1 : IntKind.i64.wrap ((k : Int) - 1) = (k : Int) - 1 := by rw [IntKind.wrap_i64]; omega
          have hw2 : ((k : Int) - 1).toNat = k - 1 := by omega
          cases hb : Op.bytesLess t.toList s.toList with
          | true =>
            go_wp2_with fail
            go_quiet (fail)
            clear hw1 hw2 i0 i1 i3 i4 j0 j1 j2 j3 j4
            go_wp2
            go_roundw
            case rel => exact ⟨k + 1, by omega, by go_num, ⟨fun j hj => by
              rcases Nat.lt_succ_iff_lt_or_eq.1 hj with h | rfl
              · exact hz.out j h
              · unfold labAt; rw [← hs'.out, ← ht'.out, hL'.out, hb]; simp⟩, ⟨HXr.out.below (by repeat (first | exact Below.refl _ _ | apply below_alloc | apply pw_below_drewN | apply below_drew))⟩, ⟨by repeat (first | exact HBr.out | apply below_alloc | apply pw_below_drewN | apply below_drew)⟩⟩
            case measure => simp [intOf]; omega
          | false =>
            go_wp2_with fail
            go_quiet (fail)
            clear hw1 hw2 i0 i1 i3 i4 j0 j1 j2 j3 j4
            go_wp2
            go_ret
            exact ⟨ret_bool (by rw [all_bad hlt (show labAt ls k = false by unfold labAt; rw [← hs'.out, ← ht'.out, hL'.out, hb, decide_eq_false hK]; rfl)]; rfl), by repeat (first | exact HBr.out | apply below_alloc | apply pw_below_drewN | apply below_drew)⟩
    · have HG := Aside0.mk (all_good hlt hz.out)
      clear hz
      go_wp2
      go_loopw [4] (fun i wr2 => ∃ k : Nat, k ≤ es.length ∧ i = .int .i64 k ∧ Aside0 (∀ j, j < k → okAt' n ls.length es j = true) ∧ Aside0 (BoxL wr2 w.heap.size n (.slice A1 ls.length c1) (.slice A2 es.length c2)) ∧ Aside0 (Below w.heap.size w wr2)) (fun i _ => es.length - (intOf i).toNat)
      case atStart => exact ⟨0, Nat.zero_le _, rfl, ⟨fun j hj => by omega⟩, HXr, HBr⟩
      case round =>
        clear HXr HBr hlt hk b1
        obtain ⟨k, hk, rfl, hz, HXr, HBr⟩ := hrel
        have b2' := HXr.out.c2
        by_cases hlt : k < es.length
        · obtain ⟨ad, hA, g0, g1, g2⟩ := atE HR.out k hlt
          subst hA
          replace g0 := later HBr.out g0
          replace g1 := later HBr.out g1
          replace g2 := later HBr.out g2
          obtain ⟨x, hx⟩ : ∃ x, x = es.getD k z81 := ⟨_, rfl⟩
          rw [← hx] at g0 g1 g2
          have hx' := Aside0.mk hx; clear hx
          go_wp2_with fail
          have b0 : ∀ o, (wr.alloc o).cell? ⟨w.heap.size, 0, none⟩ = some (.int .i64 n) := fun o => (HXr.out.below (below_alloc (Below.refl _ _) o)).c0
          have b1 : ∀ o, (wr.alloc o).cell? ⟨w.heap.size, 1, none⟩ = some (.slice A1 ls.length c1) := fun o => (HXr.out.below (below_alloc (Below.refl _ _) o)).c1
          have b2 : ∀ o, (wr.alloc o).cell? ⟨w.heap.size, 2, none⟩ = some (.slice (some ad) es.length c2) := fun o => (HXr.out.below (below_alloc (Below.refl _ _) o)).c2
          clear b2'
          by_cases h0_ : x.f0 < 0
          · have d0_ : decide (x.f0 < 0) = true := decide_eq_true h0_
            have P0 := Aside0.mk (show decide (0 ≤ x.f0 ∧ x.f0 < n) = false from decide_eq_false (by omega))
            go_quiet (fail)
            go_wp2
            go_ret
            exact ⟨ret_bool (by rw [all_bad hlt (show okAt' n ls.length es k = false by unfold okAt'; rw [← hx'.out, P0.out]; rfl)]; simp), by repeat (first | exact HBr.out | apply below_alloc | apply pw_below_drewN | apply below_drew)⟩
          · have d0_ : decide (x.f0 < 0) = false := decide_eq_false h0_
            by_cases h1_ : n ≤ x.f0
            · have d1_ : decide (n ≤ x.f0) = true := decide_eq_true h1_
              have P0 := Aside0.mk (show decide (0 ≤ x.f0 ∧ x.f0 < n) = false from decide_eq_false (by omega))
              go_quiet (fail)
              go_wp2
              go_ret
              exact ⟨ret_bool (by rw [all_bad hlt (show okAt' n ls.length es k = false by unfold okAt'; rw [← hx'.out, P0.out]; rfl)]; simp), by repeat (first | exact HBr.out | apply below_alloc | apply pw_below_drewN | apply below_drew)⟩
            · have d1_ : decide (n ≤ x.f0) = false := decide_eq_false h1_
              have P0 := Aside0.mk (show decide (0 ≤ x.f0 ∧ x.f0 < n) = true from decide_eq_true (by omega))
              by_cases h2_ : x.f2 < 0
              · have d2_ : decide (x.f2 < 0) = true := decide_eq_true h2_
                have P1 := Aside0.mk (show decide (0 ≤ x.f2 ∧ x.f2 < n) = false from decide_eq_false (by omega))
                go_quiet (fail)
                go_wp2
                go_ret
                exact ⟨ret_bool (by rw [all_bad hlt (show okAt' n ls.length es k = false by unfold okAt'; rw [← hx'.out, P0.out, P1.out]; rfl)]; simp), by repeat (first | exact HBr.out | apply below_alloc | apply pw_below_drewN | apply below_drew)⟩
              · have d2_ : decide (x.f2 < 0) = false := decide_eq_false h2_
                by_cases h3_ : n ≤ x.f2
                · have d3_ : decide (n ≤ x.f2) = true := decide_eq_true h3_
                  have P1 := Aside0.mk (show decide (0 ≤ x.f2 ∧ x.f2 < n) = false from decide_eq_false (by omega))
                  go_quiet (fail)
                  go_wp2
                  go_ret
                  exact ⟨ret_bool (by rw [all_bad hlt (show okAt' n ls.length es k = false by unfold okAt'; rw [← hx'.out, P0.out, P1.out]; rfl)]; simp), by repeat (first | exact HBr.out | apply below_alloc | apply pw_below_drewN | apply below_drew)⟩
                · have d3_ : decide (n ≤ x.f2) = false := decide_eq_false h3_
                  have P1 := Aside0.mk (show decide (0 ≤ x.f2 ∧ x.f2 < n) = true from decide_eq_true (by omega))
                  by_cases h4_ : x.f1 < 0
                  · have d4_ : decide (x.f1 < 0) = true := decide_eq_true h4_
                    have P2 := Aside0.mk (show decide (0 ≤ x.f1) = false from decide_eq_false (by omega))
                    go_quiet (fail)
                    go_wp2
                    go_ret
                    exact ⟨ret_bool (by rw [all_bad hlt (show okAt' n ls.length es k = false by unfold okAt'; rw [← hx'.out, P0.out, P1.out, P2.out]; rfl)]; simp), by repeat (first | exact HBr.out | apply below_alloc | apply pw_below_drewN | apply below_drew)⟩
                  · have d4_ : decide (x.f1 < 0) = false := decide_eq_false h4_
                    have P2 := Aside0.mk (show decide (0 ≤ x.f1) = true from decide_eq_true (by omega))
                    by_cases h5_ : (ls.length : Int) ≤ x.f1
                    · have d5_ : decide ((ls.length : Int) ≤ x.f1) = true := decide_eq_true h5_
                      have P3 := Aside0.mk (show decide (x.f1 < (ls.length : Int)) = false from decide_eq_false (by omega))
                      go_quiet (fail)
                      go_wp2
                      go_ret
                      exact ⟨ret_bool (by rw [all_bad hlt (show okAt' n ls.length es k = false by unfold okAt'; rw [← hx'.out, P0.out, P1.out, P2.out, P3.out]; rfl)]; simp), by repeat (first | exact HBr.out | apply below_alloc | apply pw_below_drewN | apply below_drew)⟩
                    · have d5_ : decide ((ls.length : Int) ≤ x.f1) = false := decide_eq_false h5_
                      have P3 := Aside0.mk (show decide (x.f1 < (ls.length : Int)) = true from decide_eq_true (by omega))
                      by_cases hK : k = 0
                      · have hK' := Aside0.mk hK
                        have d7 : decide ((0 : Int) < (k : Int)) = false := decide_eq_false (by omega)
                        have d8 : decide (0 < k) = false := decide_eq_false (by omega)
                        clear hK
                        go_quiet (fail)
                        go_wp2
                        go_roundw
                        case rel => exact ⟨k + 1, by omega, by go_num, ⟨fun j hj => by
                          rcases Nat.lt_succ_iff_lt_or_eq.1 hj with h | rfl
                          · exact hz.out j h
                          · unfold okAt'; rw [← hx'.out, P0.out, P1.out, P2.out, P3.out, decide_eq_true hK'.out]; rfl⟩, ⟨HXr.out.below (by repeat (first | exact Below.refl _ _ | apply below_alloc | apply pw_below_drewN | apply below_drew))⟩, ⟨by repeat (first | exact HBr.out | apply below_alloc | apply pw_below_drewN | apply below_drew)⟩⟩
                        case measure => simp [intOf]; omega
                      · obtain ⟨ad', hA', p0, p1, p2⟩ := atE HR.out (k - 1) (by omega)
                        cases hA'
                        replace p0 := later HBr.out p0
                        replace p1 := later HBr.out p1
                        replace p2 := later HBr.out p2
                        obtain ⟨y, hy⟩ : ∃ y, y = es.getD (k - 1) z81 := ⟨_, rfl⟩
                        rw [← hy] at p0 p1 p2
                        have hy' := Aside0.mk hy
                        clear hy
                        have q0 := fun o => later (below_alloc (Below.refl wr.heap.size wr) o) p0
                        have q1 := fun o => later (below_alloc (Below.refl wr.heap.size wr) o) p1
                        have q2 := fun o => later (below_alloc (Below.refl wr.heap.size wr) o) p2
                        clear p0 p1 p2
                        have d7 : decide ((0 : Int) < (k : Int)) = true := decide_eq_true (by omega)
                        have d8 : decide (0 < k) = true := decide_eq_true (by omega)
                        have i0 : (0 : Int) ≤ (k : Int) - 1 := by omega
                        have i1 : (k : Int) - 1 < (es.length : Int) := by omega
                        have j0 : (1 : Int) ≤ (k : Int) := by omega
                        have j1 : (k : Int) < (es.length : Int) + 1 := by omega
                        have j2 : 1 ≤ k := by omega
                        have j3 : k - 1 < es.length := by omega
                        have j4 : (k : Int) ≤ (es.length : Int) := by omega
                        have hw1 : IntKind.i64.wrap ((k : Int) - 1) = (k : Int) - 1 := by rw [IntKind.wrap_i64]; omega
                        have hw2 : ((k : Int) - 1).toNat = k - 1 := by omega
                        cases hC : decide (elt y x) with
                        | true =>
                          have HC := Aside0.mk hC; clear hC
                          go_region_held3 (fun w' => w'.cell? ⟨w.heap.size, 0, none⟩ = some (.int .i64 n) ∧ w'.cell? ⟨w.heap.size, 1, none⟩ = some (.slice A1 ls.length c1) ∧ w'.cell? ⟨w.heap.size, 2, none⟩ = some (.slice (some ad) es.length c2) ∧ w'.cell? ⟨wr.heap.size, 0, none⟩ = some (.int .i64 x.f0) ∧ w'.cell? ⟨wr.heap.size, 1, none⟩ = some (.int .i64 x.f1) ∧ w'.cell? ⟨wr.heap.size, 2, none⟩ = some (.int .i64 x.f2) ∧ w'.cell? (ad.add ((k - 1) * 3)) = some (.int .i64 y.f0) ∧ w'.cell? ⟨(ad.add ((k - 1) * 3)).block, (ad.add ((k - 1) * 3)).off + 1, none⟩ = some (.int .i64 y.f1) ∧ w'.cell? ⟨(ad.add ((k - 1) * 3)).block, (ad.add ((k - 1) * 3)).off + 2, none⟩ = some (.int .i64 y.f2)) (first | go_keep | (refine ⟨later hB ?_, later hB ?_, later hB ?_, later hB ?_, later hB ?_, later hB ?_, later hB ?_, later hB ?_, later hB ?_⟩ <;> go_keep)) (first | (go_at_call 67; refine (ahead_any y x _ HC.out _).mono ?_; rintro e w' ⟨rfl, hB⟩))
                          clear hw1 hw2 i0 i1 j0 j1 j2 j3 j4 q0 q1 q2 b0 b1 b2
                          have HW := Aside0.mk (below_then (show Below w.heap.size w _ by repeat (first | exact HBr.out | apply below_alloc | apply pw_below_drewN | apply below_drew)) (below_size (by repeat (first | exact HBr.out | apply below_alloc | apply pw_below_drewN | apply below_drew))) hB)
                          have HXw := Aside0.mk ((HXr.out.below (show Below wr.heap.size wr _ by repeat (first | exact Below.refl _ _ | apply below_alloc | apply pw_below_drewN | apply below_drew))).below hB)
                          clear hB
                          go_wp2
                          go_roundw
                          case rel => exact ⟨k + 1, by omega, by go_num, ⟨fun j hj => by
                            rcases Nat.lt_succ_iff_lt_or_eq.1 hj with h | rfl
                            · exact hz.out j h
                            · unfold okAt'; rw [← hx'.out, ← hy'.out, P0.out, P1.out, P2.out, P3.out, HC.out]; simp⟩, HXw, HW⟩
                          case measure => simp [intOf]; omega
                        | false =>
                          have HC := Aside0.mk hC; clear hC
                          go_region_held3 (fun w' => w'.cell? ⟨w.heap.size, 0, none⟩ = some (.int .i64 n) ∧ w'.cell? ⟨w.heap.size, 1, none⟩ = some (.slice A1 ls.length c1) ∧ w'.cell? ⟨w.heap.size, 2, none⟩ = some (.slice (some ad) es.length c2) ∧ w'.cell? ⟨wr.heap.size, 0, none⟩ = some (.int .i64 x.f0) ∧ w'.cell? ⟨wr.heap.size, 1, none⟩ = some (.int .i64 x.f1) ∧ w'.cell? ⟨wr.heap.size, 2, none⟩ = some (.int .i64 x.f2) ∧ w'.cell? (ad.add ((k - 1) * 3)) = some (.int .i64 y.f0) ∧ w'.cell? ⟨(ad.add ((k - 1) * 3)).block, (ad.add ((k - 1) * 3)).off + 1, none⟩ = some (.int .i64 y.f1) ∧ w'.cell? ⟨(ad.add ((k - 1) * 3)).block, (ad.add ((k - 1) * 3)).off + 2, none⟩ = some (.int .i64 y.f2)) (first | go_keep | (refine ⟨later hB ?_, later hB ?_, later hB ?_, later hB ?_, later hB ?_, later hB ?_, later hB ?_, later hB ?_, later hB ?_⟩ <;> go_keep)) (first | (go_at_call 67; refine (ahead_any y x _ HC.out _).mono ?_; rintro e w' ⟨rfl, hB⟩))
                          clear hw1 hw2 i0 i1 j0 j1 j2 j3 j4 q0 q1 q2 b0 b1 b2
                          have HW := Aside0.mk (below_then (show Below w.heap.size w _ by repeat (first | exact HBr.out | apply below_alloc | apply pw_below_drewN | apply below_drew)) (below_size (by repeat (first | exact HBr.out | apply below_alloc | apply pw_below_drewN | apply below_drew))) hB)
                          have HXw := Aside0.mk ((HXr.out.below (show Below wr.heap.size wr _ by repeat (first | exact Below.refl _ _ | apply below_alloc | apply pw_below_drewN | apply below_drew))).below hB)
                          clear hB
                          go_wp2
                          go_ret
                          exact ⟨ret_bool (by rw [all_bad hlt (show okAt' n ls.length es k = false by unfold okAt'; rw [← hx'.out, ← hy'.out, P0.out, P1.out, P2.out, P3.out, HC.out, decide_eq_false hK]; rfl)]; simp), HW.out⟩
        · have HG2 := Aside0.mk (all_good hlt hz.out)
          go_wp2
          go_ret
          exact ⟨ret_bool (by rw [HG.out, HG2.out]; rfl), HBr.out⟩

/-- semblanceref26.May. -/
theorem may_any (n : Int) (ls : List ByteArray) (es : List Ed) (A1 A2 : Option Addr) (c1 c2 : Nat) (w : World) (hr1 : Kd.C Kd.string w A1 ls.length ls) (hr2 : Kd.C k81 w A2 es.length es) :
    Calls Try.prog 21 #[.agg #[.int .i64 n, .slice A1 ls.length c1, .slice A2 es.length c2]] w fun e w' => e = .returned (.bool (mayR n ls es)) ∧ Below w.heap.size w w' := by
  unfold mayR
  by_cases h : n < 1 ∨ 2048 < n ∨ 64 < ls.length ∨ 1000000 < es.length
  · have : (decide (1 ≤ n) && (decide (n ≤ 2048) && (decide (ls.length ≤ 64) && (decide (es.length ≤ 1000000) && ((List.range ls.length).all (labAt ls) && (List.range es.length).all (okAt' n ls.length es)))))) = false := by
      rcases h with h | h | h | h
      · rw [decide_eq_false (show ¬ 1 ≤ n by omega)]; rfl
      · rw [decide_eq_false (show ¬ n ≤ 2048 by omega)]; simp
      · rw [decide_eq_false (show ¬ ls.length ≤ 64 by omega)]; simp
      · rw [decide_eq_false (show ¬ es.length ≤ 1000000 by omega)]; simp
    rw [this]
    exact may_size n ls es A1 A2 c1 c2 w h
  · rw [decide_eq_true (show 1 ≤ n by omega), decide_eq_true (show n ≤ 2048 by omega), decide_eq_true (show ls.length ≤ 64 by omega), decide_eq_true (show es.length ≤ 1000000 by omega)]
    exact may_main n ls es A1 A2 c1 c2 w (by omega) (by omega) (by omega) (by omega) hr1 hr2

end Go.Proofs.Ytmpiokdomjchiaa.H
