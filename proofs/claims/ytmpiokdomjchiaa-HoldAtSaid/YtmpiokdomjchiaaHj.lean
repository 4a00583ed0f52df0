/-
  The walk of semblanceref35.Is.
-/
import Derived.Test.YtmpiokdomjchiaaHi
set_option linter.unusedVariables false
set_option linter.unusedSimpArgs false
namespace Go.Proofs.Ytmpiokdomjchiaa.H
open Go.RowKit Go.Proofs.Ytmpiokdomjchiaa.Pr Go.Proofs.YtmpiokdomjchiaaW.PrintWords Go.Proofs.Ytmpiokdomjchiaa.Sem Go.Proofs.YtmpiokdomjchiaaW.PrintLast

/-- Is an edge not answered? -/
def stepBad (rel : List Pair) (es : List Ed) (both : Bool) (s t : Int) (x : Ed) : Bool :=
  ((x.f0 == s) && !((succL es t x.f1).any fun q => relS rel x.f2 q)) || ((both && (x.f0 == t)) && !((succL es s x.f1).any fun q => relS rel q x.f2))
/-- semblanceref35.Is. -/
def refIsB (n : Int) (ls : List ByteArray) (es : List Ed) (rel : List Pair) (both : Bool) : Bool :=
  mayR n ls es && (rel.all (inP n) && rel.all fun p => es.all fun x => !stepBad rel es both p.f0 p.f1 x)
theorem any_take {α : Type} (d : α) (p : α → Bool) {xs : List α} {j : Nat} (hj : j < xs.length) : (xs.take (j + 1)).any p = ((xs.take j).any p || p (xs.getD j d)) := by
  rw [take_snoc d hj, List.any_append]
  simp

set_option maxHeartbeats 16000000 in
set_option maxRecDepth 100000 in
theorem refIs_main (n : Int) (ls : List ByteArray) (es : List Ed) (rel : List Pair) (both : Bool) (A1 A2 A3 : Option Addr) (c1 c2 c3 : Nat) (w : World) (hr1 : Kd.C Kd.string w A1 ls.length ls) (hr2 : Kd.C k81 w A2 es.length es) (hr3 : Kd.C k31 w A3 rel.length rel) (hm : mayR n ls es = true) :
    Calls Try.prog 18 #[.agg #[.int .i64 n, .slice A1 ls.length c1, .slice A2 es.length c2], .slice A3 rel.length c3, .bool both] w fun e w' => e = .returned (.bool (rel.all (inP n) && rel.all fun p => es.all fun x => !stepBad rel es both p.f0 p.f1 x)) ∧ Below w.heap.size w w' := by
  have HB := Aside0.mk (Below.refl w.heap.size w)
  have HC : ∀ W, Below w.heap.size w W → Calls Try.prog 21 #[.agg #[.int .i64 n, .slice A1 ls.length c1, .slice A2 es.length c2]] W fun e w' => e = .returned (.bool true) ∧ Below W.heap.size W w' := fun W hW => by
    have := may_any n ls es A1 A2 c1 c2 W (Kd.C_below hr1 hW) (Kd.C_below hr2 hW)
    rwa [hm] at this
  have HC' := Lib.hid HC
  have HR2 := Aside0.mk hr2
  have HR3 := Aside0.mk hr3
  have hel := es_le hm
  have hrl := C_len hr3
  obtain ⟨r, hr⟩ : ∃ r, r = (rel.all (inP n) && rel.all fun p => es.all fun x => !stepBad rel es both p.f0 p.f1 x) := ⟨_, rfl⟩
  rw [← hr]
  have HRES := Aside0.mk hr
  clear HC hr1 hr2 hr3 hm hr
  go_enter Try.func18, Try.ntmps18
  go_wp2_with fail
  refine (HC'.out _ (below_alloc HB.out _)).mono ?_
  rintro e w1 ⟨rfl, hB⟩
  have HX := Aside0.mk (show BoxL w1 w.heap.size n (.slice A1 ls.length c1) (.slice A2 es.length c2) from blk_below (blk_new w _) hB)
  have HB1 := Aside0.mk (below_then (below_alloc HB.out _) (by simp) hB)
  clear hB
  go_wp2
  go_loopw [7] (fun i wr => ∃ k : Nat, k ≤ rel.length ∧ i = .int .i64 k ∧ Aside0 (∀ j, j < k → inP n (rel.getD j z31) = true) ∧ Aside0 (Below w1.heap.size w1 wr)) (fun i _ => rel.length - (intOf i).toNat)
  case atStart => exact ⟨0, Nat.zero_le _, rfl, ⟨fun j hj => by omega⟩, ⟨Below.refl _ _⟩⟩
  case round =>
    obtain ⟨k, hk, rfl, hz, HBr⟩ := hrel
    have HBw := Aside0.mk (below_then HB1.out HB1.out.size HBr.out)
    have b0 := fun m => later (pw_below_drewN HBr.out m) HX.out.c0
    by_cases hlt : k < rel.length
    · obtain ⟨ad, hA, g0, g1⟩ := atP HR3.out k hlt
      subst hA
      replace g0 := later HBw.out g0
      replace g1 := later HBw.out g1
      obtain ⟨x, hx⟩ : ∃ x, x = rel.getD k z31 := ⟨_, rfl⟩
      rw [← hx] at g0 g1
      have hx' := Aside0.mk hx; clear hx
      obtain ⟨s, hs⟩ : ∃ s, s = x.f0 := ⟨_, rfl⟩
      obtain ⟨t, ht⟩ : ∃ t, t = x.f1 := ⟨_, rfl⟩
      rw [← hs] at g0
      rw [← ht] at g1
      have HS := Aside0.mk hs
      have HT := Aside0.mk ht
      clear hs ht
      have bad : inP n x = false → r = false := by
        intro h
        rw [HRES.out, all_no z31 hlt (by rw [← hx'.out]; exact h)]
        rfl
      have HBad := Aside0.mk bad
      clear bad
      by_cases q0 : s < 0
      · have d0 : decide (s < 0) = true := decide_eq_true q0
        have HF := Aside0.mk (HBad.out (by unfold inP; rw [← HS.out, decide_eq_false (by omega)]; rfl))
        go_wp2_with fail
        go_quiet (fail)
        go_wp2
        go_ret
        exact ⟨ret_bool HF.out.symm, pw_below_drewN HBw.out _⟩
      · have d0 : decide (s < 0) = false := decide_eq_false q0
        by_cases q1 : n ≤ s
        · have d1 : decide (n ≤ s) = true := decide_eq_true q1
          have HF := Aside0.mk (HBad.out (by unfold inP; rw [← HS.out, decide_eq_false (show ¬ s < n by omega)]; simp))
          go_wp2_with fail
          go_quiet (fail)
          go_wp2
          go_ret
          exact ⟨ret_bool HF.out.symm, pw_below_drewN HBw.out _⟩
        · have d1 : decide (n ≤ s) = false := decide_eq_false q1
          by_cases q2 : t < 0
          · have d2 : decide (t < 0) = true := decide_eq_true q2
            have HF := Aside0.mk (HBad.out (by unfold inP; rw [← HT.out, decide_eq_false (show ¬ 0 ≤ t by omega)]; simp))
            go_wp2_with fail
            go_quiet (fail)
            go_wp2
            go_ret
            exact ⟨ret_bool HF.out.symm, pw_below_drewN HBw.out _⟩
          · have d2 : decide (t < 0) = false := decide_eq_false q2
            by_cases q3 : n ≤ t
            · have d3 : decide (n ≤ t) = true := decide_eq_true q3
              have HF := Aside0.mk (HBad.out (by unfold inP; rw [← HT.out, decide_eq_false (show ¬ t < n by omega)]; simp))
              go_wp2_with fail
              go_quiet (fail)
              go_wp2
              go_ret
              exact ⟨ret_bool HF.out.symm, pw_below_drewN HBw.out _⟩
            · have d3 : decide (n ≤ t) = false := decide_eq_false q3
              have HOk := Aside0.mk (show inP n x = true by unfold inP; rw [← HS.out, ← HT.out, decide_eq_true (show 0 ≤ s by omega), decide_eq_true (show 0 ≤ t by omega), decide_eq_true (show s < n by omega), decide_eq_true (show t < n by omega)]; rfl)
              go_wp2_with fail
              go_quiet (fail)
              go_wp2
              go_roundw
              case rel => exact ⟨k + 1, by omega, by go_num, ⟨fun j hj => by
                rcases Nat.lt_succ_iff_lt_or_eq.1 hj with h | rfl
                · exact hz.out j h
                · rw [← hx'.out]; exact HOk.out⟩, ⟨pw_below_drewN HBr.out _⟩⟩
              case measure => simp [intOf]; omega
    · have HIn := Aside0.mk (all_yes z31 hlt hz.out)
      have HRES2 := Aside0.mk (show r = rel.all fun p => es.all fun x => !stepBad rel es both p.f0 p.f1 x by rw [HRES.out, HIn.out, Bool.true_and])
      have HX2 := Aside0.mk (HX.out.below HBr.out)
      go_wp2
      clear hz HBr b0 HRES HX
      go_loopw [10] (fun i wr2 => ∃ k : Nat, k ≤ rel.length ∧ i = .int .i64 k ∧ Aside0 (∀ j, j < k → (es.all fun x => !stepBad rel es both (rel.getD j z31).f0 (rel.getD j z31).f1 x) = true) ∧ Aside0 (Below wr.heap.size wr wr2)) (fun i _ => rel.length - (intOf i).toNat)
      case atStart => exact ⟨0, Nat.zero_le _, rfl, ⟨fun j hj => by omega⟩, ⟨Below.refl _ _⟩⟩
      case round =>
        clear hk hlt
        obtain ⟨k, hk, rfl, hz, HBr⟩ := hrel
        have HBw2 := Aside0.mk (below_then HBw.out HBw.out.size HBr.out)
        by_cases hlt : k < rel.length
        · obtain ⟨ad, hA, g0, g1⟩ := atP HR3.out k hlt
          subst hA
          replace g0 := later HBw2.out g0
          replace g1 := later HBw2.out g1
          obtain ⟨p, hp⟩ : ∃ p, p = rel.getD k z31 := ⟨_, rfl⟩
          rw [← hp] at g0 g1
          have hp' := Aside0.mk hp; clear hp
          obtain ⟨s, hs⟩ : ∃ s, s = p.f0 := ⟨_, rfl⟩
          obtain ⟨t, ht⟩ : ∃ t, t = p.f1 := ⟨_, rfl⟩
          rw [← hs] at g0
          rw [← ht] at g1
          have HS := Aside0.mk hs
          have HT := Aside0.mk ht
          clear hs ht
          go_wp2_with fail
          go_quiet (fail)
          go_wp2
          clear g0 g1
          have HX3 := Aside0.mk (HX2.out.below (pw_below_drewN HBr.out nq))
          have HBw3 := Aside0.mk (pw_below_drewN HBw2.out nq)
          have HBr3 := Aside0.mk (pw_below_drewN HBr.out nq)
          generalize (World.drewN wr nq) = W at HX3 HBw3 HBr3 ⊢
          go_loopw [13] (fun i wr3 => ∃ m : Nat, m ≤ es.length ∧ i = .int .i64 m ∧ Aside0 (∀ j, j < m → (!stepBad rel es both s t (es.getD j z81)) = true) ∧ Aside0 (Below W.heap.size W wr3)) (fun i _ => es.length - (intOf i).toNat)
          case atStart => exact ⟨0, Nat.zero_le _, rfl, ⟨fun j hj => by omega⟩, ⟨Below.refl _ _⟩⟩
          case round =>
            obtain ⟨m, hm, rfl, hz3, HB3⟩ := hrel
            have HX4 := Aside0.mk (HX3.out.below HB3.out)
            have HBw4 := Aside0.mk (below_then HBw3.out HBw3.out.size HB3.out)
            have b2 := HX4.out.c2
            by_cases hlt3 : m < es.length
            · obtain ⟨ad2, hA2, g0, g1, g2⟩ := atE HR2.out m hlt3
              subst hA2
              replace g0 := later HBw4.out g0
              replace g1 := later HBw4.out g1
              replace g2 := later HBw4.out g2
              obtain ⟨x, hx⟩ : ∃ x, x = es.getD m z81 := ⟨_, rfl⟩
              rw [← hx] at g0 g1 g2
              have hx' := Aside0.mk hx; clear hx
              go_wp2_with fail
              clear g0 g1 g2 b2
              obtain ⟨E, hE⟩ : ∃ E, E = wr.heap.size := ⟨_, rfl⟩
              rw [← hE]
              have e0 := (blk_cell (blk_new wr (Obj.cells #[Value.int IntKind.i64 x.f0, Value.int IntKind.i64 x.f1, Value.int IntKind.i64 x.f2] 81)) 0).trans rfl
              have e1 := (blk_cell (blk_new wr (Obj.cells #[Value.int IntKind.i64 x.f0, Value.int IntKind.i64 x.f1, Value.int IntKind.i64 x.f2] 81)) 1).trans rfl
              have e2 := (blk_cell (blk_new wr (Obj.cells #[Value.int IntKind.i64 x.f0, Value.int IntKind.i64 x.f1, Value.int IntKind.i64 x.f2] 81)) 2).trans rfl
              rw [← hE] at e0 e1 e2
              have HX5 := Aside0.mk (HX4.out.below (below_drew1 (below_alloc (Below.refl _ _) (Obj.cells #[Value.int IntKind.i64 x.f0, Value.int IntKind.i64 x.f1, Value.int IntKind.i64 x.f2] 81))))
              have HBw5 := Aside0.mk (below_then HBw4.out HBw4.out.size (below_drew1 (below_alloc (Below.refl _ _) (Obj.cells #[Value.int IntKind.i64 x.f0, Value.int IntKind.i64 x.f1, Value.int IntKind.i64 x.f2] 81))))
              have HB5 := Aside0.mk (below_then HB3.out HB3.out.size (below_drew1 (below_alloc (Below.refl _ _) (Obj.cells #[Value.int IntKind.i64 x.f0, Value.int IntKind.i64 x.f1, Value.int IntKind.i64 x.f2] 81))))
              clear hE HX4 HBw4 HB3
              generalize (wr.alloc (Obj.cells #[Value.int IntKind.i64 x.f0, Value.int IntKind.i64 x.f1, Value.int IntKind.i64 x.f2] 81)) = U at HX5 HBw5 HB5 e0 e1 e2 ⊢
              obtain ⟨L1, hL1⟩ : ∃ L, L = succL es t x.f1 := ⟨_, rfl⟩
              obtain ⟨L2, hL2⟩ : ∃ L, L = succL es s x.f1 := ⟨_, rfl⟩
              have HL1 := Aside0.mk hL1
              have HL2 := Aside0.mk hL2
              have hl1 : L1.length ≤ 1000000 := by rw [hL1]; exact Nat.le_trans (succL_len _ _ _) hel
              have hl2 : L2.length ≤ 1000000 := by rw [hL2]; exact Nat.le_trans (succL_len _ _ _) hel
              clear hL1 hL2
              refine start_ (n := 12) (S := fun w' => w'.cell? ⟨w.heap.size, 0, none⟩ = some (.int .i64 n) ∧ w'.cell? ⟨w.heap.size, 1, none⟩ = some (.slice A1 ls.length c1) ∧ w'.cell? ⟨w.heap.size, 2, none⟩ = some (.slice (some ad2) es.length c2) ∧ w'.cell? ⟨E, 0, none⟩ = some (.int .i64 x.f0) ∧ w'.cell? ⟨E, 1, none⟩ = some (.int .i64 x.f1) ∧ w'.cell? ⟨E, 2, none⟩ = some (.int .i64 x.f2)) (ds := []) #[false, false, false, false, false, false, false, false, false, false, false, false] (by kernel_rfl) rfl rfl ⟨HX5.out.c0, HX5.out.c1, HX5.out.c2, e0, e1, e2⟩ (fun hHeld => ?_)
              clear e0 e1 e2
              refine pure_ (i := 1) (N := some 87) (v := ?_) (a' := ?_) #[false, true, false, false, false, false, false, false, false, false, false, false] rfl rfl (by kernel_rfl) (fun _ _ _ h => h) (Or.inl ⟨by rfl, ?_⟩) ?_ ?_
              rotate_left
              · intro w'
                go_simp
                with_reducible rfl
              rotate_left
              · simp only [Act.put, List.setIfInBounds_toArray, List.set_cons_zero, List.set_cons_succ, i64_w, i32_w]
                rfl
              refine pure_ (i := 2) (N := some 88) (v := ?_) (a' := ?_) #[false, true, true, false, false, false, false, false, false, false, false, false] rfl rfl (by kernel_rfl) (fun _ _ _ h => h) (Or.inl ⟨by rfl, ?_⟩) ?_ ?_
              rotate_left
              · intro w'
                go_simp
                with_reducible rfl
              rotate_left
              · simp only [Act.put, List.setIfInBounds_toArray, List.set_cons_zero, List.set_cons_succ, i64_w, i32_w]
                rfl
              refine pure_ (i := 6) (N := some 92) (v := ?_) (a' := ?_) #[false, true, true, false, false, false, true, false, false, false, false, false] rfl rfl (by kernel_rfl) (fun _ _ _ h => h) (Or.inl ⟨by rfl, ?_⟩) ?_ ?_
              rotate_left
              · intro w'
                go_simp
                with_reducible rfl
              rotate_left
              · simp only [Act.put, List.setIfInBounds_toArray, List.set_cons_zero, List.set_cons_succ, i64_w, i32_w]
                rfl
              refine pure_ (i := 7) (N := some 93) (v := ?_) (a' := ?_) #[false, true, true, false, false, false, true, true, false, false, false, false] rfl rfl (by kernel_rfl) (fun _ _ _ h => h) (Or.inl ⟨by rfl, ?_⟩) ?_ ?_
              rotate_left
              · intro w'
                go_simp
                with_reducible rfl
              rotate_left
              · simp only [Act.put, List.setIfInBounds_toArray, List.set_cons_zero, List.set_cons_succ, i64_w, i32_w]
                rfl
              refine take_ (i := 0) (N := some 86) (v := ?_) (a' := ?_) #[true, true, true, false, false, false, true, true, false, false, false, false] rfl rfl (by kernel_rfl) (fun _ _ _ h => h) (Or.inl ⟨by rfl, ?_⟩) hHeld ?_ ?_
              rotate_left
              · rintro w' ⟨s0, s1, s2, s3, s4, s5⟩
                go_simp
                with_reducible rfl
              rotate_left
              · simp only [Act.put, List.setIfInBounds_toArray, List.set_cons_zero, List.set_cons_succ, i64_w, i32_w]
                rfl
              refine take_ (i := 3) (N := some 89) (v := ?_) (a' := ?_) #[true, true, true, true, false, false, true, true, false, false, false, false] rfl rfl (by kernel_rfl) (fun _ _ _ h => h) (Or.inl ⟨by rfl, ?_⟩) hHeld ?_ ?_
              rotate_left
              · rintro w' ⟨s0, s1, s2, s3, s4, s5⟩
                go_simp
                with_reducible rfl
              rotate_left
              · simp only [Act.put, List.setIfInBounds_toArray, List.set_cons_zero, List.set_cons_succ, i64_w, i32_w]
                rfl
              refine take_ (i := 5) (N := some 91) (v := ?_) (a' := ?_) #[true, true, true, true, false, true, true, true, false, false, false, false] rfl rfl (by kernel_rfl) (fun _ _ _ h => h) (Or.inl ⟨by rfl, ?_⟩) hHeld ?_ ?_
              rotate_left
              · rintro w' ⟨s0, s1, s2, s3, s4, s5⟩
                go_simp
                with_reducible rfl
              rotate_left
              · simp only [Act.put, List.setIfInBounds_toArray, List.set_cons_zero, List.set_cons_succ, i64_w, i32_w]
                rfl
              refine take_ (i := 8) (N := some 94) (v := ?_) (a' := ?_) #[true, true, true, true, false, true, true, true, true, false, false, false] rfl rfl (by kernel_rfl) (fun _ _ _ h => h) (Or.inl ⟨by rfl, ?_⟩) hHeld ?_ ?_
              rotate_left
              · rintro w' ⟨s0, s1, s2, s3, s4, s5⟩
                go_simp
                with_reducible rfl
              rotate_left
              · simp only [Act.put, List.setIfInBounds_toArray, List.set_cons_zero, List.set_cons_succ, i64_w, i32_w]
                rfl
              refine one_ (i := 4) (N := some 90) #[true, true, true, true, true, true, true, true, true, false, false, false] rfl rfl (by kernel_rfl) (by decide) (fun K hK => ?_)
              refine goes_ Try.func64 (by kernel_rfl) rfl #[.agg #[.int .i64 n, .slice A1 ls.length c1, .slice (some ad2) es.length c2], .int .i64 t, .int .i64 x.f1] (by rfl) rfl rfl (by simp only [List.map_toArray, List.map_cons, List.map_nil]; rfl) ?_
              refine (succ_any n ls es t x.f1 _ (some ad2) c2 _ (Kd.C_below HR2.out HBw5.out) hel).mono ?_
              rintro e w3 ⟨va, rfl, hRa, hBa⟩
              refine ⟨_, rfl, ?_⟩
              obtain ⟨Aa, ca, rfl, _, hCa⟩ := Kd.R_reads hRa
              rw [← HL1.out] at hCa ⊢
              have HCa := Aside0.mk hCa
              have HBa := Aside0.mk hBa
              have HW3 := Aside0.mk (below_then HBw5.out HBw5.out.size hBa)
              have HV3 := Aside0.mk (below_then HB5.out HB5.out.size hBa)
              clear hRa hBa hCa
              refine hK.out _ _ ⟨later HBa.out hHeld.1, later HBa.out hHeld.2.1, later HBa.out hHeld.2.2.1, later HBa.out hHeld.2.2.2.1, later HBa.out hHeld.2.2.2.2.1, later HBa.out hHeld.2.2.2.2.2⟩ (fun hHeld => ?_)
              clear hK K
              refine norm_ (a' := ?_) ?_ ?_
              rotate_left
              · show Act.put _ (some 90) _ = _
                simp only [Act.put, List.setIfInBounds_toArray, List.set_cons_zero, List.set_cons_succ, i64_w, i32_w]
                rfl
              refine one_ (i := 9) (N := some 95) #[true, true, true, true, true, true, true, true, true, true, false, false] rfl rfl (by kernel_rfl) (by decide) (fun K hK => ?_)
              refine goes_ Try.func64 (by kernel_rfl) rfl #[.agg #[.int .i64 n, .slice A1 ls.length c1, .slice (some ad2) es.length c2], .int .i64 s, .int .i64 x.f1] (by rfl) rfl rfl (by simp only [List.map_toArray, List.map_cons, List.map_nil]; rfl) ?_
              refine (succ_any n ls es s x.f1 _ (some ad2) c2 _ (Kd.C_below HR2.out HW3.out) hel).mono ?_
              rintro e w4 ⟨vb, rfl, hRb, hBb⟩
              refine ⟨_, rfl, ?_⟩
              obtain ⟨Ab, cb, rfl, _, hCb⟩ := Kd.R_reads hRb
              rw [← HL2.out] at hCb ⊢
              have HCb := Aside0.mk hCb
              have HCa4 := Aside0.mk (Kd.C_below HCa.out hBb)
              have HBb := Aside0.mk hBb
              have HW4 := Aside0.mk (below_then HW3.out HW3.out.size hBb)
              have HV4 := Aside0.mk (below_then HV3.out HV3.out.size hBb)
              clear hRb hBb hCb HCa
              refine hK.out _ _ ⟨later HBb.out hHeld.1, later HBb.out hHeld.2.1, later HBb.out hHeld.2.2.1, later HBb.out hHeld.2.2.2.1, later HBb.out hHeld.2.2.2.2.1, later HBb.out hHeld.2.2.2.2.2⟩ (fun hHeld => ?_)
              clear hK K
              refine norm_ (a' := ?_) ?_ ?_
              rotate_left
              · show Act.put _ (some 95) _ = _
                simp only [Act.put, List.setIfInBounds_toArray, List.set_cons_zero, List.set_cons_succ, i64_w, i32_w]
                rfl
              refine pure_ (i := 10) (N := some 15) (v := ?_) (a' := ?_) #[true, true, true, true, true, true, true, true, true, true, true, false] rfl rfl (by kernel_rfl) (fun _ _ _ h => h) (Or.inl ⟨by rfl, ?_⟩) ?_ ?_
              rotate_left
              · intro w'
                go_simp
                with_reducible rfl
              rotate_left
              · simp only [Act.put, List.setIfInBounds_toArray, List.set_cons_zero, List.set_cons_succ, i64_w, i32_w]
                rfl
              refine pure_ (i := 11) (N := some 16) (v := ?_) (a' := ?_) #[true, true, true, true, true, true, true, true, true, true, true, true] rfl rfl (by kernel_rfl) (fun _ _ _ h => h) (Or.inl ⟨by rfl, ?_⟩) ?_ ?_
              rotate_left
              · intro w'
                go_simp
                with_reducible rfl
              rotate_left
              · simp only [Act.put, List.setIfInBounds_toArray, List.set_cons_zero, List.set_cons_succ, i64_w, i32_w]
                rfl
              refine done_ (by kernel_rfl) ?_
              have HH := Aside0.mk hHeld
              clear hHeld HBa HBb HW3 HV3 HX5 HBw5 HB5
              go_wp2
              go_loopw [17, 19] (fun b i wr4 => ∃ j : Nat, j ≤ L1.length ∧ i = .int .i64 j ∧ b = .bool ((L1.take j).any fun q => relS rel x.f2 q) ∧ Aside0 (Below w4.heap.size w4 wr4)) (fun _ i _ => L1.length - (intOf i).toNat)
              case atStart => exact ⟨0, Nat.zero_le _, rfl, by simp, ⟨Below.refl _ _⟩⟩
              case round =>
                obtain ⟨j, hj, rfl, rfl, HB6⟩ := hrel
                by_cases hlt4 : j < L1.length
                · obtain ⟨av, hAv, g0⟩ := atI HCa4.out j hlt4
                  subst hAv
                  have f0 := fun o => later (pw_below_drewN HB6.out o) g0
                  have f2 := fun o => later (pw_below_drewN HB6.out o) HH.out.2.2.2.2.2
                  obtain ⟨q, hq⟩ : ∃ q, q = L1.getD j 0 := ⟨_, rfl⟩
                  rw [← hq] at f0
                  have HT2 := Aside0.mk (show ((L1.take (j + 1)).any fun q => relS rel x.f2 q) = (((L1.take j).any fun q => relS rel x.f2 q) || relS rel x.f2 q) by rw [any_take 0 _ hlt4, hq])
                  clear g0 hq
                  have HC3 := fun o => Aside0.mk (Kd.C_below HR3.out (below_then HW4.out HW4.out.size (pw_below_drewN HB6.out o)))
                  cases hacc : ((L1.take j).any fun q => relS rel x.f2 q) with
                  | true =>
                    go_wp2_with fail
                    go_quiet (fail)
                    go_wp2
                    go_roundw
                    case rel => exact ⟨j + 1, by omega, by go_num, by rw [HT2.out, hacc]; rfl, ⟨pw_below_drewN HB6.out _⟩⟩
                    case measure => simp [intOf]; omega
                  | false =>
                    obtain ⟨z, hz⟩ : ∃ z, z = relS rel x.f2 q := ⟨_, rfl⟩
                    go_wp2_with fail
                    go_quiet ((go_at_call 25; exact quiet_same (in_any rel x.f2 q z hz.symm _ _ _ (HC3 _).out)))
                    go_wp2
                    go_roundw
                    case rel => exact ⟨j + 1, by omega, by go_num, by rw [HT2.out, hacc, ← hz]; rfl, ⟨pw_below_drewN HB6.out _⟩⟩
                    case measure => simp [intOf]; omega
                · have ej : L1.take j = L1 := List.take_of_length_le (by omega)
                  have HB7 := Aside0.mk HB6.out
                  obtain ⟨ah, hah⟩ : ∃ ah, ah = (L1.any fun q => relS rel x.f2 q) := ⟨_, rfl⟩
                  rw [ej, ← hah]
                  have HAh := Aside0.mk hah
                  clear ej hah HB6
                  go_wp2
                  clear hlt4 hj
                  go_loopw [18, 20] (fun b i wr5 => ∃ j : Nat, j ≤ L2.length ∧ i = .int .i64 j ∧ b = .bool ((L2.take j).any fun q => relS rel q x.f2) ∧ Aside0 (Below w4.heap.size w4 wr5)) (fun _ i _ => L2.length - (intOf i).toNat)
                  case atStart => exact ⟨0, Nat.zero_le _, rfl, by simp, HB7⟩
                  case round =>
                    clear HB7
                    obtain ⟨j, hj, rfl, rfl, HB6⟩ := hrel
                    by_cases hlt4 : j < L2.length
                    · obtain ⟨av, hAv, g0⟩ := atI HCb.out j hlt4
                      subst hAv
                      have f0 := fun o => later (pw_below_drewN HB6.out o) g0
                      have f2 := fun o => later (pw_below_drewN HB6.out o) HH.out.2.2.2.2.2
                      obtain ⟨q, hq⟩ : ∃ q, q = L2.getD j 0 := ⟨_, rfl⟩
                      rw [← hq] at f0
                      have HT2 := Aside0.mk (show ((L2.take (j + 1)).any fun q => relS rel q x.f2) = (((L2.take j).any fun q => relS rel q x.f2) || relS rel q x.f2) by rw [any_take 0 _ hlt4, hq])
                      clear g0 hq
                      have HC3 := fun o => Aside0.mk (Kd.C_below HR3.out (below_then HW4.out HW4.out.size (pw_below_drewN HB6.out o)))
                      cases hacc : ((L2.take j).any fun q => relS rel q x.f2) with
                      | true =>
                        go_wp2_with fail
                        go_quiet (fail)
                        go_wp2
                        go_roundw
                        case rel => exact ⟨j + 1, by omega, by go_num, by rw [HT2.out, hacc]; rfl, ⟨pw_below_drewN HB6.out _⟩⟩
                        case measure => simp [intOf]; omega
                      | false =>
                        obtain ⟨z, hz⟩ : ∃ z, z = relS rel q x.f2 := ⟨_, rfl⟩
                        go_wp2_with fail
                        go_quiet ((go_at_call 25; exact quiet_same (in_any rel q x.f2 z hz.symm _ _ _ (HC3 _).out)))
                        go_wp2
                        go_roundw
                        case rel => exact ⟨j + 1, by omega, by go_num, by rw [HT2.out, hacc, ← hz]; rfl, ⟨pw_below_drewN HB6.out _⟩⟩
                        case measure => simp [intOf]; omega
                    · have ej : L2.take j = L2 := List.take_of_length_le (by omega)
                      obtain ⟨bk, hbk⟩ : ∃ bk, bk = (L2.any fun q => relS rel q x.f2) := ⟨_, rfl⟩
                      rw [ej, ← hbk]
                      have HSB := Aside0.mk (show stepBad rel es both s t x = (((x.f0 == s) && !ah) || ((both && (x.f0 == t)) && !bk)) by unfold stepBad; rw [← HL1.out, ← HL2.out, ← HAh.out, ← hbk])
                      have HV6 := Aside0.mk (below_then HV4.out HV4.out.size HB6.out)
                      have HW6 := Aside0.mk (below_then HW4.out HW4.out.size HB6.out)
                      have f0 := later HB6.out HH.out.2.2.2.1
                      clear ej hbk HB6
                      have fin : stepBad rel es both s t x = true → r = false := by
                        intro h
                        rw [HRES2.out]
                        refine all_no z31 hlt ?_
                        rw [← hp'.out, ← HS.out, ← HT.out]
                        exact all_no z81 hlt3 (by rw [← hx'.out, h]; rfl)
                      have HFin := Aside0.mk fin
                      clear fin
                      cases p0 : (x.f0 == s) with
                      | true =>
                        cases ah with
                        | false =>
                          have HF := Aside0.mk (HFin.out (by rw [HSB.out, p0]; rfl))
                          go_wp2
                          go_ret
                          exact ⟨ret_bool HF.out.symm, HW6.out⟩
                        | true =>
                          cases both with
                          | false =>
                            have HF := Aside0.mk (show (!stepBad rel es false s t x) = true by rw [HSB.out, p0]; rfl)
                            go_wp2
                            go_roundw
                            case rel => exact ⟨m + 1, by omega, by go_num, ⟨fun j hj => by
                              rcases Nat.lt_succ_iff_lt_or_eq.1 hj with h | rfl
                              · exact hz3.out j h
                              · rw [← hx'.out]; exact HF.out⟩, HV6⟩
                            case measure => simp [intOf]; omega
                          | true =>
                            cases p1 : (x.f0 == t) with
                            | false =>
                              have HF := Aside0.mk (show (!stepBad rel es true s t x) = true by rw [HSB.out, p0, p1]; rfl)
                              go_wp2
                              go_roundw
                              case rel => exact ⟨m + 1, by omega, by go_num, ⟨fun j hj => by
                                rcases Nat.lt_succ_iff_lt_or_eq.1 hj with h | rfl
                                · exact hz3.out j h
                                · rw [← hx'.out]; exact HF.out⟩, HV6⟩
                              case measure => simp [intOf]; omega
                            | true =>
                              cases bk with
                              | false =>
                                have HF := Aside0.mk (HFin.out (by rw [HSB.out, p0, p1]; simp))
                                go_wp2
                                go_ret
                                exact ⟨ret_bool HF.out.symm, HW6.out⟩
                              | true =>
                                have HF := Aside0.mk (show (!stepBad rel es true s t x) = true by rw [HSB.out, p0, p1]; simp)
                                go_wp2
                                go_roundw
                                case rel => exact ⟨m + 1, by omega, by go_num, ⟨fun j hj => by
                                  rcases Nat.lt_succ_iff_lt_or_eq.1 hj with h | rfl
                                  · exact hz3.out j h
                                  · rw [← hx'.out]; exact HF.out⟩, HV6⟩
                                case measure => simp [intOf]; omega
                      | false =>
                        cases both with
                        | false =>
                          have HF := Aside0.mk (show (!stepBad rel es false s t x) = true by rw [HSB.out, p0]; rfl)
                          go_wp2
                          go_roundw
                          case rel => exact ⟨m + 1, by omega, by go_num, ⟨fun j hj => by
                            rcases Nat.lt_succ_iff_lt_or_eq.1 hj with h | rfl
                            · exact hz3.out j h
                            · rw [← hx'.out]; exact HF.out⟩, HV6⟩
                          case measure => simp [intOf]; omega
                        | true =>
                          cases p1 : (x.f0 == t) with
                          | false =>
                            have HF := Aside0.mk (show (!stepBad rel es true s t x) = true by rw [HSB.out, p0, p1]; rfl)
                            go_wp2
                            go_roundw
                            case rel => exact ⟨m + 1, by omega, by go_num, ⟨fun j hj => by
                              rcases Nat.lt_succ_iff_lt_or_eq.1 hj with h | rfl
                              · exact hz3.out j h
                              · rw [← hx'.out]; exact HF.out⟩, HV6⟩
                            case measure => simp [intOf]; omega
                          | true =>
                            cases bk with
                            | false =>
                              have HF := Aside0.mk (HFin.out (by rw [HSB.out, p0, p1]; simp))
                              go_wp2
                              go_ret
                              exact ⟨ret_bool HF.out.symm, HW6.out⟩
                            | true =>
                              have HF := Aside0.mk (show (!stepBad rel es true s t x) = true by rw [HSB.out, p0, p1]; simp)
                              go_wp2
                              go_roundw
                              case rel => exact ⟨m + 1, by omega, by go_num, ⟨fun j hj => by
                                rcases Nat.lt_succ_iff_lt_or_eq.1 hj with h | rfl
                                · exact hz3.out j h
                                · rw [← hx'.out]; exact HF.out⟩, HV6⟩
                              case measure => simp [intOf]; omega
            · have HF := Aside0.mk (show (es.all fun x => !stepBad rel es both p.f0 p.f1 x) = true by rw [← HS.out, ← HT.out]; exact all_yes z81 hlt3 hz3.out)
              go_wp2
              go_roundw
              case rel => exact ⟨k + 1, by omega, by go_num, ⟨fun j hj => by
                rcases Nat.lt_succ_iff_lt_or_eq.1 hj with h | rfl
                · exact hz.out j h
                · rw [← hp'.out]; exact HF.out⟩, ⟨below_then HBr3.out HBr3.out.size HB3.out⟩⟩
              case measure => simp [intOf]; omega
        · have HF := Aside0.mk (show r = true by rw [HRES2.out]; exact all_yes z31 hlt hz.out)
          go_wp2
          go_ret
          exact ⟨ret_bool HF.out.symm, HBw2.out⟩

end Go.Proofs.Ytmpiokdomjchiaa.H
