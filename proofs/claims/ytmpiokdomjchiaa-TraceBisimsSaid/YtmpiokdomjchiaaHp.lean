/-
  Walks of the reference of layer 34: Follows, Pairs; of layer 35: Greatest.
-/
import Derived.Test.YtmpiokdomjchiaaHn
set_option linter.unusedVariables false
set_option linter.unusedSimpArgs false
namespace Go.Proofs.Ytmpiokdomjchiaa.H
open Go.RowKit Go.Proofs.Ytmpiokdomjchiaa.Pr Go.Proofs.YtmpiokdomjchiaaW.PrintWords Go.Proofs.Ytmpiokdomjchiaa.Sem Go.Proofs.YtmpiokdomjchiaaW.PrintLast

/-- semblanceref34.Follows. -/
def folR (n : Nat) (es : List Ed) (P : List Bool) (s t : Int) : Bool :=
  es.all fun e => !(e.f0 == s) || ((succL es t e.f1).any fun q => P.getD (e.f2 * n + q).toNat false)
theorem succL_at {n : Int} {ls : List ByteArray} {es : List Ed} (h : mayR n ls es = true) (a b : Int) {k : Nat} (hk : k < (succL es a b).length) : 0 ≤ (succL es a b).getD k 0 ∧ (succL es a b).getD k 0 < n := by
  have hm : (succL es a b).getD k 0 ∈ succL es a b := by
    rw [List.getD_eq_getElem?_getD, List.getElem?_eq_getElem hk]
    exact List.getElem_mem hk
  unfold succL at hm
  obtain ⟨e, he, h2⟩ := List.mem_map.1 hm
  obtain ⟨j, hj, hej⟩ := List.getElem_of_mem (List.mem_filter.1 he).1
  have := (es_at h hj).2
  rw [List.getD_eq_getElem?_getD, List.getElem?_eq_getElem hj] at this
  simp only [Option.getD_some, hej] at this
  rw [h2] at this
  exact this
theorem mul_node {n : Nat} {x q : Int} (hx : 0 ≤ x ∧ x < n) (hq : 0 ≤ q ∧ q < n) (hn : n ≤ 2048) : 0 ≤ x * n ∧ x * n ≤ 4194304 ∧ 0 ≤ x * n + q ∧ x * n + q < ((n * n : Nat) : Int) := by
  obtain ⟨a, rfl⟩ := Int.eq_ofNat_of_zero_le hx.1
  obtain ⟨b, rfl⟩ := Int.eq_ofNat_of_zero_le hq.1
  have ha : a < n := by omega
  have hb : b < n := by omega
  have h1 : a * n + b < n * n := by
    have : (a + 1) * n ≤ n * n := Nat.mul_le_mul_right n ha
    rw [Nat.succ_mul] at this
    omega
  have h2 : a * n ≤ 2048 * 2048 := Nat.mul_le_mul (by omega) hn
  have e1 : ((a : Int) * (n : Int)) = ((a * n : Nat) : Int) := by simp
  rw [e1]
  omega

set_option maxHeartbeats 8000000 in
set_option maxRecDepth 100000 in
theorem folR_any (n : Nat) (ls : List ByteArray) (es : List Ed) (P : List Bool) (s t : Int) (r : Bool) (hr : folR n es P s t = r) (v1 : Value) (A2 A3 : Option Addr) (c2 c3 : Nat) (w : World) (hr2 : Kd.C k81 w A2 es.length es) (hr3 : Kd.C Kd.bool w A3 P.length P) (hm : mayR n ls es = true) (hP : P.length = n * n) :
    Calls Try.prog 90 #[.agg #[.int .i64 n, v1, .slice A2 es.length c2], .slice A3 P.length c3, .int .i64 s, .int .i64 t] w fun e w' => e = .returned (.bool r) ∧ Below w.heap.size w w' := by
  have HB := Aside0.mk (Below.refl w.heap.size w)
  have HR2 := Aside0.mk hr2
  have HR3 := Aside0.mk hr3
  have HM := Aside0.mk hm
  have hn := (n_le hm).2
  have hel := es_le hm
  have HRES := Aside0.mk hr
  have HP := Aside0.mk hP
  clear hr2 hr3 hm hr hP
  go_enter Try.func90, Try.ntmps90
  go_wp2
  go_loopw [10] (fun i wr => ∃ k : Nat, k ≤ es.length ∧ i = .int .i64 k ∧ Aside0 (∀ j, j < k → (!((es.getD j z81).f0 == s) || ((succL es t (es.getD j z81).f1).any fun q => P.getD ((es.getD j z81).f2 * n + q).toNat false)) = true) ∧ Aside0 (BoxL wr w.heap.size n v1 (.slice A2 es.length c2)) ∧ Aside0 (Below w.heap.size w wr)) (fun i _ => es.length - (intOf i).toNat)
  case atStart => exact ⟨0, Nat.zero_le _, rfl, ⟨fun j hj => by omega⟩, ⟨blk_new w _⟩, ⟨below_alloc HB.out _⟩⟩
  case round =>
    obtain ⟨k, hk, rfl, hz, HXr, HBr⟩ := hrel
    have b2 := HXr.out.c2
    by_cases hlt : k < es.length
    · obtain ⟨ad, hA, g0, g1, g2⟩ := atE HR2.out k hlt
      subst hA
      replace g0 := later HBr.out g0
      replace g1 := later HBr.out g1
      replace g2 := later HBr.out g2
      have hxn := (es_at HM.out hlt).2
      obtain ⟨x, hx⟩ : ∃ x, x = es.getD k z81 := ⟨_, rfl⟩
      rw [← hx] at g0 g1 g2 hxn
      have hx' := Aside0.mk hx
      have HXN := Aside0.mk hxn
      clear hx hxn
      have HX1 := Aside0.mk (HXr.out.below (below_alloc (Below.refl _ _) (Obj.cells #[Value.int IntKind.i64 x.f0, Value.int IntKind.i64 x.f1, Value.int IntKind.i64 x.f2] 81)))
      have HB1 := Aside0.mk (below_then HBr.out HBr.out.size (below_alloc (Below.refl _ _) (Obj.cells #[Value.int IntKind.i64 x.f0, Value.int IntKind.i64 x.f1, Value.int IntKind.i64 x.f2] 81)))
      cases p0 : (x.f0 == s) with
      | false =>
        have p1 : (x.f0 != s) = true := by simpa [bne] using p0
        have HQ := Aside0.mk p0
        clear p0
        go_wp2
        go_roundw
        case rel => exact ⟨k + 1, by omega, by go_num, ⟨fun j hj => by
          rcases Nat.lt_succ_iff_lt_or_eq.1 hj with h | rfl
          · exact hz.out j h
          · rw [← hx'.out, HQ.out]; rfl⟩, HX1, HB1⟩
        case measure => simp [intOf]; omega
      | true =>
        have p1 : (x.f0 != s) = false := by simpa [bne] using p0
        have HQ := Aside0.mk p0
        clear p0
        obtain ⟨L, hL⟩ : ∃ L, L = succL es t x.f1 := ⟨_, rfl⟩
        have hLl : L.length ≤ 1000000 := by rw [hL]; exact Nat.le_trans (succL_len _ _ _) hel
        have HL := Aside0.mk hL
        have hLn : ∀ j, j < L.length → 0 ≤ L.getD j 0 ∧ L.getD j 0 < n := fun j hj => by rw [hL] at hj ⊢; exact succL_at HM.out t x.f1 hj
        have HLn := Aside0.mk hLn
        clear hL hLn
        have c0' := fun o => later (below_alloc (Below.refl _ _) o) HXr.out.c0
        have c1' := fun o => later (below_alloc (Below.refl _ _) o) HXr.out.c1
        have c2' := fun o => later (below_alloc (Below.refl _ _) o) HXr.out.c2
        go_wp2_with fail
        clear c0' c1' c2' g0 g1 g2 b2
        obtain ⟨E, hE⟩ : ∃ E, E = wr.heap.size := ⟨_, rfl⟩
        rw [← hE]
        have e2 := (blk_cell (blk_new wr (Obj.cells #[Value.int IntKind.i64 x.f0, Value.int IntKind.i64 x.f1, Value.int IntKind.i64 x.f2] 81)) 2).trans rfl
        rw [← hE] at e2
        clear hE
        generalize (wr.alloc (Obj.cells #[Value.int IntKind.i64 x.f0, Value.int IntKind.i64 x.f1, Value.int IntKind.i64 x.f2] 81)) = U at HX1 HB1 e2 ⊢
        refine (succ_any n ls es t x.f1 _ (some ad) c2 _ (Kd.C_below HR2.out HB1.out) hel).mono ?_
        rintro e w3 ⟨va, rfl, hRa, hBa⟩
        obtain ⟨Aa, ca, rfl, _, hCa⟩ := Kd.R_reads hRa
        rw [← HL.out] at hCa ⊢
        have HCa := Aside0.mk hCa
        have HX3 := Aside0.mk (HX1.out.below hBa)
        have HB3 := Aside0.mk (below_then HB1.out HB1.out.size hBa)
        have HE3 := Aside0.mk (later hBa e2)
        clear hRa hBa hCa e2 HX1 HB1
        go_wp2
        go_loopw [13, 14] (fun b i wr4 => ∃ j : Nat, j ≤ L.length ∧ i = .int .i64 j ∧ b = .bool ((L.take j).any fun q => P.getD (x.f2 * n + q).toNat false) ∧ Aside0 (Below w3.heap.size w3 wr4)) (fun _ i _ => L.length - (intOf i).toNat)
        case atStart => exact ⟨0, Nat.zero_le _, rfl, by simp, ⟨Below.refl _ _⟩⟩
        case round =>
          obtain ⟨j, hj, rfl, rfl, HB6⟩ := hrel
          by_cases hlt4 : j < L.length
          · obtain ⟨av, hAv, g0⟩ := atI HCa.out j hlt4
            subst hAv
            have hqn := HLn.out j hlt4
            have f0 := fun o => later (pw_below_drewN HB6.out o) g0
            have f2 := fun o => later (pw_below_drewN HB6.out o) HE3.out
            obtain ⟨q, hq⟩ : ∃ q, q = L.getD j 0 := ⟨_, rfl⟩
            rw [← hq] at f0 hqn
            have HT2 := Aside0.mk (show ((L.take (j + 1)).any fun q => P.getD (x.f2 * n + q).toNat false) = (((L.take j).any fun q => P.getD (x.f2 * n + q).toNat false) || P.getD (x.f2 * n + q).toNat false) by rw [any_take 0 _ hlt4, hq])
            clear g0 hq
            have hmul := mul_node HXN.out hqn (by omega)
            have hPl := HP.out
            obtain ⟨ap, hAp, gp⟩ := atB HR3.out (x.f2 * n + q).toNat (by omega)
            subst hAp
            have fp := fun o => later (below_then HB3.out HB3.out.size (pw_below_drewN HB6.out o)) gp
            obtain ⟨z, hz2⟩ : ∃ z, z = P.getD (x.f2 * n + q).toNat false := ⟨_, rfl⟩
            rw [← hz2] at fp HT2
            clear gp
            have hw1 : IntKind.i64.wrap (x.f2 * (n : Int)) = x.f2 * (n : Int) := by rw [IntKind.wrap_i64]; omega
            have hw2 : IntKind.i64.wrap (x.f2 * (n : Int) + q) = x.f2 * (n : Int) + q := by rw [IntKind.wrap_i64]; omega
            have hb1 := hmul.2.2.1
            have hb2 : x.f2 * (n : Int) + q < (P.length : Int) := by rw [hPl]; exact hmul.2.2.2
            have HZ := Aside0.mk hz2
            clear hmul hPl hz2
            cases hacc : ((L.take j).any fun q => P.getD (x.f2 * n + q).toNat false) with
            | true =>
              clear hw1 hw2 hb1 hb2
              go_wp2_with fail
              go_quiet (fail)
              go_wp2
              go_roundw
              case rel => exact ⟨j + 1, by omega, by go_num, by rw [HT2.out, hacc]; rfl, ⟨pw_below_drewN HB6.out _⟩⟩
              case measure => simp [intOf]; omega
            | false =>
              go_wp2_with fail
              go_quiet (fail)
              clear hw1 hw2 hb1 hb2
              go_wp2
              go_roundw
              case rel => exact ⟨j + 1, by omega, by go_num, by rw [HT2.out, hacc]; rfl, ⟨pw_below_drewN HB6.out _⟩⟩
              case measure => simp [intOf]; omega
          · have ej : L.take j = L := List.take_of_length_le (by omega)
            obtain ⟨fd, hfd⟩ : ∃ fd, fd = (L.any fun q => P.getD (x.f2 * n + q).toNat false) := ⟨_, rfl⟩
            rw [ej, ← hfd]
            have HFd := Aside0.mk hfd
            have HX6 := Aside0.mk (HX3.out.below HB6.out)
            have HB7 := Aside0.mk (below_then HB3.out HB3.out.size HB6.out)
            clear ej hfd
            cases fd with
            | false =>
              have HF := Aside0.mk (show r = false by
                rw [← HRES.out]
                exact all_no z81 hlt (by rw [← hx'.out, HQ.out, ← HL.out, ← HFd.out]; rfl))
              go_wp2
              go_ret
              exact ⟨ret_bool HF.out.symm, HB7.out⟩
            | true =>
              go_wp2
              go_roundw
              case rel => exact ⟨k + 1, by omega, by go_num, ⟨fun j hj => by
                rcases Nat.lt_succ_iff_lt_or_eq.1 hj with h | rfl
                · exact hz.out j h
                · rw [← hx'.out, HQ.out, ← HL.out, ← HFd.out]; rfl⟩, HX6, HB7⟩
              case measure => simp [intOf]; omega
    · have HF := Aside0.mk (show r = true by rw [← HRES.out]; exact all_yes z81 hlt hz.out)
      go_wp2
      go_ret
      exact ⟨ret_bool HF.out.symm, HBr.out⟩

end Go.Proofs.Ytmpiokdomjchiaa.H
