/-
  The walk of bisim's follows.
-/
import Derived.Test.YtmpiokdomjchiaaHo
set_option linter.unusedVariables false
set_option linter.unusedSimpArgs false
namespace Go.Proofs.Ytmpiokdomjchiaa.H
open Go.RowKit Go.Proofs.Ytmpiokdomjchiaa.Pr Go.Proofs.YtmpiokdomjchiaaW.PrintWords Go.Proofs.Ytmpiokdomjchiaa.Sem Go.Proofs.YtmpiokdomjchiaaW.PrintLast

/-- Node i's edges. -/
def outE (es : List Ed) (i : Int) : List Ed := es.filter fun e => decide (e.f0 = i)
/-- Does an edge answer another one? -/
def answers (S : Int → Int → Bool) (turned : Bool) (e f : Ed) : Bool := (e.f1 == f.f1) && (if turned then S f.f2 e.f2 else S e.f2 f.f2)
/-- Does the second one follow the first one (or, turned, the first one the second)? -/
def followsB (es : List Ed) (S : Int → Int → Bool) (turned : Bool) (a b : Int) : Bool :=
  (outE es (if turned then b else a)).all fun e => (outE es (if turned then a else b)).any fun f => answers S turned e f
theorem all_no {α : Type} (d : α) {p : α → Bool} {xs : List α} {k : Nat} (hk : k < xs.length) (h : p (xs.getD k d) = false) : xs.all p = false := by
  rw [Bool.eq_false_iff]
  intro he
  have := List.all_eq_true.1 he (xs.getD k d) (by rw [List.getD_eq_getElem?_getD, List.getElem?_eq_getElem hk]; exact List.getElem_mem hk)
  rw [h] at this
  cases this
theorem all_yes {α : Type} (d : α) {p : α → Bool} {xs : List α} {k : Nat} (hk : ¬ k < xs.length) (h : ∀ j, j < k → p (xs.getD j d) = true) : xs.all p = true := by
  rw [List.all_eq_true]
  intro x hx
  obtain ⟨j, hj, rfl⟩ := List.getElem_of_mem hx
  have := h j (by omega)
  rwa [List.getD_eq_getElem?_getD, List.getElem?_eq_getElem hj] at this
theorem any_yes {α : Type} (d : α) {p : α → Bool} {xs : List α} {k : Nat} (hk : k < xs.length) (h : p (xs.getD k d) = true) : xs.any p = true :=
  List.any_eq_true.2 ⟨xs.getD k d, by rw [List.getD_eq_getElem?_getD, List.getElem?_eq_getElem hk]; exact List.getElem_mem hk, h⟩
theorem any_no {α : Type} (d : α) {p : α → Bool} {xs : List α} {k : Nat} (hk : ¬ k < xs.length) (h : ∀ j, j < k → p (xs.getD j d) = false) : xs.any p = false := by
  rw [List.any_eq_false]
  intro x hx
  obtain ⟨j, hj, rfl⟩ := List.getElem_of_mem hx
  have := h j (by omega)
  rw [List.getD_eq_getElem?_getD, List.getElem?_eq_getElem hj] at this
  simpa using this
theorem outE_at {n : Int} {ls : List ByteArray} {es : List Ed} (h : mayR n ls es = true) (i : Int) {k : Nat} (hk : k < (outE es i).length) : 0 ≤ ((outE es i).getD k z81).f2 ∧ ((outE es i).getD k z81).f2 < n := by
  have hm : (outE es i).getD k z81 ∈ es := by
    rw [List.getD_eq_getElem?_getD, List.getElem?_eq_getElem hk]
    exact (List.mem_filter.1 (List.getElem_mem hk)).1
  obtain ⟨j, hj, he⟩ := List.getElem_of_mem hm
  have := (es_at h hj).2
  rw [List.getD_eq_getElem?_getD, List.getElem?_eq_getElem hj] at this
  simpa [he] using this
theorem okNode {n x : Int} (h0 : 0 ≤ x) (h1 : x < n) (hn : n ≤ 2048) : i64ok x := by unfold i64ok; omega

set_option maxHeartbeats 8000000 in
set_option maxRecDepth 100000 in
theorem follows_false (base : Nat) (n : Nat) (ls : List ByteArray) (es : List Ed) (cnt : Nat) (S : Int → Int → Bool) (H a b : Nat) (w : World) (hT : TableAt base w H n es cnt S) (hm : mayR n ls es = true) (ha : a < n) (hb : b < n) :
    Calls Try.prog 63 #[.pointer (some ⟨H + 1 + 1, 0, none⟩), .agg #[.int .i64 a, .int .i64 b], .bool false] w fun e w' => e = .returned (.bool (followsB es S false a b)) ∧ Below w.heap.size w w' := by
  have HB := Aside0.mk (Below.refl w.heap.size w)
  have HT := Aside0.mk hT
  have HM := Aside0.mk hm
  obtain ⟨l, hl⟩ : ∃ l : Nat, l = a := ⟨_, rfl⟩
  obtain ⟨r, hr⟩ : ∃ r : Nat, r = b := ⟨_, rfl⟩
  have hln : l < n := by omega
  have hrn : r < n := by omega
  have l0 : (0 : Int) ≤ (a : Int) := by omega
  have l1 : (a : Int) < (n : Int) := by omega
  have r0 : (0 : Int) ≤ (b : Int) := by omega
  have r1 : (b : Int) < (n : Int) := by omega
  obtain ⟨A1, c1, hc1, hC1⟩ := hT.row hln
  obtain ⟨A2, c2, hc2, hC2⟩ := hT.row hrn
  rw [show (es.filter fun e => decide (e.f0 = (l : Int))) = outE es (l : Int) from rfl] at hc1 hC1
  rw [show (es.filter fun e => decide (e.f0 = (r : Int))) = outE es (r : Int) from rfl] at hc2 hC2
  obtain ⟨L, hL⟩ : ∃ L, L = outE es (l : Int) := ⟨_, rfl⟩
  obtain ⟨R, hR⟩ : ∃ R, R = outE es (r : Int) := ⟨_, rfl⟩
  rw [← hL] at hc1 hC1
  rw [← hR] at hc2 hC2
  have hfb : followsB es S false a b = L.all fun e => R.any fun f => answers S false e f := by rw [hL, hR, hl, hr]; rfl
  rw [hfb]
  have HLn := Aside0.mk hL
  have HRn := Aside0.mk hR
  rw [hl] at hc1
  rw [hr] at hc2
  have t1 := fun o m => later (pw_below_drewN (below_alloc (Below.refl _ _) o) m) hT.t0
  have t2 := fun o m => later (pw_below_drewN (below_alloc (Below.refl _ _) o) m) hc1
  have HC1 := Aside0.mk hC1
  have HC2 := Aside0.mk hC2
  have HR2 := Aside0.mk hc2
  have hll := C_len hC1
  have hlr := C_len hC2
  clear hT hm hfb hL hR hc1 hc2 hC1 hC2 hl hr
  go_enter Try.func63, Try.ntmps63
  go_wp2
  go_step3
  go_wp2_with fail
  go_quiet (fail)
  go_wp2
  go_step3
  go_wp2
  clear t1 t2
  go_loopw [29] (fun i wr => ∃ k : Nat, k ≤ L.length ∧ i = .int .i64 k ∧ Aside0 (∀ j, j < k → (R.any fun f => answers S false (L.getD j z81) f) = true) ∧ Aside0 (TableAt base wr H n es cnt S) ∧ Aside0 (Below w.heap.size w wr)) (fun i _ => L.length - (intOf i).toNat)
  case atStart => exact ⟨0, Nat.zero_le _, rfl, ⟨fun j hj => by omega⟩, ⟨HT.out.on (pw_below_drewN (below_alloc (Below.refl _ _) _) _)⟩, ⟨pw_below_drewN (below_alloc (Below.refl _ _) _) _⟩⟩
  case round =>
    obtain ⟨k, hk, rfl, hz, HTr, HBr⟩ := hrel
    by_cases hlt : k < L.length
    · obtain ⟨ad, hA, g0, g1, g2⟩ := atE HC1.out k hlt
      subst hA
      replace g0 := later HBr.out g0
      replace g1 := later HBr.out g1
      replace g2 := later HBr.out g2
      obtain ⟨x, hx⟩ : ∃ x, x = L.getD k z81 := ⟨_, rfl⟩
      have hxn : 0 ≤ x.f2 ∧ x.f2 < n := by
        rw [hx, HLn.out]
        exact outE_at HM.out _ (by rw [← HLn.out]; exact hlt)
      rw [← hx] at g0 g1 g2
      have hx' := Aside0.mk hx
      have HXN := Aside0.mk hxn
      clear hx hxn
      have t1 := fun o => later (below_alloc (Below.refl _ _) o) HTr.out.t0
      have t2 := fun o => later (below_then HBr.out HBr.out.size (below_alloc (Below.refl _ _) o)) HR2.out
      go_wp2
      clear t1 t2 g0 g1 g2
      obtain ⟨E, hE⟩ : ∃ E, E = wr.heap.size := ⟨_, rfl⟩
      rw [← hE]
      have e1 := (blk_cell (blk_new wr (Obj.cells #[Value.int IntKind.i64 x.f0, Value.int IntKind.i64 x.f1, Value.int IntKind.i64 x.f2] 81)) 1).trans rfl
      have e2 := (blk_cell (blk_new wr (Obj.cells #[Value.int IntKind.i64 x.f0, Value.int IntKind.i64 x.f1, Value.int IntKind.i64 x.f2] 81)) 2).trans rfl
      rw [← hE] at e1 e2
      have HE := Aside0.mk (And.intro e1 e2)
      have HT1 := Aside0.mk (HTr.out.on (below_alloc (Below.refl _ _) (Obj.cells #[Value.int IntKind.i64 x.f0, Value.int IntKind.i64 x.f1, Value.int IntKind.i64 x.f2] 81)))
      have HB1 := Aside0.mk (below_then HBr.out HBr.out.size (below_alloc (Below.refl _ _) (Obj.cells #[Value.int IntKind.i64 x.f0, Value.int IntKind.i64 x.f1, Value.int IntKind.i64 x.f2] 81)))
      clear hE e1 e2
      go_loopw [41] (fun i wr2 => ∃ j : Nat, j ≤ R.length ∧ i = .int .i64 j ∧ Aside0 (∀ i, i < j → answers S false x (R.getD i z81) = false) ∧ Aside0 (wr2.cell? ⟨E, 1, none⟩ = some (.int .i64 x.f1) ∧ wr2.cell? ⟨E, 2, none⟩ = some (.int .i64 x.f2)) ∧ Aside0 (TableAt base wr2 H n es cnt S) ∧ Aside0 (Below w.heap.size w wr2)) (fun i _ => R.length - (intOf i).toNat)
      case atStart => exact ⟨0, Nat.zero_le _, rfl, ⟨fun j hj => by omega⟩, HE, HT1, HB1⟩
      case round =>
        clear HE HT1 HB1 HTr HBr
        obtain ⟨j, hj, rfl, hz2, HE, HTr, HBr⟩ := hrel
        by_cases hlt2 : j < R.length
        · obtain ⟨ad2, hA2, g0, g1, g2⟩ := atE HC2.out j hlt2
          subst hA2
          replace g0 := later HBr.out g0
          replace g1 := later HBr.out g1
          replace g2 := later HBr.out g2
          obtain ⟨y, hy⟩ : ∃ y, y = R.getD j z81 := ⟨_, rfl⟩
          have hyn : 0 ≤ y.f2 ∧ y.f2 < n := by
            rw [hy, HRn.out]
            exact outE_at HM.out _ (by rw [← HRn.out]; exact hlt2)
          rw [← hy] at g0 g1 g2
          have hy' := Aside0.mk hy
          have HYN := Aside0.mk hyn
          clear hy hyn
          have hn := (n_le HM.out).2
          have e1 := fun o1 => later (below_alloc (Below.refl _ _) o1) HE.out.1
          have e2 := fun o1 => later (below_alloc (Below.refl _ _) o1) HE.out.2
          have e2'' := fun o1 o2 => later (below_alloc (below_alloc (Below.refl _ _) o1) o2) HE.out.2
          have e1' := fun o1 o2 m => later (pw_below_drewN (below_alloc (below_alloc (Below.refl _ _) o1) o2) m) HE.out.1
          have e2' := fun o1 o2 m => later (pw_below_drewN (below_alloc (below_alloc (Below.refl _ _) o1) o2) m) HE.out.2
          have t1 := fun o1 o2 m => later (pw_below_drewN (below_alloc (below_alloc (Below.refl _ _) o1) o2) m) HTr.out.t1
          have lk := fun o1 o2 m => (HTr.out.pm.below (pw_below_drewN (below_alloc (below_alloc (Below.refl _ _) o1) o2) m)).look (okNode HXN.out.1 HXN.out.2 hn) (okNode HYN.out.1 HYN.out.2 hn)
          clear hn
          cases hq : (x.f1 == y.f1) with
          | false =>
            have hq2 : decide (x.f1 = y.f1) = false := by simpa using hq
            have HQ := Aside0.mk hq
            go_wp2_with fail
            go_quiet (fail)
            clear hq hq2
            go_wp2
            go_roundw
            case rel =>
              refine ⟨j + 1, by omega, by go_num, ⟨fun i hi => ?_⟩, ⟨e1' _ _ _, e2' _ _ _⟩, ⟨HTr.out.on (pw_below_drewN (below_alloc (below_alloc (Below.refl _ _) _) _) _)⟩, ⟨below_then HBr.out HBr.out.size (pw_below_drewN (below_alloc (below_alloc (Below.refl _ _) _) _) _)⟩⟩
              rcases Nat.lt_succ_iff_lt_or_eq.1 hi with h | rfl
              · exact hz2.out i h
              · unfold answers; rw [← hy'.out, HQ.out]; rfl
            case measure => simp [intOf]; omega
          | true =>
            have hq2 : decide (x.f1 = y.f1) = true := by simpa using hq
            have HQ := Aside0.mk hq
            cases hS : S x.f2 y.f2 with
            | false =>
              rw [hS] at lk
              have HS := Aside0.mk (show answers S false x y = false by unfold answers; rw [hq]; simpa using hS)
              clear hS
              unfold bit at lk
              rw [if_neg (by simp)] at lk
              go_wp2_with fail
              go_quiet (fail)
              clear hq hq2 lk
              go_wp2
              go_roundw
              case rel =>
                refine ⟨j + 1, by omega, by go_num, ⟨fun i hi => ?_⟩, ⟨e1' _ _ _, e2' _ _ _⟩, ⟨HTr.out.on (pw_below_drewN (below_alloc (below_alloc (Below.refl _ _) _) _) _)⟩, ⟨below_then HBr.out HBr.out.size (pw_below_drewN (below_alloc (below_alloc (Below.refl _ _) _) _) _)⟩⟩
                rcases Nat.lt_succ_iff_lt_or_eq.1 hi with h | rfl
                · exact hz2.out i h
                · rw [← hy'.out]; exact HS.out
              case measure => simp [intOf]; omega
            | true =>
              rw [hS] at lk
              have HS := Aside0.mk (show answers S false x y = true by unfold answers; rw [hq]; simpa using hS)
              clear hS
              unfold bit at lk
              rw [if_pos rfl] at lk
              go_wp2_with fail
              go_quiet (fail)
              clear hq hq2 lk
              go_wp2
              go_roundw
              case rel =>
                refine ⟨k + 1, by omega, by go_num, ⟨fun i hi => ?_⟩, ⟨HTr.out.on (pw_below_drewN (below_alloc (below_alloc (Below.refl _ _) _) _) _)⟩, ⟨below_then HBr.out HBr.out.size (pw_below_drewN (below_alloc (below_alloc (Below.refl _ _) _) _) _)⟩⟩
                rcases Nat.lt_succ_iff_lt_or_eq.1 hi with h | rfl
                · exact hz.out i h
                · rw [← hx'.out]; exact any_yes z81 hlt2 (by rw [← hy'.out]; exact HS.out)
              case measure => simp [intOf]; omega
        · have HNo := Aside0.mk (any_no z81 hlt2 hz2.out)
          have HFin := Aside0.mk (all_no (p := fun e => R.any fun f => answers S false e f) z81 hlt (by rw [← hx'.out]; exact HNo.out))
          go_wp2
          try rw [Exit.noGoto_ret]
          go_ret
          exact ⟨ret_bool HFin.out.symm, HBr.out⟩
    · have HFin := Aside0.mk (all_yes (p := fun e => R.any fun f => answers S false e f) z81 hlt hz.out)
      go_wp2
      try rw [Exit.noGoto_ret]
      go_ret
      exact ⟨ret_bool HFin.out.symm, HBr.out⟩
set_option maxHeartbeats 8000000 in
set_option maxRecDepth 100000 in
theorem follows_true (base : Nat) (n : Nat) (ls : List ByteArray) (es : List Ed) (cnt : Nat) (S : Int → Int → Bool) (H a b : Nat) (w : World) (hT : TableAt base w H n es cnt S) (hm : mayR n ls es = true) (ha : a < n) (hb : b < n) :
    Calls Try.prog 63 #[.pointer (some ⟨H + 1 + 1, 0, none⟩), .agg #[.int .i64 a, .int .i64 b], .bool true] w fun e w' => e = .returned (.bool (followsB es S true a b)) ∧ Below w.heap.size w w' := by
  have HB := Aside0.mk (Below.refl w.heap.size w)
  have HT := Aside0.mk hT
  have HM := Aside0.mk hm
  obtain ⟨l, hl⟩ : ∃ l : Nat, l = b := ⟨_, rfl⟩
  obtain ⟨r, hr⟩ : ∃ r : Nat, r = a := ⟨_, rfl⟩
  have hln : l < n := by omega
  have hrn : r < n := by omega
  have l0 : (0 : Int) ≤ (b : Int) := by omega
  have l1 : (b : Int) < (n : Int) := by omega
  have r0 : (0 : Int) ≤ (a : Int) := by omega
  have r1 : (a : Int) < (n : Int) := by omega
  obtain ⟨A1, c1, hc1, hC1⟩ := hT.row hln
  obtain ⟨A2, c2, hc2, hC2⟩ := hT.row hrn
  rw [show (es.filter fun e => decide (e.f0 = (l : Int))) = outE es (l : Int) from rfl] at hc1 hC1
  rw [show (es.filter fun e => decide (e.f0 = (r : Int))) = outE es (r : Int) from rfl] at hc2 hC2
  obtain ⟨L, hL⟩ : ∃ L, L = outE es (l : Int) := ⟨_, rfl⟩
  obtain ⟨R, hR⟩ : ∃ R, R = outE es (r : Int) := ⟨_, rfl⟩
  rw [← hL] at hc1 hC1
  rw [← hR] at hc2 hC2
  have hfb : followsB es S true a b = L.all fun e => R.any fun f => answers S true e f := by rw [hL, hR, hl, hr]; rfl
  rw [hfb]
  have HLn := Aside0.mk hL
  have HRn := Aside0.mk hR
  rw [hl] at hc1
  rw [hr] at hc2
  have t1 := fun o m => later (pw_below_drewN (below_alloc (Below.refl _ _) o) m) hT.t0
  have t2 := fun o m => later (pw_below_drewN (below_alloc (Below.refl _ _) o) m) hc1
  have HC1 := Aside0.mk hC1
  have HC2 := Aside0.mk hC2
  have HR2 := Aside0.mk hc2
  have hll := C_len hC1
  have hlr := C_len hC2
  clear hT hm hfb hL hR hc1 hc2 hC1 hC2 hl hr
  go_enter Try.func63, Try.ntmps63
  go_wp2
  go_step3
  go_wp2_with fail
  go_quiet (fail)
  go_wp2
  go_step3
  go_wp2
  clear t1 t2
  go_loopw [29] (fun i wr => ∃ k : Nat, k ≤ L.length ∧ i = .int .i64 k ∧ Aside0 (∀ j, j < k → (R.any fun f => answers S true (L.getD j z81) f) = true) ∧ Aside0 (TableAt base wr H n es cnt S) ∧ Aside0 (Below w.heap.size w wr)) (fun i _ => L.length - (intOf i).toNat)
  case atStart => exact ⟨0, Nat.zero_le _, rfl, ⟨fun j hj => by omega⟩, ⟨HT.out.on (pw_below_drewN (below_alloc (Below.refl _ _) _) _)⟩, ⟨pw_below_drewN (below_alloc (Below.refl _ _) _) _⟩⟩
  case round =>
    obtain ⟨k, hk, rfl, hz, HTr, HBr⟩ := hrel
    by_cases hlt : k < L.length
    · obtain ⟨ad, hA, g0, g1, g2⟩ := atE HC1.out k hlt
      subst hA
      replace g0 := later HBr.out g0
      replace g1 := later HBr.out g1
      replace g2 := later HBr.out g2
      obtain ⟨x, hx⟩ : ∃ x, x = L.getD k z81 := ⟨_, rfl⟩
      have hxn : 0 ≤ x.f2 ∧ x.f2 < n := by
        rw [hx, HLn.out]
        exact outE_at HM.out _ (by rw [← HLn.out]; exact hlt)
      rw [← hx] at g0 g1 g2
      have hx' := Aside0.mk hx
      have HXN := Aside0.mk hxn
      clear hx hxn
      have t1 := fun o => later (below_alloc (Below.refl _ _) o) HTr.out.t0
      have t2 := fun o => later (below_then HBr.out HBr.out.size (below_alloc (Below.refl _ _) o)) HR2.out
      go_wp2
      clear t1 t2 g0 g1 g2
      obtain ⟨E, hE⟩ : ∃ E, E = wr.heap.size := ⟨_, rfl⟩
      rw [← hE]
      have e1 := (blk_cell (blk_new wr (Obj.cells #[Value.int IntKind.i64 x.f0, Value.int IntKind.i64 x.f1, Value.int IntKind.i64 x.f2] 81)) 1).trans rfl
      have e2 := (blk_cell (blk_new wr (Obj.cells #[Value.int IntKind.i64 x.f0, Value.int IntKind.i64 x.f1, Value.int IntKind.i64 x.f2] 81)) 2).trans rfl
      rw [← hE] at e1 e2
      have HE := Aside0.mk (And.intro e1 e2)
      have HT1 := Aside0.mk (HTr.out.on (below_alloc (Below.refl _ _) (Obj.cells #[Value.int IntKind.i64 x.f0, Value.int IntKind.i64 x.f1, Value.int IntKind.i64 x.f2] 81)))
      have HB1 := Aside0.mk (below_then HBr.out HBr.out.size (below_alloc (Below.refl _ _) (Obj.cells #[Value.int IntKind.i64 x.f0, Value.int IntKind.i64 x.f1, Value.int IntKind.i64 x.f2] 81)))
      clear hE e1 e2
      go_loopw [41] (fun i wr2 => ∃ j : Nat, j ≤ R.length ∧ i = .int .i64 j ∧ Aside0 (∀ i, i < j → answers S true x (R.getD i z81) = false) ∧ Aside0 (wr2.cell? ⟨E, 1, none⟩ = some (.int .i64 x.f1) ∧ wr2.cell? ⟨E, 2, none⟩ = some (.int .i64 x.f2)) ∧ Aside0 (TableAt base wr2 H n es cnt S) ∧ Aside0 (Below w.heap.size w wr2)) (fun i _ => R.length - (intOf i).toNat)
      case atStart => exact ⟨0, Nat.zero_le _, rfl, ⟨fun j hj => by omega⟩, HE, HT1, HB1⟩
      case round =>
        clear HE HT1 HB1 HTr HBr
        obtain ⟨j, hj, rfl, hz2, HE, HTr, HBr⟩ := hrel
        by_cases hlt2 : j < R.length
        · obtain ⟨ad2, hA2, g0, g1, g2⟩ := atE HC2.out j hlt2
          subst hA2
          replace g0 := later HBr.out g0
          replace g1 := later HBr.out g1
          replace g2 := later HBr.out g2
          obtain ⟨y, hy⟩ : ∃ y, y = R.getD j z81 := ⟨_, rfl⟩
          have hyn : 0 ≤ y.f2 ∧ y.f2 < n := by
            rw [hy, HRn.out]
            exact outE_at HM.out _ (by rw [← HRn.out]; exact hlt2)
          rw [← hy] at g0 g1 g2
          have hy' := Aside0.mk hy
          have HYN := Aside0.mk hyn
          clear hy hyn
          have hn := (n_le HM.out).2
          have e1 := fun o1 => later (below_alloc (Below.refl _ _) o1) HE.out.1
          have e2 := fun o1 => later (below_alloc (Below.refl _ _) o1) HE.out.2
          have e2'' := fun o1 o2 => later (below_alloc (below_alloc (Below.refl _ _) o1) o2) HE.out.2
          have e1' := fun o1 o2 m => later (pw_below_drewN (below_alloc (below_alloc (Below.refl _ _) o1) o2) m) HE.out.1
          have e2' := fun o1 o2 m => later (pw_below_drewN (below_alloc (below_alloc (Below.refl _ _) o1) o2) m) HE.out.2
          have t1 := fun o1 o2 m => later (pw_below_drewN (below_alloc (below_alloc (Below.refl _ _) o1) o2) m) HTr.out.t1
          have lk := fun o1 o2 m => (HTr.out.pm.below (pw_below_drewN (below_alloc (below_alloc (Below.refl _ _) o1) o2) m)).look (okNode HYN.out.1 HYN.out.2 hn) (okNode HXN.out.1 HXN.out.2 hn)
          clear hn
          cases hq : (x.f1 == y.f1) with
          | false =>
            have hq2 : decide (x.f1 = y.f1) = false := by simpa using hq
            have HQ := Aside0.mk hq
            go_wp2_with fail
            go_quiet (fail)
            clear hq hq2
            go_wp2
            go_roundw
            case rel =>
              refine ⟨j + 1, by omega, by go_num, ⟨fun i hi => ?_⟩, ⟨e1' _ _ _, e2' _ _ _⟩, ⟨HTr.out.on (pw_below_drewN (below_alloc (below_alloc (Below.refl _ _) _) _) _)⟩, ⟨below_then HBr.out HBr.out.size (pw_below_drewN (below_alloc (below_alloc (Below.refl _ _) _) _) _)⟩⟩
              rcases Nat.lt_succ_iff_lt_or_eq.1 hi with h | rfl
              · exact hz2.out i h
              · unfold answers; rw [← hy'.out, HQ.out]; rfl
            case measure => simp [intOf]; omega
          | true =>
            have hq2 : decide (x.f1 = y.f1) = true := by simpa using hq
            have HQ := Aside0.mk hq
            cases hS : S y.f2 x.f2 with
            | false =>
              rw [hS] at lk
              have HS := Aside0.mk (show answers S true x y = false by unfold answers; rw [hq]; simpa using hS)
              clear hS
              unfold bit at lk
              rw [if_neg (by simp)] at lk
              go_wp2_with fail
              go_quiet (fail)
              clear hq hq2 lk
              go_wp2
              go_roundw
              case rel =>
                refine ⟨j + 1, by omega, by go_num, ⟨fun i hi => ?_⟩, ⟨e1' _ _ _, e2' _ _ _⟩, ⟨HTr.out.on (pw_below_drewN (below_alloc (below_alloc (Below.refl _ _) _) _) _)⟩, ⟨below_then HBr.out HBr.out.size (pw_below_drewN (below_alloc (below_alloc (Below.refl _ _) _) _) _)⟩⟩
                rcases Nat.lt_succ_iff_lt_or_eq.1 hi with h | rfl
                · exact hz2.out i h
                · rw [← hy'.out]; exact HS.out
              case measure => simp [intOf]; omega
            | true =>
              rw [hS] at lk
              have HS := Aside0.mk (show answers S true x y = true by unfold answers; rw [hq]; simpa using hS)
              clear hS
              unfold bit at lk
              rw [if_pos rfl] at lk
              go_wp2_with fail
              go_quiet (fail)
              clear hq hq2 lk
              go_wp2
              go_roundw
              case rel =>
                refine ⟨k + 1, by omega, by go_num, ⟨fun i hi => ?_⟩, ⟨HTr.out.on (pw_below_drewN (below_alloc (below_alloc (Below.refl _ _) _) _) _)⟩, ⟨below_then HBr.out HBr.out.size (pw_below_drewN (below_alloc (below_alloc (Below.refl _ _) _) _) _)⟩⟩
                rcases Nat.lt_succ_iff_lt_or_eq.1 hi with h | rfl
                · exact hz.out i h
                · rw [← hx'.out]; exact any_yes z81 hlt2 (by rw [← hy'.out]; exact HS.out)
              case measure => simp [intOf]; omega
        · have HNo := Aside0.mk (any_no z81 hlt2 hz2.out)
          have HFin := Aside0.mk (all_no (p := fun e => R.any fun f => answers S true e f) z81 hlt (by rw [← hx'.out]; exact HNo.out))
          go_wp2
          try rw [Exit.noGoto_ret]
          go_ret
          exact ⟨ret_bool HFin.out.symm, HBr.out⟩
    · have HFin := Aside0.mk (all_yes (p := fun e => R.any fun f => answers S true e f) z81 hlt hz.out)
      go_wp2
      try rw [Exit.noGoto_ret]
      go_ret
      exact ⟨ret_bool HFin.out.symm, HBr.out⟩

end Go.Proofs.Ytmpiokdomjchiaa.H
