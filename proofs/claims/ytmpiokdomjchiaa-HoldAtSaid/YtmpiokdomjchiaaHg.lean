/-
  The walks of bisim.Simulates and bisim.Is.
-/
import Derived.Test.YtmpiokdomjchiaaHf
set_option linter.unusedVariables false
set_option linter.unusedSimpArgs false
namespace Go.Proofs.Ytmpiokdomjchiaa.H
open Go.RowKit Go.Proofs.Ytmpiokdomjchiaa.Pr Go.Proofs.YtmpiokdomjchiaaW.PrintWords Go.Proofs.Ytmpiokdomjchiaa.Sem Go.Proofs.YtmpiokdomjchiaaW.PrintLast

theorem follows_is (base : Nat) (n : Nat) (ls : List ByteArray) (es : List Ed) (cnt : Nat) (S : Int → Int → Bool) (H : Nat) (a b : Int) (t : Bool) (r : Bool) (hr : followsB es S t a b = r) (w : World) (hT : TableAt base w H n es cnt S) (hm : mayR n ls es = true) (ha : 0 ≤ a ∧ a < n) (hb : 0 ≤ b ∧ b < n) :
    Calls Try.prog 63 #[.pointer (some ⟨H + 1 + 1, 0, none⟩), .agg #[.int .i64 a, .int .i64 b], .bool t] w fun e w' => e = .returned (.bool r) ∧ Below w.heap.size w w' := by
  obtain ⟨i, rfl⟩ := Int.eq_ofNat_of_zero_le ha.1
  obtain ⟨j, rfl⟩ := Int.eq_ofNat_of_zero_le hb.1
  subst hr
  cases t with
  | false => exact follows_false base n ls es cnt S H i j w hT hm (by omega) (by omega)
  | true => exact follows_true base n ls es cnt S H i j w hT hm (by omega) (by omega)

theorem inP_nodes {n : Int} {x : Pair} (h : inP n x = true) : (0 ≤ x.f0 ∧ x.f0 < n) ∧ (0 ≤ x.f1 ∧ x.f1 < n) := by
  unfold inP at h
  simp only [Bool.and_eq_true, decide_eq_true_eq] at h
  omega

/-- What a closure that holds a table stands over: its captured variable, block p, leads to the table. -/
structure Held (base : Nat) (w : World) (p H n : Nat) (ls : List ByteArray) (es : List Ed) (cnt : Nat) (S : Int → Int → Bool) : Prop where
  cell : w.cell? ⟨p, 0, none⟩ = some (.pointer (some ⟨H + 1 + 1, 0, none⟩))
  tab : TableAt base w H n es cnt S
  may : mayR n ls es = true
theorem Held.on {base : Nat} {w w1 : World} {p H n : Nat} {ls : List ByteArray} {es : List Ed} {cnt : Nat} {S : Int → Int → Bool} (h : Held base w p H n ls es cnt S) (hb : Below w.heap.size w w1) : Held base w1 p H n ls es cnt S := ⟨later hb h.cell, h.tab.on hb, h.may⟩

/-- Simulates' test: does the second one not follow the first one? -/
def simNo (es : List Ed) (S : Int → Int → Bool) (x : Pair) : Bool := !followsB es S false x.f0 x.f1
/-- Is's test: does one of the two not follow the other? -/
def isNo (es : List Ed) (S : Int → Int → Bool) (x : Pair) : Bool := !followsB es S false x.f0 x.f1 || !followsB es S true x.f0 x.f1

theorem simNo_any (base : Nat) (n : Nat) (ls : List ByteArray) (es : List Ed) (cnt : Nat) (S : Int → Int → Bool) (p H : Nat) (x : Pair) (r : Bool) (hr : simNo es S x = r) (w : World) (hH : Held base w p H n ls es cnt S) (hx : inP n x = true) :
    Calls Try.prog 62 #[.agg #[.int .i64 x.f0, .int .i64 x.f1], .pointer (some ⟨p, 0, none⟩)] w fun e w' => e = .returned (.bool r) ∧ Below w.heap.size w w' := by
  have HB := Aside0.mk (Below.refl w.heap.size w)
  have HH := Aside0.mk hH
  have HX := Aside0.mk hx
  have c0 := fun o => later (below_alloc (Below.refl _ _) o) hH.cell
  obtain ⟨q, hq⟩ : ∃ q, q = followsB es S false x.f0 x.f1 := ⟨_, rfl⟩
  have HQ := Aside0.mk hq
  have HR := Aside0.mk hr
  clear hq hr hH hx
  go_enter Try.func62, Try.ntmps62
  go_wp2_with fail
  refine (follows_is base n ls es cnt S H x.f0 x.f1 false q HQ.out.symm _ (HH.out.tab.on (below_alloc (Below.refl _ _) _)) HH.out.may (inP_nodes HX.out).1 (inP_nodes HX.out).2).mono ?_
  rintro e w1 ⟨rfl, hB⟩
  have HB1 := Aside0.mk (below_then (below_alloc HB.out _) (by simp) hB)
  clear hB
  go_wp2
  go_ret
  exact ⟨ret_bool (by rw [← HR.out, HQ.out]; rfl), HB1.out⟩

theorem isNo_any (base : Nat) (n : Nat) (ls : List ByteArray) (es : List Ed) (cnt : Nat) (S : Int → Int → Bool) (p H : Nat) (x : Pair) (r : Bool) (hr : isNo es S x = r) (w : World) (hH : Held base w p H n ls es cnt S) (hx : inP n x = true) :
    Calls Try.prog 65 #[.agg #[.int .i64 x.f0, .int .i64 x.f1], .pointer (some ⟨p, 0, none⟩)] w fun e w' => e = .returned (.bool r) ∧ Below w.heap.size w w' := by
  have HB := Aside0.mk (Below.refl w.heap.size w)
  have HH := Aside0.mk hH
  have HX := Aside0.mk hx
  have c0 := fun o => later (below_alloc (Below.refl _ _) o) hH.cell
  have HR := Aside0.mk hr
  clear hr hH hx
  cases hq : followsB es S false x.f0 x.f1 with
  | false =>
    have HQ := Aside0.mk hq
    clear hq
    go_enter Try.func65, Try.ntmps65
    go_wp2_with fail
    refine (follows_is base n ls es cnt S H x.f0 x.f1 false false HQ.out _ (HH.out.tab.on (below_alloc (Below.refl _ _) _)) HH.out.may (inP_nodes HX.out).1 (inP_nodes HX.out).2).mono ?_
    rintro e w1 ⟨rfl, hB⟩
    have HB1 := Aside0.mk (below_then (below_alloc HB.out _) (by simp) hB)
    clear hB
    go_wp2
    go_ret
    exact ⟨ret_bool (by rw [← HR.out]; unfold isNo; rw [HQ.out]; rfl), HB1.out⟩
  | true =>
    have HQ := Aside0.mk hq
    clear hq
    obtain ⟨q, hq⟩ : ∃ q, q = followsB es S true x.f0 x.f1 := ⟨_, rfl⟩
    have HQ2 := Aside0.mk hq
    clear hq
    go_enter Try.func65, Try.ntmps65
    go_wp2_with fail
    refine (follows_is base n ls es cnt S H x.f0 x.f1 false true HQ.out _ (HH.out.tab.on (below_alloc (Below.refl _ _) _)) HH.out.may (inP_nodes HX.out).1 (inP_nodes HX.out).2).mono ?_
    rintro e w1 ⟨rfl, hB⟩
    have HB1 := Aside0.mk (below_then (below_alloc HB.out _) (by simp) hB)
    have HH1 := Aside0.mk ((HH.out.on (below_alloc (Below.refl _ _) (Obj.cells #[Value.int IntKind.i64 x.f0, Value.int IntKind.i64 x.f1] 31))).on hB)
    have c1 := HH1.out.cell
    have d0 : w1.cell? ⟨w.heap.size, 0, none⟩ = some (.int .i64 x.f0) := later hB ((blk_cell (blk_new w _) 0).trans rfl)
    have d1 : w1.cell? ⟨w.heap.size, 1, none⟩ = some (.int .i64 x.f1) := later hB ((blk_cell (blk_new w _) 1).trans rfl)
    clear hB c0
    go_wp2_with fail
    refine (follows_is base n ls es cnt S H x.f0 x.f1 true q HQ2.out.symm _ HH1.out.tab HH.out.may (inP_nodes HX.out).1 (inP_nodes HX.out).2).mono ?_
    rintro e w2 ⟨rfl, hB⟩
    have HB2 := Aside0.mk (below_then HB1.out HB1.out.size hB)
    clear hB
    go_wp2
    go_ret
    exact ⟨ret_bool (by rw [← HR.out]; unfold isNo; rw [HQ.out, HQ2.out]; rfl), HB2.out⟩

theorem idx_simNo (base : Nat) (n : Nat) (ls : List ByteArray) (es : List Ed) (cnt : Nat) (S : Int → Int → Bool) (p H : Nat) (rel : List Pair) (A : Option Addr) (c : Nat) (w : World) (hH : Held base w p H n ls es cnt S) (hall : rel.all (inP n) = true) (hr : Kd.C k31 w A rel.length rel) :
    Calls Try.prog 99 #[.slice A rel.length c, .func (.func 62) #[] #[.pointer (some ⟨p, 0, none⟩)]] w fun e w' => ∃ z : Int, e = .returned (.int .i64 z) ∧ Aside0 (z = idxP (simNo es S) rel) ∧ Below w.heap.size w w' := by
  have hl := C_len hr
  have HR := Lib.hid hr; clear hr
  have HA := Aside0.mk hall; clear hall
  have HH := Aside0.mk hH; clear hH
  have HB := Aside0.mk (Below.refl w.heap.size w)
  go_enter Try.func99, Try.ntmps99
  go_wp2
  go_loopw [8] (fun i wr => ∃ k : Nat, k ≤ rel.length ∧ i = .int .i64 k ∧ Aside0 (∀ j, j < k → simNo es S (rel.getD j z31) = false) ∧ Aside0 (Held base wr p H n ls es cnt S) ∧ Aside0 (Below w.heap.size w wr)) (fun i _ => rel.length - (intOf i).toNat)
  case atStart => exact ⟨0, Nat.zero_le _, rfl, ⟨fun j hj => by omega⟩, HH, HB⟩
  case round =>
    obtain ⟨k, hk, rfl, hz, HHr, HBr⟩ := hrel
    clear HH HB
    by_cases hlt : k < rel.length
    · obtain ⟨ad, hA, h0, h1⟩ := atP HR.out k hlt
      subst hA
      replace h0 := later HBr.out h0
      replace h1 := later HBr.out h1
      obtain ⟨x, hx⟩ : ∃ x, x = rel.getD k z31 := ⟨_, rfl⟩
      rw [← hx] at h0 h1
      have HX := Aside0.mk (show inP n x = true from by
        rw [hx, List.getD_eq_getElem?_getD, List.getElem?_eq_getElem hlt]
        exact List.all_eq_true.1 HA.out _ (List.getElem_mem hlt))
      have HS := Aside0.mk hx; clear hx
      cases hb : simNo es S x with
      | true =>
        have HT := Aside0.mk hb; clear hb
        go_wp2_with (go_at_call 62; refine (simNo_any base n ls es cnt S p H x true HT.out _ HHr.out HX.out).mono ?_; rintro e w1 ⟨rfl, hB⟩; have HB1 := Aside0.mk (below_then HBr.out HBr.out.size hB); clear hB)
        go_ret
        exact ⟨_, rfl, ⟨(idxP_at (simNo es S) z31 rel k hz.out hlt (by rw [← HS.out]; exact HT.out)).symm⟩, HB1.out⟩
      | false =>
        have HT := Aside0.mk hb; clear hb
        go_wp2_with (go_at_call 62; refine (simNo_any base n ls es cnt S p H x false HT.out _ HHr.out HX.out).mono ?_; rintro e w1 ⟨rfl, hB⟩; have HB1 := Aside0.mk (below_then HBr.out HBr.out.size hB); have HH1 := Aside0.mk (HHr.out.on hB); clear hB)
        go_roundw
        case rel => exact ⟨k + 1, by omega, by go_num, ⟨fun j hj => by rcases Nat.lt_succ_iff_lt_or_eq.1 hj with h | rfl; exact hz.out j h; rw [← HS.out]; exact HT.out⟩, HH1, HB1⟩
        case measure => simp [intOf]; omega
    · go_wp2
      go_ret
      exact ⟨_, rfl, ⟨(idxP_none (simNo es S) z31 rel (fun j hj => hz.out j (by omega))).symm⟩, HBr.out⟩
theorem any_simNo (base : Nat) (n : Nat) (ls : List ByteArray) (es : List Ed) (cnt : Nat) (S : Int → Int → Bool) (p H : Nat) (rel : List Pair) (A : Option Addr) (c : Nat) (w : World) (hH : Held base w p H n ls es cnt S) (hall : rel.all (inP n) = true) (hr : Kd.C k31 w A rel.length rel) :
    Calls Try.prog 61 #[.slice A rel.length c, .func (.func 62) #[] #[.pointer (some ⟨p, 0, none⟩)]] w fun e w' => e = .returned (.bool (rel.any (simNo es S))) ∧ Below w.heap.size w w' := by
  have H2 := Lib.hid (idx_simNo base n ls es cnt S p H rel A c w hH hall hr)
  clear hr hall hH
  go_enter Try.func61, Try.ntmps61
  go_wp2_with (go_at_call 99; refine H2.out.mono ?_; rintro e w' ⟨z, rfl, HZ, hB⟩; have HB1 := Aside0.mk hB; clear hB)
  go_ret
  exact ⟨ret_bool (by rw [← idxP_nonneg, ← HZ.out]), HB1.out⟩
theorem idx_isNo (base : Nat) (n : Nat) (ls : List ByteArray) (es : List Ed) (cnt : Nat) (S : Int → Int → Bool) (p H : Nat) (rel : List Pair) (A : Option Addr) (c : Nat) (w : World) (hH : Held base w p H n ls es cnt S) (hall : rel.all (inP n) = true) (hr : Kd.C k31 w A rel.length rel) :
    Calls Try.prog 99 #[.slice A rel.length c, .func (.func 65) #[] #[.pointer (some ⟨p, 0, none⟩)]] w fun e w' => ∃ z : Int, e = .returned (.int .i64 z) ∧ Aside0 (z = idxP (isNo es S) rel) ∧ Below w.heap.size w w' := by
  have hl := C_len hr
  have HR := Lib.hid hr; clear hr
  have HA := Aside0.mk hall; clear hall
  have HH := Aside0.mk hH; clear hH
  have HB := Aside0.mk (Below.refl w.heap.size w)
  go_enter Try.func99, Try.ntmps99
  go_wp2
  go_loopw [8] (fun i wr => ∃ k : Nat, k ≤ rel.length ∧ i = .int .i64 k ∧ Aside0 (∀ j, j < k → isNo es S (rel.getD j z31) = false) ∧ Aside0 (Held base wr p H n ls es cnt S) ∧ Aside0 (Below w.heap.size w wr)) (fun i _ => rel.length - (intOf i).toNat)
  case atStart => exact ⟨0, Nat.zero_le _, rfl, ⟨fun j hj => by omega⟩, HH, HB⟩
  case round =>
    obtain ⟨k, hk, rfl, hz, HHr, HBr⟩ := hrel
    clear HH HB
    by_cases hlt : k < rel.length
    · obtain ⟨ad, hA, h0, h1⟩ := atP HR.out k hlt
      subst hA
      replace h0 := later HBr.out h0
      replace h1 := later HBr.out h1
      obtain ⟨x, hx⟩ : ∃ x, x = rel.getD k z31 := ⟨_, rfl⟩
      rw [← hx] at h0 h1
      have HX := Aside0.mk (show inP n x = true from by
        rw [hx, List.getD_eq_getElem?_getD, List.getElem?_eq_getElem hlt]
        exact List.all_eq_true.1 HA.out _ (List.getElem_mem hlt))
      have HS := Aside0.mk hx; clear hx
      cases hb : isNo es S x with
      | true =>
        have HT := Aside0.mk hb; clear hb
        go_wp2_with (go_at_call 65; refine (isNo_any base n ls es cnt S p H x true HT.out _ HHr.out HX.out).mono ?_; rintro e w1 ⟨rfl, hB⟩; have HB1 := Aside0.mk (below_then HBr.out HBr.out.size hB); clear hB)
        go_ret
        exact ⟨_, rfl, ⟨(idxP_at (isNo es S) z31 rel k hz.out hlt (by rw [← HS.out]; exact HT.out)).symm⟩, HB1.out⟩
      | false =>
        have HT := Aside0.mk hb; clear hb
        go_wp2_with (go_at_call 65; refine (isNo_any base n ls es cnt S p H x false HT.out _ HHr.out HX.out).mono ?_; rintro e w1 ⟨rfl, hB⟩; have HB1 := Aside0.mk (below_then HBr.out HBr.out.size hB); have HH1 := Aside0.mk (HHr.out.on hB); clear hB)
        go_roundw
        case rel => exact ⟨k + 1, by omega, by go_num, ⟨fun j hj => by rcases Nat.lt_succ_iff_lt_or_eq.1 hj with h | rfl; exact hz.out j h; rw [← HS.out]; exact HT.out⟩, HH1, HB1⟩
        case measure => simp [intOf]; omega
    · go_wp2
      go_ret
      exact ⟨_, rfl, ⟨(idxP_none (isNo es S) z31 rel (fun j hj => hz.out j (by omega))).symm⟩, HBr.out⟩
theorem any_isNo (base : Nat) (n : Nat) (ls : List ByteArray) (es : List Ed) (cnt : Nat) (S : Int → Int → Bool) (p H : Nat) (rel : List Pair) (A : Option Addr) (c : Nat) (w : World) (hH : Held base w p H n ls es cnt S) (hall : rel.all (inP n) = true) (hr : Kd.C k31 w A rel.length rel) :
    Calls Try.prog 61 #[.slice A rel.length c, .func (.func 65) #[] #[.pointer (some ⟨p, 0, none⟩)]] w fun e w' => e = .returned (.bool (rel.any (isNo es S))) ∧ Below w.heap.size w w' := by
  have H2 := Lib.hid (idx_isNo base n ls es cnt S p H rel A c w hH hall hr)
  clear hr hall hH
  go_enter Try.func61, Try.ntmps61
  go_wp2_with (go_at_call 99; refine H2.out.mono ?_; rintro e w' ⟨z, rfl, HZ, hB⟩; have HB1 := Aside0.mk hB; clear hB)
  go_ret
  exact ⟨ret_bool (by rw [← idxP_nonneg, ← HZ.out]), HB1.out⟩

/-- semblance/bisim.Simulates. -/
def simulatesB (n : Int) (ls : List ByteArray) (es : List Ed) (rel : List Pair) : Bool := mayR n ls es && (rel.all (inP n) && !rel.any (simNo es (relS rel)))
theorem simulates_yes (n : Nat) (ls : List ByteArray) (es : List Ed) (rel : List Pair) (A1 A2 A3 : Option Addr) (c1 c2 c3 : Nat) (w : World) (hr1 : Kd.C Kd.string w A1 ls.length ls) (hr2 : Kd.C k81 w A2 es.length es) (hr3 : Kd.C k31 w A3 rel.length rel)
    (hm : mayR n ls es = true) :
    Calls Try.prog 17 #[.agg #[.int .i64 n, .slice A1 ls.length c1, .slice A2 es.length c2], .slice A3 rel.length c3] w fun e w' => e = .returned (.bool (rel.all (inP n) && !rel.any (simNo es (relS rel)))) ∧ Below w.heap.size w w' := by
  have HB := Aside0.mk (Below.refl w.heap.size w)
  have HR3 := Aside0.mk hr3
  have HM := Aside0.mk hm
  have HO : ∀ W, Below w.heap.size w W → Calls Try.prog 60 #[.agg #[.int .i64 n, .slice A1 ls.length c1, .slice A2 es.length c2], .slice A3 rel.length c3] W (OpenPost W n es rel (rel.all (inP n))) := fun W hW =>
    open_main n ls es rel A1 A2 A3 c1 c2 c3 W (Kd.C_below hr1 hW) (Kd.C_below hr2 hW) (Kd.C_below hr3 hW) hm
  have HO' := Lib.hid HO
  clear HO hr1 hr2 hr3 hm
  cases hall : rel.all (inP n) with
  | false =>
    rw [hall] at HO'
    clear hall
    go_enter Try.func17, Try.ntmps17
    go_wp2_with fail
    refine (HO'.out _ (below_alloc HB.out _)).mono ?_
    rintro e w1 ⟨rfl, hB⟩
    have HB1 := Aside0.mk (below_then (below_alloc HB.out _) (by simp) hB)
    clear hB
    go_wp2
    go_ret
    exact ⟨rfl, by repeat (first | exact HB1.out | apply below_alloc)⟩
  | true =>
    rw [hall] at HO'
    have HAll := Aside0.mk hall
    clear hall
    go_enter Try.func17, Try.ntmps17
    go_wp2_with fail
    refine (HO'.out _ (below_alloc HB.out _)).mono ?_
    rintro e w1 ⟨⟨H, rfl, hT⟩, hB⟩
    have HB1 := Aside0.mk (below_then (below_alloc HB.out _) (by simp) hB)
    have HT := Aside0.mk hT
    clear hB hT
    go_wp2_with fail
    refine (any_simNo _ n ls es rel.length (relS rel) _ H rel A3 c3 _ ⟨?_, HT.out.on (below_alloc (Below.refl _ _) _), HM.out⟩ HAll.out (Kd.C_below HR3.out (below_alloc HB1.out _))).mono ?_
    · exact (blk_cell (blk_new w1 _) 0).trans rfl
    rintro e w2 ⟨rfl, hB⟩
    have HB2 := Aside0.mk (below_then (below_alloc HB1.out (Obj.cells #[Value.pointer (some ⟨H + 1 + 1, 0, none⟩)] 82)) (below_size (below_alloc HB1.out _)) hB)
    clear hB
    go_wp2
    go_ret
    exact ⟨rfl, HB2.out⟩
theorem simulates_no (n : Int) (ls : List ByteArray) (es : List Ed) (rel : List Pair) (A1 A2 A3 : Option Addr) (c1 c2 c3 : Nat) (w : World) (hr1 : Kd.C Kd.string w A1 ls.length ls) (hr2 : Kd.C k81 w A2 es.length es)
    (hm : mayR n ls es = false) :
    Calls Try.prog 17 #[.agg #[.int .i64 n, .slice A1 ls.length c1, .slice A2 es.length c2], .slice A3 rel.length c3] w fun e w' => e = .returned (.bool false) ∧ Below w.heap.size w w' := by
  have HB := Aside0.mk (Below.refl w.heap.size w)
  have HO : ∀ W, Below w.heap.size w W → Calls Try.prog 60 #[.agg #[.int .i64 n, .slice A1 ls.length c1, .slice A2 es.length c2], .slice A3 rel.length c3] W fun e w' => e = .returned (.tuple #[.pointer none, .bool false]) ∧ Below W.heap.size W w' := fun W hW =>
    open_no n ls es rel A1 A2 A3 c1 c2 c3 W (Kd.C_below hr1 hW) (Kd.C_below hr2 hW) hm
  have HO' := Lib.hid HO
  clear HO hr1 hr2 hm
  go_enter Try.func17, Try.ntmps17
  go_wp2_with fail
  refine (HO'.out _ (below_alloc HB.out _)).mono ?_
  rintro e w1 ⟨rfl, hB⟩
  have HB1 := Aside0.mk (below_then (below_alloc HB.out _) (by simp) hB)
  clear hB
  go_wp2
  go_ret
  exact ⟨rfl, by repeat (first | exact HB1.out | apply below_alloc)⟩
theorem simulates_any (n : Int) (ls : List ByteArray) (es : List Ed) (rel : List Pair) (A1 A2 A3 : Option Addr) (c1 c2 c3 : Nat) (w : World) (hr1 : Kd.C Kd.string w A1 ls.length ls) (hr2 : Kd.C k81 w A2 es.length es) (hr3 : Kd.C k31 w A3 rel.length rel) :
    Calls Try.prog 17 #[.agg #[.int .i64 n, .slice A1 ls.length c1, .slice A2 es.length c2], .slice A3 rel.length c3] w fun e w' => e = .returned (.bool (simulatesB n ls es rel)) ∧ Below w.heap.size w w' := by
  unfold simulatesB
  cases hm : mayR n ls es with
  | false => exact simulates_no n ls es rel A1 A2 A3 c1 c2 c3 w hr1 hr2 hm
  | true =>
    obtain ⟨m, rfl⟩ := Int.eq_ofNat_of_zero_le (show 0 ≤ n by have := n_le hm; omega)
    exact simulates_yes m ls es rel A1 A2 A3 c1 c2 c3 w hr1 hr2 hr3 hm
/-- semblance/bisim.Is. -/
def isB (n : Int) (ls : List ByteArray) (es : List Ed) (rel : List Pair) : Bool := mayR n ls es && (rel.all (inP n) && !rel.any (isNo es (relS rel)))
theorem is_yes (n : Nat) (ls : List ByteArray) (es : List Ed) (rel : List Pair) (A1 A2 A3 : Option Addr) (c1 c2 c3 : Nat) (w : World) (hr1 : Kd.C Kd.string w A1 ls.length ls) (hr2 : Kd.C k81 w A2 es.length es) (hr3 : Kd.C k31 w A3 rel.length rel)
    (hm : mayR n ls es = true) :
    Calls Try.prog 19 #[.agg #[.int .i64 n, .slice A1 ls.length c1, .slice A2 es.length c2], .slice A3 rel.length c3] w fun e w' => e = .returned (.bool (rel.all (inP n) && !rel.any (isNo es (relS rel)))) ∧ Below w.heap.size w w' := by
  have HB := Aside0.mk (Below.refl w.heap.size w)
  have HR3 := Aside0.mk hr3
  have HM := Aside0.mk hm
  have HO : ∀ W, Below w.heap.size w W → Calls Try.prog 60 #[.agg #[.int .i64 n, .slice A1 ls.length c1, .slice A2 es.length c2], .slice A3 rel.length c3] W (OpenPost W n es rel (rel.all (inP n))) := fun W hW =>
    open_main n ls es rel A1 A2 A3 c1 c2 c3 W (Kd.C_below hr1 hW) (Kd.C_below hr2 hW) (Kd.C_below hr3 hW) hm
  have HO' := Lib.hid HO
  clear HO hr1 hr2 hr3 hm
  cases hall : rel.all (inP n) with
  | false =>
    rw [hall] at HO'
    clear hall
    go_enter Try.func19, Try.ntmps19
    go_wp2_with fail
    refine (HO'.out _ (below_alloc HB.out _)).mono ?_
    rintro e w1 ⟨rfl, hB⟩
    have HB1 := Aside0.mk (below_then (below_alloc HB.out _) (by simp) hB)
    clear hB
    go_wp2
    go_ret
    exact ⟨rfl, by repeat (first | exact HB1.out | apply below_alloc)⟩
  | true =>
    rw [hall] at HO'
    have HAll := Aside0.mk hall
    clear hall
    go_enter Try.func19, Try.ntmps19
    go_wp2_with fail
    refine (HO'.out _ (below_alloc HB.out _)).mono ?_
    rintro e w1 ⟨⟨H, rfl, hT⟩, hB⟩
    have HB1 := Aside0.mk (below_then (below_alloc HB.out _) (by simp) hB)
    have HT := Aside0.mk hT
    clear hB hT
    go_wp2_with fail
    refine (any_isNo _ n ls es rel.length (relS rel) _ H rel A3 c3 _ ⟨?_, HT.out.on (below_alloc (Below.refl _ _) _), HM.out⟩ HAll.out (Kd.C_below HR3.out (below_alloc HB1.out _))).mono ?_
    · exact (blk_cell (blk_new w1 _) 0).trans rfl
    rintro e w2 ⟨rfl, hB⟩
    have HB2 := Aside0.mk (below_then (below_alloc HB1.out (Obj.cells #[Value.pointer (some ⟨H + 1 + 1, 0, none⟩)] 82)) (below_size (below_alloc HB1.out _)) hB)
    clear hB
    go_wp2
    go_ret
    exact ⟨rfl, HB2.out⟩
theorem is_no (n : Int) (ls : List ByteArray) (es : List Ed) (rel : List Pair) (A1 A2 A3 : Option Addr) (c1 c2 c3 : Nat) (w : World) (hr1 : Kd.C Kd.string w A1 ls.length ls) (hr2 : Kd.C k81 w A2 es.length es)
    (hm : mayR n ls es = false) :
    Calls Try.prog 19 #[.agg #[.int .i64 n, .slice A1 ls.length c1, .slice A2 es.length c2], .slice A3 rel.length c3] w fun e w' => e = .returned (.bool false) ∧ Below w.heap.size w w' := by
  have HB := Aside0.mk (Below.refl w.heap.size w)
  have HO : ∀ W, Below w.heap.size w W → Calls Try.prog 60 #[.agg #[.int .i64 n, .slice A1 ls.length c1, .slice A2 es.length c2], .slice A3 rel.length c3] W fun e w' => e = .returned (.tuple #[.pointer none, .bool false]) ∧ Below W.heap.size W w' := fun W hW =>
    open_no n ls es rel A1 A2 A3 c1 c2 c3 W (Kd.C_below hr1 hW) (Kd.C_below hr2 hW) hm
  have HO' := Lib.hid HO
  clear HO hr1 hr2 hm
  go_enter Try.func19, Try.ntmps19
  go_wp2_with fail
  refine (HO'.out _ (below_alloc HB.out _)).mono ?_
  rintro e w1 ⟨rfl, hB⟩
  have HB1 := Aside0.mk (below_then (below_alloc HB.out _) (by simp) hB)
  clear hB
  go_wp2
  go_ret
  exact ⟨rfl, by repeat (first | exact HB1.out | apply below_alloc)⟩
theorem is_any (n : Int) (ls : List ByteArray) (es : List Ed) (rel : List Pair) (A1 A2 A3 : Option Addr) (c1 c2 c3 : Nat) (w : World) (hr1 : Kd.C Kd.string w A1 ls.length ls) (hr2 : Kd.C k81 w A2 es.length es) (hr3 : Kd.C k31 w A3 rel.length rel) :
    Calls Try.prog 19 #[.agg #[.int .i64 n, .slice A1 ls.length c1, .slice A2 es.length c2], .slice A3 rel.length c3] w fun e w' => e = .returned (.bool (isB n ls es rel)) ∧ Below w.heap.size w w' := by
  unfold isB
  cases hm : mayR n ls es with
  | false => exact is_no n ls es rel A1 A2 A3 c1 c2 c3 w hr1 hr2 hm
  | true =>
    obtain ⟨m, rfl⟩ := Int.eq_ofNat_of_zero_le (show 0 ≤ n by have := n_le hm; omega)
    exact is_yes m ls es rel A1 A2 A3 c1 c2 c3 w hr1 hr2 hr3 hm

end Go.Proofs.Ytmpiokdomjchiaa.H
