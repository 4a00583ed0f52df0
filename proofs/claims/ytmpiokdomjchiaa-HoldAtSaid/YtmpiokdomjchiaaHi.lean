/-
  Walks: the references' small helpers: Light, Succ, In, Same.
-/
import Derived.Test.YtmpiokdomjchiaaHg
set_option linter.unusedVariables false
set_option linter.unusedSimpArgs false
namespace Go.Proofs.Ytmpiokdomjchiaa.H
open Go.RowKit Go.Proofs.Ytmpiokdomjchiaa.Pr Go.Proofs.YtmpiokdomjchiaaW.PrintWords Go.Proofs.Ytmpiokdomjchiaa.Sem Go.Proofs.YtmpiokdomjchiaaW.PrintLast

/-- semblanceref26.Light. -/
def light26 (n : Int) (ls : List ByteArray) (es : List Ed) : Bool :=
  (ls.take 70).all (fun s => decide (s.size ≤ 300)) && (decide (ls.length < 70) && (decide (es.length ≤ 200) && (decide (n ≤ 60) || decide (2048 < n))))
theorem take_getD {α : Type} (d : α) {xs : List α} {k m : Nat} (hk : k < m) : (xs.take m).getD k d = xs.getD k d := by
  simp [List.getD_eq_getElem?_getD, List.getElem?_take, hk]

set_option maxRecDepth 100000 in
theorem light26_any (n : Int) (ls : List ByteArray) (es : List Ed) (A1 A2 : Option Addr) (c1 c2 : Nat) (w : World) (hr1 : Kd.C Kd.string w A1 ls.length ls) (hl2 : es.length ≤ 9223372036854775807) :
    Calls Try.prog 59 #[.agg #[.int .i64 n, .slice A1 ls.length c1, .slice A2 es.length c2]] w fun e w' => e = .returned (.bool (light26 n ls es)) ∧ Below w.heap.size w w' := by
  have hl1 := C_len hr1
  have HR1 := Aside0.mk hr1
  clear hr1
  have HB0 := Aside0.mk (Below.refl w.heap.size w)
  go_enter Try.func59, Try.ntmps59
  go_wp2
  go_loopw [3] (fun i wr => ∃ k : Nat, k ≤ ls.length ∧ k ≤ 70 ∧ i = .int .i64 k ∧ Aside0 (∀ j, j < k → decide ((ls.getD j ByteArray.empty).size ≤ 300) = true) ∧ Aside0 (BoxL wr w.heap.size n (.slice A1 ls.length c1) (.slice A2 es.length c2)) ∧ Aside0 (Below w.heap.size w wr)) (fun i _ => ls.length - (intOf i).toNat)
  case atStart => exact ⟨0, Nat.zero_le _, by omega, rfl, ⟨fun j hj => by omega⟩, ⟨blk_new w _⟩, ⟨below_alloc HB0.out _⟩⟩
  case round =>
    obtain ⟨k, hk, hk7, rfl, hz, HXr, HBr⟩ := hrel
    have b1 := HXr.out.c1
    by_cases hlt : k < ls.length ∧ k < 70
    · obtain ⟨hlt1, hlt2⟩ := hlt
      obtain ⟨ad, hA, g0⟩ := atS HR1.out k hlt1
      subst hA
      replace g0 := later HBr.out g0
      obtain ⟨s, hs⟩ : ∃ s, s = ls.getD k ByteArray.empty := ⟨_, rfl⟩
      rw [← hs] at g0
      have hs' := Aside0.mk hs; clear hs
      by_cases hL : (300 : Int) < (s.size : Int)
      · have HBad := Aside0.mk (show light26 n ls es = false by
          unfold light26
          rw [all_no ByteArray.empty (k := k) (by rw [List.length_take]; omega) (by rw [take_getD _ hlt2, ← hs'.out]; exact decide_eq_false (by omega))]
          rfl)
        go_wp2
        go_ret
        exact ⟨ret_bool HBad.out.symm, HBr.out⟩
      · have HOk := Aside0.mk (show decide (s.size ≤ 300) = true from decide_eq_true (by omega))
        go_wp2
        go_roundw
        case rel => exact ⟨k + 1, by omega, by omega, by go_num, ⟨fun j hj => by
          rcases Nat.lt_succ_iff_lt_or_eq.1 hj with h | rfl
          · exact hz.out j h
          · rw [← hs'.out]; exact HOk.out⟩, HXr, HBr⟩
        case measure => simp [intOf]; omega
    · have HAll := Aside0.mk (show (ls.take 70).all (fun s => decide (s.size ≤ 300)) = true from
        all_yes ByteArray.empty (k := k) (by rw [List.length_take]; omega) (fun j hj => by rw [take_getD _ (by omega)]; exact hz.out j hj))
      have b0 := HXr.out.c0
      have b2 := HXr.out.c2
      have e0 : light26 n ls es = (decide (ls.length < 70) && (decide (es.length ≤ 200) && (decide (n ≤ 60) || decide (2048 < n)))) := by unfold light26; rw [HAll.out, Bool.true_and]
      have E0 := Aside0.mk e0
      clear e0
      by_cases q0 : (k : Int) < (ls.length : Int)
      · have q1 : ¬ (k : Int) < 70 := by omega
        have q2 : ¬ (ls.length : Int) < 70 := by omega
        have HF := Aside0.mk (show (decide (ls.length < 70) && (decide (es.length ≤ 200) && (decide (n ≤ 60) || decide (2048 < n)))) = false by rw [decide_eq_false (by omega)]; rfl)
        go_wp2
        go_ret
        exact ⟨ret_bool (E0.out.trans HF.out).symm, HBr.out⟩
      · by_cases q2 : (ls.length : Int) < 70
        · by_cases q3 : (es.length : Int) ≤ 200
          · by_cases q4 : n ≤ 60
            · have HF := Aside0.mk (show (decide (ls.length < 70) && (decide (es.length ≤ 200) && (decide (n ≤ 60) || decide (2048 < n)))) = true by rw [decide_eq_true (by omega), decide_eq_true (by omega), decide_eq_true q4]; rfl)
              go_wp2
              go_ret
              exact ⟨ret_bool (E0.out.trans HF.out).symm, HBr.out⟩
            · have HF := Aside0.mk (show (decide (ls.length < 70) && (decide (es.length ≤ 200) && (decide (n ≤ 60) || decide (2048 < n)))) = decide (2048 < n) by rw [decide_eq_true (by omega), decide_eq_true (by omega), decide_eq_false q4]; rfl)
              go_wp2
              go_ret
              exact ⟨ret_bool (E0.out.trans HF.out).symm, HBr.out⟩
          · have HF := Aside0.mk (show (decide (ls.length < 70) && (decide (es.length ≤ 200) && (decide (n ≤ 60) || decide (2048 < n)))) = false by rw [decide_eq_true (by omega), decide_eq_false (by omega)]; rfl)
            go_wp2
            go_ret
            exact ⟨ret_bool (E0.out.trans HF.out).symm, HBr.out⟩
        · have HF := Aside0.mk (show (decide (ls.length < 70) && (decide (es.length ≤ 200) && (decide (n ≤ 60) || decide (2048 < n)))) = false by rw [decide_eq_false (by omega)]; rfl)
          go_wp2
          go_ret
          exact ⟨ret_bool (E0.out.trans HF.out).symm, HBr.out⟩

/-- semblancelaw33.Light. -/
def light33 (n : Int) (ls : List ByteArray) (es : List Ed) : Bool :=
  light26 n ls es && ((decide (n ≤ 16) || decide (2048 < n)) && (decide (es.length ≤ 60) && decide (ls.length ≤ 8)))
theorem light33_any (n : Int) (ls : List ByteArray) (es : List Ed) (A1 A2 : Option Addr) (c1 c2 : Nat) (w : World) (hr1 : Kd.C Kd.string w A1 ls.length ls) (hl2 : es.length ≤ 9223372036854775807) :
    Calls Try.prog 15 #[.agg #[.int .i64 n, .slice A1 ls.length c1, .slice A2 es.length c2]] w fun e w' => e = .returned (.bool (light33 n ls es)) ∧ Below w.heap.size w w' := by
  have HC : ∀ W, Below w.heap.size w W → Calls Try.prog 59 #[.agg #[.int .i64 n, .slice A1 ls.length c1, .slice A2 es.length c2]] W fun e w' => e = .returned (.bool (light26 n ls es)) ∧ Below W.heap.size W w' := fun W hW =>
    light26_any n ls es A1 A2 c1 c2 W (Kd.C_below hr1 hW) hl2
  have HC' := Lib.hid HC
  clear HC
  have hl1 := C_len hr1
  clear hr1
  have HB0 := Aside0.mk (Below.refl w.heap.size w)
  obtain ⟨r, hr⟩ : ∃ r, r = light33 n ls es := ⟨_, rfl⟩
  rw [← hr]
  unfold light33 at hr
  cases q : light26 n ls es with
  | false =>
    rw [q] at hr HC'
    have HR := Aside0.mk hr
    clear q hr
    go_enter Try.func15, Try.ntmps15
    go_wp2_with fail
    refine (HC'.out _ (below_alloc HB0.out _)).mono ?_
    rintro e w1 ⟨rfl, hB⟩
    have HB1 := Aside0.mk (below_then (below_alloc HB0.out _) (by simp) hB)
    clear hB
    go_wp2
    go_ret
    exact ⟨ret_bool HR.out.symm, HB1.out⟩
  | true =>
    rw [q, Bool.true_and] at hr
    rw [q] at HC'
    clear q
    by_cases q0 : n ≤ 16
    · by_cases q1 : (es.length : Int) ≤ 60
      · have HR := Aside0.mk (show decide (ls.length ≤ 8) = r by rw [hr, decide_eq_true q0, decide_eq_true (show es.length ≤ 60 by omega)]; rfl)
        clear hr
        go_enter Try.func15, Try.ntmps15
        go_wp2_with fail
        refine (HC'.out _ (below_alloc HB0.out _)).mono ?_
        rintro e w1 ⟨rfl, hB⟩
        have HB1 := Aside0.mk (below_then (below_alloc HB0.out _) (by simp) hB)
        have hX : BoxL w1 w.heap.size n (.slice A1 ls.length c1) (.slice A2 es.length c2) := blk_below (blk_new w _) hB
        have b0 := hX.c0
        have b1 := hX.c1
        have b2 := hX.c2
        clear hB hX
        go_wp2
        go_ret
        exact ⟨ret_bool (by rw [← HR.out]; apply decide_eq_decide.2; omega), HB1.out⟩
      · have HR := Aside0.mk (show r = false by rw [hr, decide_eq_false (show ¬ es.length ≤ 60 by omega)]; simp)
        clear hr
        go_enter Try.func15, Try.ntmps15
        go_wp2_with fail
        refine (HC'.out _ (below_alloc HB0.out _)).mono ?_
        rintro e w1 ⟨rfl, hB⟩
        have HB1 := Aside0.mk (below_then (below_alloc HB0.out _) (by simp) hB)
        have hX : BoxL w1 w.heap.size n (.slice A1 ls.length c1) (.slice A2 es.length c2) := blk_below (blk_new w _) hB
        have b0 := hX.c0
        have b1 := hX.c1
        have b2 := hX.c2
        clear hB hX
        go_wp2
        go_ret
        exact ⟨ret_bool HR.out.symm, HB1.out⟩
    · by_cases q2 : 2048 < n
      · by_cases q1 : (es.length : Int) ≤ 60
        · have HR := Aside0.mk (show decide (ls.length ≤ 8) = r by rw [hr, decide_eq_false q0, decide_eq_true q2, decide_eq_true (show es.length ≤ 60 by omega)]; rfl)
          clear hr
          go_enter Try.func15, Try.ntmps15
          go_wp2_with fail
          refine (HC'.out _ (below_alloc HB0.out _)).mono ?_
          rintro e w1 ⟨rfl, hB⟩
          have HB1 := Aside0.mk (below_then (below_alloc HB0.out _) (by simp) hB)
          have hX : BoxL w1 w.heap.size n (.slice A1 ls.length c1) (.slice A2 es.length c2) := blk_below (blk_new w _) hB
          have b0 := hX.c0
          have b1 := hX.c1
          have b2 := hX.c2
          clear hB hX
          go_wp2
          go_ret
          exact ⟨ret_bool (by rw [← HR.out]; apply decide_eq_decide.2; omega), HB1.out⟩
        · have HR := Aside0.mk (show r = false by rw [hr, decide_eq_false (show ¬ es.length ≤ 60 by omega)]; simp)
          clear hr
          go_enter Try.func15, Try.ntmps15
          go_wp2_with fail
          refine (HC'.out _ (below_alloc HB0.out _)).mono ?_
          rintro e w1 ⟨rfl, hB⟩
          have HB1 := Aside0.mk (below_then (below_alloc HB0.out _) (by simp) hB)
          have hX : BoxL w1 w.heap.size n (.slice A1 ls.length c1) (.slice A2 es.length c2) := blk_below (blk_new w _) hB
          have b0 := hX.c0
          have b1 := hX.c1
          have b2 := hX.c2
          clear hB hX
          go_wp2
          go_ret
          exact ⟨ret_bool HR.out.symm, HB1.out⟩
      · have HR := Aside0.mk (show r = false by rw [hr, decide_eq_false q0, decide_eq_false q2]; simp)
        clear hr
        go_enter Try.func15, Try.ntmps15
        go_wp2_with fail
        refine (HC'.out _ (below_alloc HB0.out _)).mono ?_
        rintro e w1 ⟨rfl, hB⟩
        have HB1 := Aside0.mk (below_then (below_alloc HB0.out _) (by simp) hB)
        have hX : BoxL w1 w.heap.size n (.slice A1 ls.length c1) (.slice A2 es.length c2) := blk_below (blk_new w _) hB
        have b0 := hX.c0
        have b1 := hX.c1
        have b2 := hX.c2
        clear hB hX
        go_wp2
        go_ret
        exact ⟨ret_bool HR.out.symm, HB1.out⟩

/-- semblanceref26.Succ. -/
def succL (es : List Ed) (node label : Int) : List Int := (es.filter fun e => decide (e.f0 = node) && decide (e.f1 = label)).map (·.f2)
theorem succL_snoc (es : List Ed) (e : Ed) (a b : Int) : succL (es ++ [e]) a b = if e.f0 = a ∧ e.f1 = b then succL es a b ++ [e.f2] else succL es a b := by
  unfold succL
  by_cases h : e.f0 = a ∧ e.f1 = b
  · rw [if_pos h]; simp [h.1, h.2]
  · rw [if_neg h]
    have : (decide (e.f0 = a) && decide (e.f1 = b)) = false := by simpa using h
    simp [this]
theorem succL_len (es : List Ed) (a b : Int) : (succL es a b).length ≤ es.length := by
  unfold succL; rw [List.length_map]; exact List.length_filter_le _ _
/-- A row of numbers that a call has made. -/
def MadeI (w : World) (xs : List Int) (e : Ending) (w' : World) : Prop := ∃ v, e = .returned v ∧ Kd.R (Kd.int .i64) 3 w' w.heap.size (fun _ => True) v xs ∧ Below w.heap.size w w'

theorem emptyI (W : World) (base : Nat) (hb : base ≤ W.heap.size) : Kd.R (Kd.int .i64) 3 (W.alloc (.cells #[] 3)) base (fun _ => True) (.slice (some ⟨W.heap.size, 0, none⟩) 0 0) [] :=
  Kd.R_of_own (enc := Value.int .i64) (own_lit_of (enc := Value.int .i64) W base 3 [] hb (by simp)) (fun _ _ => trivial)

set_option maxRecDepth 100000 in
theorem succ_any (n : Int) (ls : List ByteArray) (es : List Ed) (a b : Int) (v1 : Value) (A2 : Option Addr) (c2 : Nat) (w : World) (hr2 : Kd.C k81 w A2 es.length es) (hlen : es.length ≤ 1000000) :
    Calls Try.prog 64 #[.agg #[.int .i64 n, v1, .slice A2 es.length c2], .int .i64 a, .int .i64 b] w (MadeI w (succL es a b)) := by
  have HR := Aside0.mk hr2
  clear hr2
  have HB0 := Aside0.mk (Below.refl w.heap.size w)
  go_enter Try.func64, Try.ntmps64
  go_wp2
  go_loopw [7, 8] (fun v i wr => ∃ k : Nat, k ≤ es.length ∧ i = .int .i64 k ∧ Aside0 (Kd.R (Kd.int .i64) 3 wr w.heap.size (fun _ => True) v (succL (es.take k) a b)) ∧ Aside0 (BoxL wr w.heap.size n v1 (.slice A2 es.length c2)) ∧ Aside0 (Below w.heap.size w wr)) (fun _ i _ => es.length - (intOf i).toNat)
  case atStart =>
    refine ⟨0, Nat.zero_le _, rfl, ⟨?_⟩, ⟨blk_below (blk_new w _) (below_alloc (Below.refl _ _) _)⟩, ⟨by repeat (first | exact HB0.out | apply below_alloc)⟩⟩
    have := emptyI (w.alloc (Obj.cells #[Value.int IntKind.i64 n, v1, Value.slice A2 es.length c2] 25)) w.heap.size (by simp)
    simpa [succL] using this
  case round =>
    obtain ⟨k, hk, rfl, HO, HXr, HBr⟩ := hrel
    have b2 := HXr.out.c2
    by_cases hlt : k < es.length
    · obtain ⟨ad, hA, g0, g1, g2⟩ := atE HR.out k hlt
      subst hA
      replace g0 := later HBr.out g0
      replace g1 := later HBr.out g1
      replace g2 := later HBr.out g2
      obtain ⟨x, hx⟩ : ∃ x, x = es.getD k z81 := ⟨_, rfl⟩
      rw [← hx] at g0 g1 g2
      have he : es.take (k + 1) = es.take k ++ [x] := by rw [hx]; exact take_snoc z81 hlt
      have HE := Aside0.mk he
      clear hx he
      obtain ⟨L, hL⟩ : ∃ L, L = succL (es.take k) a b := ⟨_, rfl⟩
      have hLl : L.length ≤ 1000000 := by rw [hL]; have := succL_len (es.take k) a b; rw [List.length_take] at this; omega
      rw [← hL] at HO
      have HL := Aside0.mk hL
      clear hL
      by_cases q0 : x.f0 = a
      · by_cases q1 : x.f1 = b
        · have p0 : (x.f0 == a) = true := by simp [q0]
          have p1 : (x.f1 == b) = true := by simp [q1]
          have HN := Aside0.mk (show succL (es.take (k + 1)) a b = L ++ [x.f2] by rw [HE.out, succL_snoc, if_pos ⟨q0, q1⟩, HL.out])
          clear q0 q1
          go_wp2_with (at_builtin; refine Kd.R_append (Kd.int .i64) (w0 := w) w.heap.size rfl (.tmp 35) (.tmp 42) 42 3 (.int .i64 0) 8 rfl Try.underlying42 info3 rfl (by decide) (by omega) u7 L x.f2 [.int .i64 x.f2] (fun _ => True) (fun _ => False) rfl rfl rfl (fun _ hk => hk.elim) (fun _ _ => trivial) HO.out HBr.out HBr.out.size (by omega) ?_; intro v2 w2 ho hb hg hat; have HO2 := Aside0.mk ho; have HB2 := Aside0.mk hb; have HX2 := Aside0.mk (blk_grown (g := w.heap.size) HXr.out hg (Kd.R_ne HO.out HXr.out (by decide))); clear ho hb hg hat)
          go_roundw
          case rel => exact ⟨k + 1, by omega, by go_num, ⟨by rw [HN.out]; exact HO2.out⟩, HX2, HB2⟩
          case measure => simp [intOf]; omega
        · have p0 : (x.f0 == a) = true := by simp [q0]
          have p1 : (x.f1 == b) = false := by simp [q1]
          have HN := Aside0.mk (show succL (es.take (k + 1)) a b = L by rw [HE.out, succL_snoc, if_neg (fun h => q1 h.2), HL.out])
          clear q0 q1
          go_wp2
          go_roundw
          case rel => exact ⟨k + 1, by omega, by go_num, ⟨by rw [HN.out]; exact HO.out⟩, HXr, HBr⟩
          case measure => simp [intOf]; omega
      · have p0 : (x.f0 == a) = false := by simp [q0]
        have HN := Aside0.mk (show succL (es.take (k + 1)) a b = L by rw [HE.out, succL_snoc, if_neg (fun h => q0 h.1), HL.out])
        clear q0
        go_wp2
        go_roundw
        case rel => exact ⟨k + 1, by omega, by go_num, ⟨by rw [HN.out]; exact HO.out⟩, HXr, HBr⟩
        case measure => simp [intOf]; omega
    · have ek : es.take k = es := List.take_of_length_le (by omega)
      rw [ek] at HO
      clear ek
      go_wp2
      go_ret
      exact ⟨_, rfl, HO.out, HBr.out⟩

/-- Pairs, held side by side. -/
theorem eqPair (a0 a1 b0 b1 : Int) (w : World) : (Op.equalIn 10000 31 (.agg #[.int .i64 a0, .int .i64 a1]) (.agg #[.int .i64 b0, .int .i64 b1])).run Try.prog w = .ok (a0 == b0 && a1 == b1) w := by
  have hs : (sizeOf 3).run Try.prog w = .ok 1 w := by kernel_rfl
  have hu : (underlying 31).run Try.prog w = .ok (.array 2 3) w := by kernel_rfl
  have hu3 : (underlying 3).run Try.prog w = .ok (.int .i64) w := by kernel_rfl
  have p0 : ∀ x y : Int, (part 3 #[.int .i64 x, .int .i64 y] 0).run Try.prog w = .ok (.int .i64 x) w := fun x y => by kernel_rfl
  have p1 : ∀ x y : Int, (part 3 #[.int .i64 x, .int .i64 y] 1).run Try.prog w = .ok (.int .i64 y) w := fun x y => by kernel_rfl
  have e3 : ∀ x y : Int, (Op.equalIn 9999 3 (.int .i64 x) (.int .i64 y)).run Try.prog w = .ok (x == y) w := by
    intro x y
    unfold Op.equalIn
    simp [hu3, Result.andThen]
  unfold Op.equalIn
  simp only [Sem.run_bind, hu, Result.andThen_ok, hs]
  simp [Std.Legacy.Range.forIn_eq_forIn_range', List.range', p0, p1, e3, Result.andThen]
  by_cases h0 : a0 = b0 <;> by_cases h1 : a1 = b1 <;> simp [h0, h1, p1, e3, Result.andThen]

theorem pair_ne {x : Pair} {a b : Int} (h : ¬ (x.f0 = a ∧ x.f1 = b)) : (decide (x.f0 = a) && decide (x.f1 = b)) = false := by simpa using h

set_option maxRecDepth 100000 in
theorem in_any (rel : List Pair) (a b : Int) (r : Bool) (hr0 : relS rel a b = r) (A : Option Addr) (c : Nat) (w : World) (hr : Kd.C k31 w A rel.length rel) :
    Calls Try.prog 25 #[.slice A rel.length c, .int .i64 a, .int .i64 b] w fun e w' => e = .returned (.bool r) ∧ w = w' := by
  have hl := C_len hr
  have HR := Lib.hid hr; clear hr
  have H0 := Aside0.mk hr0; clear hr0
  go_enter Try.func25, Try.ntmps25
  go_wp2
  go_loop [7] (fun i => ∃ k : Nat, k ≤ rel.length ∧ i = .int .i64 k ∧ Aside0 (∀ j, j < k → (decide ((rel.getD j z31).f0 = a) && decide ((rel.getD j z31).f1 = b)) = false)) (fun i => rel.length - (intOf i).toNat)
  case atStart => exact ⟨0, Nat.zero_le _, rfl, ⟨fun j hj => by omega⟩⟩
  case round =>
    obtain ⟨k, hk, rfl, hz⟩ := hrel
    by_cases hlt : k < rel.length
    · obtain ⟨ad, hA, h0, h1⟩ := atP HR.out k hlt
      subst hA
      obtain ⟨x, hx⟩ : ∃ x, x = rel.getD k z31 := ⟨_, rfl⟩
      rw [← hx] at h0 h1
      have HS := Aside0.mk hx; clear hx
      by_cases q : x.f0 = a ∧ x.f1 = b
      · have HF := Aside0.mk (show r = true by rw [← H0.out]; exact any_yes z31 hlt (by rw [← HS.out]; simp [q.1, q.2]))
        have hE : ∀ W : World, (Op.equalIn 10000 31 (.agg #[.int .i64 x.f0, .int .i64 x.f1]) (.agg #[.int .i64 a, .int .i64 b])).run Try.prog W = .ok true W := fun W => by rw [eqPair]; simp [q.1, q.2]
        clear q
        go_wp2
        go_ret
        exact ⟨ret_bool HF.out.symm, rfl⟩
      · have HQ := Aside0.mk (pair_ne q)
        have hE : ∀ W : World, (Op.equalIn 10000 31 (.agg #[.int .i64 x.f0, .int .i64 x.f1]) (.agg #[.int .i64 a, .int .i64 b])).run Try.prog W = .ok false W := fun W => by rw [eqPair]; congr 1; simpa using q
        clear q
        go_wp2
        go_round
        case rel => exact ⟨k + 1, by omega, by go_num, ⟨fun j hj => by rcases Nat.lt_succ_iff_lt_or_eq.1 hj with h | rfl; exact hz.out j h; rw [← HS.out]; exact HQ.out⟩⟩
        case measure => simp [intOf]; omega
    · have HF := Aside0.mk (show r = false by rw [← H0.out]; exact any_no z31 hlt hz.out)
      go_wp2
      go_ret
      exact ⟨ret_bool HF.out.symm, rfl⟩

end Go.Proofs.Ytmpiokdomjchiaa.H
