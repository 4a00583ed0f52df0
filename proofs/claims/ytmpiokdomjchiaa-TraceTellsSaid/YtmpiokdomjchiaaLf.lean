/-
  The walks of semblancelaw40.ahead and semblancelaw40.TraceTells: it is always true.
-/
import Derived.Test.YtmpiokdomjchiaaSn
import Derived.Test.YtmpiokdomjchiaaPk
set_option linter.unusedVariables false
set_option linter.unusedSimpArgs false
namespace Go.Proofs.Ytmpiokdomjchiaa.H
open Go.RowKit Go.Proofs.Ytmpiokdomjchiaa.Pr Go.Proofs.YtmpiokdomjchiaaW.PrintWords Go.Proofs.Ytmpiokdomjchiaa.Sem Go.Proofs.YtmpiokdomjchiaaW.PrintLast

theorem lex_at : ∀ {xs ys : List Int} {k : Nat}, xs.length = ys.length → (∀ j, j < k → xs.getD j 0 = ys.getD j 0) → k < xs.length → xs.getD k 0 ≠ ys.getD k 0 → lexB xs ys = decide (xs.getD k 0 < ys.getD k 0)
  | [], _, k, _, _, h, _ => by simp at h
  | x :: xs, [], k, h, _, _, _ => by simp at h
  | x :: xs, y :: ys, 0, _, _, _, hne => by
    simp only [List.getD_cons_zero] at hne ⊢
    simp only [lexB]
    rw [if_neg hne]
  | x :: xs, y :: ys, k + 1, hl, hz, hk, hne => by
    have h0 := hz 0 (by omega)
    simp only [List.getD_cons_zero] at h0
    simp only [List.getD_cons_succ] at hne ⊢
    simp only [lexB]
    rw [if_pos h0]
    exact lex_at (by simpa using hl) (fun j hj => by have := hz (j + 1) (by omega); simpa using this) (by simpa using hk) hne
theorem key_at (ls ws : List ByteArray) {k : Nat} (hk : k < ws.length) : (keyW ls ws).getD k 0 = placeS ls (ws.getD k ByteArray.empty) := by
  unfold keyW
  simp [List.getD_eq_getElem?_getD, List.getElem?_eq_getElem hk]
set_option maxHeartbeats 8000000 in
set_option maxRecDepth 100000 in
theorem tahead_any (ls a b : List ByteArray) (r : Bool) (hr0 : slt (keyW ls a) (keyW ls b) = r) (A1 A2 A3 : Option Addr) (c1 c2 c3 : Nat) (w : World) (hr1 : Kd.C Kd.string w A1 ls.length ls) (hr2 : Kd.C Kd.string w A2 a.length a) (hr3 : Kd.C Kd.string w A3 b.length b) :
    Calls Try.prog 42 #[.slice A1 ls.length c1, .slice A2 a.length c2, .slice A3 b.length c3] w fun e w' => e = .returned (.bool r) ∧ Drawn0 w w' := by
  have hla := C_len hr2
  have hlb := C_len hr3
  have HR1 := Aside0.mk hr1
  have HR2 := Aside0.mk hr2
  have HR3 := Aside0.mk hr3
  have hka : (keyW ls a).length = a.length := by simp [keyW]
  have hkb : (keyW ls b).length = b.length := by simp [keyW]
  clear hr1 hr2 hr3
  by_cases hl : a.length = b.length
  · have hq : ((a.length : Int) != (b.length : Int)) = false := by rw [hl]; simp
    have H0 := Aside0.mk (show lexB (keyW ls a) (keyW ls b) = r by rw [← hr0]; unfold slt; rw [if_pos (by rw [hka, hkb, hl])])
    have HLn := Aside0.mk (And.intro hl (And.intro hka hkb))
    clear hr0 hl hka hkb
    go_enter Try.func42, Try.ntmps42
    go_wp2
    go_loopw [7] (fun i wr => ∃ k : Nat, k ≤ a.length ∧ i = .int .i64 k ∧ Aside0 (∀ j, j < k → (keyW ls a).getD j 0 = (keyW ls b).getD j 0) ∧ Drawn0 w wr) (fun i _ => a.length - (intOf i).toNat)
    case atStart => exact ⟨0, Nat.zero_le _, rfl, ⟨fun j hj => by omega⟩, Drawn0.refl _⟩
    case round =>
      obtain ⟨k, hk, rfl, hz, hD⟩ := hrel
      by_cases hlt : k < a.length
      · have hltb : k < b.length := by rw [← HLn.out.1]; exact hlt
        have i0 : (k : Int) < (a.length : Int) := by omega
        have i1 : (k : Int) < (b.length : Int) := by omega
        obtain ⟨ad, hA, g0⟩ := atS (Kd.C_below HR2.out hD.below) k hlt
        obtain ⟨ad2, hA2, g1⟩ := atS (Kd.C_below HR3.out hD.below) k hltb
        subst hA hA2
        obtain ⟨x, hx⟩ : ∃ x, x = a.getD k ByteArray.empty := ⟨_, rfl⟩
        obtain ⟨y, hy⟩ : ∃ y, y = b.getD k ByteArray.empty := ⟨_, rfl⟩
        rw [← hx] at g0
        rw [← hy] at g1
        obtain ⟨px, hpx⟩ : ∃ px, px = placeS ls x := ⟨_, rfl⟩
        obtain ⟨py, hpy⟩ : ∃ py, py = placeS ls y := ⟨_, rfl⟩
        have HKx := Aside0.mk (show (keyW ls a).getD k 0 = px by rw [key_at ls a hlt, ← hx, hpx])
        have HKy := Aside0.mk (show (keyW ls b).getD k 0 = py by rw [key_at ls b hltb, ← hy, hpy])
        have HPx : Aside0 (∀ W, Drawn0 w W → Calls Try.prog 75 #[.slice A1 ls.length c1, .string x] W fun e w' => e = .returned (.int .i64 px) ∧ W = w') := ⟨fun W hW => by rw [hpx]; exact place02_any ls x A1 c1 W (Kd.C_below HR1.out hW.below)⟩
        have HPy : Aside0 (∀ W, Drawn0 w W → Calls Try.prog 75 #[.slice A1 ls.length c1, .string y] W fun e w' => e = .returned (.int .i64 py) ∧ W = w') := ⟨fun W hW => by rw [hpy]; exact place02_any ls y A1 c1 W (Kd.C_below HR1.out hW.below)⟩
        clear hx hy hpx hpy
        go_wp2_with fail
        refine start_ (n := 14) (S := fun w' => w'.cell? (ad.add k) = some (.string x) ∧ w'.cell? (ad2.add k) = some (.string y)) (ds := []) #[false, false, false, false, false, false, false, false, false, false, false, false, false, false] (by kernel_rfl) rfl rfl ⟨g0, g1⟩ (fun hHeld => ?_)
        have hD1 : Drawn0 w wr.drew := hD.step 1
        generalize wr.drew = V at hD1 hHeld ⊢
        clear g0 g1
        refine pure_ (i := 0) (N := some 26) (v := ?_) (a' := ?_) #[true, false, false, false, false, false, false, false, false, false, false, false, false, false] rfl rfl (by kernel_rfl) (fun _ _ _ h => h) (Or.inl ⟨by rfl, ?_⟩) ?_ ?_
        rotate_left
        · intro w'
          go_simp
          with_reducible rfl
        rotate_left
        · simp only [Act.put, List.setIfInBounds_toArray, List.set_cons_zero, List.set_cons_succ, i64_w, i32_w]
          rfl
        refine pure_ (i := 1) (N := some 27) (v := ?_) (a' := ?_) #[true, true, false, false, false, false, false, false, false, false, false, false, false, false] rfl rfl (by kernel_rfl) (fun _ _ _ h => h) (Or.inl ⟨by rfl, ?_⟩) ?_ ?_
        rotate_left
        · intro w'
          go_simp
          with_reducible rfl
        rotate_left
        · simp only [Act.put, List.setIfInBounds_toArray, List.set_cons_zero, List.set_cons_succ, i64_w, i32_w]
          rfl
        refine pure_ (i := 2) (N := some 28) (v := ?_) (a' := ?_) #[true, true, true, false, false, false, false, false, false, false, false, false, false, false] rfl rfl (by kernel_rfl) (fun _ _ _ h => h) (Or.inl ⟨by rfl, ?_⟩) ?_ ?_
        rotate_left
        · intro w'
          go_simp
          with_reducible rfl
        rotate_left
        · simp only [Act.put, List.setIfInBounds_toArray, List.set_cons_zero, List.set_cons_succ, i64_w, i32_w]
          rfl
        refine pure_ (i := 3) (N := some 29) (v := ?_) (a' := ?_) #[true, true, true, true, false, false, false, false, false, false, false, false, false, false] rfl rfl (by kernel_rfl) (fun _ _ _ h => h) (Or.inl ⟨by rfl, ?_⟩) ?_ ?_
        rotate_left
        · intro w'
          go_simp
          with_reducible rfl
        rotate_left
        · simp only [Act.put, List.setIfInBounds_toArray, List.set_cons_zero, List.set_cons_succ, i64_w, i32_w]
          rfl
        refine pure_ (i := 6) (N := some 32) (v := ?_) (a' := ?_) #[true, true, true, true, false, false, true, false, false, false, false, false, false, false] rfl rfl (by kernel_rfl) (fun _ _ _ h => h) (Or.inl ⟨by rfl, ?_⟩) ?_ ?_
        rotate_left
        · intro w'
          go_simp
          with_reducible rfl
        rotate_left
        · simp only [Act.put, List.setIfInBounds_toArray, List.set_cons_zero, List.set_cons_succ, i64_w, i32_w]
          rfl
        refine pure_ (i := 7) (N := some 33) (v := ?_) (a' := ?_) #[true, true, true, true, false, false, true, true, false, false, false, false, false, false] rfl rfl (by kernel_rfl) (fun _ _ _ h => h) (Or.inl ⟨by rfl, ?_⟩) ?_ ?_
        rotate_left
        · intro w'
          go_simp
          with_reducible rfl
        rotate_left
        · simp only [Act.put, List.setIfInBounds_toArray, List.set_cons_zero, List.set_cons_succ, i64_w, i32_w]
          rfl
        refine pure_ (i := 8) (N := some 34) (v := ?_) (a' := ?_) #[true, true, true, true, false, false, true, true, true, false, false, false, false, false] rfl rfl (by kernel_rfl) (fun _ _ _ h => h) (Or.inl ⟨by rfl, ?_⟩) ?_ ?_
        rotate_left
        · intro w'
          go_simp
          with_reducible rfl
        rotate_left
        · simp only [Act.put, List.setIfInBounds_toArray, List.set_cons_zero, List.set_cons_succ, i64_w, i32_w]
          rfl
        refine pure_ (i := 9) (N := some 35) (v := ?_) (a' := ?_) #[true, true, true, true, false, false, true, true, true, true, false, false, false, false] rfl rfl (by kernel_rfl) (fun _ _ _ h => h) (Or.inl ⟨by rfl, ?_⟩) ?_ ?_
        rotate_left
        · intro w'
          go_simp
          with_reducible rfl
        rotate_left
        · simp only [Act.put, List.setIfInBounds_toArray, List.set_cons_zero, List.set_cons_succ, i64_w, i32_w]
          rfl
        refine take_ (i := 4) (N := some 30) (v := ?_) (a' := ?_) #[true, true, true, true, true, false, true, true, true, true, false, false, false, false] rfl rfl (by kernel_rfl) (fun _ _ _ h => h) (Or.inl ⟨by rfl, ?_⟩) hHeld ?_ ?_
        rotate_left
        · rintro w' ⟨s0, s1⟩
          go_simp
          with_reducible rfl
        rotate_left
        · simp only [Act.put, List.setIfInBounds_toArray, List.set_cons_zero, List.set_cons_succ, i64_w, i32_w]
          rfl
        refine take_ (i := 10) (N := some 36) (v := ?_) (a' := ?_) #[true, true, true, true, true, false, true, true, true, true, true, false, false, false] rfl rfl (by kernel_rfl) (fun _ _ _ h => h) (Or.inl ⟨by rfl, ?_⟩) hHeld ?_ ?_
        rotate_left
        · rintro w' ⟨s0, s1⟩
          go_simp
          with_reducible rfl
        rotate_left
        · simp only [Act.put, List.setIfInBounds_toArray, List.set_cons_zero, List.set_cons_succ, i64_w, i32_w]
          rfl
        refine one_ (i := 5) (N := some 31) #[true, true, true, true, true, true, true, true, true, true, true, false, false, false] rfl rfl (by kernel_rfl) (by decide) (fun K hK => ?_)
        refine goes_ Try.func75 (by kernel_rfl) rfl #[.slice A1 ls.length c1, .string x] (by rfl) rfl rfl (by simp only [List.map_toArray, List.map_cons, List.map_nil]; rfl) ?_
        refine (HPx.out _ hD1).mono ?_
        rintro e w3 ⟨rfl, rfl⟩
        refine ⟨_, rfl, ?_⟩
        refine hK.out _ _ ⟨hHeld.1, hHeld.2⟩ (fun hHeld => ?_)
        clear hK K
        refine norm_ (a' := ?_) ?_ ?_
        rotate_left
        · show Act.put _ (some 31) _ = _
          simp only [Act.put, List.setIfInBounds_toArray, List.set_cons_zero, List.set_cons_succ, i64_w, i32_w]
          rfl
        refine one_ (i := 11) (N := some 37) #[true, true, true, true, true, true, true, true, true, true, true, true, false, false] rfl rfl (by kernel_rfl) (by decide) (fun K hK => ?_)
        refine goes_ Try.func75 (by kernel_rfl) rfl #[.slice A1 ls.length c1, .string y] (by rfl) rfl rfl (by simp only [List.map_toArray, List.map_cons, List.map_nil]; rfl) ?_
        refine (HPy.out _ hD1).mono ?_
        rintro e w3 ⟨rfl, rfl⟩
        refine ⟨_, rfl, ?_⟩
        refine hK.out _ _ ⟨hHeld.1, hHeld.2⟩ (fun hHeld => ?_)
        clear hK K
        refine norm_ (a' := ?_) ?_ ?_
        rotate_left
        · show Act.put _ (some 37) _ = _
          simp only [Act.put, List.setIfInBounds_toArray, List.set_cons_zero, List.set_cons_succ, i64_w, i32_w]
          rfl
        refine pure_ (i := 12) (N := some 8) (v := ?_) (a' := ?_) #[true, true, true, true, true, true, true, true, true, true, true, true, true, false] rfl rfl (by kernel_rfl) (fun _ _ _ h => h) (Or.inl ⟨by rfl, ?_⟩) ?_ ?_
        rotate_left
        · intro w'
          go_simp
          with_reducible rfl
        rotate_left
        · simp only [Act.put, List.setIfInBounds_toArray, List.set_cons_zero, List.set_cons_succ, i64_w, i32_w]
          rfl
        refine pure_ (i := 13) (N := some 9) (v := ?_) (a' := ?_) #[true, true, true, true, true, true, true, true, true, true, true, true, true, true] rfl rfl (by kernel_rfl) (fun _ _ _ h => h) (Or.inl ⟨by rfl, ?_⟩) ?_ ?_
        rotate_left
        · intro w'
          go_simp
          with_reducible rfl
        rotate_left
        · simp only [Act.put, List.setIfInBounds_toArray, List.set_cons_zero, List.set_cons_succ, i64_w, i32_w]
          rfl
        refine done_ (by kernel_rfl) ?_
        by_cases q : px = py
        · have p0 : (px != py) = false := by simp [q]
          have HQ := Aside0.mk q
          clear q
          go_wp2
          go_roundw
          case rel => exact ⟨k + 1, by omega, by go_num, ⟨fun j hj => by
            rcases Nat.lt_succ_iff_lt_or_eq.1 hj with h | rfl
            · exact hz.out j h
            · rw [HKx.out, HKy.out]; exact HQ.out⟩, hD1⟩
          case measure => simp [intOf]; omega
        · have p0 : (px != py) = true := by simp [q]
          have HQ := Aside0.mk q
          clear q
          have HF := Aside0.mk (show r = decide (px < py) by
            rw [← H0.out, lex_at (by rw [HLn.out.2.1, HLn.out.2.2]; exact HLn.out.1) hz.out (by rw [HLn.out.2.1]; exact hlt) (by rw [HKx.out, HKy.out]; exact HQ.out), HKx.out, HKy.out])
          go_wp2
          go_ret
          exact ⟨ret_bool HF.out.symm, hD1⟩
      · have i0 : ¬ (k : Int) < (a.length : Int) := by omega
        have HF := Aside0.mk (show r = false by
          rw [← H0.out, list_ext_getD 0 (by rw [HLn.out.2.1, HLn.out.2.2]; exact HLn.out.1) (fun j hj => hz.out j (by rw [HLn.out.2.1] at hj; omega))]
          exact lex_irrefl _)
        go_wp2
        go_ret
        exact ⟨ret_bool HF.out.symm, hD⟩
  · have hq : ((a.length : Int) != (b.length : Int)) = true := by simp; omega
    have H0 := Aside0.mk (show r = decide ((a.length : Int) < (b.length : Int)) by
      rw [← hr0]
      unfold slt
      rw [if_neg (by rw [hka, hkb]; exact hl), hka, hkb]
      apply decide_eq_decide.2
      omega)
    clear hr0 hl hka hkb
    go_enter Try.func42, Try.ntmps42
    go_wp2
    go_ret
    exact ⟨ret_bool (by rw [H0.out]; apply decide_eq_decide.2; omega), Drawn0.refl _⟩

set_option maxHeartbeats 16000000 in
set_option maxRecDepth 100000 in
theorem traceTells_true (n : Int) (ls : List ByteArray) (es : List Ed) (s t : Int) (ws : List ByteArray) (A1 A2 A3 : Option Addr) (c1 c2 c3 : Nat) (w : World) (hr1 : Kd.C Kd.string w A1 ls.length ls) (hr2 : Kd.C k81 w A2 es.length es) (hwf1 : (Lit.int .i64 s).wf = true) (hwf2 : (Lit.int .i64 t).wf = true) (hr3 : Kd.C Kd.string w A3 ws.length ws) :
    Calls Try.prog 8 #[.agg #[.int .i64 n, .slice A1 ls.length c1, .slice A2 es.length c2], .agg #[.int .i64 s, .int .i64 t], .slice A3 ws.length c3] w fun e w' => e = .returned (.bool true) ∧ Below w.heap.size w w' := by
  have HB := Aside0.mk (Below.refl w.heap.size w)
  have hl2 := C_len hr2
  have HLt : ∀ W, Below w.heap.size w W → Calls Try.prog 15 #[.agg #[.int .i64 n, .slice A1 ls.length c1, .slice A2 es.length c2]] W fun e w' => e = .returned (.bool (light33 n ls es)) ∧ Below W.heap.size W w' := fun W hW => light33_any n ls es A1 A2 c1 c2 W (Kd.C_below hr1 hW) hl2
  have HSh : ∀ W, Below w.heap.size w W → Calls Try.prog 34 #[.slice A3 ws.length c3] W fun e w' => e = .returned (.bool (shortB ws)) ∧ W = w' := fun W hW => short_any ws A3 c3 W (Kd.C_below hr3 hW)
  have HOf : ∀ W, Below w.heap.size w W → Calls Try.prog 39 #[.agg #[.int .i64 n, .slice A1 ls.length c1, .slice A2 es.length c2], .int .i64 s, .int .i64 t, .int .i64 4000] W (OfPost W (ofR n ls es s t 4000)) := fun W hW => of_any n ls es s t 4000 A1 A2 c1 c2 W (Kd.C_below hr1 hW) (Kd.C_below hr2 hW)
  have HLt' := Lib.hid HLt
  have HSh' := Lib.hid HSh
  have HR1 := Aside0.mk hr1
  have HR2 := Aside0.mk hr2
  have HR3 := Aside0.mk hr3
  have hbox : Below (w.alloc (Obj.cells #[Value.int IntKind.i64 n, Value.slice A1 ls.length c1, Value.slice A2 es.length c2] 25)).heap.size (w.alloc (Obj.cells #[Value.int IntKind.i64 n, Value.slice A1 ls.length c1, Value.slice A2 es.length c2] 25)) ((w.alloc (Obj.cells #[Value.int IntKind.i64 n, Value.slice A1 ls.length c1, Value.slice A2 es.length c2] 25)).alloc (Obj.cells #[Value.int IntKind.i64 s, Value.int IntKind.i64 t] 31)) := below_alloc (Below.refl _ _) _
  have HX0 := Aside0.mk (show BoxL ((w.alloc (Obj.cells #[Value.int IntKind.i64 n, Value.slice A1 ls.length c1, Value.slice A2 es.length c2] 25)).alloc (Obj.cells #[Value.int IntKind.i64 s, Value.int IntKind.i64 t] 31)) w.heap.size n (.slice A1 ls.length c1) (.slice A2 es.length c2) from blk_below (blk_new w _) hbox)
  have HP0 := Aside0.mk (show ((w.alloc (Obj.cells #[Value.int IntKind.i64 n, Value.slice A1 ls.length c1, Value.slice A2 es.length c2] 25)).alloc (Obj.cells #[Value.int IntKind.i64 s, Value.int IntKind.i64 t] 31)).heap[w.heap.size + 1]? = some (.cells #[.int .i64 s, .int .i64 t] 31 (0, 0)) by have := blk_new (w.alloc (Obj.cells #[Value.int IntKind.i64 n, Value.slice A1 ls.length c1, Value.slice A2 es.length c2] 25)) (Obj.cells #[Value.int IntKind.i64 s, Value.int IntKind.i64 t] 31); simpa using this)
  have HB0 := Aside0.mk (below_alloc (below_alloc HB.out (Obj.cells #[Value.int IntKind.i64 n, Value.slice A1 ls.length c1, Value.slice A2 es.length c2] 25)) (Obj.cells #[Value.int IntKind.i64 s, Value.int IntKind.i64 t] 31))
  clear HLt HSh hr1 hr2 hr3 hwf1 hwf2 hbox
  have b0 := HX0.out.c0
  have b1 := HX0.out.c1
  have b2 := HX0.out.c2
  go_enter Try.func8, Try.ntmps8
  go_wp2_with fail
  clear b0 b1 b2
  refine (HLt'.out _ HB0.out).mono ?_
  rintro e w2 ⟨rfl, hB⟩
  have HX2 := Aside0.mk (HX0.out.below hB)
  have HP2 := Aside0.mk (blk_below HP0.out hB)
  have HB2 := Aside0.mk (below_then HB0.out HB0.out.size hB)
  clear hB HX0 HP0 HB0 HLt'
  cases q : light33 n ls es with
  | false =>
    clear q
    go_wp2_with fail
    refine (awake40 _).mono ?_
    rintro e w3 ⟨rfl, hB⟩
    have HB3 := Aside0.mk (below_then HB2.out HB2.out.size hB)
    clear hB
    go_wp2
    go_ret
    exact ⟨rfl, HB3.out⟩
  | true =>
    clear q
    go_wp2_with fail
    refine (HSh'.out _ HB2.out).mono ?_
    rintro e w2' ⟨rfl, rfl⟩
    cases q2 : shortB ws with
    | false =>
      clear q2
      go_wp2_with fail
      refine (awake40 _).mono ?_
      rintro e w3 ⟨rfl, hB⟩
      have HB3 := Aside0.mk (below_then HB2.out HB2.out.size hB)
      clear hB
      go_wp2
      go_ret
      exact ⟨rfl, HB3.out⟩
    | true =>
      clear q2 HSh'
      go_wp2_with fail
      refine start_ (n := 6) (S := fun w' => w'.cell? ⟨w.heap.size + 1, 0, none⟩ = some (.int .i64 s) ∧ w'.cell? ⟨w.heap.size + 1, 1, none⟩ = some (.int .i64 t)) (ds := []) #[false, false, false, false, false, false] (by kernel_rfl) rfl rfl ⟨(blk_cell HP2.out 0).trans rfl, (blk_cell HP2.out 1).trans rfl⟩ (fun hHeld => ?_)
      refine pure_ (i := 0) (N := some 23) (v := ?_) (a' := ?_) #[true, false, false, false, false, false] rfl rfl (by kernel_rfl) (fun _ _ _ h => h) (Or.inl ⟨by rfl, ?_⟩) ?_ ?_
      rotate_left
      · intro w'
        go_simp
        with_reducible rfl
      rotate_left
      · simp only [Act.put, List.setIfInBounds_toArray, List.set_cons_zero, List.set_cons_succ, i64_w, i32_w]
        rfl
      refine pure_ (i := 2) (N := some 25) (v := ?_) (a' := ?_) #[true, false, true, false, false, false] rfl rfl (by kernel_rfl) (fun _ _ _ h => h) (Or.inl ⟨by rfl, ?_⟩) ?_ ?_
      rotate_left
      · intro w'
        go_simp
        with_reducible rfl
      rotate_left
      · simp only [Act.put, List.setIfInBounds_toArray, List.set_cons_zero, List.set_cons_succ, i64_w, i32_w]
        rfl
      refine take_ (i := 1) (N := some 24) (v := ?_) (a' := ?_) #[true, true, true, false, false, false] rfl rfl (by kernel_rfl) (fun _ _ _ h => h) (Or.inl ⟨by rfl, ?_⟩) hHeld ?_ ?_
      rotate_left
      · rintro w' ⟨s0, s1⟩
        go_simp
        with_reducible rfl
      rotate_left
      · simp only [Act.put, List.setIfInBounds_toArray, List.set_cons_zero, List.set_cons_succ, i64_w, i32_w]
        rfl
      refine pure_ (i := 4) (N := some 7) (v := ?_) (a' := ?_) #[true, true, true, false, true, false] rfl rfl (by kernel_rfl) (fun _ _ _ h => h) (Or.inl ⟨by rfl, ?_⟩) ?_ ?_
      rotate_left
      · intro w'
        go_simp
        with_reducible rfl
      rotate_left
      · simp only [Act.put, List.setIfInBounds_toArray, List.set_cons_zero, List.set_cons_succ, i64_w, i32_w]
        rfl
      refine take_ (i := 3) (N := some 26) (v := ?_) (a' := ?_) #[true, true, true, true, true, false] rfl rfl (by kernel_rfl) (fun _ _ _ h => h) (Or.inl ⟨by rfl, ?_⟩) hHeld ?_ ?_
      rotate_left
      · rintro w' ⟨s0, s1⟩
        go_simp
        with_reducible rfl
      rotate_left
      · simp only [Act.put, List.setIfInBounds_toArray, List.set_cons_zero, List.set_cons_succ, i64_w, i32_w]
        rfl
      refine pure_ (i := 5) (N := some 8) (v := ?_) (a' := ?_) #[true, true, true, true, true, true] rfl rfl (by kernel_rfl) (fun _ _ _ h => h) (Or.inl ⟨by rfl, ?_⟩) ?_ ?_
      rotate_left
      · intro w'
        go_simp
        with_reducible rfl
      rotate_left
      · simp only [Act.put, List.setIfInBounds_toArray, List.set_cons_zero, List.set_cons_succ, i64_w, i32_w]
        rfl
      refine done_ (by kernel_rfl) ?_
      have hd := below_drew1 (Below.refl w2.heap.size w2)
      have HX3 := Aside0.mk (HX2.out.below hd)
      have HB3 := Aside0.mk (below_then HB2.out HB2.out.size hd)
      clear hd HX2 HP2 HB2 hHeld
      generalize w2.drew = W3 at HX3 HB3 ⊢
      have b0 := HX3.out.c0
      have b1 := HX3.out.c1
      have b2 := HX3.out.c2
      go_wp2_with fail
      clear b0 b1 b2
      by_cases hmain : mayR n ls es = true ∧ (0 ≤ s ∧ s < n) ∧ (0 ≤ t ∧ t < n) ∧ (1 : Int) ≤ 4000 ∧ (4000 : Int) ≤ 65536
      · skip
        obtain ⟨hm, ⟨hs1, hs2⟩, ⟨ht1, ht2⟩, _, _⟩ := hmain
        obtain ⟨N, rfl⟩ := Int.eq_ofNat_of_zero_le (show 0 ≤ n by omega)
        obtain ⟨S, rfl⟩ := Int.eq_ofNat_of_zero_le hs1
        obtain ⟨U, rfl⟩ := Int.eq_ofNat_of_zero_le ht1
        have hs : S < N := Int.ofNat_lt.1 hs2
        have ht : U < N := Int.ofNat_lt.1 ht2
        have ho : ofR (N : Int) ls es (S : Int) (U : Int) 4000 = (ofF N ls es S U ((4000 : Nat) : Int), 0) := by
          unfold ofR
          rw [if_pos ⟨hm, ⟨hs1, hs2⟩, ⟨ht1, ht2⟩, by omega, by omega⟩]
          simp only [Int.toNat_natCast]
          rfl
        rw [ho] at HOf
        have htold := of_told hm S U 4000 (by omega)
        obtain ⟨T, hT⟩ : ∃ T, T = ofF N ls es S U ((4000 : Nat) : Int) := ⟨_, rfl⟩
        rw [← hT] at HOf htold
        obtain ⟨h1, hh1⟩ : ∃ h1, h1 = hasW (N : Int) ls es (S : Int) ws := ⟨_, rfl⟩
        obtain ⟨h2, hh2⟩ : ∃ h2, h2 = hasW (N : Int) ls es (U : Int) ws := ⟨_, rfl⟩
        have HH1 : ∀ W, Below w.heap.size w W → Calls Try.prog 37 #[.agg #[.int .i64 (N : Int), .slice A1 ls.length c1, .slice A2 es.length c2], .int .i64 (S : Int), .slice A3 ws.length c3] W fun e w' => e = .returned (.bool h1) ∧ Below W.heap.size W w' := fun W hW => thas_any (N : Int) ls es (S : Int) ws h1 hh1.symm A1 A2 A3 c1 c2 c3 W (Kd.C_below HR1.out hW) (Kd.C_below HR2.out hW) (Kd.C_below HR3.out hW)
        have HH2 : ∀ W, Below w.heap.size w W → Calls Try.prog 37 #[.agg #[.int .i64 (N : Int), .slice A1 ls.length c1, .slice A2 es.length c2], .int .i64 (U : Int), .slice A3 ws.length c3] W fun e w' => e = .returned (.bool h2) ∧ Below W.heap.size W w' := fun W hW => thas_any (N : Int) ls es (U : Int) ws h2 hh2.symm A1 A2 A3 c1 c2 c3 W (Kd.C_below HR1.out hW) (Kd.C_below HR2.out hW) (Kd.C_below HR3.out hW)
        have HH1 := Lib.hid HH1
        have HH2 := Lib.hid HH2
        have i1 := hasW_iff hm S hs ws
        have i2 := hasW_iff hm U ht ws
        rw [← hh1] at i1
        rw [← hh2] at i2
        have hone1 : (h1 != h2) = true → OneW N ls es S U ws := by
          intro h
          unfold OneW
          cases h1 <;> cases h2 <;> simp_all
        have heq3 : (¬ OneW N ls es S U ws) → h1 = h2 := by
          intro h
          cases hx : (h1 != h2) with
          | true => exact absurd (hone1 hx) h
          | false => simpa using hx
        clear ho hT hs1 hs2 ht1 ht2 hh1 hh2 i1 i2
        rcases htold with rfl | ⟨rfl, hno⟩ | ⟨hk, hone⟩
        · have HOf := Lib.hid HOf
          clear hone1 heq3 hm hs ht HH1 HH2
          refine (HOf.out _ HB3.out).mono ?_
          rintro e w4 ⟨vw, rfl, hR, hB⟩
          obtain ⟨Aw, cw, rfl⟩ := Kd.R_slice hR
          have HB4 := Aside0.mk (below_then HB3.out HB3.out.size hB)
          have HB5 := Aside0.mk (below_alloc HB4.out (Obj.cells #[Value.int IntKind.i64 4, Value.slice Aw 0 cw] 54))
          have hw5 := word_new w4 w4.heap.size (.int .i64 4) (.slice Aw 0 cw) rfl
          have b3 := hw5.c0
          clear hR hB hw5 HB3 HX3 HB4
          go_wp2_with fail
          clear b3
          refine (awake40 _).mono ?_
          rintro e w3 ⟨rfl, hB⟩
          have HB6 := Aside0.mk (below_then HB5.out HB5.out.size hB)
          clear hB
          go_wp2
          go_ret
          exact ⟨rfl, HB6.out⟩
        · have heq := heq3 (hno ws)
          have HOf := Lib.hid HOf
          clear hone1 heq3 hno hm hs ht
          refine (HOf.out _ HB3.out).mono ?_
          rintro e w4 ⟨vw, rfl, hR, hB⟩
          obtain ⟨Aw, cw, rfl, _, hC⟩ := Kd.R_reads hR
          have HX4 := Aside0.mk (HX3.out.below hB)
          have HB4 := Aside0.mk (below_then HB3.out HB3.out.size hB)
          have hbn := below_alloc (Below.refl w4.heap.size w4) (Obj.cells #[Value.int IntKind.i64 3, Value.slice Aw 0 cw] 54)
          have HX5 := Aside0.mk (HX4.out.below hbn)
          have HB5 := Aside0.mk (below_then HB4.out HB4.out.size hbn)
          have HC5 := Aside0.mk (Kd.C_below hC hbn)
          have HW5 := Aside0.mk (word_new w4 w4.heap.size (.int .i64 3) (.slice Aw 0 cw) rfl)
          have b3 := HW5.out.c0
          clear hR hC hB hbn HX3 HB3 HX4 HB4
          go_wp2_with fail
          generalize (w4.alloc (Obj.cells #[Value.int IntKind.i64 3, Value.slice Aw 0 cw] 54)) = W5 at HX5 HB5 HC5 HW5 b3 ⊢
          have HEq := Aside0.mk (show h1 = h2 from heq)
          clear heq
          cases h1 <;> cases h2
          · skip
            clear HEq
            clear b3
            refine start_ (n := 10) (S := fun w' => w'.cell? ⟨w.heap.size, 0, none⟩ = some (.int .i64 (N : Int)) ∧ w'.cell? ⟨w.heap.size, 1, none⟩ = some (.slice A1 ls.length c1) ∧ w'.cell? ⟨w.heap.size, 2, none⟩ = some (.slice A2 es.length c2)) (ds := []) #[false, false, false, false, false, false, false, false, false, false] (by kernel_rfl) rfl rfl ⟨HX5.out.c0, HX5.out.c1, HX5.out.c2⟩ (fun hHeld => ?_)
            have HV := Aside0.mk (below_drew1 (Below.refl W5.heap.size W5))
            generalize W5.drew = V at HV hHeld ⊢
            have HVw := Aside0.mk (below_then HB5.out HB5.out.size HV.out)
            refine pure_ (i := 1) (N := some 43) (v := ?_) (a' := ?_) #[false, true, false, false, false, false, false, false, false, false] rfl rfl (by kernel_rfl) (fun _ _ _ h => h) (Or.inl ⟨by rfl, ?_⟩) ?_ ?_
            rotate_left
            · intro w'
              go_simp
              with_reducible rfl
            rotate_left
            · simp only [Act.put, List.setIfInBounds_toArray, List.set_cons_zero, List.set_cons_succ, i64_w, i32_w]
              rfl
            refine pure_ (i := 2) (N := some 44) (v := ?_) (a' := ?_) #[false, true, true, false, false, false, false, false, false, false] rfl rfl (by kernel_rfl) (fun _ _ _ h => h) (Or.inl ⟨by rfl, ?_⟩) ?_ ?_
            rotate_left
            · intro w'
              go_simp
              with_reducible rfl
            rotate_left
            · simp only [Act.put, List.setIfInBounds_toArray, List.set_cons_zero, List.set_cons_succ, i64_w, i32_w]
              rfl
            refine pure_ (i := 5) (N := some 47) (v := ?_) (a' := ?_) #[false, true, true, false, false, true, false, false, false, false] rfl rfl (by kernel_rfl) (fun _ _ _ h => h) (Or.inl ⟨by rfl, ?_⟩) ?_ ?_
            rotate_left
            · intro w'
              go_simp
              with_reducible rfl
            rotate_left
            · simp only [Act.put, List.setIfInBounds_toArray, List.set_cons_zero, List.set_cons_succ, i64_w, i32_w]
              rfl
            refine pure_ (i := 6) (N := some 48) (v := ?_) (a' := ?_) #[false, true, true, false, false, true, true, false, false, false] rfl rfl (by kernel_rfl) (fun _ _ _ h => h) (Or.inl ⟨by rfl, ?_⟩) ?_ ?_
            rotate_left
            · intro w'
              go_simp
              with_reducible rfl
            rotate_left
            · simp only [Act.put, List.setIfInBounds_toArray, List.set_cons_zero, List.set_cons_succ, i64_w, i32_w]
              rfl
            refine take_ (i := 0) (N := some 42) (v := ?_) (a' := ?_) #[true, true, true, false, false, true, true, false, false, false] rfl rfl (by kernel_rfl) (fun _ _ _ h => h) (Or.inl ⟨by rfl, ?_⟩) hHeld ?_ ?_
            rotate_left
            · rintro w' ⟨s0, s1, s2⟩
              go_simp
              with_reducible rfl
            rotate_left
            · simp only [Act.put, List.setIfInBounds_toArray, List.set_cons_zero, List.set_cons_succ, i64_w, i32_w]
              rfl
            refine take_ (i := 4) (N := some 46) (v := ?_) (a' := ?_) #[true, true, true, false, true, true, true, false, false, false] rfl rfl (by kernel_rfl) (fun _ _ _ h => h) (Or.inl ⟨by rfl, ?_⟩) hHeld ?_ ?_
            rotate_left
            · rintro w' ⟨s0, s1, s2⟩
              go_simp
              with_reducible rfl
            rotate_left
            · simp only [Act.put, List.setIfInBounds_toArray, List.set_cons_zero, List.set_cons_succ, i64_w, i32_w]
              rfl
            refine one_ (i := 3) (N := some 45) #[true, true, true, true, true, true, true, false, false, false] rfl rfl (by kernel_rfl) (by decide) (fun K hK => ?_)
            refine goes_ Try.func37 (by kernel_rfl) rfl #[.agg #[.int .i64 (N : Int), .slice A1 ls.length c1, .slice A2 es.length c2], .int .i64 (S : Int), .slice A3 ws.length c3] (by rfl) rfl rfl (by simp only [List.map_toArray, List.map_cons, List.map_nil]; rfl) ?_
            refine (HH1.out _ HVw.out).mono ?_
            rintro e w6 ⟨rfl, hB⟩
            refine ⟨_, rfl, ?_⟩
            have HL6 := Aside0.mk hB
            have HV6 := Aside0.mk (below_then HV.out HV.out.size hB)
            have HVw6 := Aside0.mk (below_then HVw.out HVw.out.size hB)
            clear hB
            refine hK.out _ _ ⟨later HL6.out hHeld.1, later HL6.out hHeld.2.1, later HL6.out hHeld.2.2⟩ (fun hHeld => ?_)
            clear hK K
            refine norm_ (a' := ?_) ?_ ?_
            rotate_left
            · show Act.put _ (some 45) _ = _
              simp only [Act.put, List.setIfInBounds_toArray, List.set_cons_zero, List.set_cons_succ, i64_w, i32_w]
              rfl
            refine one_ (i := 7) (N := some 49) #[true, true, true, true, true, true, true, true, false, false] rfl rfl (by kernel_rfl) (by decide) (fun K hK => ?_)
            refine goes_ Try.func37 (by kernel_rfl) rfl #[.agg #[.int .i64 (N : Int), .slice A1 ls.length c1, .slice A2 es.length c2], .int .i64 (U : Int), .slice A3 ws.length c3] (by rfl) rfl rfl (by simp only [List.map_toArray, List.map_cons, List.map_nil]; rfl) ?_
            refine (HH2.out _ HVw6.out).mono ?_
            rintro e w7 ⟨rfl, hB⟩
            refine ⟨_, rfl, ?_⟩
            have HL7 := Aside0.mk hB
            have HV7 := Aside0.mk (below_then HV6.out HV6.out.size hB)
            clear hB
            refine hK.out _ _ ⟨later HL7.out hHeld.1, later HL7.out hHeld.2.1, later HL7.out hHeld.2.2⟩ (fun hHeld => ?_)
            clear hK K
            refine norm_ (a' := ?_) ?_ ?_
            rotate_left
            · show Act.put _ (some 49) _ = _
              simp only [Act.put, List.setIfInBounds_toArray, List.set_cons_zero, List.set_cons_succ, i64_w, i32_w]
              rfl
            refine pure_ (i := 8) (N := some 50) (v := ?_) (a' := ?_) #[true, true, true, true, true, true, true, true, true, false] rfl rfl (by kernel_rfl) (fun _ _ _ h => h) (Or.inl ⟨by rfl, ?_⟩) ?_ ?_
            rotate_left
            · intro w'
              go_simp
              with_reducible rfl
            rotate_left
            · simp only [Act.put, List.setIfInBounds_toArray, List.set_cons_zero, List.set_cons_succ, i64_w, i32_w]
              rfl
            refine pure_ (i := 9) (N := some 11) (v := ?_) (a' := ?_) #[true, true, true, true, true, true, true, true, true, true] rfl rfl (by kernel_rfl) (fun _ _ _ h => h) (Or.inl ⟨by rfl, ?_⟩) ?_ ?_
            rotate_left
            · intro w'
              go_simp
              with_reducible rfl
            rotate_left
            · simp only [Act.put, List.setIfInBounds_toArray, List.set_cons_zero, List.set_cons_succ, i64_w, i32_w]
              rfl
            refine done_ (by kernel_rfl) ?_
            have HX8 := Aside0.mk (HX5.out.below HV7.out)
            have HB8 := Aside0.mk (below_then HB5.out HB5.out.size HV7.out)
            have HC8 := Aside0.mk (Kd.C_below HC5.out HV7.out)
            have HW8 := Aside0.mk (HW5.out.below HV7.out)
            have b3 := HW8.out.c0
            clear HX5 HB5 HC5 HW5 HV HVw HV6 HVw6 HV7 HL6 HL7
            go_wp2_with fail
            clear b3
            refine (awake40 _).mono ?_
            rintro e w3 ⟨rfl, hB⟩
            have HB3 := Aside0.mk (below_then HB8.out HB8.out.size hB)
            clear hB
            go_wp2
            go_ret
            exact ⟨rfl, HB3.out⟩
          · skip
            exact absurd HEq.out (by decide)
          · skip
            exact absurd HEq.out (by decide)
          · skip
            clear HEq
            clear b3
            refine start_ (n := 10) (S := fun w' => w'.cell? ⟨w.heap.size, 0, none⟩ = some (.int .i64 (N : Int)) ∧ w'.cell? ⟨w.heap.size, 1, none⟩ = some (.slice A1 ls.length c1) ∧ w'.cell? ⟨w.heap.size, 2, none⟩ = some (.slice A2 es.length c2)) (ds := []) #[false, false, false, false, false, false, false, false, false, false] (by kernel_rfl) rfl rfl ⟨HX5.out.c0, HX5.out.c1, HX5.out.c2⟩ (fun hHeld => ?_)
            have HV := Aside0.mk (below_drew1 (Below.refl W5.heap.size W5))
            generalize W5.drew = V at HV hHeld ⊢
            have HVw := Aside0.mk (below_then HB5.out HB5.out.size HV.out)
            refine pure_ (i := 1) (N := some 43) (v := ?_) (a' := ?_) #[false, true, false, false, false, false, false, false, false, false] rfl rfl (by kernel_rfl) (fun _ _ _ h => h) (Or.inl ⟨by rfl, ?_⟩) ?_ ?_
            rotate_left
            · intro w'
              go_simp
              with_reducible rfl
            rotate_left
            · simp only [Act.put, List.setIfInBounds_toArray, List.set_cons_zero, List.set_cons_succ, i64_w, i32_w]
              rfl
            refine pure_ (i := 2) (N := some 44) (v := ?_) (a' := ?_) #[false, true, true, false, false, false, false, false, false, false] rfl rfl (by kernel_rfl) (fun _ _ _ h => h) (Or.inl ⟨by rfl, ?_⟩) ?_ ?_
            rotate_left
            · intro w'
              go_simp
              with_reducible rfl
            rotate_left
            · simp only [Act.put, List.setIfInBounds_toArray, List.set_cons_zero, List.set_cons_succ, i64_w, i32_w]
              rfl
            refine pure_ (i := 5) (N := some 47) (v := ?_) (a' := ?_) #[false, true, true, false, false, true, false, false, false, false] rfl rfl (by kernel_rfl) (fun _ _ _ h => h) (Or.inl ⟨by rfl, ?_⟩) ?_ ?_
            rotate_left
            · intro w'
              go_simp
              with_reducible rfl
            rotate_left
            · simp only [Act.put, List.setIfInBounds_toArray, List.set_cons_zero, List.set_cons_succ, i64_w, i32_w]
              rfl
            refine pure_ (i := 6) (N := some 48) (v := ?_) (a' := ?_) #[false, true, true, false, false, true, true, false, false, false] rfl rfl (by kernel_rfl) (fun _ _ _ h => h) (Or.inl ⟨by rfl, ?_⟩) ?_ ?_
            rotate_left
            · intro w'
              go_simp
              with_reducible rfl
            rotate_left
            · simp only [Act.put, List.setIfInBounds_toArray, List.set_cons_zero, List.set_cons_succ, i64_w, i32_w]
              rfl
            refine take_ (i := 0) (N := some 42) (v := ?_) (a' := ?_) #[true, true, true, false, false, true, true, false, false, false] rfl rfl (by kernel_rfl) (fun _ _ _ h => h) (Or.inl ⟨by rfl, ?_⟩) hHeld ?_ ?_
            rotate_left
            · rintro w' ⟨s0, s1, s2⟩
              go_simp
              with_reducible rfl
            rotate_left
            · simp only [Act.put, List.setIfInBounds_toArray, List.set_cons_zero, List.set_cons_succ, i64_w, i32_w]
              rfl
            refine take_ (i := 4) (N := some 46) (v := ?_) (a' := ?_) #[true, true, true, false, true, true, true, false, false, false] rfl rfl (by kernel_rfl) (fun _ _ _ h => h) (Or.inl ⟨by rfl, ?_⟩) hHeld ?_ ?_
            rotate_left
            · rintro w' ⟨s0, s1, s2⟩
              go_simp
              with_reducible rfl
            rotate_left
            · simp only [Act.put, List.setIfInBounds_toArray, List.set_cons_zero, List.set_cons_succ, i64_w, i32_w]
              rfl
            refine one_ (i := 3) (N := some 45) #[true, true, true, true, true, true, true, false, false, false] rfl rfl (by kernel_rfl) (by decide) (fun K hK => ?_)
            refine goes_ Try.func37 (by kernel_rfl) rfl #[.agg #[.int .i64 (N : Int), .slice A1 ls.length c1, .slice A2 es.length c2], .int .i64 (S : Int), .slice A3 ws.length c3] (by rfl) rfl rfl (by simp only [List.map_toArray, List.map_cons, List.map_nil]; rfl) ?_
            refine (HH1.out _ HVw.out).mono ?_
            rintro e w6 ⟨rfl, hB⟩
            refine ⟨_, rfl, ?_⟩
            have HL6 := Aside0.mk hB
            have HV6 := Aside0.mk (below_then HV.out HV.out.size hB)
            have HVw6 := Aside0.mk (below_then HVw.out HVw.out.size hB)
            clear hB
            refine hK.out _ _ ⟨later HL6.out hHeld.1, later HL6.out hHeld.2.1, later HL6.out hHeld.2.2⟩ (fun hHeld => ?_)
            clear hK K
            refine norm_ (a' := ?_) ?_ ?_
            rotate_left
            · show Act.put _ (some 45) _ = _
              simp only [Act.put, List.setIfInBounds_toArray, List.set_cons_zero, List.set_cons_succ, i64_w, i32_w]
              rfl
            refine one_ (i := 7) (N := some 49) #[true, true, true, true, true, true, true, true, false, false] rfl rfl (by kernel_rfl) (by decide) (fun K hK => ?_)
            refine goes_ Try.func37 (by kernel_rfl) rfl #[.agg #[.int .i64 (N : Int), .slice A1 ls.length c1, .slice A2 es.length c2], .int .i64 (U : Int), .slice A3 ws.length c3] (by rfl) rfl rfl (by simp only [List.map_toArray, List.map_cons, List.map_nil]; rfl) ?_
            refine (HH2.out _ HVw6.out).mono ?_
            rintro e w7 ⟨rfl, hB⟩
            refine ⟨_, rfl, ?_⟩
            have HL7 := Aside0.mk hB
            have HV7 := Aside0.mk (below_then HV6.out HV6.out.size hB)
            clear hB
            refine hK.out _ _ ⟨later HL7.out hHeld.1, later HL7.out hHeld.2.1, later HL7.out hHeld.2.2⟩ (fun hHeld => ?_)
            clear hK K
            refine norm_ (a' := ?_) ?_ ?_
            rotate_left
            · show Act.put _ (some 49) _ = _
              simp only [Act.put, List.setIfInBounds_toArray, List.set_cons_zero, List.set_cons_succ, i64_w, i32_w]
              rfl
            refine pure_ (i := 8) (N := some 50) (v := ?_) (a' := ?_) #[true, true, true, true, true, true, true, true, true, false] rfl rfl (by kernel_rfl) (fun _ _ _ h => h) (Or.inl ⟨by rfl, ?_⟩) ?_ ?_
            rotate_left
            · intro w'
              go_simp
              with_reducible rfl
            rotate_left
            · simp only [Act.put, List.setIfInBounds_toArray, List.set_cons_zero, List.set_cons_succ, i64_w, i32_w]
              rfl
            refine pure_ (i := 9) (N := some 11) (v := ?_) (a' := ?_) #[true, true, true, true, true, true, true, true, true, true] rfl rfl (by kernel_rfl) (fun _ _ _ h => h) (Or.inl ⟨by rfl, ?_⟩) ?_ ?_
            rotate_left
            · intro w'
              go_simp
              with_reducible rfl
            rotate_left
            · simp only [Act.put, List.setIfInBounds_toArray, List.set_cons_zero, List.set_cons_succ, i64_w, i32_w]
              rfl
            refine done_ (by kernel_rfl) ?_
            have HX8 := Aside0.mk (HX5.out.below HV7.out)
            have HB8 := Aside0.mk (below_then HB5.out HB5.out.size HV7.out)
            have HC8 := Aside0.mk (Kd.C_below HC5.out HV7.out)
            have HW8 := Aside0.mk (HW5.out.below HV7.out)
            have b3 := HW8.out.c0
            clear HX5 HB5 HC5 HW5 HV HVw HV6 HVw6 HV7 HL6 HL7
            go_wp2_with fail
            clear b3
            refine (awake40 _).mono ?_
            rintro e w3 ⟨rfl, hB⟩
            have HB3 := Aside0.mk (below_then HB8.out HB8.out.size hB)
            clear hB
            go_wp2
            go_ret
            exact ⟨rfl, HB3.out⟩
        · clear heq3
          obtain ⟨kd, L⟩ := T
          simp only at hk hone HOf
          rcases hk with ⟨rfl, hX, hY⟩ | ⟨rfl, hX, hY⟩
          · have HOf := Lib.hid HOf
            have HV1 := Aside0.mk (show hasW (N : Int) ls es (S : Int) L = true from (hasW_iff hm S hs L).2 hX)
            have HV2 := Aside0.mk (show hasW (N : Int) ls es (U : Int) L = false by cases h : hasW (N : Int) ls es (U : Int) L with | false => rfl | true => exact absurd hY ((hasW_iff hm U ht L).1 h))
            have HOw := Aside0.mk (show (h1 != h2) = true → slt (keyW ls ws) (keyW ls L) = false from fun h => sle_not (hone ws (hone1 h)))
            clear hX hY hone hone1 hm hs ht
            refine (HOf.out _ HB3.out).mono ?_
            rintro e w4 ⟨vw, rfl, hR, hB⟩
            obtain ⟨Aw, cw, rfl, _, hC⟩ := Kd.R_reads hR
            have HX4 := Aside0.mk (HX3.out.below hB)
            have HB4 := Aside0.mk (below_then HB3.out HB3.out.size hB)
            have hbn := below_alloc (Below.refl w4.heap.size w4) (Obj.cells #[Value.int IntKind.i64 1, Value.slice Aw L.length cw] 54)
            have HX5 := Aside0.mk (HX4.out.below hbn)
            have HB5 := Aside0.mk (below_then HB4.out HB4.out.size hbn)
            have HC5 := Aside0.mk (Kd.C_below hC hbn)
            have HW5 := Aside0.mk (word_new w4 w4.heap.size (.int .i64 1) (.slice Aw L.length cw) rfl)
            have b3 := HW5.out.c0
            clear hR hC hB hbn HX3 HB3 HX4 HB4
            go_wp2_with fail
            generalize (w4.alloc (Obj.cells #[Value.int IntKind.i64 1, Value.slice Aw L.length cw] 54)) = W5 at HX5 HB5 HC5 HW5 b3 ⊢
            cases h1 <;> cases h2
            · skip
              clear HOw
              clear b3
              refine start_ (n := 10) (S := fun w' => w'.cell? ⟨w.heap.size, 0, none⟩ = some (.int .i64 (N : Int)) ∧ w'.cell? ⟨w.heap.size, 1, none⟩ = some (.slice A1 ls.length c1) ∧ w'.cell? ⟨w.heap.size, 2, none⟩ = some (.slice A2 es.length c2)) (ds := []) #[false, false, false, false, false, false, false, false, false, false] (by kernel_rfl) rfl rfl ⟨HX5.out.c0, HX5.out.c1, HX5.out.c2⟩ (fun hHeld => ?_)
              have HV := Aside0.mk (below_drew1 (Below.refl W5.heap.size W5))
              generalize W5.drew = V at HV hHeld ⊢
              have HVw := Aside0.mk (below_then HB5.out HB5.out.size HV.out)
              refine pure_ (i := 1) (N := some 43) (v := ?_) (a' := ?_) #[false, true, false, false, false, false, false, false, false, false] rfl rfl (by kernel_rfl) (fun _ _ _ h => h) (Or.inl ⟨by rfl, ?_⟩) ?_ ?_
              rotate_left
              · intro w'
                go_simp
                with_reducible rfl
              rotate_left
              · simp only [Act.put, List.setIfInBounds_toArray, List.set_cons_zero, List.set_cons_succ, i64_w, i32_w]
                rfl
              refine pure_ (i := 2) (N := some 44) (v := ?_) (a' := ?_) #[false, true, true, false, false, false, false, false, false, false] rfl rfl (by kernel_rfl) (fun _ _ _ h => h) (Or.inl ⟨by rfl, ?_⟩) ?_ ?_
              rotate_left
              · intro w'
                go_simp
                with_reducible rfl
              rotate_left
              · simp only [Act.put, List.setIfInBounds_toArray, List.set_cons_zero, List.set_cons_succ, i64_w, i32_w]
                rfl
              refine pure_ (i := 5) (N := some 47) (v := ?_) (a' := ?_) #[false, true, true, false, false, true, false, false, false, false] rfl rfl (by kernel_rfl) (fun _ _ _ h => h) (Or.inl ⟨by rfl, ?_⟩) ?_ ?_
              rotate_left
              · intro w'
                go_simp
                with_reducible rfl
              rotate_left
              · simp only [Act.put, List.setIfInBounds_toArray, List.set_cons_zero, List.set_cons_succ, i64_w, i32_w]
                rfl
              refine pure_ (i := 6) (N := some 48) (v := ?_) (a' := ?_) #[false, true, true, false, false, true, true, false, false, false] rfl rfl (by kernel_rfl) (fun _ _ _ h => h) (Or.inl ⟨by rfl, ?_⟩) ?_ ?_
              rotate_left
              · intro w'
                go_simp
                with_reducible rfl
              rotate_left
              · simp only [Act.put, List.setIfInBounds_toArray, List.set_cons_zero, List.set_cons_succ, i64_w, i32_w]
                rfl
              refine take_ (i := 0) (N := some 42) (v := ?_) (a' := ?_) #[true, true, true, false, false, true, true, false, false, false] rfl rfl (by kernel_rfl) (fun _ _ _ h => h) (Or.inl ⟨by rfl, ?_⟩) hHeld ?_ ?_
              rotate_left
              · rintro w' ⟨s0, s1, s2⟩
                go_simp
                with_reducible rfl
              rotate_left
              · simp only [Act.put, List.setIfInBounds_toArray, List.set_cons_zero, List.set_cons_succ, i64_w, i32_w]
                rfl
              refine take_ (i := 4) (N := some 46) (v := ?_) (a' := ?_) #[true, true, true, false, true, true, true, false, false, false] rfl rfl (by kernel_rfl) (fun _ _ _ h => h) (Or.inl ⟨by rfl, ?_⟩) hHeld ?_ ?_
              rotate_left
              · rintro w' ⟨s0, s1, s2⟩
                go_simp
                with_reducible rfl
              rotate_left
              · simp only [Act.put, List.setIfInBounds_toArray, List.set_cons_zero, List.set_cons_succ, i64_w, i32_w]
                rfl
              refine one_ (i := 3) (N := some 45) #[true, true, true, true, true, true, true, false, false, false] rfl rfl (by kernel_rfl) (by decide) (fun K hK => ?_)
              refine goes_ Try.func37 (by kernel_rfl) rfl #[.agg #[.int .i64 (N : Int), .slice A1 ls.length c1, .slice A2 es.length c2], .int .i64 (S : Int), .slice A3 ws.length c3] (by rfl) rfl rfl (by simp only [List.map_toArray, List.map_cons, List.map_nil]; rfl) ?_
              refine (HH1.out _ HVw.out).mono ?_
              rintro e w6 ⟨rfl, hB⟩
              refine ⟨_, rfl, ?_⟩
              have HL6 := Aside0.mk hB
              have HV6 := Aside0.mk (below_then HV.out HV.out.size hB)
              have HVw6 := Aside0.mk (below_then HVw.out HVw.out.size hB)
              clear hB
              refine hK.out _ _ ⟨later HL6.out hHeld.1, later HL6.out hHeld.2.1, later HL6.out hHeld.2.2⟩ (fun hHeld => ?_)
              clear hK K
              refine norm_ (a' := ?_) ?_ ?_
              rotate_left
              · show Act.put _ (some 45) _ = _
                simp only [Act.put, List.setIfInBounds_toArray, List.set_cons_zero, List.set_cons_succ, i64_w, i32_w]
                rfl
              refine one_ (i := 7) (N := some 49) #[true, true, true, true, true, true, true, true, false, false] rfl rfl (by kernel_rfl) (by decide) (fun K hK => ?_)
              refine goes_ Try.func37 (by kernel_rfl) rfl #[.agg #[.int .i64 (N : Int), .slice A1 ls.length c1, .slice A2 es.length c2], .int .i64 (U : Int), .slice A3 ws.length c3] (by rfl) rfl rfl (by simp only [List.map_toArray, List.map_cons, List.map_nil]; rfl) ?_
              refine (HH2.out _ HVw6.out).mono ?_
              rintro e w7 ⟨rfl, hB⟩
              refine ⟨_, rfl, ?_⟩
              have HL7 := Aside0.mk hB
              have HV7 := Aside0.mk (below_then HV6.out HV6.out.size hB)
              clear hB
              refine hK.out _ _ ⟨later HL7.out hHeld.1, later HL7.out hHeld.2.1, later HL7.out hHeld.2.2⟩ (fun hHeld => ?_)
              clear hK K
              refine norm_ (a' := ?_) ?_ ?_
              rotate_left
              · show Act.put _ (some 49) _ = _
                simp only [Act.put, List.setIfInBounds_toArray, List.set_cons_zero, List.set_cons_succ, i64_w, i32_w]
                rfl
              refine pure_ (i := 8) (N := some 50) (v := ?_) (a' := ?_) #[true, true, true, true, true, true, true, true, true, false] rfl rfl (by kernel_rfl) (fun _ _ _ h => h) (Or.inl ⟨by rfl, ?_⟩) ?_ ?_
              rotate_left
              · intro w'
                go_simp
                with_reducible rfl
              rotate_left
              · simp only [Act.put, List.setIfInBounds_toArray, List.set_cons_zero, List.set_cons_succ, i64_w, i32_w]
                rfl
              refine pure_ (i := 9) (N := some 11) (v := ?_) (a' := ?_) #[true, true, true, true, true, true, true, true, true, true] rfl rfl (by kernel_rfl) (fun _ _ _ h => h) (Or.inl ⟨by rfl, ?_⟩) ?_ ?_
              rotate_left
              · intro w'
                go_simp
                with_reducible rfl
              rotate_left
              · simp only [Act.put, List.setIfInBounds_toArray, List.set_cons_zero, List.set_cons_succ, i64_w, i32_w]
                rfl
              refine done_ (by kernel_rfl) ?_
              have HX8 := Aside0.mk (HX5.out.below HV7.out)
              have HB8 := Aside0.mk (below_then HB5.out HB5.out.size HV7.out)
              have HC8 := Aside0.mk (Kd.C_below HC5.out HV7.out)
              have HW8 := Aside0.mk (HW5.out.below HV7.out)
              have b3 := HW8.out.c0
              clear HX5 HB5 HC5 HW5 HV HVw HV6 HVw6 HV7 HL6 HL7
              go_wp2_with fail
              clear b3
              refine start_ (n := 12) (S := fun w' => w'.cell? ⟨w.heap.size, 0, none⟩ = some (.int .i64 (N : Int)) ∧ w'.cell? ⟨w.heap.size, 1, none⟩ = some (.slice A1 ls.length c1) ∧ w'.cell? ⟨w.heap.size, 2, none⟩ = some (.slice A2 es.length c2) ∧ w'.cell? ⟨w4.heap.size, 1, none⟩ = some (.slice Aw L.length cw)) (ds := []) #[false, false, false, false, false, false, false, false, false, false, false, false] (by kernel_rfl) rfl rfl ⟨HX8.out.c0, HX8.out.c1, HX8.out.c2, HW8.out.c1⟩ (fun hHeld => ?_)
              have HV := Aside0.mk (below_drew1 (Below.refl w7.heap.size w7))
              generalize w7.drew = V2 at HV hHeld ⊢
              have HVw := Aside0.mk (below_then HB8.out HB8.out.size HV.out)
              have HC9 := Aside0.mk (Kd.C_below HC8.out HV.out)
              refine pure_ (i := 1) (N := some 60) (v := ?_) (a' := ?_) #[false, true, false, false, false, false, false, false, false, false, false, false] rfl rfl (by kernel_rfl) (fun _ _ _ h => h) (Or.inl ⟨by rfl, ?_⟩) ?_ ?_
              rotate_left
              · intro w'
                go_simp
                with_reducible rfl
              rotate_left
              · simp only [Act.put, List.setIfInBounds_toArray, List.set_cons_zero, List.set_cons_succ, i64_w, i32_w]
                rfl
              refine pure_ (i := 2) (N := some 61) (v := ?_) (a' := ?_) #[false, true, true, false, false, false, false, false, false, false, false, false] rfl rfl (by kernel_rfl) (fun _ _ _ h => h) (Or.inl ⟨by rfl, ?_⟩) ?_ ?_
              rotate_left
              · intro w'
                go_simp
                with_reducible rfl
              rotate_left
              · simp only [Act.put, List.setIfInBounds_toArray, List.set_cons_zero, List.set_cons_succ, i64_w, i32_w]
                rfl
              refine pure_ (i := 6) (N := some 65) (v := ?_) (a' := ?_) #[false, true, true, false, false, false, true, false, false, false, false, false] rfl rfl (by kernel_rfl) (fun _ _ _ h => h) (Or.inl ⟨by rfl, ?_⟩) ?_ ?_
              rotate_left
              · intro w'
                go_simp
                with_reducible rfl
              rotate_left
              · simp only [Act.put, List.setIfInBounds_toArray, List.set_cons_zero, List.set_cons_succ, i64_w, i32_w]
                rfl
              refine pure_ (i := 7) (N := some 66) (v := ?_) (a' := ?_) #[false, true, true, false, false, false, true, true, false, false, false, false] rfl rfl (by kernel_rfl) (fun _ _ _ h => h) (Or.inl ⟨by rfl, ?_⟩) ?_ ?_
              rotate_left
              · intro w'
                go_simp
                with_reducible rfl
              rotate_left
              · simp only [Act.put, List.setIfInBounds_toArray, List.set_cons_zero, List.set_cons_succ, i64_w, i32_w]
                rfl
              refine take_ (i := 0) (N := some 59) (v := ?_) (a' := ?_) #[true, true, true, false, false, false, true, true, false, false, false, false] rfl rfl (by kernel_rfl) (fun _ _ _ h => h) (Or.inl ⟨by rfl, ?_⟩) hHeld ?_ ?_
              rotate_left
              · rintro w' ⟨s0, s1, s2, s3⟩
                go_simp
                with_reducible rfl
              rotate_left
              · simp only [Act.put, List.setIfInBounds_toArray, List.set_cons_zero, List.set_cons_succ, i64_w, i32_w]
                rfl
              refine take_ (i := 3) (N := some 62) (v := ?_) (a' := ?_) #[true, true, true, true, false, false, true, true, false, false, false, false] rfl rfl (by kernel_rfl) (fun _ _ _ h => h) (Or.inl ⟨by rfl, ?_⟩) hHeld ?_ ?_
              rotate_left
              · rintro w' ⟨s0, s1, s2, s3⟩
                go_simp
                with_reducible rfl
              rotate_left
              · simp only [Act.put, List.setIfInBounds_toArray, List.set_cons_zero, List.set_cons_succ, i64_w, i32_w]
                rfl
              refine take_ (i := 5) (N := some 64) (v := ?_) (a' := ?_) #[true, true, true, true, false, true, true, true, false, false, false, false] rfl rfl (by kernel_rfl) (fun _ _ _ h => h) (Or.inl ⟨by rfl, ?_⟩) hHeld ?_ ?_
              rotate_left
              · rintro w' ⟨s0, s1, s2, s3⟩
                go_simp
                with_reducible rfl
              rotate_left
              · simp only [Act.put, List.setIfInBounds_toArray, List.set_cons_zero, List.set_cons_succ, i64_w, i32_w]
                rfl
              refine take_ (i := 8) (N := some 67) (v := ?_) (a' := ?_) #[true, true, true, true, false, true, true, true, true, false, false, false] rfl rfl (by kernel_rfl) (fun _ _ _ h => h) (Or.inl ⟨by rfl, ?_⟩) hHeld ?_ ?_
              rotate_left
              · rintro w' ⟨s0, s1, s2, s3⟩
                go_simp
                with_reducible rfl
              rotate_left
              · simp only [Act.put, List.setIfInBounds_toArray, List.set_cons_zero, List.set_cons_succ, i64_w, i32_w]
                rfl
              refine one_ (i := 4) (N := some 63) #[true, true, true, true, true, true, true, true, true, false, false, false] rfl rfl (by kernel_rfl) (by decide) (fun K hK => ?_)
              refine goes_ Try.func37 (by kernel_rfl) rfl #[.agg #[.int .i64 (N : Int), .slice A1 ls.length c1, .slice A2 es.length c2], .int .i64 (S : Int), .slice Aw L.length cw] (by rfl) rfl rfl (by simp only [List.map_toArray, List.map_cons, List.map_nil]; rfl) ?_
              refine (thas_any (N : Int) ls es (S : Int) L _ HV1.out A1 A2 Aw c1 c2 cw _ (Kd.C_below HR1.out HVw.out) (Kd.C_below HR2.out HVw.out) HC9.out).mono ?_
              rintro e w9 ⟨rfl, hB⟩
              refine ⟨_, rfl, ?_⟩
              have HL9 := Aside0.mk hB
              have HV9 := Aside0.mk (below_then HV.out HV.out.size hB)
              have HVw9 := Aside0.mk (below_then HVw.out HVw.out.size hB)
              have HC10 := Aside0.mk (Kd.C_below HC9.out hB)
              clear hB
              refine hK.out _ _ ⟨later HL9.out hHeld.1, later HL9.out hHeld.2.1, later HL9.out hHeld.2.2.1, later HL9.out hHeld.2.2.2⟩ (fun hHeld => ?_)
              clear hK K
              refine norm_ (a' := ?_) ?_ ?_
              rotate_left
              · show Act.put _ (some 63) _ = _
                simp only [Act.put, List.setIfInBounds_toArray, List.set_cons_zero, List.set_cons_succ, i64_w, i32_w]
                rfl
              refine one_ (i := 9) (N := some 68) #[true, true, true, true, true, true, true, true, true, true, false, false] rfl rfl (by kernel_rfl) (by decide) (fun K hK => ?_)
              refine goes_ Try.func37 (by kernel_rfl) rfl #[.agg #[.int .i64 (N : Int), .slice A1 ls.length c1, .slice A2 es.length c2], .int .i64 (U : Int), .slice Aw L.length cw] (by rfl) rfl rfl (by simp only [List.map_toArray, List.map_cons, List.map_nil]; rfl) ?_
              refine (thas_any (N : Int) ls es (U : Int) L _ HV2.out A1 A2 Aw c1 c2 cw _ (Kd.C_below HR1.out HVw9.out) (Kd.C_below HR2.out HVw9.out) HC10.out).mono ?_
              rintro e w10 ⟨rfl, hB⟩
              refine ⟨_, rfl, ?_⟩
              have HL10 := Aside0.mk hB
              have HV10 := Aside0.mk (below_then HV9.out HV9.out.size hB)
              clear hB
              refine hK.out _ _ ⟨later HL10.out hHeld.1, later HL10.out hHeld.2.1, later HL10.out hHeld.2.2.1, later HL10.out hHeld.2.2.2⟩ (fun hHeld => ?_)
              clear hK K
              refine norm_ (a' := ?_) ?_ ?_
              rotate_left
              · show Act.put _ (some 68) _ = _
                simp only [Act.put, List.setIfInBounds_toArray, List.set_cons_zero, List.set_cons_succ, i64_w, i32_w]
                rfl
              refine pure_ (i := 10) (N := some 12) (v := ?_) (a' := ?_) #[true, true, true, true, true, true, true, true, true, true, true, false] rfl rfl (by kernel_rfl) (fun _ _ _ h => h) (Or.inl ⟨by rfl, ?_⟩) ?_ ?_
              rotate_left
              · intro w'
                go_simp
                with_reducible rfl
              rotate_left
              · simp only [Act.put, List.setIfInBounds_toArray, List.set_cons_zero, List.set_cons_succ, i64_w, i32_w]
                rfl
              refine pure_ (i := 11) (N := some 13) (v := ?_) (a' := ?_) #[true, true, true, true, true, true, true, true, true, true, true, true] rfl rfl (by kernel_rfl) (fun _ _ _ h => h) (Or.inl ⟨by rfl, ?_⟩) ?_ ?_
              rotate_left
              · intro w'
                go_simp
                with_reducible rfl
              rotate_left
              · simp only [Act.put, List.setIfInBounds_toArray, List.set_cons_zero, List.set_cons_succ, i64_w, i32_w]
                rfl
              refine done_ (by kernel_rfl) ?_
              have HX11 := Aside0.mk (HX8.out.below HV10.out)
              have HB11 := Aside0.mk (below_then HB8.out HB8.out.size HV10.out)
              have HC11 := Aside0.mk (Kd.C_below HC8.out HV10.out)
              have HW11 := Aside0.mk (HW8.out.below HV10.out)
              have b3 := HW11.out.c0
              have b4 := HW11.out.c1
              have b5 := HX11.out.c1
              clear HX8 HB8 HC8 HW8 HV HVw HV9 HVw9 HV10 HL9 HL10 HC9 HC10
              go_wp2_with fail
              clear b3 b4 b5
              refine (awake40 _).mono ?_
              rintro e w3 ⟨rfl, hB⟩
              have HB3 := Aside0.mk (below_then HB11.out HB11.out.size hB)
              clear hB
              go_wp2
              go_ret
              exact ⟨rfl, HB3.out⟩
            · skip
              have HAh := Aside0.mk (HOw.out rfl)
              clear HOw
              clear b3
              refine start_ (n := 10) (S := fun w' => w'.cell? ⟨w.heap.size, 0, none⟩ = some (.int .i64 (N : Int)) ∧ w'.cell? ⟨w.heap.size, 1, none⟩ = some (.slice A1 ls.length c1) ∧ w'.cell? ⟨w.heap.size, 2, none⟩ = some (.slice A2 es.length c2)) (ds := []) #[false, false, false, false, false, false, false, false, false, false] (by kernel_rfl) rfl rfl ⟨HX5.out.c0, HX5.out.c1, HX5.out.c2⟩ (fun hHeld => ?_)
              have HV := Aside0.mk (below_drew1 (Below.refl W5.heap.size W5))
              generalize W5.drew = V at HV hHeld ⊢
              have HVw := Aside0.mk (below_then HB5.out HB5.out.size HV.out)
              refine pure_ (i := 1) (N := some 43) (v := ?_) (a' := ?_) #[false, true, false, false, false, false, false, false, false, false] rfl rfl (by kernel_rfl) (fun _ _ _ h => h) (Or.inl ⟨by rfl, ?_⟩) ?_ ?_
              rotate_left
              · intro w'
                go_simp
                with_reducible rfl
              rotate_left
              · simp only [Act.put, List.setIfInBounds_toArray, List.set_cons_zero, List.set_cons_succ, i64_w, i32_w]
                rfl
              refine pure_ (i := 2) (N := some 44) (v := ?_) (a' := ?_) #[false, true, true, false, false, false, false, false, false, false] rfl rfl (by kernel_rfl) (fun _ _ _ h => h) (Or.inl ⟨by rfl, ?_⟩) ?_ ?_
              rotate_left
              · intro w'
                go_simp
                with_reducible rfl
              rotate_left
              · simp only [Act.put, List.setIfInBounds_toArray, List.set_cons_zero, List.set_cons_succ, i64_w, i32_w]
                rfl
              refine pure_ (i := 5) (N := some 47) (v := ?_) (a' := ?_) #[false, true, true, false, false, true, false, false, false, false] rfl rfl (by kernel_rfl) (fun _ _ _ h => h) (Or.inl ⟨by rfl, ?_⟩) ?_ ?_
              rotate_left
              · intro w'
                go_simp
                with_reducible rfl
              rotate_left
              · simp only [Act.put, List.setIfInBounds_toArray, List.set_cons_zero, List.set_cons_succ, i64_w, i32_w]
                rfl
              refine pure_ (i := 6) (N := some 48) (v := ?_) (a' := ?_) #[false, true, true, false, false, true, true, false, false, false] rfl rfl (by kernel_rfl) (fun _ _ _ h => h) (Or.inl ⟨by rfl, ?_⟩) ?_ ?_
              rotate_left
              · intro w'
                go_simp
                with_reducible rfl
              rotate_left
              · simp only [Act.put, List.setIfInBounds_toArray, List.set_cons_zero, List.set_cons_succ, i64_w, i32_w]
                rfl
              refine take_ (i := 0) (N := some 42) (v := ?_) (a' := ?_) #[true, true, true, false, false, true, true, false, false, false] rfl rfl (by kernel_rfl) (fun _ _ _ h => h) (Or.inl ⟨by rfl, ?_⟩) hHeld ?_ ?_
              rotate_left
              · rintro w' ⟨s0, s1, s2⟩
                go_simp
                with_reducible rfl
              rotate_left
              · simp only [Act.put, List.setIfInBounds_toArray, List.set_cons_zero, List.set_cons_succ, i64_w, i32_w]
                rfl
              refine take_ (i := 4) (N := some 46) (v := ?_) (a' := ?_) #[true, true, true, false, true, true, true, false, false, false] rfl rfl (by kernel_rfl) (fun _ _ _ h => h) (Or.inl ⟨by rfl, ?_⟩) hHeld ?_ ?_
              rotate_left
              · rintro w' ⟨s0, s1, s2⟩
                go_simp
                with_reducible rfl
              rotate_left
              · simp only [Act.put, List.setIfInBounds_toArray, List.set_cons_zero, List.set_cons_succ, i64_w, i32_w]
                rfl
              refine one_ (i := 3) (N := some 45) #[true, true, true, true, true, true, true, false, false, false] rfl rfl (by kernel_rfl) (by decide) (fun K hK => ?_)
              refine goes_ Try.func37 (by kernel_rfl) rfl #[.agg #[.int .i64 (N : Int), .slice A1 ls.length c1, .slice A2 es.length c2], .int .i64 (S : Int), .slice A3 ws.length c3] (by rfl) rfl rfl (by simp only [List.map_toArray, List.map_cons, List.map_nil]; rfl) ?_
              refine (HH1.out _ HVw.out).mono ?_
              rintro e w6 ⟨rfl, hB⟩
              refine ⟨_, rfl, ?_⟩
              have HL6 := Aside0.mk hB
              have HV6 := Aside0.mk (below_then HV.out HV.out.size hB)
              have HVw6 := Aside0.mk (below_then HVw.out HVw.out.size hB)
              clear hB
              refine hK.out _ _ ⟨later HL6.out hHeld.1, later HL6.out hHeld.2.1, later HL6.out hHeld.2.2⟩ (fun hHeld => ?_)
              clear hK K
              refine norm_ (a' := ?_) ?_ ?_
              rotate_left
              · show Act.put _ (some 45) _ = _
                simp only [Act.put, List.setIfInBounds_toArray, List.set_cons_zero, List.set_cons_succ, i64_w, i32_w]
                rfl
              refine one_ (i := 7) (N := some 49) #[true, true, true, true, true, true, true, true, false, false] rfl rfl (by kernel_rfl) (by decide) (fun K hK => ?_)
              refine goes_ Try.func37 (by kernel_rfl) rfl #[.agg #[.int .i64 (N : Int), .slice A1 ls.length c1, .slice A2 es.length c2], .int .i64 (U : Int), .slice A3 ws.length c3] (by rfl) rfl rfl (by simp only [List.map_toArray, List.map_cons, List.map_nil]; rfl) ?_
              refine (HH2.out _ HVw6.out).mono ?_
              rintro e w7 ⟨rfl, hB⟩
              refine ⟨_, rfl, ?_⟩
              have HL7 := Aside0.mk hB
              have HV7 := Aside0.mk (below_then HV6.out HV6.out.size hB)
              clear hB
              refine hK.out _ _ ⟨later HL7.out hHeld.1, later HL7.out hHeld.2.1, later HL7.out hHeld.2.2⟩ (fun hHeld => ?_)
              clear hK K
              refine norm_ (a' := ?_) ?_ ?_
              rotate_left
              · show Act.put _ (some 49) _ = _
                simp only [Act.put, List.setIfInBounds_toArray, List.set_cons_zero, List.set_cons_succ, i64_w, i32_w]
                rfl
              refine pure_ (i := 8) (N := some 50) (v := ?_) (a' := ?_) #[true, true, true, true, true, true, true, true, true, false] rfl rfl (by kernel_rfl) (fun _ _ _ h => h) (Or.inl ⟨by rfl, ?_⟩) ?_ ?_
              rotate_left
              · intro w'
                go_simp
                with_reducible rfl
              rotate_left
              · simp only [Act.put, List.setIfInBounds_toArray, List.set_cons_zero, List.set_cons_succ, i64_w, i32_w]
                rfl
              refine pure_ (i := 9) (N := some 11) (v := ?_) (a' := ?_) #[true, true, true, true, true, true, true, true, true, true] rfl rfl (by kernel_rfl) (fun _ _ _ h => h) (Or.inl ⟨by rfl, ?_⟩) ?_ ?_
              rotate_left
              · intro w'
                go_simp
                with_reducible rfl
              rotate_left
              · simp only [Act.put, List.setIfInBounds_toArray, List.set_cons_zero, List.set_cons_succ, i64_w, i32_w]
                rfl
              refine done_ (by kernel_rfl) ?_
              have HX8 := Aside0.mk (HX5.out.below HV7.out)
              have HB8 := Aside0.mk (below_then HB5.out HB5.out.size HV7.out)
              have HC8 := Aside0.mk (Kd.C_below HC5.out HV7.out)
              have HW8 := Aside0.mk (HW5.out.below HV7.out)
              have b3 := HW8.out.c0
              clear HX5 HB5 HC5 HW5 HV HVw HV6 HVw6 HV7 HL6 HL7
              go_wp2_with fail
              clear b3
              refine start_ (n := 12) (S := fun w' => w'.cell? ⟨w.heap.size, 0, none⟩ = some (.int .i64 (N : Int)) ∧ w'.cell? ⟨w.heap.size, 1, none⟩ = some (.slice A1 ls.length c1) ∧ w'.cell? ⟨w.heap.size, 2, none⟩ = some (.slice A2 es.length c2) ∧ w'.cell? ⟨w4.heap.size, 1, none⟩ = some (.slice Aw L.length cw)) (ds := []) #[false, false, false, false, false, false, false, false, false, false, false, false] (by kernel_rfl) rfl rfl ⟨HX8.out.c0, HX8.out.c1, HX8.out.c2, HW8.out.c1⟩ (fun hHeld => ?_)
              have HV := Aside0.mk (below_drew1 (Below.refl w7.heap.size w7))
              generalize w7.drew = V2 at HV hHeld ⊢
              have HVw := Aside0.mk (below_then HB8.out HB8.out.size HV.out)
              have HC9 := Aside0.mk (Kd.C_below HC8.out HV.out)
              refine pure_ (i := 1) (N := some 60) (v := ?_) (a' := ?_) #[false, true, false, false, false, false, false, false, false, false, false, false] rfl rfl (by kernel_rfl) (fun _ _ _ h => h) (Or.inl ⟨by rfl, ?_⟩) ?_ ?_
              rotate_left
              · intro w'
                go_simp
                with_reducible rfl
              rotate_left
              · simp only [Act.put, List.setIfInBounds_toArray, List.set_cons_zero, List.set_cons_succ, i64_w, i32_w]
                rfl
              refine pure_ (i := 2) (N := some 61) (v := ?_) (a' := ?_) #[false, true, true, false, false, false, false, false, false, false, false, false] rfl rfl (by kernel_rfl) (fun _ _ _ h => h) (Or.inl ⟨by rfl, ?_⟩) ?_ ?_
              rotate_left
              · intro w'
                go_simp
                with_reducible rfl
              rotate_left
              · simp only [Act.put, List.setIfInBounds_toArray, List.set_cons_zero, List.set_cons_succ, i64_w, i32_w]
                rfl
              refine pure_ (i := 6) (N := some 65) (v := ?_) (a' := ?_) #[false, true, true, false, false, false, true, false, false, false, false, false] rfl rfl (by kernel_rfl) (fun _ _ _ h => h) (Or.inl ⟨by rfl, ?_⟩) ?_ ?_
              rotate_left
              · intro w'
                go_simp
                with_reducible rfl
              rotate_left
              · simp only [Act.put, List.setIfInBounds_toArray, List.set_cons_zero, List.set_cons_succ, i64_w, i32_w]
                rfl
              refine pure_ (i := 7) (N := some 66) (v := ?_) (a' := ?_) #[false, true, true, false, false, false, true, true, false, false, false, false] rfl rfl (by kernel_rfl) (fun _ _ _ h => h) (Or.inl ⟨by rfl, ?_⟩) ?_ ?_
              rotate_left
              · intro w'
                go_simp
                with_reducible rfl
              rotate_left
              · simp only [Act.put, List.setIfInBounds_toArray, List.set_cons_zero, List.set_cons_succ, i64_w, i32_w]
                rfl
              refine take_ (i := 0) (N := some 59) (v := ?_) (a' := ?_) #[true, true, true, false, false, false, true, true, false, false, false, false] rfl rfl (by kernel_rfl) (fun _ _ _ h => h) (Or.inl ⟨by rfl, ?_⟩) hHeld ?_ ?_
              rotate_left
              · rintro w' ⟨s0, s1, s2, s3⟩
                go_simp
                with_reducible rfl
              rotate_left
              · simp only [Act.put, List.setIfInBounds_toArray, List.set_cons_zero, List.set_cons_succ, i64_w, i32_w]
                rfl
              refine take_ (i := 3) (N := some 62) (v := ?_) (a' := ?_) #[true, true, true, true, false, false, true, true, false, false, false, false] rfl rfl (by kernel_rfl) (fun _ _ _ h => h) (Or.inl ⟨by rfl, ?_⟩) hHeld ?_ ?_
              rotate_left
              · rintro w' ⟨s0, s1, s2, s3⟩
                go_simp
                with_reducible rfl
              rotate_left
              · simp only [Act.put, List.setIfInBounds_toArray, List.set_cons_zero, List.set_cons_succ, i64_w, i32_w]
                rfl
              refine take_ (i := 5) (N := some 64) (v := ?_) (a' := ?_) #[true, true, true, true, false, true, true, true, false, false, false, false] rfl rfl (by kernel_rfl) (fun _ _ _ h => h) (Or.inl ⟨by rfl, ?_⟩) hHeld ?_ ?_
              rotate_left
              · rintro w' ⟨s0, s1, s2, s3⟩
                go_simp
                with_reducible rfl
              rotate_left
              · simp only [Act.put, List.setIfInBounds_toArray, List.set_cons_zero, List.set_cons_succ, i64_w, i32_w]
                rfl
              refine take_ (i := 8) (N := some 67) (v := ?_) (a' := ?_) #[true, true, true, true, false, true, true, true, true, false, false, false] rfl rfl (by kernel_rfl) (fun _ _ _ h => h) (Or.inl ⟨by rfl, ?_⟩) hHeld ?_ ?_
              rotate_left
              · rintro w' ⟨s0, s1, s2, s3⟩
                go_simp
                with_reducible rfl
              rotate_left
              · simp only [Act.put, List.setIfInBounds_toArray, List.set_cons_zero, List.set_cons_succ, i64_w, i32_w]
                rfl
              refine one_ (i := 4) (N := some 63) #[true, true, true, true, true, true, true, true, true, false, false, false] rfl rfl (by kernel_rfl) (by decide) (fun K hK => ?_)
              refine goes_ Try.func37 (by kernel_rfl) rfl #[.agg #[.int .i64 (N : Int), .slice A1 ls.length c1, .slice A2 es.length c2], .int .i64 (S : Int), .slice Aw L.length cw] (by rfl) rfl rfl (by simp only [List.map_toArray, List.map_cons, List.map_nil]; rfl) ?_
              refine (thas_any (N : Int) ls es (S : Int) L _ HV1.out A1 A2 Aw c1 c2 cw _ (Kd.C_below HR1.out HVw.out) (Kd.C_below HR2.out HVw.out) HC9.out).mono ?_
              rintro e w9 ⟨rfl, hB⟩
              refine ⟨_, rfl, ?_⟩
              have HL9 := Aside0.mk hB
              have HV9 := Aside0.mk (below_then HV.out HV.out.size hB)
              have HVw9 := Aside0.mk (below_then HVw.out HVw.out.size hB)
              have HC10 := Aside0.mk (Kd.C_below HC9.out hB)
              clear hB
              refine hK.out _ _ ⟨later HL9.out hHeld.1, later HL9.out hHeld.2.1, later HL9.out hHeld.2.2.1, later HL9.out hHeld.2.2.2⟩ (fun hHeld => ?_)
              clear hK K
              refine norm_ (a' := ?_) ?_ ?_
              rotate_left
              · show Act.put _ (some 63) _ = _
                simp only [Act.put, List.setIfInBounds_toArray, List.set_cons_zero, List.set_cons_succ, i64_w, i32_w]
                rfl
              refine one_ (i := 9) (N := some 68) #[true, true, true, true, true, true, true, true, true, true, false, false] rfl rfl (by kernel_rfl) (by decide) (fun K hK => ?_)
              refine goes_ Try.func37 (by kernel_rfl) rfl #[.agg #[.int .i64 (N : Int), .slice A1 ls.length c1, .slice A2 es.length c2], .int .i64 (U : Int), .slice Aw L.length cw] (by rfl) rfl rfl (by simp only [List.map_toArray, List.map_cons, List.map_nil]; rfl) ?_
              refine (thas_any (N : Int) ls es (U : Int) L _ HV2.out A1 A2 Aw c1 c2 cw _ (Kd.C_below HR1.out HVw9.out) (Kd.C_below HR2.out HVw9.out) HC10.out).mono ?_
              rintro e w10 ⟨rfl, hB⟩
              refine ⟨_, rfl, ?_⟩
              have HL10 := Aside0.mk hB
              have HV10 := Aside0.mk (below_then HV9.out HV9.out.size hB)
              clear hB
              refine hK.out _ _ ⟨later HL10.out hHeld.1, later HL10.out hHeld.2.1, later HL10.out hHeld.2.2.1, later HL10.out hHeld.2.2.2⟩ (fun hHeld => ?_)
              clear hK K
              refine norm_ (a' := ?_) ?_ ?_
              rotate_left
              · show Act.put _ (some 68) _ = _
                simp only [Act.put, List.setIfInBounds_toArray, List.set_cons_zero, List.set_cons_succ, i64_w, i32_w]
                rfl
              refine pure_ (i := 10) (N := some 12) (v := ?_) (a' := ?_) #[true, true, true, true, true, true, true, true, true, true, true, false] rfl rfl (by kernel_rfl) (fun _ _ _ h => h) (Or.inl ⟨by rfl, ?_⟩) ?_ ?_
              rotate_left
              · intro w'
                go_simp
                with_reducible rfl
              rotate_left
              · simp only [Act.put, List.setIfInBounds_toArray, List.set_cons_zero, List.set_cons_succ, i64_w, i32_w]
                rfl
              refine pure_ (i := 11) (N := some 13) (v := ?_) (a' := ?_) #[true, true, true, true, true, true, true, true, true, true, true, true] rfl rfl (by kernel_rfl) (fun _ _ _ h => h) (Or.inl ⟨by rfl, ?_⟩) ?_ ?_
              rotate_left
              · intro w'
                go_simp
                with_reducible rfl
              rotate_left
              · simp only [Act.put, List.setIfInBounds_toArray, List.set_cons_zero, List.set_cons_succ, i64_w, i32_w]
                rfl
              refine done_ (by kernel_rfl) ?_
              have HX11 := Aside0.mk (HX8.out.below HV10.out)
              have HB11 := Aside0.mk (below_then HB8.out HB8.out.size HV10.out)
              have HC11 := Aside0.mk (Kd.C_below HC8.out HV10.out)
              have HW11 := Aside0.mk (HW8.out.below HV10.out)
              have b3 := HW11.out.c0
              have b4 := HW11.out.c1
              have b5 := HX11.out.c1
              clear HX8 HB8 HC8 HW8 HV HVw HV9 HVw9 HV10 HL9 HL10 HC9 HC10
              go_wp2_with fail
              clear b3 b4 b5
              refine (tahead_any ls ws L false HAh.out A1 A3 Aw c1 c3 cw w10 (Kd.C_below HR1.out HB11.out) (Kd.C_below HR3.out HB11.out) HC11.out).mono ?_
              rintro e w12 ⟨rfl, hD⟩
              have HB12 := Aside0.mk (below_then HB11.out HB11.out.size hD.below)
              clear hD
              go_wp2_with fail
              refine (awake40 _).mono ?_
              rintro e w3 ⟨rfl, hB⟩
              have HB3 := Aside0.mk (below_then HB12.out HB12.out.size hB)
              clear hB
              go_wp2
              go_ret
              exact ⟨rfl, HB3.out⟩
            · skip
              have HAh := Aside0.mk (HOw.out rfl)
              clear HOw
              clear b3
              refine start_ (n := 10) (S := fun w' => w'.cell? ⟨w.heap.size, 0, none⟩ = some (.int .i64 (N : Int)) ∧ w'.cell? ⟨w.heap.size, 1, none⟩ = some (.slice A1 ls.length c1) ∧ w'.cell? ⟨w.heap.size, 2, none⟩ = some (.slice A2 es.length c2)) (ds := []) #[false, false, false, false, false, false, false, false, false, false] (by kernel_rfl) rfl rfl ⟨HX5.out.c0, HX5.out.c1, HX5.out.c2⟩ (fun hHeld => ?_)
              have HV := Aside0.mk (below_drew1 (Below.refl W5.heap.size W5))
              generalize W5.drew = V at HV hHeld ⊢
              have HVw := Aside0.mk (below_then HB5.out HB5.out.size HV.out)
              refine pure_ (i := 1) (N := some 43) (v := ?_) (a' := ?_) #[false, true, false, false, false, false, false, false, false, false] rfl rfl (by kernel_rfl) (fun _ _ _ h => h) (Or.inl ⟨by rfl, ?_⟩) ?_ ?_
              rotate_left
              · intro w'
                go_simp
                with_reducible rfl
              rotate_left
              · simp only [Act.put, List.setIfInBounds_toArray, List.set_cons_zero, List.set_cons_succ, i64_w, i32_w]
                rfl
              refine pure_ (i := 2) (N := some 44) (v := ?_) (a' := ?_) #[false, true, true, false, false, false, false, false, false, false] rfl rfl (by kernel_rfl) (fun _ _ _ h => h) (Or.inl ⟨by rfl, ?_⟩) ?_ ?_
              rotate_left
              · intro w'
                go_simp
                with_reducible rfl
              rotate_left
              · simp only [Act.put, List.setIfInBounds_toArray, List.set_cons_zero, List.set_cons_succ, i64_w, i32_w]
                rfl
              refine pure_ (i := 5) (N := some 47) (v := ?_) (a' := ?_) #[false, true, true, false, false, true, false, false, false, false] rfl rfl (by kernel_rfl) (fun _ _ _ h => h) (Or.inl ⟨by rfl, ?_⟩) ?_ ?_
              rotate_left
              · intro w'
                go_simp
                with_reducible rfl
              rotate_left
              · simp only [Act.put, List.setIfInBounds_toArray, List.set_cons_zero, List.set_cons_succ, i64_w, i32_w]
                rfl
              refine pure_ (i := 6) (N := some 48) (v := ?_) (a' := ?_) #[false, true, true, false, false, true, true, false, false, false] rfl rfl (by kernel_rfl) (fun _ _ _ h => h) (Or.inl ⟨by rfl, ?_⟩) ?_ ?_
              rotate_left
              · intro w'
                go_simp
                with_reducible rfl
              rotate_left
              · simp only [Act.put, List.setIfInBounds_toArray, List.set_cons_zero, List.set_cons_succ, i64_w, i32_w]
                rfl
              refine take_ (i := 0) (N := some 42) (v := ?_) (a' := ?_) #[true, true, true, false, false, true, true, false, false, false] rfl rfl (by kernel_rfl) (fun _ _ _ h => h) (Or.inl ⟨by rfl, ?_⟩) hHeld ?_ ?_
              rotate_left
              · rintro w' ⟨s0, s1, s2⟩
                go_simp
                with_reducible rfl
              rotate_left
              · simp only [Act.put, List.setIfInBounds_toArray, List.set_cons_zero, List.set_cons_succ, i64_w, i32_w]
                rfl
              refine take_ (i := 4) (N := some 46) (v := ?_) (a' := ?_) #[true, true, true, false, true, true, true, false, false, false] rfl rfl (by kernel_rfl) (fun _ _ _ h => h) (Or.inl ⟨by rfl, ?_⟩) hHeld ?_ ?_
              rotate_left
              · rintro w' ⟨s0, s1, s2⟩
                go_simp
                with_reducible rfl
              rotate_left
              · simp only [Act.put, List.setIfInBounds_toArray, List.set_cons_zero, List.set_cons_succ, i64_w, i32_w]
                rfl
              refine one_ (i := 3) (N := some 45) #[true, true, true, true, true, true, true, false, false, false] rfl rfl (by kernel_rfl) (by decide) (fun K hK => ?_)
              refine goes_ Try.func37 (by kernel_rfl) rfl #[.agg #[.int .i64 (N : Int), .slice A1 ls.length c1, .slice A2 es.length c2], .int .i64 (S : Int), .slice A3 ws.length c3] (by rfl) rfl rfl (by simp only [List.map_toArray, List.map_cons, List.map_nil]; rfl) ?_
              refine (HH1.out _ HVw.out).mono ?_
              rintro e w6 ⟨rfl, hB⟩
              refine ⟨_, rfl, ?_⟩
              have HL6 := Aside0.mk hB
              have HV6 := Aside0.mk (below_then HV.out HV.out.size hB)
              have HVw6 := Aside0.mk (below_then HVw.out HVw.out.size hB)
              clear hB
              refine hK.out _ _ ⟨later HL6.out hHeld.1, later HL6.out hHeld.2.1, later HL6.out hHeld.2.2⟩ (fun hHeld => ?_)
              clear hK K
              refine norm_ (a' := ?_) ?_ ?_
              rotate_left
              · show Act.put _ (some 45) _ = _
                simp only [Act.put, List.setIfInBounds_toArray, List.set_cons_zero, List.set_cons_succ, i64_w, i32_w]
                rfl
              refine one_ (i := 7) (N := some 49) #[true, true, true, true, true, true, true, true, false, false] rfl rfl (by kernel_rfl) (by decide) (fun K hK => ?_)
              refine goes_ Try.func37 (by kernel_rfl) rfl #[.agg #[.int .i64 (N : Int), .slice A1 ls.length c1, .slice A2 es.length c2], .int .i64 (U : Int), .slice A3 ws.length c3] (by rfl) rfl rfl (by simp only [List.map_toArray, List.map_cons, List.map_nil]; rfl) ?_
              refine (HH2.out _ HVw6.out).mono ?_
              rintro e w7 ⟨rfl, hB⟩
              refine ⟨_, rfl, ?_⟩
              have HL7 := Aside0.mk hB
              have HV7 := Aside0.mk (below_then HV6.out HV6.out.size hB)
              clear hB
              refine hK.out _ _ ⟨later HL7.out hHeld.1, later HL7.out hHeld.2.1, later HL7.out hHeld.2.2⟩ (fun hHeld => ?_)
              clear hK K
              refine norm_ (a' := ?_) ?_ ?_
              rotate_left
              · show Act.put _ (some 49) _ = _
                simp only [Act.put, List.setIfInBounds_toArray, List.set_cons_zero, List.set_cons_succ, i64_w, i32_w]
                rfl
              refine pure_ (i := 8) (N := some 50) (v := ?_) (a' := ?_) #[true, true, true, true, true, true, true, true, true, false] rfl rfl (by kernel_rfl) (fun _ _ _ h => h) (Or.inl ⟨by rfl, ?_⟩) ?_ ?_
              rotate_left
              · intro w'
                go_simp
                with_reducible rfl
              rotate_left
              · simp only [Act.put, List.setIfInBounds_toArray, List.set_cons_zero, List.set_cons_succ, i64_w, i32_w]
                rfl
              refine pure_ (i := 9) (N := some 11) (v := ?_) (a' := ?_) #[true, true, true, true, true, true, true, true, true, true] rfl rfl (by kernel_rfl) (fun _ _ _ h => h) (Or.inl ⟨by rfl, ?_⟩) ?_ ?_
              rotate_left
              · intro w'
                go_simp
                with_reducible rfl
              rotate_left
              · simp only [Act.put, List.setIfInBounds_toArray, List.set_cons_zero, List.set_cons_succ, i64_w, i32_w]
                rfl
              refine done_ (by kernel_rfl) ?_
              have HX8 := Aside0.mk (HX5.out.below HV7.out)
              have HB8 := Aside0.mk (below_then HB5.out HB5.out.size HV7.out)
              have HC8 := Aside0.mk (Kd.C_below HC5.out HV7.out)
              have HW8 := Aside0.mk (HW5.out.below HV7.out)
              have b3 := HW8.out.c0
              clear HX5 HB5 HC5 HW5 HV HVw HV6 HVw6 HV7 HL6 HL7
              go_wp2_with fail
              clear b3
              refine start_ (n := 12) (S := fun w' => w'.cell? ⟨w.heap.size, 0, none⟩ = some (.int .i64 (N : Int)) ∧ w'.cell? ⟨w.heap.size, 1, none⟩ = some (.slice A1 ls.length c1) ∧ w'.cell? ⟨w.heap.size, 2, none⟩ = some (.slice A2 es.length c2) ∧ w'.cell? ⟨w4.heap.size, 1, none⟩ = some (.slice Aw L.length cw)) (ds := []) #[false, false, false, false, false, false, false, false, false, false, false, false] (by kernel_rfl) rfl rfl ⟨HX8.out.c0, HX8.out.c1, HX8.out.c2, HW8.out.c1⟩ (fun hHeld => ?_)
              have HV := Aside0.mk (below_drew1 (Below.refl w7.heap.size w7))
              generalize w7.drew = V2 at HV hHeld ⊢
              have HVw := Aside0.mk (below_then HB8.out HB8.out.size HV.out)
              have HC9 := Aside0.mk (Kd.C_below HC8.out HV.out)
              refine pure_ (i := 1) (N := some 60) (v := ?_) (a' := ?_) #[false, true, false, false, false, false, false, false, false, false, false, false] rfl rfl (by kernel_rfl) (fun _ _ _ h => h) (Or.inl ⟨by rfl, ?_⟩) ?_ ?_
              rotate_left
              · intro w'
                go_simp
                with_reducible rfl
              rotate_left
              · simp only [Act.put, List.setIfInBounds_toArray, List.set_cons_zero, List.set_cons_succ, i64_w, i32_w]
                rfl
              refine pure_ (i := 2) (N := some 61) (v := ?_) (a' := ?_) #[false, true, true, false, false, false, false, false, false, false, false, false] rfl rfl (by kernel_rfl) (fun _ _ _ h => h) (Or.inl ⟨by rfl, ?_⟩) ?_ ?_
              rotate_left
              · intro w'
                go_simp
                with_reducible rfl
              rotate_left
              · simp only [Act.put, List.setIfInBounds_toArray, List.set_cons_zero, List.set_cons_succ, i64_w, i32_w]
                rfl
              refine pure_ (i := 6) (N := some 65) (v := ?_) (a' := ?_) #[false, true, true, false, false, false, true, false, false, false, false, false] rfl rfl (by kernel_rfl) (fun _ _ _ h => h) (Or.inl ⟨by rfl, ?_⟩) ?_ ?_
              rotate_left
              · intro w'
                go_simp
                with_reducible rfl
              rotate_left
              · simp only [Act.put, List.setIfInBounds_toArray, List.set_cons_zero, List.set_cons_succ, i64_w, i32_w]
                rfl
              refine pure_ (i := 7) (N := some 66) (v := ?_) (a' := ?_) #[false, true, true, false, false, false, true, true, false, false, false, false] rfl rfl (by kernel_rfl) (fun _ _ _ h => h) (Or.inl ⟨by rfl, ?_⟩) ?_ ?_
              rotate_left
              · intro w'
                go_simp
                with_reducible rfl
              rotate_left
              · simp only [Act.put, List.setIfInBounds_toArray, List.set_cons_zero, List.set_cons_succ, i64_w, i32_w]
                rfl
              refine take_ (i := 0) (N := some 59) (v := ?_) (a' := ?_) #[true, true, true, false, false, false, true, true, false, false, false, false] rfl rfl (by kernel_rfl) (fun _ _ _ h => h) (Or.inl ⟨by rfl, ?_⟩) hHeld ?_ ?_
              rotate_left
              · rintro w' ⟨s0, s1, s2, s3⟩
                go_simp
                with_reducible rfl
              rotate_left
              · simp only [Act.put, List.setIfInBounds_toArray, List.set_cons_zero, List.set_cons_succ, i64_w, i32_w]
                rfl
              refine take_ (i := 3) (N := some 62) (v := ?_) (a' := ?_) #[true, true, true, true, false, false, true, true, false, false, false, false] rfl rfl (by kernel_rfl) (fun _ _ _ h => h) (Or.inl ⟨by rfl, ?_⟩) hHeld ?_ ?_
              rotate_left
              · rintro w' ⟨s0, s1, s2, s3⟩
                go_simp
                with_reducible rfl
              rotate_left
              · simp only [Act.put, List.setIfInBounds_toArray, List.set_cons_zero, List.set_cons_succ, i64_w, i32_w]
                rfl
              refine take_ (i := 5) (N := some 64) (v := ?_) (a' := ?_) #[true, true, true, true, false, true, true, true, false, false, false, false] rfl rfl (by kernel_rfl) (fun _ _ _ h => h) (Or.inl ⟨by rfl, ?_⟩) hHeld ?_ ?_
              rotate_left
              · rintro w' ⟨s0, s1, s2, s3⟩
                go_simp
                with_reducible rfl
              rotate_left
              · simp only [Act.put, List.setIfInBounds_toArray, List.set_cons_zero, List.set_cons_succ, i64_w, i32_w]
                rfl
              refine take_ (i := 8) (N := some 67) (v := ?_) (a' := ?_) #[true, true, true, true, false, true, true, true, true, false, false, false] rfl rfl (by kernel_rfl) (fun _ _ _ h => h) (Or.inl ⟨by rfl, ?_⟩) hHeld ?_ ?_
              rotate_left
              · rintro w' ⟨s0, s1, s2, s3⟩
                go_simp
                with_reducible rfl
              rotate_left
              · simp only [Act.put, List.setIfInBounds_toArray, List.set_cons_zero, List.set_cons_succ, i64_w, i32_w]
                rfl
              refine one_ (i := 4) (N := some 63) #[true, true, true, true, true, true, true, true, true, false, false, false] rfl rfl (by kernel_rfl) (by decide) (fun K hK => ?_)
              refine goes_ Try.func37 (by kernel_rfl) rfl #[.agg #[.int .i64 (N : Int), .slice A1 ls.length c1, .slice A2 es.length c2], .int .i64 (S : Int), .slice Aw L.length cw] (by rfl) rfl rfl (by simp only [List.map_toArray, List.map_cons, List.map_nil]; rfl) ?_
              refine (thas_any (N : Int) ls es (S : Int) L _ HV1.out A1 A2 Aw c1 c2 cw _ (Kd.C_below HR1.out HVw.out) (Kd.C_below HR2.out HVw.out) HC9.out).mono ?_
              rintro e w9 ⟨rfl, hB⟩
              refine ⟨_, rfl, ?_⟩
              have HL9 := Aside0.mk hB
              have HV9 := Aside0.mk (below_then HV.out HV.out.size hB)
              have HVw9 := Aside0.mk (below_then HVw.out HVw.out.size hB)
              have HC10 := Aside0.mk (Kd.C_below HC9.out hB)
              clear hB
              refine hK.out _ _ ⟨later HL9.out hHeld.1, later HL9.out hHeld.2.1, later HL9.out hHeld.2.2.1, later HL9.out hHeld.2.2.2⟩ (fun hHeld => ?_)
              clear hK K
              refine norm_ (a' := ?_) ?_ ?_
              rotate_left
              · show Act.put _ (some 63) _ = _
                simp only [Act.put, List.setIfInBounds_toArray, List.set_cons_zero, List.set_cons_succ, i64_w, i32_w]
                rfl
              refine one_ (i := 9) (N := some 68) #[true, true, true, true, true, true, true, true, true, true, false, false] rfl rfl (by kernel_rfl) (by decide) (fun K hK => ?_)
              refine goes_ Try.func37 (by kernel_rfl) rfl #[.agg #[.int .i64 (N : Int), .slice A1 ls.length c1, .slice A2 es.length c2], .int .i64 (U : Int), .slice Aw L.length cw] (by rfl) rfl rfl (by simp only [List.map_toArray, List.map_cons, List.map_nil]; rfl) ?_
              refine (thas_any (N : Int) ls es (U : Int) L _ HV2.out A1 A2 Aw c1 c2 cw _ (Kd.C_below HR1.out HVw9.out) (Kd.C_below HR2.out HVw9.out) HC10.out).mono ?_
              rintro e w10 ⟨rfl, hB⟩
              refine ⟨_, rfl, ?_⟩
              have HL10 := Aside0.mk hB
              have HV10 := Aside0.mk (below_then HV9.out HV9.out.size hB)
              clear hB
              refine hK.out _ _ ⟨later HL10.out hHeld.1, later HL10.out hHeld.2.1, later HL10.out hHeld.2.2.1, later HL10.out hHeld.2.2.2⟩ (fun hHeld => ?_)
              clear hK K
              refine norm_ (a' := ?_) ?_ ?_
              rotate_left
              · show Act.put _ (some 68) _ = _
                simp only [Act.put, List.setIfInBounds_toArray, List.set_cons_zero, List.set_cons_succ, i64_w, i32_w]
                rfl
              refine pure_ (i := 10) (N := some 12) (v := ?_) (a' := ?_) #[true, true, true, true, true, true, true, true, true, true, true, false] rfl rfl (by kernel_rfl) (fun _ _ _ h => h) (Or.inl ⟨by rfl, ?_⟩) ?_ ?_
              rotate_left
              · intro w'
                go_simp
                with_reducible rfl
              rotate_left
              · simp only [Act.put, List.setIfInBounds_toArray, List.set_cons_zero, List.set_cons_succ, i64_w, i32_w]
                rfl
              refine pure_ (i := 11) (N := some 13) (v := ?_) (a' := ?_) #[true, true, true, true, true, true, true, true, true, true, true, true] rfl rfl (by kernel_rfl) (fun _ _ _ h => h) (Or.inl ⟨by rfl, ?_⟩) ?_ ?_
              rotate_left
              · intro w'
                go_simp
                with_reducible rfl
              rotate_left
              · simp only [Act.put, List.setIfInBounds_toArray, List.set_cons_zero, List.set_cons_succ, i64_w, i32_w]
                rfl
              refine done_ (by kernel_rfl) ?_
              have HX11 := Aside0.mk (HX8.out.below HV10.out)
              have HB11 := Aside0.mk (below_then HB8.out HB8.out.size HV10.out)
              have HC11 := Aside0.mk (Kd.C_below HC8.out HV10.out)
              have HW11 := Aside0.mk (HW8.out.below HV10.out)
              have b3 := HW11.out.c0
              have b4 := HW11.out.c1
              have b5 := HX11.out.c1
              clear HX8 HB8 HC8 HW8 HV HVw HV9 HVw9 HV10 HL9 HL10 HC9 HC10
              go_wp2_with fail
              clear b3 b4 b5
              refine (tahead_any ls ws L false HAh.out A1 A3 Aw c1 c3 cw w10 (Kd.C_below HR1.out HB11.out) (Kd.C_below HR3.out HB11.out) HC11.out).mono ?_
              rintro e w12 ⟨rfl, hD⟩
              have HB12 := Aside0.mk (below_then HB11.out HB11.out.size hD.below)
              clear hD
              go_wp2_with fail
              refine (awake40 _).mono ?_
              rintro e w3 ⟨rfl, hB⟩
              have HB3 := Aside0.mk (below_then HB12.out HB12.out.size hB)
              clear hB
              go_wp2
              go_ret
              exact ⟨rfl, HB3.out⟩
            · skip
              clear HOw
              clear b3
              refine start_ (n := 10) (S := fun w' => w'.cell? ⟨w.heap.size, 0, none⟩ = some (.int .i64 (N : Int)) ∧ w'.cell? ⟨w.heap.size, 1, none⟩ = some (.slice A1 ls.length c1) ∧ w'.cell? ⟨w.heap.size, 2, none⟩ = some (.slice A2 es.length c2)) (ds := []) #[false, false, false, false, false, false, false, false, false, false] (by kernel_rfl) rfl rfl ⟨HX5.out.c0, HX5.out.c1, HX5.out.c2⟩ (fun hHeld => ?_)
              have HV := Aside0.mk (below_drew1 (Below.refl W5.heap.size W5))
              generalize W5.drew = V at HV hHeld ⊢
              have HVw := Aside0.mk (below_then HB5.out HB5.out.size HV.out)
              refine pure_ (i := 1) (N := some 43) (v := ?_) (a' := ?_) #[false, true, false, false, false, false, false, false, false, false] rfl rfl (by kernel_rfl) (fun _ _ _ h => h) (Or.inl ⟨by rfl, ?_⟩) ?_ ?_
              rotate_left
              · intro w'
                go_simp
                with_reducible rfl
              rotate_left
              · simp only [Act.put, List.setIfInBounds_toArray, List.set_cons_zero, List.set_cons_succ, i64_w, i32_w]
                rfl
              refine pure_ (i := 2) (N := some 44) (v := ?_) (a' := ?_) #[false, true, true, false, false, false, false, false, false, false] rfl rfl (by kernel_rfl) (fun _ _ _ h => h) (Or.inl ⟨by rfl, ?_⟩) ?_ ?_
              rotate_left
              · intro w'
                go_simp
                with_reducible rfl
              rotate_left
              · simp only [Act.put, List.setIfInBounds_toArray, List.set_cons_zero, List.set_cons_succ, i64_w, i32_w]
                rfl
              refine pure_ (i := 5) (N := some 47) (v := ?_) (a' := ?_) #[false, true, true, false, false, true, false, false, false, false] rfl rfl (by kernel_rfl) (fun _ _ _ h => h) (Or.inl ⟨by rfl, ?_⟩) ?_ ?_
              rotate_left
              · intro w'
                go_simp
                with_reducible rfl
              rotate_left
              · simp only [Act.put, List.setIfInBounds_toArray, List.set_cons_zero, List.set_cons_succ, i64_w, i32_w]
                rfl
              refine pure_ (i := 6) (N := some 48) (v := ?_) (a' := ?_) #[false, true, true, false, false, true, true, false, false, false] rfl rfl (by kernel_rfl) (fun _ _ _ h => h) (Or.inl ⟨by rfl, ?_⟩) ?_ ?_
              rotate_left
              · intro w'
                go_simp
                with_reducible rfl
              rotate_left
              · simp only [Act.put, List.setIfInBounds_toArray, List.set_cons_zero, List.set_cons_succ, i64_w, i32_w]
                rfl
              refine take_ (i := 0) (N := some 42) (v := ?_) (a' := ?_) #[true, true, true, false, false, true, true, false, false, false] rfl rfl (by kernel_rfl) (fun _ _ _ h => h) (Or.inl ⟨by rfl, ?_⟩) hHeld ?_ ?_
              rotate_left
              · rintro w' ⟨s0, s1, s2⟩
                go_simp
                with_reducible rfl
              rotate_left
              · simp only [Act.put, List.setIfInBounds_toArray, List.set_cons_zero, List.set_cons_succ, i64_w, i32_w]
                rfl
              refine take_ (i := 4) (N := some 46) (v := ?_) (a' := ?_) #[true, true, true, false, true, true, true, false, false, false] rfl rfl (by kernel_rfl) (fun _ _ _ h => h) (Or.inl ⟨by rfl, ?_⟩) hHeld ?_ ?_
              rotate_left
              · rintro w' ⟨s0, s1, s2⟩
                go_simp
                with_reducible rfl
              rotate_left
              · simp only [Act.put, List.setIfInBounds_toArray, List.set_cons_zero, List.set_cons_succ, i64_w, i32_w]
                rfl
              refine one_ (i := 3) (N := some 45) #[true, true, true, true, true, true, true, false, false, false] rfl rfl (by kernel_rfl) (by decide) (fun K hK => ?_)
              refine goes_ Try.func37 (by kernel_rfl) rfl #[.agg #[.int .i64 (N : Int), .slice A1 ls.length c1, .slice A2 es.length c2], .int .i64 (S : Int), .slice A3 ws.length c3] (by rfl) rfl rfl (by simp only [List.map_toArray, List.map_cons, List.map_nil]; rfl) ?_
              refine (HH1.out _ HVw.out).mono ?_
              rintro e w6 ⟨rfl, hB⟩
              refine ⟨_, rfl, ?_⟩
              have HL6 := Aside0.mk hB
              have HV6 := Aside0.mk (below_then HV.out HV.out.size hB)
              have HVw6 := Aside0.mk (below_then HVw.out HVw.out.size hB)
              clear hB
              refine hK.out _ _ ⟨later HL6.out hHeld.1, later HL6.out hHeld.2.1, later HL6.out hHeld.2.2⟩ (fun hHeld => ?_)
              clear hK K
              refine norm_ (a' := ?_) ?_ ?_
              rotate_left
              · show Act.put _ (some 45) _ = _
                simp only [Act.put, List.setIfInBounds_toArray, List.set_cons_zero, List.set_cons_succ, i64_w, i32_w]
                rfl
              refine one_ (i := 7) (N := some 49) #[true, true, true, true, true, true, true, true, false, false] rfl rfl (by kernel_rfl) (by decide) (fun K hK => ?_)
              refine goes_ Try.func37 (by kernel_rfl) rfl #[.agg #[.int .i64 (N : Int), .slice A1 ls.length c1, .slice A2 es.length c2], .int .i64 (U : Int), .slice A3 ws.length c3] (by rfl) rfl rfl (by simp only [List.map_toArray, List.map_cons, List.map_nil]; rfl) ?_
              refine (HH2.out _ HVw6.out).mono ?_
              rintro e w7 ⟨rfl, hB⟩
              refine ⟨_, rfl, ?_⟩
              have HL7 := Aside0.mk hB
              have HV7 := Aside0.mk (below_then HV6.out HV6.out.size hB)
              clear hB
              refine hK.out _ _ ⟨later HL7.out hHeld.1, later HL7.out hHeld.2.1, later HL7.out hHeld.2.2⟩ (fun hHeld => ?_)
              clear hK K
              refine norm_ (a' := ?_) ?_ ?_
              rotate_left
              · show Act.put _ (some 49) _ = _
                simp only [Act.put, List.setIfInBounds_toArray, List.set_cons_zero, List.set_cons_succ, i64_w, i32_w]
                rfl
              refine pure_ (i := 8) (N := some 50) (v := ?_) (a' := ?_) #[true, true, true, true, true, true, true, true, true, false] rfl rfl (by kernel_rfl) (fun _ _ _ h => h) (Or.inl ⟨by rfl, ?_⟩) ?_ ?_
              rotate_left
              · intro w'
                go_simp
                with_reducible rfl
              rotate_left
              · simp only [Act.put, List.setIfInBounds_toArray, List.set_cons_zero, List.set_cons_succ, i64_w, i32_w]
                rfl
              refine pure_ (i := 9) (N := some 11) (v := ?_) (a' := ?_) #[true, true, true, true, true, true, true, true, true, true] rfl rfl (by kernel_rfl) (fun _ _ _ h => h) (Or.inl ⟨by rfl, ?_⟩) ?_ ?_
              rotate_left
              · intro w'
                go_simp
                with_reducible rfl
              rotate_left
              · simp only [Act.put, List.setIfInBounds_toArray, List.set_cons_zero, List.set_cons_succ, i64_w, i32_w]
                rfl
              refine done_ (by kernel_rfl) ?_
              have HX8 := Aside0.mk (HX5.out.below HV7.out)
              have HB8 := Aside0.mk (below_then HB5.out HB5.out.size HV7.out)
              have HC8 := Aside0.mk (Kd.C_below HC5.out HV7.out)
              have HW8 := Aside0.mk (HW5.out.below HV7.out)
              have b3 := HW8.out.c0
              clear HX5 HB5 HC5 HW5 HV HVw HV6 HVw6 HV7 HL6 HL7
              go_wp2_with fail
              clear b3
              refine start_ (n := 12) (S := fun w' => w'.cell? ⟨w.heap.size, 0, none⟩ = some (.int .i64 (N : Int)) ∧ w'.cell? ⟨w.heap.size, 1, none⟩ = some (.slice A1 ls.length c1) ∧ w'.cell? ⟨w.heap.size, 2, none⟩ = some (.slice A2 es.length c2) ∧ w'.cell? ⟨w4.heap.size, 1, none⟩ = some (.slice Aw L.length cw)) (ds := []) #[false, false, false, false, false, false, false, false, false, false, false, false] (by kernel_rfl) rfl rfl ⟨HX8.out.c0, HX8.out.c1, HX8.out.c2, HW8.out.c1⟩ (fun hHeld => ?_)
              have HV := Aside0.mk (below_drew1 (Below.refl w7.heap.size w7))
              generalize w7.drew = V2 at HV hHeld ⊢
              have HVw := Aside0.mk (below_then HB8.out HB8.out.size HV.out)
              have HC9 := Aside0.mk (Kd.C_below HC8.out HV.out)
              refine pure_ (i := 1) (N := some 60) (v := ?_) (a' := ?_) #[false, true, false, false, false, false, false, false, false, false, false, false] rfl rfl (by kernel_rfl) (fun _ _ _ h => h) (Or.inl ⟨by rfl, ?_⟩) ?_ ?_
              rotate_left
              · intro w'
                go_simp
                with_reducible rfl
              rotate_left
              · simp only [Act.put, List.setIfInBounds_toArray, List.set_cons_zero, List.set_cons_succ, i64_w, i32_w]
                rfl
              refine pure_ (i := 2) (N := some 61) (v := ?_) (a' := ?_) #[false, true, true, false, false, false, false, false, false, false, false, false] rfl rfl (by kernel_rfl) (fun _ _ _ h => h) (Or.inl ⟨by rfl, ?_⟩) ?_ ?_
              rotate_left
              · intro w'
                go_simp
                with_reducible rfl
              rotate_left
              · simp only [Act.put, List.setIfInBounds_toArray, List.set_cons_zero, List.set_cons_succ, i64_w, i32_w]
                rfl
              refine pure_ (i := 6) (N := some 65) (v := ?_) (a' := ?_) #[false, true, true, false, false, false, true, false, false, false, false, false] rfl rfl (by kernel_rfl) (fun _ _ _ h => h) (Or.inl ⟨by rfl, ?_⟩) ?_ ?_
              rotate_left
              · intro w'
                go_simp
                with_reducible rfl
              rotate_left
              · simp only [Act.put, List.setIfInBounds_toArray, List.set_cons_zero, List.set_cons_succ, i64_w, i32_w]
                rfl
              refine pure_ (i := 7) (N := some 66) (v := ?_) (a' := ?_) #[false, true, true, false, false, false, true, true, false, false, false, false] rfl rfl (by kernel_rfl) (fun _ _ _ h => h) (Or.inl ⟨by rfl, ?_⟩) ?_ ?_
              rotate_left
              · intro w'
                go_simp
                with_reducible rfl
              rotate_left
              · simp only [Act.put, List.setIfInBounds_toArray, List.set_cons_zero, List.set_cons_succ, i64_w, i32_w]
                rfl
              refine take_ (i := 0) (N := some 59) (v := ?_) (a' := ?_) #[true, true, true, false, false, false, true, true, false, false, false, false] rfl rfl (by kernel_rfl) (fun _ _ _ h => h) (Or.inl ⟨by rfl, ?_⟩) hHeld ?_ ?_
              rotate_left
              · rintro w' ⟨s0, s1, s2, s3⟩
                go_simp
                with_reducible rfl
              rotate_left
              · simp only [Act.put, List.setIfInBounds_toArray, List.set_cons_zero, List.set_cons_succ, i64_w, i32_w]
                rfl
              refine take_ (i := 3) (N := some 62) (v := ?_) (a' := ?_) #[true, true, true, true, false, false, true, true, false, false, false, false] rfl rfl (by kernel_rfl) (fun _ _ _ h => h) (Or.inl ⟨by rfl, ?_⟩) hHeld ?_ ?_
              rotate_left
              · rintro w' ⟨s0, s1, s2, s3⟩
                go_simp
                with_reducible rfl
              rotate_left
              · simp only [Act.put, List.setIfInBounds_toArray, List.set_cons_zero, List.set_cons_succ, i64_w, i32_w]
                rfl
              refine take_ (i := 5) (N := some 64) (v := ?_) (a' := ?_) #[true, true, true, true, false, true, true, true, false, false, false, false] rfl rfl (by kernel_rfl) (fun _ _ _ h => h) (Or.inl ⟨by rfl, ?_⟩) hHeld ?_ ?_
              rotate_left
              · rintro w' ⟨s0, s1, s2, s3⟩
                go_simp
                with_reducible rfl
              rotate_left
              · simp only [Act.put, List.setIfInBounds_toArray, List.set_cons_zero, List.set_cons_succ, i64_w, i32_w]
                rfl
              refine take_ (i := 8) (N := some 67) (v := ?_) (a' := ?_) #[true, true, true, true, false, true, true, true, true, false, false, false] rfl rfl (by kernel_rfl) (fun _ _ _ h => h) (Or.inl ⟨by rfl, ?_⟩) hHeld ?_ ?_
              rotate_left
              · rintro w' ⟨s0, s1, s2, s3⟩
                go_simp
                with_reducible rfl
              rotate_left
              · simp only [Act.put, List.setIfInBounds_toArray, List.set_cons_zero, List.set_cons_succ, i64_w, i32_w]
                rfl
              refine one_ (i := 4) (N := some 63) #[true, true, true, true, true, true, true, true, true, false, false, false] rfl rfl (by kernel_rfl) (by decide) (fun K hK => ?_)
              refine goes_ Try.func37 (by kernel_rfl) rfl #[.agg #[.int .i64 (N : Int), .slice A1 ls.length c1, .slice A2 es.length c2], .int .i64 (S : Int), .slice Aw L.length cw] (by rfl) rfl rfl (by simp only [List.map_toArray, List.map_cons, List.map_nil]; rfl) ?_
              refine (thas_any (N : Int) ls es (S : Int) L _ HV1.out A1 A2 Aw c1 c2 cw _ (Kd.C_below HR1.out HVw.out) (Kd.C_below HR2.out HVw.out) HC9.out).mono ?_
              rintro e w9 ⟨rfl, hB⟩
              refine ⟨_, rfl, ?_⟩
              have HL9 := Aside0.mk hB
              have HV9 := Aside0.mk (below_then HV.out HV.out.size hB)
              have HVw9 := Aside0.mk (below_then HVw.out HVw.out.size hB)
              have HC10 := Aside0.mk (Kd.C_below HC9.out hB)
              clear hB
              refine hK.out _ _ ⟨later HL9.out hHeld.1, later HL9.out hHeld.2.1, later HL9.out hHeld.2.2.1, later HL9.out hHeld.2.2.2⟩ (fun hHeld => ?_)
              clear hK K
              refine norm_ (a' := ?_) ?_ ?_
              rotate_left
              · show Act.put _ (some 63) _ = _
                simp only [Act.put, List.setIfInBounds_toArray, List.set_cons_zero, List.set_cons_succ, i64_w, i32_w]
                rfl
              refine one_ (i := 9) (N := some 68) #[true, true, true, true, true, true, true, true, true, true, false, false] rfl rfl (by kernel_rfl) (by decide) (fun K hK => ?_)
              refine goes_ Try.func37 (by kernel_rfl) rfl #[.agg #[.int .i64 (N : Int), .slice A1 ls.length c1, .slice A2 es.length c2], .int .i64 (U : Int), .slice Aw L.length cw] (by rfl) rfl rfl (by simp only [List.map_toArray, List.map_cons, List.map_nil]; rfl) ?_
              refine (thas_any (N : Int) ls es (U : Int) L _ HV2.out A1 A2 Aw c1 c2 cw _ (Kd.C_below HR1.out HVw9.out) (Kd.C_below HR2.out HVw9.out) HC10.out).mono ?_
              rintro e w10 ⟨rfl, hB⟩
              refine ⟨_, rfl, ?_⟩
              have HL10 := Aside0.mk hB
              have HV10 := Aside0.mk (below_then HV9.out HV9.out.size hB)
              clear hB
              refine hK.out _ _ ⟨later HL10.out hHeld.1, later HL10.out hHeld.2.1, later HL10.out hHeld.2.2.1, later HL10.out hHeld.2.2.2⟩ (fun hHeld => ?_)
              clear hK K
              refine norm_ (a' := ?_) ?_ ?_
              rotate_left
              · show Act.put _ (some 68) _ = _
                simp only [Act.put, List.setIfInBounds_toArray, List.set_cons_zero, List.set_cons_succ, i64_w, i32_w]
                rfl
              refine pure_ (i := 10) (N := some 12) (v := ?_) (a' := ?_) #[true, true, true, true, true, true, true, true, true, true, true, false] rfl rfl (by kernel_rfl) (fun _ _ _ h => h) (Or.inl ⟨by rfl, ?_⟩) ?_ ?_
              rotate_left
              · intro w'
                go_simp
                with_reducible rfl
              rotate_left
              · simp only [Act.put, List.setIfInBounds_toArray, List.set_cons_zero, List.set_cons_succ, i64_w, i32_w]
                rfl
              refine pure_ (i := 11) (N := some 13) (v := ?_) (a' := ?_) #[true, true, true, true, true, true, true, true, true, true, true, true] rfl rfl (by kernel_rfl) (fun _ _ _ h => h) (Or.inl ⟨by rfl, ?_⟩) ?_ ?_
              rotate_left
              · intro w'
                go_simp
                with_reducible rfl
              rotate_left
              · simp only [Act.put, List.setIfInBounds_toArray, List.set_cons_zero, List.set_cons_succ, i64_w, i32_w]
                rfl
              refine done_ (by kernel_rfl) ?_
              have HX11 := Aside0.mk (HX8.out.below HV10.out)
              have HB11 := Aside0.mk (below_then HB8.out HB8.out.size HV10.out)
              have HC11 := Aside0.mk (Kd.C_below HC8.out HV10.out)
              have HW11 := Aside0.mk (HW8.out.below HV10.out)
              have b3 := HW11.out.c0
              have b4 := HW11.out.c1
              have b5 := HX11.out.c1
              clear HX8 HB8 HC8 HW8 HV HVw HV9 HVw9 HV10 HL9 HL10 HC9 HC10
              go_wp2_with fail
              clear b3 b4 b5
              refine (awake40 _).mono ?_
              rintro e w3 ⟨rfl, hB⟩
              have HB3 := Aside0.mk (below_then HB11.out HB11.out.size hB)
              clear hB
              go_wp2
              go_ret
              exact ⟨rfl, HB3.out⟩
          · have HOf := Lib.hid HOf
            have HV1 := Aside0.mk (show hasW (N : Int) ls es (S : Int) L = false by cases h : hasW (N : Int) ls es (S : Int) L with | false => rfl | true => exact absurd hX ((hasW_iff hm S hs L).1 h))
            have HV2 := Aside0.mk (show hasW (N : Int) ls es (U : Int) L = true from (hasW_iff hm U ht L).2 hY)
            have HOw := Aside0.mk (show (h1 != h2) = true → slt (keyW ls ws) (keyW ls L) = false from fun h => sle_not (hone ws (hone1 h)))
            clear hX hY hone hone1 hm hs ht
            refine (HOf.out _ HB3.out).mono ?_
            rintro e w4 ⟨vw, rfl, hR, hB⟩
            obtain ⟨Aw, cw, rfl, _, hC⟩ := Kd.R_reads hR
            have HX4 := Aside0.mk (HX3.out.below hB)
            have HB4 := Aside0.mk (below_then HB3.out HB3.out.size hB)
            have hbn := below_alloc (Below.refl w4.heap.size w4) (Obj.cells #[Value.int IntKind.i64 2, Value.slice Aw L.length cw] 54)
            have HX5 := Aside0.mk (HX4.out.below hbn)
            have HB5 := Aside0.mk (below_then HB4.out HB4.out.size hbn)
            have HC5 := Aside0.mk (Kd.C_below hC hbn)
            have HW5 := Aside0.mk (word_new w4 w4.heap.size (.int .i64 2) (.slice Aw L.length cw) rfl)
            have b3 := HW5.out.c0
            clear hR hC hB hbn HX3 HB3 HX4 HB4
            go_wp2_with fail
            generalize (w4.alloc (Obj.cells #[Value.int IntKind.i64 2, Value.slice Aw L.length cw] 54)) = W5 at HX5 HB5 HC5 HW5 b3 ⊢
            cases h1 <;> cases h2
            · skip
              clear HOw
              clear b3
              refine start_ (n := 10) (S := fun w' => w'.cell? ⟨w.heap.size, 0, none⟩ = some (.int .i64 (N : Int)) ∧ w'.cell? ⟨w.heap.size, 1, none⟩ = some (.slice A1 ls.length c1) ∧ w'.cell? ⟨w.heap.size, 2, none⟩ = some (.slice A2 es.length c2)) (ds := []) #[false, false, false, false, false, false, false, false, false, false] (by kernel_rfl) rfl rfl ⟨HX5.out.c0, HX5.out.c1, HX5.out.c2⟩ (fun hHeld => ?_)
              have HV := Aside0.mk (below_drew1 (Below.refl W5.heap.size W5))
              generalize W5.drew = V at HV hHeld ⊢
              have HVw := Aside0.mk (below_then HB5.out HB5.out.size HV.out)
              refine pure_ (i := 1) (N := some 43) (v := ?_) (a' := ?_) #[false, true, false, false, false, false, false, false, false, false] rfl rfl (by kernel_rfl) (fun _ _ _ h => h) (Or.inl ⟨by rfl, ?_⟩) ?_ ?_
              rotate_left
              · intro w'
                go_simp
                with_reducible rfl
              rotate_left
              · simp only [Act.put, List.setIfInBounds_toArray, List.set_cons_zero, List.set_cons_succ, i64_w, i32_w]
                rfl
              refine pure_ (i := 2) (N := some 44) (v := ?_) (a' := ?_) #[false, true, true, false, false, false, false, false, false, false] rfl rfl (by kernel_rfl) (fun _ _ _ h => h) (Or.inl ⟨by rfl, ?_⟩) ?_ ?_
              rotate_left
              · intro w'
                go_simp
                with_reducible rfl
              rotate_left
              · simp only [Act.put, List.setIfInBounds_toArray, List.set_cons_zero, List.set_cons_succ, i64_w, i32_w]
                rfl
              refine pure_ (i := 5) (N := some 47) (v := ?_) (a' := ?_) #[false, true, true, false, false, true, false, false, false, false] rfl rfl (by kernel_rfl) (fun _ _ _ h => h) (Or.inl ⟨by rfl, ?_⟩) ?_ ?_
              rotate_left
              · intro w'
                go_simp
                with_reducible rfl
              rotate_left
              · simp only [Act.put, List.setIfInBounds_toArray, List.set_cons_zero, List.set_cons_succ, i64_w, i32_w]
                rfl
              refine pure_ (i := 6) (N := some 48) (v := ?_) (a' := ?_) #[false, true, true, false, false, true, true, false, false, false] rfl rfl (by kernel_rfl) (fun _ _ _ h => h) (Or.inl ⟨by rfl, ?_⟩) ?_ ?_
              rotate_left
              · intro w'
                go_simp
                with_reducible rfl
              rotate_left
              · simp only [Act.put, List.setIfInBounds_toArray, List.set_cons_zero, List.set_cons_succ, i64_w, i32_w]
                rfl
              refine take_ (i := 0) (N := some 42) (v := ?_) (a' := ?_) #[true, true, true, false, false, true, true, false, false, false] rfl rfl (by kernel_rfl) (fun _ _ _ h => h) (Or.inl ⟨by rfl, ?_⟩) hHeld ?_ ?_
              rotate_left
              · rintro w' ⟨s0, s1, s2⟩
                go_simp
                with_reducible rfl
              rotate_left
              · simp only [Act.put, List.setIfInBounds_toArray, List.set_cons_zero, List.set_cons_succ, i64_w, i32_w]
                rfl
              refine take_ (i := 4) (N := some 46) (v := ?_) (a' := ?_) #[true, true, true, false, true, true, true, false, false, false] rfl rfl (by kernel_rfl) (fun _ _ _ h => h) (Or.inl ⟨by rfl, ?_⟩) hHeld ?_ ?_
              rotate_left
              · rintro w' ⟨s0, s1, s2⟩
                go_simp
                with_reducible rfl
              rotate_left
              · simp only [Act.put, List.setIfInBounds_toArray, List.set_cons_zero, List.set_cons_succ, i64_w, i32_w]
                rfl
              refine one_ (i := 3) (N := some 45) #[true, true, true, true, true, true, true, false, false, false] rfl rfl (by kernel_rfl) (by decide) (fun K hK => ?_)
              refine goes_ Try.func37 (by kernel_rfl) rfl #[.agg #[.int .i64 (N : Int), .slice A1 ls.length c1, .slice A2 es.length c2], .int .i64 (S : Int), .slice A3 ws.length c3] (by rfl) rfl rfl (by simp only [List.map_toArray, List.map_cons, List.map_nil]; rfl) ?_
              refine (HH1.out _ HVw.out).mono ?_
              rintro e w6 ⟨rfl, hB⟩
              refine ⟨_, rfl, ?_⟩
              have HL6 := Aside0.mk hB
              have HV6 := Aside0.mk (below_then HV.out HV.out.size hB)
              have HVw6 := Aside0.mk (below_then HVw.out HVw.out.size hB)
              clear hB
              refine hK.out _ _ ⟨later HL6.out hHeld.1, later HL6.out hHeld.2.1, later HL6.out hHeld.2.2⟩ (fun hHeld => ?_)
              clear hK K
              refine norm_ (a' := ?_) ?_ ?_
              rotate_left
              · show Act.put _ (some 45) _ = _
                simp only [Act.put, List.setIfInBounds_toArray, List.set_cons_zero, List.set_cons_succ, i64_w, i32_w]
                rfl
              refine one_ (i := 7) (N := some 49) #[true, true, true, true, true, true, true, true, false, false] rfl rfl (by kernel_rfl) (by decide) (fun K hK => ?_)
              refine goes_ Try.func37 (by kernel_rfl) rfl #[.agg #[.int .i64 (N : Int), .slice A1 ls.length c1, .slice A2 es.length c2], .int .i64 (U : Int), .slice A3 ws.length c3] (by rfl) rfl rfl (by simp only [List.map_toArray, List.map_cons, List.map_nil]; rfl) ?_
              refine (HH2.out _ HVw6.out).mono ?_
              rintro e w7 ⟨rfl, hB⟩
              refine ⟨_, rfl, ?_⟩
              have HL7 := Aside0.mk hB
              have HV7 := Aside0.mk (below_then HV6.out HV6.out.size hB)
              clear hB
              refine hK.out _ _ ⟨later HL7.out hHeld.1, later HL7.out hHeld.2.1, later HL7.out hHeld.2.2⟩ (fun hHeld => ?_)
              clear hK K
              refine norm_ (a' := ?_) ?_ ?_
              rotate_left
              · show Act.put _ (some 49) _ = _
                simp only [Act.put, List.setIfInBounds_toArray, List.set_cons_zero, List.set_cons_succ, i64_w, i32_w]
                rfl
              refine pure_ (i := 8) (N := some 50) (v := ?_) (a' := ?_) #[true, true, true, true, true, true, true, true, true, false] rfl rfl (by kernel_rfl) (fun _ _ _ h => h) (Or.inl ⟨by rfl, ?_⟩) ?_ ?_
              rotate_left
              · intro w'
                go_simp
                with_reducible rfl
              rotate_left
              · simp only [Act.put, List.setIfInBounds_toArray, List.set_cons_zero, List.set_cons_succ, i64_w, i32_w]
                rfl
              refine pure_ (i := 9) (N := some 11) (v := ?_) (a' := ?_) #[true, true, true, true, true, true, true, true, true, true] rfl rfl (by kernel_rfl) (fun _ _ _ h => h) (Or.inl ⟨by rfl, ?_⟩) ?_ ?_
              rotate_left
              · intro w'
                go_simp
                with_reducible rfl
              rotate_left
              · simp only [Act.put, List.setIfInBounds_toArray, List.set_cons_zero, List.set_cons_succ, i64_w, i32_w]
                rfl
              refine done_ (by kernel_rfl) ?_
              have HX8 := Aside0.mk (HX5.out.below HV7.out)
              have HB8 := Aside0.mk (below_then HB5.out HB5.out.size HV7.out)
              have HC8 := Aside0.mk (Kd.C_below HC5.out HV7.out)
              have HW8 := Aside0.mk (HW5.out.below HV7.out)
              have b3 := HW8.out.c0
              clear HX5 HB5 HC5 HW5 HV HVw HV6 HVw6 HV7 HL6 HL7
              go_wp2_with fail
              clear b3
              refine start_ (n := 12) (S := fun w' => w'.cell? ⟨w.heap.size, 0, none⟩ = some (.int .i64 (N : Int)) ∧ w'.cell? ⟨w.heap.size, 1, none⟩ = some (.slice A1 ls.length c1) ∧ w'.cell? ⟨w.heap.size, 2, none⟩ = some (.slice A2 es.length c2) ∧ w'.cell? ⟨w4.heap.size, 1, none⟩ = some (.slice Aw L.length cw)) (ds := []) #[false, false, false, false, false, false, false, false, false, false, false, false] (by kernel_rfl) rfl rfl ⟨HX8.out.c0, HX8.out.c1, HX8.out.c2, HW8.out.c1⟩ (fun hHeld => ?_)
              have HV := Aside0.mk (below_drew1 (Below.refl w7.heap.size w7))
              generalize w7.drew = V2 at HV hHeld ⊢
              have HVw := Aside0.mk (below_then HB8.out HB8.out.size HV.out)
              have HC9 := Aside0.mk (Kd.C_below HC8.out HV.out)
              refine pure_ (i := 1) (N := some 60) (v := ?_) (a' := ?_) #[false, true, false, false, false, false, false, false, false, false, false, false] rfl rfl (by kernel_rfl) (fun _ _ _ h => h) (Or.inl ⟨by rfl, ?_⟩) ?_ ?_
              rotate_left
              · intro w'
                go_simp
                with_reducible rfl
              rotate_left
              · simp only [Act.put, List.setIfInBounds_toArray, List.set_cons_zero, List.set_cons_succ, i64_w, i32_w]
                rfl
              refine pure_ (i := 2) (N := some 61) (v := ?_) (a' := ?_) #[false, true, true, false, false, false, false, false, false, false, false, false] rfl rfl (by kernel_rfl) (fun _ _ _ h => h) (Or.inl ⟨by rfl, ?_⟩) ?_ ?_
              rotate_left
              · intro w'
                go_simp
                with_reducible rfl
              rotate_left
              · simp only [Act.put, List.setIfInBounds_toArray, List.set_cons_zero, List.set_cons_succ, i64_w, i32_w]
                rfl
              refine pure_ (i := 6) (N := some 65) (v := ?_) (a' := ?_) #[false, true, true, false, false, false, true, false, false, false, false, false] rfl rfl (by kernel_rfl) (fun _ _ _ h => h) (Or.inl ⟨by rfl, ?_⟩) ?_ ?_
              rotate_left
              · intro w'
                go_simp
                with_reducible rfl
              rotate_left
              · simp only [Act.put, List.setIfInBounds_toArray, List.set_cons_zero, List.set_cons_succ, i64_w, i32_w]
                rfl
              refine pure_ (i := 7) (N := some 66) (v := ?_) (a' := ?_) #[false, true, true, false, false, false, true, true, false, false, false, false] rfl rfl (by kernel_rfl) (fun _ _ _ h => h) (Or.inl ⟨by rfl, ?_⟩) ?_ ?_
              rotate_left
              · intro w'
                go_simp
                with_reducible rfl
              rotate_left
              · simp only [Act.put, List.setIfInBounds_toArray, List.set_cons_zero, List.set_cons_succ, i64_w, i32_w]
                rfl
              refine take_ (i := 0) (N := some 59) (v := ?_) (a' := ?_) #[true, true, true, false, false, false, true, true, false, false, false, false] rfl rfl (by kernel_rfl) (fun _ _ _ h => h) (Or.inl ⟨by rfl, ?_⟩) hHeld ?_ ?_
              rotate_left
              · rintro w' ⟨s0, s1, s2, s3⟩
                go_simp
                with_reducible rfl
              rotate_left
              · simp only [Act.put, List.setIfInBounds_toArray, List.set_cons_zero, List.set_cons_succ, i64_w, i32_w]
                rfl
              refine take_ (i := 3) (N := some 62) (v := ?_) (a' := ?_) #[true, true, true, true, false, false, true, true, false, false, false, false] rfl rfl (by kernel_rfl) (fun _ _ _ h => h) (Or.inl ⟨by rfl, ?_⟩) hHeld ?_ ?_
              rotate_left
              · rintro w' ⟨s0, s1, s2, s3⟩
                go_simp
                with_reducible rfl
              rotate_left
              · simp only [Act.put, List.setIfInBounds_toArray, List.set_cons_zero, List.set_cons_succ, i64_w, i32_w]
                rfl
              refine take_ (i := 5) (N := some 64) (v := ?_) (a' := ?_) #[true, true, true, true, false, true, true, true, false, false, false, false] rfl rfl (by kernel_rfl) (fun _ _ _ h => h) (Or.inl ⟨by rfl, ?_⟩) hHeld ?_ ?_
              rotate_left
              · rintro w' ⟨s0, s1, s2, s3⟩
                go_simp
                with_reducible rfl
              rotate_left
              · simp only [Act.put, List.setIfInBounds_toArray, List.set_cons_zero, List.set_cons_succ, i64_w, i32_w]
                rfl
              refine take_ (i := 8) (N := some 67) (v := ?_) (a' := ?_) #[true, true, true, true, false, true, true, true, true, false, false, false] rfl rfl (by kernel_rfl) (fun _ _ _ h => h) (Or.inl ⟨by rfl, ?_⟩) hHeld ?_ ?_
              rotate_left
              · rintro w' ⟨s0, s1, s2, s3⟩
                go_simp
                with_reducible rfl
              rotate_left
              · simp only [Act.put, List.setIfInBounds_toArray, List.set_cons_zero, List.set_cons_succ, i64_w, i32_w]
                rfl
              refine one_ (i := 4) (N := some 63) #[true, true, true, true, true, true, true, true, true, false, false, false] rfl rfl (by kernel_rfl) (by decide) (fun K hK => ?_)
              refine goes_ Try.func37 (by kernel_rfl) rfl #[.agg #[.int .i64 (N : Int), .slice A1 ls.length c1, .slice A2 es.length c2], .int .i64 (S : Int), .slice Aw L.length cw] (by rfl) rfl rfl (by simp only [List.map_toArray, List.map_cons, List.map_nil]; rfl) ?_
              refine (thas_any (N : Int) ls es (S : Int) L _ HV1.out A1 A2 Aw c1 c2 cw _ (Kd.C_below HR1.out HVw.out) (Kd.C_below HR2.out HVw.out) HC9.out).mono ?_
              rintro e w9 ⟨rfl, hB⟩
              refine ⟨_, rfl, ?_⟩
              have HL9 := Aside0.mk hB
              have HV9 := Aside0.mk (below_then HV.out HV.out.size hB)
              have HVw9 := Aside0.mk (below_then HVw.out HVw.out.size hB)
              have HC10 := Aside0.mk (Kd.C_below HC9.out hB)
              clear hB
              refine hK.out _ _ ⟨later HL9.out hHeld.1, later HL9.out hHeld.2.1, later HL9.out hHeld.2.2.1, later HL9.out hHeld.2.2.2⟩ (fun hHeld => ?_)
              clear hK K
              refine norm_ (a' := ?_) ?_ ?_
              rotate_left
              · show Act.put _ (some 63) _ = _
                simp only [Act.put, List.setIfInBounds_toArray, List.set_cons_zero, List.set_cons_succ, i64_w, i32_w]
                rfl
              refine one_ (i := 9) (N := some 68) #[true, true, true, true, true, true, true, true, true, true, false, false] rfl rfl (by kernel_rfl) (by decide) (fun K hK => ?_)
              refine goes_ Try.func37 (by kernel_rfl) rfl #[.agg #[.int .i64 (N : Int), .slice A1 ls.length c1, .slice A2 es.length c2], .int .i64 (U : Int), .slice Aw L.length cw] (by rfl) rfl rfl (by simp only [List.map_toArray, List.map_cons, List.map_nil]; rfl) ?_
              refine (thas_any (N : Int) ls es (U : Int) L _ HV2.out A1 A2 Aw c1 c2 cw _ (Kd.C_below HR1.out HVw9.out) (Kd.C_below HR2.out HVw9.out) HC10.out).mono ?_
              rintro e w10 ⟨rfl, hB⟩
              refine ⟨_, rfl, ?_⟩
              have HL10 := Aside0.mk hB
              have HV10 := Aside0.mk (below_then HV9.out HV9.out.size hB)
              clear hB
              refine hK.out _ _ ⟨later HL10.out hHeld.1, later HL10.out hHeld.2.1, later HL10.out hHeld.2.2.1, later HL10.out hHeld.2.2.2⟩ (fun hHeld => ?_)
              clear hK K
              refine norm_ (a' := ?_) ?_ ?_
              rotate_left
              · show Act.put _ (some 68) _ = _
                simp only [Act.put, List.setIfInBounds_toArray, List.set_cons_zero, List.set_cons_succ, i64_w, i32_w]
                rfl
              refine pure_ (i := 10) (N := some 12) (v := ?_) (a' := ?_) #[true, true, true, true, true, true, true, true, true, true, true, false] rfl rfl (by kernel_rfl) (fun _ _ _ h => h) (Or.inl ⟨by rfl, ?_⟩) ?_ ?_
              rotate_left
              · intro w'
                go_simp
                with_reducible rfl
              rotate_left
              · simp only [Act.put, List.setIfInBounds_toArray, List.set_cons_zero, List.set_cons_succ, i64_w, i32_w]
                rfl
              refine pure_ (i := 11) (N := some 13) (v := ?_) (a' := ?_) #[true, true, true, true, true, true, true, true, true, true, true, true] rfl rfl (by kernel_rfl) (fun _ _ _ h => h) (Or.inl ⟨by rfl, ?_⟩) ?_ ?_
              rotate_left
              · intro w'
                go_simp
                with_reducible rfl
              rotate_left
              · simp only [Act.put, List.setIfInBounds_toArray, List.set_cons_zero, List.set_cons_succ, i64_w, i32_w]
                rfl
              refine done_ (by kernel_rfl) ?_
              have HX11 := Aside0.mk (HX8.out.below HV10.out)
              have HB11 := Aside0.mk (below_then HB8.out HB8.out.size HV10.out)
              have HC11 := Aside0.mk (Kd.C_below HC8.out HV10.out)
              have HW11 := Aside0.mk (HW8.out.below HV10.out)
              have b3 := HW11.out.c0
              have b4 := HW11.out.c1
              have b5 := HX11.out.c1
              clear HX8 HB8 HC8 HW8 HV HVw HV9 HVw9 HV10 HL9 HL10 HC9 HC10
              go_wp2_with fail
              clear b3 b4 b5
              refine (awake40 _).mono ?_
              rintro e w3 ⟨rfl, hB⟩
              have HB3 := Aside0.mk (below_then HB11.out HB11.out.size hB)
              clear hB
              go_wp2
              go_ret
              exact ⟨rfl, HB3.out⟩
            · skip
              have HAh := Aside0.mk (HOw.out rfl)
              clear HOw
              clear b3
              refine start_ (n := 10) (S := fun w' => w'.cell? ⟨w.heap.size, 0, none⟩ = some (.int .i64 (N : Int)) ∧ w'.cell? ⟨w.heap.size, 1, none⟩ = some (.slice A1 ls.length c1) ∧ w'.cell? ⟨w.heap.size, 2, none⟩ = some (.slice A2 es.length c2)) (ds := []) #[false, false, false, false, false, false, false, false, false, false] (by kernel_rfl) rfl rfl ⟨HX5.out.c0, HX5.out.c1, HX5.out.c2⟩ (fun hHeld => ?_)
              have HV := Aside0.mk (below_drew1 (Below.refl W5.heap.size W5))
              generalize W5.drew = V at HV hHeld ⊢
              have HVw := Aside0.mk (below_then HB5.out HB5.out.size HV.out)
              refine pure_ (i := 1) (N := some 43) (v := ?_) (a' := ?_) #[false, true, false, false, false, false, false, false, false, false] rfl rfl (by kernel_rfl) (fun _ _ _ h => h) (Or.inl ⟨by rfl, ?_⟩) ?_ ?_
              rotate_left
              · intro w'
                go_simp
                with_reducible rfl
              rotate_left
              · simp only [Act.put, List.setIfInBounds_toArray, List.set_cons_zero, List.set_cons_succ, i64_w, i32_w]
                rfl
              refine pure_ (i := 2) (N := some 44) (v := ?_) (a' := ?_) #[false, true, true, false, false, false, false, false, false, false] rfl rfl (by kernel_rfl) (fun _ _ _ h => h) (Or.inl ⟨by rfl, ?_⟩) ?_ ?_
              rotate_left
              · intro w'
                go_simp
                with_reducible rfl
              rotate_left
              · simp only [Act.put, List.setIfInBounds_toArray, List.set_cons_zero, List.set_cons_succ, i64_w, i32_w]
                rfl
              refine pure_ (i := 5) (N := some 47) (v := ?_) (a' := ?_) #[false, true, true, false, false, true, false, false, false, false] rfl rfl (by kernel_rfl) (fun _ _ _ h => h) (Or.inl ⟨by rfl, ?_⟩) ?_ ?_
              rotate_left
              · intro w'
                go_simp
                with_reducible rfl
              rotate_left
              · simp only [Act.put, List.setIfInBounds_toArray, List.set_cons_zero, List.set_cons_succ, i64_w, i32_w]
                rfl
              refine pure_ (i := 6) (N := some 48) (v := ?_) (a' := ?_) #[false, true, true, false, false, true, true, false, false, false] rfl rfl (by kernel_rfl) (fun _ _ _ h => h) (Or.inl ⟨by rfl, ?_⟩) ?_ ?_
              rotate_left
              · intro w'
                go_simp
                with_reducible rfl
              rotate_left
              · simp only [Act.put, List.setIfInBounds_toArray, List.set_cons_zero, List.set_cons_succ, i64_w, i32_w]
                rfl
              refine take_ (i := 0) (N := some 42) (v := ?_) (a' := ?_) #[true, true, true, false, false, true, true, false, false, false] rfl rfl (by kernel_rfl) (fun _ _ _ h => h) (Or.inl ⟨by rfl, ?_⟩) hHeld ?_ ?_
              rotate_left
              · rintro w' ⟨s0, s1, s2⟩
                go_simp
                with_reducible rfl
              rotate_left
              · simp only [Act.put, List.setIfInBounds_toArray, List.set_cons_zero, List.set_cons_succ, i64_w, i32_w]
                rfl
              refine take_ (i := 4) (N := some 46) (v := ?_) (a' := ?_) #[true, true, true, false, true, true, true, false, false, false] rfl rfl (by kernel_rfl) (fun _ _ _ h => h) (Or.inl ⟨by rfl, ?_⟩) hHeld ?_ ?_
              rotate_left
              · rintro w' ⟨s0, s1, s2⟩
                go_simp
                with_reducible rfl
              rotate_left
              · simp only [Act.put, List.setIfInBounds_toArray, List.set_cons_zero, List.set_cons_succ, i64_w, i32_w]
                rfl
              refine one_ (i := 3) (N := some 45) #[true, true, true, true, true, true, true, false, false, false] rfl rfl (by kernel_rfl) (by decide) (fun K hK => ?_)
              refine goes_ Try.func37 (by kernel_rfl) rfl #[.agg #[.int .i64 (N : Int), .slice A1 ls.length c1, .slice A2 es.length c2], .int .i64 (S : Int), .slice A3 ws.length c3] (by rfl) rfl rfl (by simp only [List.map_toArray, List.map_cons, List.map_nil]; rfl) ?_
              refine (HH1.out _ HVw.out).mono ?_
              rintro e w6 ⟨rfl, hB⟩
              refine ⟨_, rfl, ?_⟩
              have HL6 := Aside0.mk hB
              have HV6 := Aside0.mk (below_then HV.out HV.out.size hB)
              have HVw6 := Aside0.mk (below_then HVw.out HVw.out.size hB)
              clear hB
              refine hK.out _ _ ⟨later HL6.out hHeld.1, later HL6.out hHeld.2.1, later HL6.out hHeld.2.2⟩ (fun hHeld => ?_)
              clear hK K
              refine norm_ (a' := ?_) ?_ ?_
              rotate_left
              · show Act.put _ (some 45) _ = _
                simp only [Act.put, List.setIfInBounds_toArray, List.set_cons_zero, List.set_cons_succ, i64_w, i32_w]
                rfl
              refine one_ (i := 7) (N := some 49) #[true, true, true, true, true, true, true, true, false, false] rfl rfl (by kernel_rfl) (by decide) (fun K hK => ?_)
              refine goes_ Try.func37 (by kernel_rfl) rfl #[.agg #[.int .i64 (N : Int), .slice A1 ls.length c1, .slice A2 es.length c2], .int .i64 (U : Int), .slice A3 ws.length c3] (by rfl) rfl rfl (by simp only [List.map_toArray, List.map_cons, List.map_nil]; rfl) ?_
              refine (HH2.out _ HVw6.out).mono ?_
              rintro e w7 ⟨rfl, hB⟩
              refine ⟨_, rfl, ?_⟩
              have HL7 := Aside0.mk hB
              have HV7 := Aside0.mk (below_then HV6.out HV6.out.size hB)
              clear hB
              refine hK.out _ _ ⟨later HL7.out hHeld.1, later HL7.out hHeld.2.1, later HL7.out hHeld.2.2⟩ (fun hHeld => ?_)
              clear hK K
              refine norm_ (a' := ?_) ?_ ?_
              rotate_left
              · show Act.put _ (some 49) _ = _
                simp only [Act.put, List.setIfInBounds_toArray, List.set_cons_zero, List.set_cons_succ, i64_w, i32_w]
                rfl
              refine pure_ (i := 8) (N := some 50) (v := ?_) (a' := ?_) #[true, true, true, true, true, true, true, true, true, false] rfl rfl (by kernel_rfl) (fun _ _ _ h => h) (Or.inl ⟨by rfl, ?_⟩) ?_ ?_
              rotate_left
              · intro w'
                go_simp
                with_reducible rfl
              rotate_left
              · simp only [Act.put, List.setIfInBounds_toArray, List.set_cons_zero, List.set_cons_succ, i64_w, i32_w]
                rfl
              refine pure_ (i := 9) (N := some 11) (v := ?_) (a' := ?_) #[true, true, true, true, true, true, true, true, true, true] rfl rfl (by kernel_rfl) (fun _ _ _ h => h) (Or.inl ⟨by rfl, ?_⟩) ?_ ?_
              rotate_left
              · intro w'
                go_simp
                with_reducible rfl
              rotate_left
              · simp only [Act.put, List.setIfInBounds_toArray, List.set_cons_zero, List.set_cons_succ, i64_w, i32_w]
                rfl
              refine done_ (by kernel_rfl) ?_
              have HX8 := Aside0.mk (HX5.out.below HV7.out)
              have HB8 := Aside0.mk (below_then HB5.out HB5.out.size HV7.out)
              have HC8 := Aside0.mk (Kd.C_below HC5.out HV7.out)
              have HW8 := Aside0.mk (HW5.out.below HV7.out)
              have b3 := HW8.out.c0
              clear HX5 HB5 HC5 HW5 HV HVw HV6 HVw6 HV7 HL6 HL7
              go_wp2_with fail
              clear b3
              refine start_ (n := 12) (S := fun w' => w'.cell? ⟨w.heap.size, 0, none⟩ = some (.int .i64 (N : Int)) ∧ w'.cell? ⟨w.heap.size, 1, none⟩ = some (.slice A1 ls.length c1) ∧ w'.cell? ⟨w.heap.size, 2, none⟩ = some (.slice A2 es.length c2) ∧ w'.cell? ⟨w4.heap.size, 1, none⟩ = some (.slice Aw L.length cw)) (ds := []) #[false, false, false, false, false, false, false, false, false, false, false, false] (by kernel_rfl) rfl rfl ⟨HX8.out.c0, HX8.out.c1, HX8.out.c2, HW8.out.c1⟩ (fun hHeld => ?_)
              have HV := Aside0.mk (below_drew1 (Below.refl w7.heap.size w7))
              generalize w7.drew = V2 at HV hHeld ⊢
              have HVw := Aside0.mk (below_then HB8.out HB8.out.size HV.out)
              have HC9 := Aside0.mk (Kd.C_below HC8.out HV.out)
              refine pure_ (i := 1) (N := some 60) (v := ?_) (a' := ?_) #[false, true, false, false, false, false, false, false, false, false, false, false] rfl rfl (by kernel_rfl) (fun _ _ _ h => h) (Or.inl ⟨by rfl, ?_⟩) ?_ ?_
              rotate_left
              · intro w'
                go_simp
                with_reducible rfl
              rotate_left
              · simp only [Act.put, List.setIfInBounds_toArray, List.set_cons_zero, List.set_cons_succ, i64_w, i32_w]
                rfl
              refine pure_ (i := 2) (N := some 61) (v := ?_) (a' := ?_) #[false, true, true, false, false, false, false, false, false, false, false, false] rfl rfl (by kernel_rfl) (fun _ _ _ h => h) (Or.inl ⟨by rfl, ?_⟩) ?_ ?_
              rotate_left
              · intro w'
                go_simp
                with_reducible rfl
              rotate_left
              · simp only [Act.put, List.setIfInBounds_toArray, List.set_cons_zero, List.set_cons_succ, i64_w, i32_w]
                rfl
              refine pure_ (i := 6) (N := some 65) (v := ?_) (a' := ?_) #[false, true, true, false, false, false, true, false, false, false, false, false] rfl rfl (by kernel_rfl) (fun _ _ _ h => h) (Or.inl ⟨by rfl, ?_⟩) ?_ ?_
              rotate_left
              · intro w'
                go_simp
                with_reducible rfl
              rotate_left
              · simp only [Act.put, List.setIfInBounds_toArray, List.set_cons_zero, List.set_cons_succ, i64_w, i32_w]
                rfl
              refine pure_ (i := 7) (N := some 66) (v := ?_) (a' := ?_) #[false, true, true, false, false, false, true, true, false, false, false, false] rfl rfl (by kernel_rfl) (fun _ _ _ h => h) (Or.inl ⟨by rfl, ?_⟩) ?_ ?_
              rotate_left
              · intro w'
                go_simp
                with_reducible rfl
              rotate_left
              · simp only [Act.put, List.setIfInBounds_toArray, List.set_cons_zero, List.set_cons_succ, i64_w, i32_w]
                rfl
              refine take_ (i := 0) (N := some 59) (v := ?_) (a' := ?_) #[true, true, true, false, false, false, true, true, false, false, false, false] rfl rfl (by kernel_rfl) (fun _ _ _ h => h) (Or.inl ⟨by rfl, ?_⟩) hHeld ?_ ?_
              rotate_left
              · rintro w' ⟨s0, s1, s2, s3⟩
                go_simp
                with_reducible rfl
              rotate_left
              · simp only [Act.put, List.setIfInBounds_toArray, List.set_cons_zero, List.set_cons_succ, i64_w, i32_w]
                rfl
              refine take_ (i := 3) (N := some 62) (v := ?_) (a' := ?_) #[true, true, true, true, false, false, true, true, false, false, false, false] rfl rfl (by kernel_rfl) (fun _ _ _ h => h) (Or.inl ⟨by rfl, ?_⟩) hHeld ?_ ?_
              rotate_left
              · rintro w' ⟨s0, s1, s2, s3⟩
                go_simp
                with_reducible rfl
              rotate_left
              · simp only [Act.put, List.setIfInBounds_toArray, List.set_cons_zero, List.set_cons_succ, i64_w, i32_w]
                rfl
              refine take_ (i := 5) (N := some 64) (v := ?_) (a' := ?_) #[true, true, true, true, false, true, true, true, false, false, false, false] rfl rfl (by kernel_rfl) (fun _ _ _ h => h) (Or.inl ⟨by rfl, ?_⟩) hHeld ?_ ?_
              rotate_left
              · rintro w' ⟨s0, s1, s2, s3⟩
                go_simp
                with_reducible rfl
              rotate_left
              · simp only [Act.put, List.setIfInBounds_toArray, List.set_cons_zero, List.set_cons_succ, i64_w, i32_w]
                rfl
              refine take_ (i := 8) (N := some 67) (v := ?_) (a' := ?_) #[true, true, true, true, false, true, true, true, true, false, false, false] rfl rfl (by kernel_rfl) (fun _ _ _ h => h) (Or.inl ⟨by rfl, ?_⟩) hHeld ?_ ?_
              rotate_left
              · rintro w' ⟨s0, s1, s2, s3⟩
                go_simp
                with_reducible rfl
              rotate_left
              · simp only [Act.put, List.setIfInBounds_toArray, List.set_cons_zero, List.set_cons_succ, i64_w, i32_w]
                rfl
              refine one_ (i := 4) (N := some 63) #[true, true, true, true, true, true, true, true, true, false, false, false] rfl rfl (by kernel_rfl) (by decide) (fun K hK => ?_)
              refine goes_ Try.func37 (by kernel_rfl) rfl #[.agg #[.int .i64 (N : Int), .slice A1 ls.length c1, .slice A2 es.length c2], .int .i64 (S : Int), .slice Aw L.length cw] (by rfl) rfl rfl (by simp only [List.map_toArray, List.map_cons, List.map_nil]; rfl) ?_
              refine (thas_any (N : Int) ls es (S : Int) L _ HV1.out A1 A2 Aw c1 c2 cw _ (Kd.C_below HR1.out HVw.out) (Kd.C_below HR2.out HVw.out) HC9.out).mono ?_
              rintro e w9 ⟨rfl, hB⟩
              refine ⟨_, rfl, ?_⟩
              have HL9 := Aside0.mk hB
              have HV9 := Aside0.mk (below_then HV.out HV.out.size hB)
              have HVw9 := Aside0.mk (below_then HVw.out HVw.out.size hB)
              have HC10 := Aside0.mk (Kd.C_below HC9.out hB)
              clear hB
              refine hK.out _ _ ⟨later HL9.out hHeld.1, later HL9.out hHeld.2.1, later HL9.out hHeld.2.2.1, later HL9.out hHeld.2.2.2⟩ (fun hHeld => ?_)
              clear hK K
              refine norm_ (a' := ?_) ?_ ?_
              rotate_left
              · show Act.put _ (some 63) _ = _
                simp only [Act.put, List.setIfInBounds_toArray, List.set_cons_zero, List.set_cons_succ, i64_w, i32_w]
                rfl
              refine one_ (i := 9) (N := some 68) #[true, true, true, true, true, true, true, true, true, true, false, false] rfl rfl (by kernel_rfl) (by decide) (fun K hK => ?_)
              refine goes_ Try.func37 (by kernel_rfl) rfl #[.agg #[.int .i64 (N : Int), .slice A1 ls.length c1, .slice A2 es.length c2], .int .i64 (U : Int), .slice Aw L.length cw] (by rfl) rfl rfl (by simp only [List.map_toArray, List.map_cons, List.map_nil]; rfl) ?_
              refine (thas_any (N : Int) ls es (U : Int) L _ HV2.out A1 A2 Aw c1 c2 cw _ (Kd.C_below HR1.out HVw9.out) (Kd.C_below HR2.out HVw9.out) HC10.out).mono ?_
              rintro e w10 ⟨rfl, hB⟩
              refine ⟨_, rfl, ?_⟩
              have HL10 := Aside0.mk hB
              have HV10 := Aside0.mk (below_then HV9.out HV9.out.size hB)
              clear hB
              refine hK.out _ _ ⟨later HL10.out hHeld.1, later HL10.out hHeld.2.1, later HL10.out hHeld.2.2.1, later HL10.out hHeld.2.2.2⟩ (fun hHeld => ?_)
              clear hK K
              refine norm_ (a' := ?_) ?_ ?_
              rotate_left
              · show Act.put _ (some 68) _ = _
                simp only [Act.put, List.setIfInBounds_toArray, List.set_cons_zero, List.set_cons_succ, i64_w, i32_w]
                rfl
              refine pure_ (i := 10) (N := some 12) (v := ?_) (a' := ?_) #[true, true, true, true, true, true, true, true, true, true, true, false] rfl rfl (by kernel_rfl) (fun _ _ _ h => h) (Or.inl ⟨by rfl, ?_⟩) ?_ ?_
              rotate_left
              · intro w'
                go_simp
                with_reducible rfl
              rotate_left
              · simp only [Act.put, List.setIfInBounds_toArray, List.set_cons_zero, List.set_cons_succ, i64_w, i32_w]
                rfl
              refine pure_ (i := 11) (N := some 13) (v := ?_) (a' := ?_) #[true, true, true, true, true, true, true, true, true, true, true, true] rfl rfl (by kernel_rfl) (fun _ _ _ h => h) (Or.inl ⟨by rfl, ?_⟩) ?_ ?_
              rotate_left
              · intro w'
                go_simp
                with_reducible rfl
              rotate_left
              · simp only [Act.put, List.setIfInBounds_toArray, List.set_cons_zero, List.set_cons_succ, i64_w, i32_w]
                rfl
              refine done_ (by kernel_rfl) ?_
              have HX11 := Aside0.mk (HX8.out.below HV10.out)
              have HB11 := Aside0.mk (below_then HB8.out HB8.out.size HV10.out)
              have HC11 := Aside0.mk (Kd.C_below HC8.out HV10.out)
              have HW11 := Aside0.mk (HW8.out.below HV10.out)
              have b3 := HW11.out.c0
              have b4 := HW11.out.c1
              have b5 := HX11.out.c1
              clear HX8 HB8 HC8 HW8 HV HVw HV9 HVw9 HV10 HL9 HL10 HC9 HC10
              go_wp2_with fail
              clear b3 b4 b5
              refine (tahead_any ls ws L false HAh.out A1 A3 Aw c1 c3 cw w10 (Kd.C_below HR1.out HB11.out) (Kd.C_below HR3.out HB11.out) HC11.out).mono ?_
              rintro e w12 ⟨rfl, hD⟩
              have HB12 := Aside0.mk (below_then HB11.out HB11.out.size hD.below)
              clear hD
              go_wp2_with fail
              refine (awake40 _).mono ?_
              rintro e w3 ⟨rfl, hB⟩
              have HB3 := Aside0.mk (below_then HB12.out HB12.out.size hB)
              clear hB
              go_wp2
              go_ret
              exact ⟨rfl, HB3.out⟩
            · skip
              have HAh := Aside0.mk (HOw.out rfl)
              clear HOw
              clear b3
              refine start_ (n := 10) (S := fun w' => w'.cell? ⟨w.heap.size, 0, none⟩ = some (.int .i64 (N : Int)) ∧ w'.cell? ⟨w.heap.size, 1, none⟩ = some (.slice A1 ls.length c1) ∧ w'.cell? ⟨w.heap.size, 2, none⟩ = some (.slice A2 es.length c2)) (ds := []) #[false, false, false, false, false, false, false, false, false, false] (by kernel_rfl) rfl rfl ⟨HX5.out.c0, HX5.out.c1, HX5.out.c2⟩ (fun hHeld => ?_)
              have HV := Aside0.mk (below_drew1 (Below.refl W5.heap.size W5))
              generalize W5.drew = V at HV hHeld ⊢
              have HVw := Aside0.mk (below_then HB5.out HB5.out.size HV.out)
              refine pure_ (i := 1) (N := some 43) (v := ?_) (a' := ?_) #[false, true, false, false, false, false, false, false, false, false] rfl rfl (by kernel_rfl) (fun _ _ _ h => h) (Or.inl ⟨by rfl, ?_⟩) ?_ ?_
              rotate_left
              · intro w'
                go_simp
                with_reducible rfl
              rotate_left
              · simp only [Act.put, List.setIfInBounds_toArray, List.set_cons_zero, List.set_cons_succ, i64_w, i32_w]
                rfl
              refine pure_ (i := 2) (N := some 44) (v := ?_) (a' := ?_) #[false, true, true, false, false, false, false, false, false, false] rfl rfl (by kernel_rfl) (fun _ _ _ h => h) (Or.inl ⟨by rfl, ?_⟩) ?_ ?_
              rotate_left
              · intro w'
                go_simp
                with_reducible rfl
              rotate_left
              · simp only [Act.put, List.setIfInBounds_toArray, List.set_cons_zero, List.set_cons_succ, i64_w, i32_w]
                rfl
              refine pure_ (i := 5) (N := some 47) (v := ?_) (a' := ?_) #[false, true, true, false, false, true, false, false, false, false] rfl rfl (by kernel_rfl) (fun _ _ _ h => h) (Or.inl ⟨by rfl, ?_⟩) ?_ ?_
              rotate_left
              · intro w'
                go_simp
                with_reducible rfl
              rotate_left
              · simp only [Act.put, List.setIfInBounds_toArray, List.set_cons_zero, List.set_cons_succ, i64_w, i32_w]
                rfl
              refine pure_ (i := 6) (N := some 48) (v := ?_) (a' := ?_) #[false, true, true, false, false, true, true, false, false, false] rfl rfl (by kernel_rfl) (fun _ _ _ h => h) (Or.inl ⟨by rfl, ?_⟩) ?_ ?_
              rotate_left
              · intro w'
                go_simp
                with_reducible rfl
              rotate_left
              · simp only [Act.put, List.setIfInBounds_toArray, List.set_cons_zero, List.set_cons_succ, i64_w, i32_w]
                rfl
              refine take_ (i := 0) (N := some 42) (v := ?_) (a' := ?_) #[true, true, true, false, false, true, true, false, false, false] rfl rfl (by kernel_rfl) (fun _ _ _ h => h) (Or.inl ⟨by rfl, ?_⟩) hHeld ?_ ?_
              rotate_left
              · rintro w' ⟨s0, s1, s2⟩
                go_simp
                with_reducible rfl
              rotate_left
              · simp only [Act.put, List.setIfInBounds_toArray, List.set_cons_zero, List.set_cons_succ, i64_w, i32_w]
                rfl
              refine take_ (i := 4) (N := some 46) (v := ?_) (a' := ?_) #[true, true, true, false, true, true, true, false, false, false] rfl rfl (by kernel_rfl) (fun _ _ _ h => h) (Or.inl ⟨by rfl, ?_⟩) hHeld ?_ ?_
              rotate_left
              · rintro w' ⟨s0, s1, s2⟩
                go_simp
                with_reducible rfl
              rotate_left
              · simp only [Act.put, List.setIfInBounds_toArray, List.set_cons_zero, List.set_cons_succ, i64_w, i32_w]
                rfl
              refine one_ (i := 3) (N := some 45) #[true, true, true, true, true, true, true, false, false, false] rfl rfl (by kernel_rfl) (by decide) (fun K hK => ?_)
              refine goes_ Try.func37 (by kernel_rfl) rfl #[.agg #[.int .i64 (N : Int), .slice A1 ls.length c1, .slice A2 es.length c2], .int .i64 (S : Int), .slice A3 ws.length c3] (by rfl) rfl rfl (by simp only [List.map_toArray, List.map_cons, List.map_nil]; rfl) ?_
              refine (HH1.out _ HVw.out).mono ?_
              rintro e w6 ⟨rfl, hB⟩
              refine ⟨_, rfl, ?_⟩
              have HL6 := Aside0.mk hB
              have HV6 := Aside0.mk (below_then HV.out HV.out.size hB)
              have HVw6 := Aside0.mk (below_then HVw.out HVw.out.size hB)
              clear hB
              refine hK.out _ _ ⟨later HL6.out hHeld.1, later HL6.out hHeld.2.1, later HL6.out hHeld.2.2⟩ (fun hHeld => ?_)
              clear hK K
              refine norm_ (a' := ?_) ?_ ?_
              rotate_left
              · show Act.put _ (some 45) _ = _
                simp only [Act.put, List.setIfInBounds_toArray, List.set_cons_zero, List.set_cons_succ, i64_w, i32_w]
                rfl
              refine one_ (i := 7) (N := some 49) #[true, true, true, true, true, true, true, true, false, false] rfl rfl (by kernel_rfl) (by decide) (fun K hK => ?_)
              refine goes_ Try.func37 (by kernel_rfl) rfl #[.agg #[.int .i64 (N : Int), .slice A1 ls.length c1, .slice A2 es.length c2], .int .i64 (U : Int), .slice A3 ws.length c3] (by rfl) rfl rfl (by simp only [List.map_toArray, List.map_cons, List.map_nil]; rfl) ?_
              refine (HH2.out _ HVw6.out).mono ?_
              rintro e w7 ⟨rfl, hB⟩
              refine ⟨_, rfl, ?_⟩
              have HL7 := Aside0.mk hB
              have HV7 := Aside0.mk (below_then HV6.out HV6.out.size hB)
              clear hB
              refine hK.out _ _ ⟨later HL7.out hHeld.1, later HL7.out hHeld.2.1, later HL7.out hHeld.2.2⟩ (fun hHeld => ?_)
              clear hK K
              refine norm_ (a' := ?_) ?_ ?_
              rotate_left
              · show Act.put _ (some 49) _ = _
                simp only [Act.put, List.setIfInBounds_toArray, List.set_cons_zero, List.set_cons_succ, i64_w, i32_w]
                rfl
              refine pure_ (i := 8) (N := some 50) (v := ?_) (a' := ?_) #[true, true, true, true, true, true, true, true, true, false] rfl rfl (by kernel_rfl) (fun _ _ _ h => h) (Or.inl ⟨by rfl, ?_⟩) ?_ ?_
              rotate_left
              · intro w'
                go_simp
                with_reducible rfl
              rotate_left
              · simp only [Act.put, List.setIfInBounds_toArray, List.set_cons_zero, List.set_cons_succ, i64_w, i32_w]
                rfl
              refine pure_ (i := 9) (N := some 11) (v := ?_) (a' := ?_) #[true, true, true, true, true, true, true, true, true, true] rfl rfl (by kernel_rfl) (fun _ _ _ h => h) (Or.inl ⟨by rfl, ?_⟩) ?_ ?_
              rotate_left
              · intro w'
                go_simp
                with_reducible rfl
              rotate_left
              · simp only [Act.put, List.setIfInBounds_toArray, List.set_cons_zero, List.set_cons_succ, i64_w, i32_w]
                rfl
              refine done_ (by kernel_rfl) ?_
              have HX8 := Aside0.mk (HX5.out.below HV7.out)
              have HB8 := Aside0.mk (below_then HB5.out HB5.out.size HV7.out)
              have HC8 := Aside0.mk (Kd.C_below HC5.out HV7.out)
              have HW8 := Aside0.mk (HW5.out.below HV7.out)
              have b3 := HW8.out.c0
              clear HX5 HB5 HC5 HW5 HV HVw HV6 HVw6 HV7 HL6 HL7
              go_wp2_with fail
              clear b3
              refine start_ (n := 12) (S := fun w' => w'.cell? ⟨w.heap.size, 0, none⟩ = some (.int .i64 (N : Int)) ∧ w'.cell? ⟨w.heap.size, 1, none⟩ = some (.slice A1 ls.length c1) ∧ w'.cell? ⟨w.heap.size, 2, none⟩ = some (.slice A2 es.length c2) ∧ w'.cell? ⟨w4.heap.size, 1, none⟩ = some (.slice Aw L.length cw)) (ds := []) #[false, false, false, false, false, false, false, false, false, false, false, false] (by kernel_rfl) rfl rfl ⟨HX8.out.c0, HX8.out.c1, HX8.out.c2, HW8.out.c1⟩ (fun hHeld => ?_)
              have HV := Aside0.mk (below_drew1 (Below.refl w7.heap.size w7))
              generalize w7.drew = V2 at HV hHeld ⊢
              have HVw := Aside0.mk (below_then HB8.out HB8.out.size HV.out)
              have HC9 := Aside0.mk (Kd.C_below HC8.out HV.out)
              refine pure_ (i := 1) (N := some 60) (v := ?_) (a' := ?_) #[false, true, false, false, false, false, false, false, false, false, false, false] rfl rfl (by kernel_rfl) (fun _ _ _ h => h) (Or.inl ⟨by rfl, ?_⟩) ?_ ?_
              rotate_left
              · intro w'
                go_simp
                with_reducible rfl
              rotate_left
              · simp only [Act.put, List.setIfInBounds_toArray, List.set_cons_zero, List.set_cons_succ, i64_w, i32_w]
                rfl
              refine pure_ (i := 2) (N := some 61) (v := ?_) (a' := ?_) #[false, true, true, false, false, false, false, false, false, false, false, false] rfl rfl (by kernel_rfl) (fun _ _ _ h => h) (Or.inl ⟨by rfl, ?_⟩) ?_ ?_
              rotate_left
              · intro w'
                go_simp
                with_reducible rfl
              rotate_left
              · simp only [Act.put, List.setIfInBounds_toArray, List.set_cons_zero, List.set_cons_succ, i64_w, i32_w]
                rfl
              refine pure_ (i := 6) (N := some 65) (v := ?_) (a' := ?_) #[false, true, true, false, false, false, true, false, false, false, false, false] rfl rfl (by kernel_rfl) (fun _ _ _ h => h) (Or.inl ⟨by rfl, ?_⟩) ?_ ?_
              rotate_left
              · intro w'
                go_simp
                with_reducible rfl
              rotate_left
              · simp only [Act.put, List.setIfInBounds_toArray, List.set_cons_zero, List.set_cons_succ, i64_w, i32_w]
                rfl
              refine pure_ (i := 7) (N := some 66) (v := ?_) (a' := ?_) #[false, true, true, false, false, false, true, true, false, false, false, false] rfl rfl (by kernel_rfl) (fun _ _ _ h => h) (Or.inl ⟨by rfl, ?_⟩) ?_ ?_
              rotate_left
              · intro w'
                go_simp
                with_reducible rfl
              rotate_left
              · simp only [Act.put, List.setIfInBounds_toArray, List.set_cons_zero, List.set_cons_succ, i64_w, i32_w]
                rfl
              refine take_ (i := 0) (N := some 59) (v := ?_) (a' := ?_) #[true, true, true, false, false, false, true, true, false, false, false, false] rfl rfl (by kernel_rfl) (fun _ _ _ h => h) (Or.inl ⟨by rfl, ?_⟩) hHeld ?_ ?_
              rotate_left
              · rintro w' ⟨s0, s1, s2, s3⟩
                go_simp
                with_reducible rfl
              rotate_left
              · simp only [Act.put, List.setIfInBounds_toArray, List.set_cons_zero, List.set_cons_succ, i64_w, i32_w]
                rfl
              refine take_ (i := 3) (N := some 62) (v := ?_) (a' := ?_) #[true, true, true, true, false, false, true, true, false, false, false, false] rfl rfl (by kernel_rfl) (fun _ _ _ h => h) (Or.inl ⟨by rfl, ?_⟩) hHeld ?_ ?_
              rotate_left
              · rintro w' ⟨s0, s1, s2, s3⟩
                go_simp
                with_reducible rfl
              rotate_left
              · simp only [Act.put, List.setIfInBounds_toArray, List.set_cons_zero, List.set_cons_succ, i64_w, i32_w]
                rfl
              refine take_ (i := 5) (N := some 64) (v := ?_) (a' := ?_) #[true, true, true, true, false, true, true, true, false, false, false, false] rfl rfl (by kernel_rfl) (fun _ _ _ h => h) (Or.inl ⟨by rfl, ?_⟩) hHeld ?_ ?_
              rotate_left
              · rintro w' ⟨s0, s1, s2, s3⟩
                go_simp
                with_reducible rfl
              rotate_left
              · simp only [Act.put, List.setIfInBounds_toArray, List.set_cons_zero, List.set_cons_succ, i64_w, i32_w]
                rfl
              refine take_ (i := 8) (N := some 67) (v := ?_) (a' := ?_) #[true, true, true, true, false, true, true, true, true, false, false, false] rfl rfl (by kernel_rfl) (fun _ _ _ h => h) (Or.inl ⟨by rfl, ?_⟩) hHeld ?_ ?_
              rotate_left
              · rintro w' ⟨s0, s1, s2, s3⟩
                go_simp
                with_reducible rfl
              rotate_left
              · simp only [Act.put, List.setIfInBounds_toArray, List.set_cons_zero, List.set_cons_succ, i64_w, i32_w]
                rfl
              refine one_ (i := 4) (N := some 63) #[true, true, true, true, true, true, true, true, true, false, false, false] rfl rfl (by kernel_rfl) (by decide) (fun K hK => ?_)
              refine goes_ Try.func37 (by kernel_rfl) rfl #[.agg #[.int .i64 (N : Int), .slice A1 ls.length c1, .slice A2 es.length c2], .int .i64 (S : Int), .slice Aw L.length cw] (by rfl) rfl rfl (by simp only [List.map_toArray, List.map_cons, List.map_nil]; rfl) ?_
              refine (thas_any (N : Int) ls es (S : Int) L _ HV1.out A1 A2 Aw c1 c2 cw _ (Kd.C_below HR1.out HVw.out) (Kd.C_below HR2.out HVw.out) HC9.out).mono ?_
              rintro e w9 ⟨rfl, hB⟩
              refine ⟨_, rfl, ?_⟩
              have HL9 := Aside0.mk hB
              have HV9 := Aside0.mk (below_then HV.out HV.out.size hB)
              have HVw9 := Aside0.mk (below_then HVw.out HVw.out.size hB)
              have HC10 := Aside0.mk (Kd.C_below HC9.out hB)
              clear hB
              refine hK.out _ _ ⟨later HL9.out hHeld.1, later HL9.out hHeld.2.1, later HL9.out hHeld.2.2.1, later HL9.out hHeld.2.2.2⟩ (fun hHeld => ?_)
              clear hK K
              refine norm_ (a' := ?_) ?_ ?_
              rotate_left
              · show Act.put _ (some 63) _ = _
                simp only [Act.put, List.setIfInBounds_toArray, List.set_cons_zero, List.set_cons_succ, i64_w, i32_w]
                rfl
              refine one_ (i := 9) (N := some 68) #[true, true, true, true, true, true, true, true, true, true, false, false] rfl rfl (by kernel_rfl) (by decide) (fun K hK => ?_)
              refine goes_ Try.func37 (by kernel_rfl) rfl #[.agg #[.int .i64 (N : Int), .slice A1 ls.length c1, .slice A2 es.length c2], .int .i64 (U : Int), .slice Aw L.length cw] (by rfl) rfl rfl (by simp only [List.map_toArray, List.map_cons, List.map_nil]; rfl) ?_
              refine (thas_any (N : Int) ls es (U : Int) L _ HV2.out A1 A2 Aw c1 c2 cw _ (Kd.C_below HR1.out HVw9.out) (Kd.C_below HR2.out HVw9.out) HC10.out).mono ?_
              rintro e w10 ⟨rfl, hB⟩
              refine ⟨_, rfl, ?_⟩
              have HL10 := Aside0.mk hB
              have HV10 := Aside0.mk (below_then HV9.out HV9.out.size hB)
              clear hB
              refine hK.out _ _ ⟨later HL10.out hHeld.1, later HL10.out hHeld.2.1, later HL10.out hHeld.2.2.1, later HL10.out hHeld.2.2.2⟩ (fun hHeld => ?_)
              clear hK K
              refine norm_ (a' := ?_) ?_ ?_
              rotate_left
              · show Act.put _ (some 68) _ = _
                simp only [Act.put, List.setIfInBounds_toArray, List.set_cons_zero, List.set_cons_succ, i64_w, i32_w]
                rfl
              refine pure_ (i := 10) (N := some 12) (v := ?_) (a' := ?_) #[true, true, true, true, true, true, true, true, true, true, true, false] rfl rfl (by kernel_rfl) (fun _ _ _ h => h) (Or.inl ⟨by rfl, ?_⟩) ?_ ?_
              rotate_left
              · intro w'
                go_simp
                with_reducible rfl
              rotate_left
              · simp only [Act.put, List.setIfInBounds_toArray, List.set_cons_zero, List.set_cons_succ, i64_w, i32_w]
                rfl
              refine pure_ (i := 11) (N := some 13) (v := ?_) (a' := ?_) #[true, true, true, true, true, true, true, true, true, true, true, true] rfl rfl (by kernel_rfl) (fun _ _ _ h => h) (Or.inl ⟨by rfl, ?_⟩) ?_ ?_
              rotate_left
              · intro w'
                go_simp
                with_reducible rfl
              rotate_left
              · simp only [Act.put, List.setIfInBounds_toArray, List.set_cons_zero, List.set_cons_succ, i64_w, i32_w]
                rfl
              refine done_ (by kernel_rfl) ?_
              have HX11 := Aside0.mk (HX8.out.below HV10.out)
              have HB11 := Aside0.mk (below_then HB8.out HB8.out.size HV10.out)
              have HC11 := Aside0.mk (Kd.C_below HC8.out HV10.out)
              have HW11 := Aside0.mk (HW8.out.below HV10.out)
              have b3 := HW11.out.c0
              have b4 := HW11.out.c1
              have b5 := HX11.out.c1
              clear HX8 HB8 HC8 HW8 HV HVw HV9 HVw9 HV10 HL9 HL10 HC9 HC10
              go_wp2_with fail
              clear b3 b4 b5
              refine (tahead_any ls ws L false HAh.out A1 A3 Aw c1 c3 cw w10 (Kd.C_below HR1.out HB11.out) (Kd.C_below HR3.out HB11.out) HC11.out).mono ?_
              rintro e w12 ⟨rfl, hD⟩
              have HB12 := Aside0.mk (below_then HB11.out HB11.out.size hD.below)
              clear hD
              go_wp2_with fail
              refine (awake40 _).mono ?_
              rintro e w3 ⟨rfl, hB⟩
              have HB3 := Aside0.mk (below_then HB12.out HB12.out.size hB)
              clear hB
              go_wp2
              go_ret
              exact ⟨rfl, HB3.out⟩
            · skip
              clear HOw
              clear b3
              refine start_ (n := 10) (S := fun w' => w'.cell? ⟨w.heap.size, 0, none⟩ = some (.int .i64 (N : Int)) ∧ w'.cell? ⟨w.heap.size, 1, none⟩ = some (.slice A1 ls.length c1) ∧ w'.cell? ⟨w.heap.size, 2, none⟩ = some (.slice A2 es.length c2)) (ds := []) #[false, false, false, false, false, false, false, false, false, false] (by kernel_rfl) rfl rfl ⟨HX5.out.c0, HX5.out.c1, HX5.out.c2⟩ (fun hHeld => ?_)
              have HV := Aside0.mk (below_drew1 (Below.refl W5.heap.size W5))
              generalize W5.drew = V at HV hHeld ⊢
              have HVw := Aside0.mk (below_then HB5.out HB5.out.size HV.out)
              refine pure_ (i := 1) (N := some 43) (v := ?_) (a' := ?_) #[false, true, false, false, false, false, false, false, false, false] rfl rfl (by kernel_rfl) (fun _ _ _ h => h) (Or.inl ⟨by rfl, ?_⟩) ?_ ?_
              rotate_left
              · intro w'
                go_simp
                with_reducible rfl
              rotate_left
              · simp only [Act.put, List.setIfInBounds_toArray, List.set_cons_zero, List.set_cons_succ, i64_w, i32_w]
                rfl
              refine pure_ (i := 2) (N := some 44) (v := ?_) (a' := ?_) #[false, true, true, false, false, false, false, false, false, false] rfl rfl (by kernel_rfl) (fun _ _ _ h => h) (Or.inl ⟨by rfl, ?_⟩) ?_ ?_
              rotate_left
              · intro w'
                go_simp
                with_reducible rfl
              rotate_left
              · simp only [Act.put, List.setIfInBounds_toArray, List.set_cons_zero, List.set_cons_succ, i64_w, i32_w]
                rfl
              refine pure_ (i := 5) (N := some 47) (v := ?_) (a' := ?_) #[false, true, true, false, false, true, false, false, false, false] rfl rfl (by kernel_rfl) (fun _ _ _ h => h) (Or.inl ⟨by rfl, ?_⟩) ?_ ?_
              rotate_left
              · intro w'
                go_simp
                with_reducible rfl
              rotate_left
              · simp only [Act.put, List.setIfInBounds_toArray, List.set_cons_zero, List.set_cons_succ, i64_w, i32_w]
                rfl
              refine pure_ (i := 6) (N := some 48) (v := ?_) (a' := ?_) #[false, true, true, false, false, true, true, false, false, false] rfl rfl (by kernel_rfl) (fun _ _ _ h => h) (Or.inl ⟨by rfl, ?_⟩) ?_ ?_
              rotate_left
              · intro w'
                go_simp
                with_reducible rfl
              rotate_left
              · simp only [Act.put, List.setIfInBounds_toArray, List.set_cons_zero, List.set_cons_succ, i64_w, i32_w]
                rfl
              refine take_ (i := 0) (N := some 42) (v := ?_) (a' := ?_) #[true, true, true, false, false, true, true, false, false, false] rfl rfl (by kernel_rfl) (fun _ _ _ h => h) (Or.inl ⟨by rfl, ?_⟩) hHeld ?_ ?_
              rotate_left
              · rintro w' ⟨s0, s1, s2⟩
                go_simp
                with_reducible rfl
              rotate_left
              · simp only [Act.put, List.setIfInBounds_toArray, List.set_cons_zero, List.set_cons_succ, i64_w, i32_w]
                rfl
              refine take_ (i := 4) (N := some 46) (v := ?_) (a' := ?_) #[true, true, true, false, true, true, true, false, false, false] rfl rfl (by kernel_rfl) (fun _ _ _ h => h) (Or.inl ⟨by rfl, ?_⟩) hHeld ?_ ?_
              rotate_left
              · rintro w' ⟨s0, s1, s2⟩
                go_simp
                with_reducible rfl
              rotate_left
              · simp only [Act.put, List.setIfInBounds_toArray, List.set_cons_zero, List.set_cons_succ, i64_w, i32_w]
                rfl
              refine one_ (i := 3) (N := some 45) #[true, true, true, true, true, true, true, false, false, false] rfl rfl (by kernel_rfl) (by decide) (fun K hK => ?_)
              refine goes_ Try.func37 (by kernel_rfl) rfl #[.agg #[.int .i64 (N : Int), .slice A1 ls.length c1, .slice A2 es.length c2], .int .i64 (S : Int), .slice A3 ws.length c3] (by rfl) rfl rfl (by simp only [List.map_toArray, List.map_cons, List.map_nil]; rfl) ?_
              refine (HH1.out _ HVw.out).mono ?_
              rintro e w6 ⟨rfl, hB⟩
              refine ⟨_, rfl, ?_⟩
              have HL6 := Aside0.mk hB
              have HV6 := Aside0.mk (below_then HV.out HV.out.size hB)
              have HVw6 := Aside0.mk (below_then HVw.out HVw.out.size hB)
              clear hB
              refine hK.out _ _ ⟨later HL6.out hHeld.1, later HL6.out hHeld.2.1, later HL6.out hHeld.2.2⟩ (fun hHeld => ?_)
              clear hK K
              refine norm_ (a' := ?_) ?_ ?_
              rotate_left
              · show Act.put _ (some 45) _ = _
                simp only [Act.put, List.setIfInBounds_toArray, List.set_cons_zero, List.set_cons_succ, i64_w, i32_w]
                rfl
              refine one_ (i := 7) (N := some 49) #[true, true, true, true, true, true, true, true, false, false] rfl rfl (by kernel_rfl) (by decide) (fun K hK => ?_)
              refine goes_ Try.func37 (by kernel_rfl) rfl #[.agg #[.int .i64 (N : Int), .slice A1 ls.length c1, .slice A2 es.length c2], .int .i64 (U : Int), .slice A3 ws.length c3] (by rfl) rfl rfl (by simp only [List.map_toArray, List.map_cons, List.map_nil]; rfl) ?_
              refine (HH2.out _ HVw6.out).mono ?_
              rintro e w7 ⟨rfl, hB⟩
              refine ⟨_, rfl, ?_⟩
              have HL7 := Aside0.mk hB
              have HV7 := Aside0.mk (below_then HV6.out HV6.out.size hB)
              clear hB
              refine hK.out _ _ ⟨later HL7.out hHeld.1, later HL7.out hHeld.2.1, later HL7.out hHeld.2.2⟩ (fun hHeld => ?_)
              clear hK K
              refine norm_ (a' := ?_) ?_ ?_
              rotate_left
              · show Act.put _ (some 49) _ = _
                simp only [Act.put, List.setIfInBounds_toArray, List.set_cons_zero, List.set_cons_succ, i64_w, i32_w]
                rfl
              refine pure_ (i := 8) (N := some 50) (v := ?_) (a' := ?_) #[true, true, true, true, true, true, true, true, true, false] rfl rfl (by kernel_rfl) (fun _ _ _ h => h) (Or.inl ⟨by rfl, ?_⟩) ?_ ?_
              rotate_left
              · intro w'
                go_simp
                with_reducible rfl
              rotate_left
              · simp only [Act.put, List.setIfInBounds_toArray, List.set_cons_zero, List.set_cons_succ, i64_w, i32_w]
                rfl
              refine pure_ (i := 9) (N := some 11) (v := ?_) (a' := ?_) #[true, true, true, true, true, true, true, true, true, true] rfl rfl (by kernel_rfl) (fun _ _ _ h => h) (Or.inl ⟨by rfl, ?_⟩) ?_ ?_
              rotate_left
              · intro w'
                go_simp
                with_reducible rfl
              rotate_left
              · simp only [Act.put, List.setIfInBounds_toArray, List.set_cons_zero, List.set_cons_succ, i64_w, i32_w]
                rfl
              refine done_ (by kernel_rfl) ?_
              have HX8 := Aside0.mk (HX5.out.below HV7.out)
              have HB8 := Aside0.mk (below_then HB5.out HB5.out.size HV7.out)
              have HC8 := Aside0.mk (Kd.C_below HC5.out HV7.out)
              have HW8 := Aside0.mk (HW5.out.below HV7.out)
              have b3 := HW8.out.c0
              clear HX5 HB5 HC5 HW5 HV HVw HV6 HVw6 HV7 HL6 HL7
              go_wp2_with fail
              clear b3
              refine start_ (n := 12) (S := fun w' => w'.cell? ⟨w.heap.size, 0, none⟩ = some (.int .i64 (N : Int)) ∧ w'.cell? ⟨w.heap.size, 1, none⟩ = some (.slice A1 ls.length c1) ∧ w'.cell? ⟨w.heap.size, 2, none⟩ = some (.slice A2 es.length c2) ∧ w'.cell? ⟨w4.heap.size, 1, none⟩ = some (.slice Aw L.length cw)) (ds := []) #[false, false, false, false, false, false, false, false, false, false, false, false] (by kernel_rfl) rfl rfl ⟨HX8.out.c0, HX8.out.c1, HX8.out.c2, HW8.out.c1⟩ (fun hHeld => ?_)
              have HV := Aside0.mk (below_drew1 (Below.refl w7.heap.size w7))
              generalize w7.drew = V2 at HV hHeld ⊢
              have HVw := Aside0.mk (below_then HB8.out HB8.out.size HV.out)
              have HC9 := Aside0.mk (Kd.C_below HC8.out HV.out)
              refine pure_ (i := 1) (N := some 60) (v := ?_) (a' := ?_) #[false, true, false, false, false, false, false, false, false, false, false, false] rfl rfl (by kernel_rfl) (fun _ _ _ h => h) (Or.inl ⟨by rfl, ?_⟩) ?_ ?_
              rotate_left
              · intro w'
                go_simp
                with_reducible rfl
              rotate_left
              · simp only [Act.put, List.setIfInBounds_toArray, List.set_cons_zero, List.set_cons_succ, i64_w, i32_w]
                rfl
              refine pure_ (i := 2) (N := some 61) (v := ?_) (a' := ?_) #[false, true, true, false, false, false, false, false, false, false, false, false] rfl rfl (by kernel_rfl) (fun _ _ _ h => h) (Or.inl ⟨by rfl, ?_⟩) ?_ ?_
              rotate_left
              · intro w'
                go_simp
                with_reducible rfl
              rotate_left
              · simp only [Act.put, List.setIfInBounds_toArray, List.set_cons_zero, List.set_cons_succ, i64_w, i32_w]
                rfl
              refine pure_ (i := 6) (N := some 65) (v := ?_) (a' := ?_) #[false, true, true, false, false, false, true, false, false, false, false, false] rfl rfl (by kernel_rfl) (fun _ _ _ h => h) (Or.inl ⟨by rfl, ?_⟩) ?_ ?_
              rotate_left
              · intro w'
                go_simp
                with_reducible rfl
              rotate_left
              · simp only [Act.put, List.setIfInBounds_toArray, List.set_cons_zero, List.set_cons_succ, i64_w, i32_w]
                rfl
              refine pure_ (i := 7) (N := some 66) (v := ?_) (a' := ?_) #[false, true, true, false, false, false, true, true, false, false, false, false] rfl rfl (by kernel_rfl) (fun _ _ _ h => h) (Or.inl ⟨by rfl, ?_⟩) ?_ ?_
              rotate_left
              · intro w'
                go_simp
                with_reducible rfl
              rotate_left
              · simp only [Act.put, List.setIfInBounds_toArray, List.set_cons_zero, List.set_cons_succ, i64_w, i32_w]
                rfl
              refine take_ (i := 0) (N := some 59) (v := ?_) (a' := ?_) #[true, true, true, false, false, false, true, true, false, false, false, false] rfl rfl (by kernel_rfl) (fun _ _ _ h => h) (Or.inl ⟨by rfl, ?_⟩) hHeld ?_ ?_
              rotate_left
              · rintro w' ⟨s0, s1, s2, s3⟩
                go_simp
                with_reducible rfl
              rotate_left
              · simp only [Act.put, List.setIfInBounds_toArray, List.set_cons_zero, List.set_cons_succ, i64_w, i32_w]
                rfl
              refine take_ (i := 3) (N := some 62) (v := ?_) (a' := ?_) #[true, true, true, true, false, false, true, true, false, false, false, false] rfl rfl (by kernel_rfl) (fun _ _ _ h => h) (Or.inl ⟨by rfl, ?_⟩) hHeld ?_ ?_
              rotate_left
              · rintro w' ⟨s0, s1, s2, s3⟩
                go_simp
                with_reducible rfl
              rotate_left
              · simp only [Act.put, List.setIfInBounds_toArray, List.set_cons_zero, List.set_cons_succ, i64_w, i32_w]
                rfl
              refine take_ (i := 5) (N := some 64) (v := ?_) (a' := ?_) #[true, true, true, true, false, true, true, true, false, false, false, false] rfl rfl (by kernel_rfl) (fun _ _ _ h => h) (Or.inl ⟨by rfl, ?_⟩) hHeld ?_ ?_
              rotate_left
              · rintro w' ⟨s0, s1, s2, s3⟩
                go_simp
                with_reducible rfl
              rotate_left
              · simp only [Act.put, List.setIfInBounds_toArray, List.set_cons_zero, List.set_cons_succ, i64_w, i32_w]
                rfl
              refine take_ (i := 8) (N := some 67) (v := ?_) (a' := ?_) #[true, true, true, true, false, true, true, true, true, false, false, false] rfl rfl (by kernel_rfl) (fun _ _ _ h => h) (Or.inl ⟨by rfl, ?_⟩) hHeld ?_ ?_
              rotate_left
              · rintro w' ⟨s0, s1, s2, s3⟩
                go_simp
                with_reducible rfl
              rotate_left
              · simp only [Act.put, List.setIfInBounds_toArray, List.set_cons_zero, List.set_cons_succ, i64_w, i32_w]
                rfl
              refine one_ (i := 4) (N := some 63) #[true, true, true, true, true, true, true, true, true, false, false, false] rfl rfl (by kernel_rfl) (by decide) (fun K hK => ?_)
              refine goes_ Try.func37 (by kernel_rfl) rfl #[.agg #[.int .i64 (N : Int), .slice A1 ls.length c1, .slice A2 es.length c2], .int .i64 (S : Int), .slice Aw L.length cw] (by rfl) rfl rfl (by simp only [List.map_toArray, List.map_cons, List.map_nil]; rfl) ?_
              refine (thas_any (N : Int) ls es (S : Int) L _ HV1.out A1 A2 Aw c1 c2 cw _ (Kd.C_below HR1.out HVw.out) (Kd.C_below HR2.out HVw.out) HC9.out).mono ?_
              rintro e w9 ⟨rfl, hB⟩
              refine ⟨_, rfl, ?_⟩
              have HL9 := Aside0.mk hB
              have HV9 := Aside0.mk (below_then HV.out HV.out.size hB)
              have HVw9 := Aside0.mk (below_then HVw.out HVw.out.size hB)
              have HC10 := Aside0.mk (Kd.C_below HC9.out hB)
              clear hB
              refine hK.out _ _ ⟨later HL9.out hHeld.1, later HL9.out hHeld.2.1, later HL9.out hHeld.2.2.1, later HL9.out hHeld.2.2.2⟩ (fun hHeld => ?_)
              clear hK K
              refine norm_ (a' := ?_) ?_ ?_
              rotate_left
              · show Act.put _ (some 63) _ = _
                simp only [Act.put, List.setIfInBounds_toArray, List.set_cons_zero, List.set_cons_succ, i64_w, i32_w]
                rfl
              refine one_ (i := 9) (N := some 68) #[true, true, true, true, true, true, true, true, true, true, false, false] rfl rfl (by kernel_rfl) (by decide) (fun K hK => ?_)
              refine goes_ Try.func37 (by kernel_rfl) rfl #[.agg #[.int .i64 (N : Int), .slice A1 ls.length c1, .slice A2 es.length c2], .int .i64 (U : Int), .slice Aw L.length cw] (by rfl) rfl rfl (by simp only [List.map_toArray, List.map_cons, List.map_nil]; rfl) ?_
              refine (thas_any (N : Int) ls es (U : Int) L _ HV2.out A1 A2 Aw c1 c2 cw _ (Kd.C_below HR1.out HVw9.out) (Kd.C_below HR2.out HVw9.out) HC10.out).mono ?_
              rintro e w10 ⟨rfl, hB⟩
              refine ⟨_, rfl, ?_⟩
              have HL10 := Aside0.mk hB
              have HV10 := Aside0.mk (below_then HV9.out HV9.out.size hB)
              clear hB
              refine hK.out _ _ ⟨later HL10.out hHeld.1, later HL10.out hHeld.2.1, later HL10.out hHeld.2.2.1, later HL10.out hHeld.2.2.2⟩ (fun hHeld => ?_)
              clear hK K
              refine norm_ (a' := ?_) ?_ ?_
              rotate_left
              · show Act.put _ (some 68) _ = _
                simp only [Act.put, List.setIfInBounds_toArray, List.set_cons_zero, List.set_cons_succ, i64_w, i32_w]
                rfl
              refine pure_ (i := 10) (N := some 12) (v := ?_) (a' := ?_) #[true, true, true, true, true, true, true, true, true, true, true, false] rfl rfl (by kernel_rfl) (fun _ _ _ h => h) (Or.inl ⟨by rfl, ?_⟩) ?_ ?_
              rotate_left
              · intro w'
                go_simp
                with_reducible rfl
              rotate_left
              · simp only [Act.put, List.setIfInBounds_toArray, List.set_cons_zero, List.set_cons_succ, i64_w, i32_w]
                rfl
              refine pure_ (i := 11) (N := some 13) (v := ?_) (a' := ?_) #[true, true, true, true, true, true, true, true, true, true, true, true] rfl rfl (by kernel_rfl) (fun _ _ _ h => h) (Or.inl ⟨by rfl, ?_⟩) ?_ ?_
              rotate_left
              · intro w'
                go_simp
                with_reducible rfl
              rotate_left
              · simp only [Act.put, List.setIfInBounds_toArray, List.set_cons_zero, List.set_cons_succ, i64_w, i32_w]
                rfl
              refine done_ (by kernel_rfl) ?_
              have HX11 := Aside0.mk (HX8.out.below HV10.out)
              have HB11 := Aside0.mk (below_then HB8.out HB8.out.size HV10.out)
              have HC11 := Aside0.mk (Kd.C_below HC8.out HV10.out)
              have HW11 := Aside0.mk (HW8.out.below HV10.out)
              have b3 := HW11.out.c0
              have b4 := HW11.out.c1
              have b5 := HX11.out.c1
              clear HX8 HB8 HC8 HW8 HV HVw HV9 HVw9 HV10 HL9 HL10 HC9 HC10
              go_wp2_with fail
              clear b3 b4 b5
              refine (awake40 _).mono ?_
              rintro e w3 ⟨rfl, hB⟩
              have HB3 := Aside0.mk (below_then HB11.out HB11.out.size hB)
              clear hB
              go_wp2
              go_ret
              exact ⟨rfl, HB3.out⟩
      · skip
        have ho : ofR n ls es s t 4000 = ((0, []), 1) := by
          unfold ofR
          rw [if_neg hmain]
        rw [ho] at HOf
        have HOf := Lib.hid HOf
        clear ho hmain
        refine (HOf.out _ HB3.out).mono ?_
        rintro e w4 ⟨vw, rfl, hR, hB⟩
        obtain ⟨Aw, cw, rfl, _, hC⟩ := Kd.R_reads hR
        have HX4 := Aside0.mk (HX3.out.below hB)
        have HB4 := Aside0.mk (below_then HB3.out HB3.out.size hB)
        have hbn := below_alloc (Below.refl w4.heap.size w4) (Obj.cells #[Value.int IntKind.i64 0, Value.slice Aw 0 cw] 54)
        have HX5 := Aside0.mk (HX4.out.below hbn)
        have HB5 := Aside0.mk (below_then HB4.out HB4.out.size hbn)
        have HC5 := Aside0.mk (Kd.C_below hC hbn)
        have HW5 := Aside0.mk (word_new w4 w4.heap.size (.int .i64 0) (.slice Aw 0 cw) rfl)
        have b3 := HW5.out.c0
        clear hR hC hB hbn HX3 HB3 HX4 HB4
        go_wp2_with fail
        refine (awake40 _).mono ?_
        rintro e w3 ⟨rfl, hB⟩
        have HB3 := Aside0.mk (below_then HB5.out HB5.out.size hB)
        clear hB
        go_wp2
        go_ret
        exact ⟨rfl, HB3.out⟩

end Go.Proofs.Ytmpiokdomjchiaa.H
