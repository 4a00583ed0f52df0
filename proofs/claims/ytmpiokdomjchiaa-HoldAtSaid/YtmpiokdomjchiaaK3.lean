/-
  Walks: semblanceref40.Next, semblanceref40.Behind, trace.Behind, trace.Has.
  Walks: trace.Behind, trace.Has.
-/
import Derived.Test.YtmpiokdomjchiaaK2
import Derived.Test.YtmpiokdomjchiaaHj
set_option linter.unusedVariables false
set_option linter.unusedSimpArgs false
namespace Go.Proofs.Ytmpiokdomjchiaa.H
open Go.RowKit Go.Proofs.Ytmpiokdomjchiaa.Pr Go.Proofs.YtmpiokdomjchiaaW.PrintWords Go.Proofs.Ytmpiokdomjchiaa.Sem Go.Proofs.YtmpiokdomjchiaaW.PrintLast

theorem getD_mem {α : Type} (d : α) {xs : List α} {x : α} (h : x ∈ xs) : ∃ k, k < xs.length ∧ xs.getD k d = x := by
  obtain ⟨k, hk, e⟩ := List.getElem_of_mem h
  exact ⟨k, hk, by rw [List.getD_eq_getElem?_getD, List.getElem?_eq_getElem hk]; exact e⟩
theorem es_mem {n : Int} {ls : List ByteArray} {es : List Ed} (h : mayR n ls es = true) {e : Ed} (he : e ∈ es) : (0 ≤ e.f0 ∧ e.f0 < n) ∧ (0 ≤ e.f2 ∧ e.f2 < n) := by
  obtain ⟨k, hk, rfl⟩ := getD_mem z81 he
  exact es_at h hk
theorem elems_len (n : Nat) (S : Nat → Bool) : (elems n S).length ≤ n := by
  unfold elems
  rw [List.length_map]
  exact Nat.le_trans (List.length_filter_le _ _) (by simp)

set_option maxHeartbeats 8000000 in
set_option maxRecDepth 100000 in
theorem next_any (n : Nat) (es : List Ed) (a : List Int) (l : Int) (v1 : Value) (A2 A3 : Option Addr) (c2 c3 : Nat) (w : World) (hr2 : Kd.C k81 w A2 es.length es) (hr3 : Kd.C (Kd.int .i64) w A3 a.length a) (h0 : ∀ e ∈ es, 0 ≤ e.f0) (hn : n ≤ 2048) :
    Calls Try.prog 80 #[.agg #[.int .i64 (n : Int), v1, .slice A2 es.length c2], .slice A3 a.length c3, .int .i64 l] w (MadeI w (nextL n es a l)) := by
  have HR2 := Aside0.mk hr2
  have HR3 := Aside0.mk hr3
  have ha := C_len hr3
  clear hr2 hr3
  have HLT := Aside0.mk (fun i => leadsTo_is (es := es) (a := a) (l := l) i h0)
  clear h0
  obtain ⟨S, hS⟩ : ∃ S, S = leads es (memS a) l := ⟨_, rfl⟩
  unfold nextL
  rw [← hS] at HLT ⊢
  clear hS
  have HB0 := Aside0.mk (Below.refl w.heap.size w)
  go_enter Try.func80, Try.ntmps80
  go_wp2
  go_loopw [7, 8] (fun v i wr => ∃ k : Nat, k ≤ n ∧ i = .int .i64 k ∧ Aside0 (Kd.R (Kd.int .i64) 3 wr w.heap.size (fun _ => True) v (elems k S)) ∧ Aside0 (BoxL wr w.heap.size n v1 (.slice A2 es.length c2)) ∧ Aside0 (Below w.heap.size w wr)) (fun _ i _ => n - (intOf i).toNat)
  case atStart =>
    refine ⟨0, Nat.zero_le _, rfl, ⟨?_⟩, ⟨blk_below (blk_new w _) (below_alloc (Below.refl _ _) _)⟩, ⟨by repeat (first | exact HB0.out | apply below_alloc)⟩⟩
    have := emptyI (w.alloc (Obj.cells #[Value.int IntKind.i64 n, v1, Value.slice A2 es.length c2] 25)) w.heap.size (by simp)
    simpa [elems] using this
  case round =>
    obtain ⟨k, hk, rfl, HO, HXr, HBr⟩ := hrel
    obtain ⟨wo, hwo⟩ : ∃ wo, wo = wr := ⟨_, rfl⟩
    subst hwo
    have b0 := HXr.out.c0
    by_cases hlt : k < n
    · have i0 : (k : Int) < (n : Int) := by omega
      go_wp2
      go_loopw [9, 10] (fun b i wr => ∃ j : Nat, j ≤ a.length ∧ i = .int .i64 j ∧ b = .bool ((a.take j).any fun f => hasE es f l k) ∧ Aside0 (Below wo.heap.size wo wr)) (fun _ i _ => a.length - (intOf i).toNat)
      case atStart => exact ⟨0, Nat.zero_le _, rfl, by simp, ⟨Below.refl _ _⟩⟩
      case round =>
        obtain ⟨j, hj, rfl, rfl, HB4⟩ := hrel
        by_cases hlt4 : j < a.length
        · obtain ⟨ad, hA, g0⟩ := atI HR3.out j hlt4
          subst hA
          have j0 : (j : Int) < (a.length : Int) := by omega
          obtain ⟨f, hf⟩ : ∃ f, f = a.getD j 0 := ⟨_, rfl⟩
          rw [← hf] at g0
          obtain ⟨r, hr⟩ : ∃ r, r = hasE es f l k := ⟨_, rfl⟩
          have HT := Aside0.mk (show ((a.take (j + 1)).any fun f => hasE es f l k) = (((a.take j).any fun f => hasE es f l k) || r) by rw [any_take 0 _ hlt4, ← hf, hr])
          have HW := Aside0.mk (below_then HBr.out HBr.out.size HB4.out)
          replace g0 := later HW.out g0
          have HX4 := Aside0.mk (HXr.out.below HB4.out)
          have HC : ∀ W, Below w.heap.size w W → Calls Try.prog 109 #[.agg #[.int .i64 (n : Int), v1, .slice A2 es.length c2], .int .i64 f, .int .i64 l, .int .i64 (k : Int)] W fun e w' => e = .returned (.bool r) ∧ Below W.heap.size W w' := fun W hW => by rw [hr]; exact hasE_any n es f l k v1 A2 c2 W (Kd.C_below HR2.out hW)
          have HC' := Lib.hid HC
          clear hf hr HC b0
          cases hacc : ((a.take j).any fun f => hasE es f l k) with
          | true =>
            go_wp2_with fail
            go_quiet (fail)
            go_wp2
            go_roundw
            case rel => exact ⟨j + 1, by omega, by go_num, by rw [HT.out, hacc]; rfl, ⟨pw_below_drewN HB4.out _⟩⟩
            case measure => simp [intOf]; omega
          | false =>
            go_wp2_with fail
            refine start_ (n := 12) (S := fun w' => w'.cell? ⟨w.heap.size, 0, none⟩ = some (.int .i64 (n : Int)) ∧ w'.cell? ⟨w.heap.size, 1, none⟩ = some v1 ∧ w'.cell? ⟨w.heap.size, 2, none⟩ = some (.slice A2 es.length c2) ∧ w'.cell? (ad.add j) = some (.int .i64 f)) (ds := []) #[false, false, false, false, false, false, false, false, false, false, false, false] (by kernel_rfl) rfl rfl ⟨HX4.out.c0, HX4.out.c1, HX4.out.c2, g0⟩ (fun hHeld => ?_)
            have HV := Aside0.mk (below_drew1 (Below.refl wr.heap.size wr))
            have HVw := Aside0.mk (below_then HW.out HW.out.size HV.out)
            generalize wr.drew = V at HV HVw hHeld ⊢
            clear g0
            refine pure_ (i := 0) (N := some 24) (v := ?_) (a' := ?_) #[true, false, false, false, false, false, false, false, false, false, false, false] rfl rfl (by kernel_rfl) (fun _ _ _ h => h) (Or.inl ⟨by rfl, ?_⟩) ?_ ?_
            rotate_left
            · intro w'
              go_simp
              with_reducible rfl
            rotate_left
            · simp only [Act.put, List.setIfInBounds_toArray, List.set_cons_zero, List.set_cons_succ, i64_w, i32_w]
              rfl
            refine pure_ (i := 1) (N := some 25) (v := ?_) (a' := ?_) #[true, true, false, false, false, false, false, false, false, false, false, false] rfl rfl (by kernel_rfl) (fun _ _ _ h => h) (Or.inl ⟨by rfl, ?_⟩) ?_ ?_
            rotate_left
            · intro w'
              go_simp
              with_reducible rfl
            rotate_left
            · simp only [Act.put, List.setIfInBounds_toArray, List.set_cons_zero, List.set_cons_succ, i64_w, i32_w]
              rfl
            refine pure_ (i := 3) (N := some 27) (v := ?_) (a' := ?_) #[true, true, false, true, false, false, false, false, false, false, false, false] rfl rfl (by kernel_rfl) (fun _ _ _ h => h) (Or.inl ⟨by rfl, ?_⟩) ?_ ?_
            rotate_left
            · intro w'
              go_simp
              with_reducible rfl
            rotate_left
            · simp only [Act.put, List.setIfInBounds_toArray, List.set_cons_zero, List.set_cons_succ, i64_w, i32_w]
              rfl
            refine pure_ (i := 4) (N := some 28) (v := ?_) (a' := ?_) #[true, true, false, true, true, false, false, false, false, false, false, false] rfl rfl (by kernel_rfl) (fun _ _ _ h => h) (Or.inl ⟨by rfl, ?_⟩) ?_ ?_
            rotate_left
            · intro w'
              go_simp
              with_reducible rfl
            rotate_left
            · simp only [Act.put, List.setIfInBounds_toArray, List.set_cons_zero, List.set_cons_succ, i64_w, i32_w]
              rfl
            refine pure_ (i := 5) (N := some 29) (v := ?_) (a' := ?_) #[true, true, false, true, true, true, false, false, false, false, false, false] rfl rfl (by kernel_rfl) (fun _ _ _ h => h) (Or.inl ⟨by rfl, ?_⟩) ?_ ?_
            rotate_left
            · intro w'
              go_simp
              with_reducible rfl
            rotate_left
            · simp only [Act.put, List.setIfInBounds_toArray, List.set_cons_zero, List.set_cons_succ, i64_w, i32_w]
              rfl
            refine pure_ (i := 7) (N := some 31) (v := ?_) (a' := ?_) #[true, true, false, true, true, true, false, true, false, false, false, false] rfl rfl (by kernel_rfl) (fun _ _ _ h => h) (Or.inl ⟨by rfl, ?_⟩) ?_ ?_
            rotate_left
            · intro w'
              go_simp
              with_reducible rfl
            rotate_left
            · simp only [Act.put, List.setIfInBounds_toArray, List.set_cons_zero, List.set_cons_succ, i64_w, i32_w]
              rfl
            refine pure_ (i := 8) (N := some 32) (v := ?_) (a' := ?_) #[true, true, false, true, true, true, false, true, true, false, false, false] rfl rfl (by kernel_rfl) (fun _ _ _ h => h) (Or.inl ⟨by rfl, ?_⟩) ?_ ?_
            rotate_left
            · intro w'
              go_simp
              with_reducible rfl
            rotate_left
            · simp only [Act.put, List.setIfInBounds_toArray, List.set_cons_zero, List.set_cons_succ, i64_w, i32_w]
              rfl
            refine take_ (i := 2) (N := some 26) (v := ?_) (a' := ?_) #[true, true, true, true, true, true, false, true, true, false, false, false] rfl rfl (by kernel_rfl) (fun _ _ _ h => h) (Or.inl ⟨by rfl, ?_⟩) hHeld ?_ ?_
            rotate_left
            · rintro w' ⟨s0, s1, s2, s3⟩
              go_simp
              with_reducible rfl
            rotate_left
            · simp only [Act.put, List.setIfInBounds_toArray, List.set_cons_zero, List.set_cons_succ, i64_w, i32_w]
              rfl
            refine take_ (i := 6) (N := some 30) (v := ?_) (a' := ?_) #[true, true, true, true, true, true, true, true, true, false, false, false] rfl rfl (by kernel_rfl) (fun _ _ _ h => h) (Or.inl ⟨by rfl, ?_⟩) hHeld ?_ ?_
            rotate_left
            · rintro w' ⟨s0, s1, s2, s3⟩
              go_simp
              with_reducible rfl
            rotate_left
            · simp only [Act.put, List.setIfInBounds_toArray, List.set_cons_zero, List.set_cons_succ, i64_w, i32_w]
              rfl
            refine one_ (i := 9) (N := some 33) #[true, true, true, true, true, true, true, true, true, true, false, false] rfl rfl (by kernel_rfl) (by decide) (fun K hK => ?_)
            refine goes_ Try.func109 (by kernel_rfl) rfl #[.agg #[.int .i64 (n : Int), v1, .slice A2 es.length c2], .int .i64 f, .int .i64 l, .int .i64 (k : Int)] (by rfl) rfl rfl (by simp only [List.map_toArray, List.map_cons, List.map_nil]; rfl) ?_
            refine (HC'.out _ HVw.out).mono ?_
            rintro e w3 ⟨rfl, hB⟩
            refine ⟨_, rfl, ?_⟩
            have HL3 := Aside0.mk hB
            have HV3 := Aside0.mk (below_then HB4.out HB4.out.size (below_then HV.out HV.out.size hB))
            clear hB
            refine hK.out _ _ ⟨later HL3.out hHeld.1, later HL3.out hHeld.2.1, later HL3.out hHeld.2.2.1, later HL3.out hHeld.2.2.2⟩ (fun hHeld => ?_)
            clear hK K
            refine norm_ (a' := ?_) ?_ ?_
            rotate_left
            · show Act.put _ (some 33) _ = _
              simp only [Act.put, List.setIfInBounds_toArray, List.set_cons_zero, List.set_cons_succ, i64_w, i32_w]
              rfl
            refine pure_ (i := 10) (N := some 34) (v := ?_) (a' := ?_) #[true, true, true, true, true, true, true, true, true, true, true, false] rfl rfl (by kernel_rfl) (fun _ _ _ h => h) (Or.inl ⟨by rfl, ?_⟩) ?_ ?_
            rotate_left
            · intro w'
              go_simp
              with_reducible rfl
            rotate_left
            · simp only [Act.put, List.setIfInBounds_toArray, List.set_cons_zero, List.set_cons_succ, i64_w, i32_w]
              rfl
            refine pure_ (i := 11) (N := some 9) (v := ?_) (a' := ?_) #[true, true, true, true, true, true, true, true, true, true, true, true] rfl rfl (by kernel_rfl) (fun _ _ _ h => h) (Or.inl ⟨by rfl, ?_⟩) ?_ ?_
            rotate_left
            · intro w'
              go_simp
              with_reducible rfl
            rotate_left
            · simp only [Act.put, List.setIfInBounds_toArray, List.set_cons_zero, List.set_cons_succ, i64_w, i32_w]
              rfl
            refine done_ (by kernel_rfl) ?_
            go_wp2
            go_roundw
            case rel => exact ⟨j + 1, by omega, by go_num, by rw [HT.out, hacc]; rfl, HV3⟩
            case measure => simp [intOf]; omega
        · have ej : a.take j = a := List.take_of_length_le (by omega)
          have ek : (a.any fun f => hasE es f l k) = S k := HLT.out k
          rw [ej, ek]
          have HX6 := Aside0.mk (HXr.out.below HB4.out)
          have HB7 := Aside0.mk (below_then HBr.out HBr.out.size HB4.out)
          have HO6 := Aside0.mk (Kd.R_below HO.out HB4.out)
          have HSu := Aside0.mk (elems_succ k S)
          have hlen := elems_len k S
          obtain ⟨L, hL⟩ : ∃ L, L = elems k S := ⟨_, rfl⟩
          rw [← hL] at HO6 HSu hlen
          clear ej ek hL b0
          cases hk2 : S k with
          | false =>
            rw [hk2] at HSu
            clear hk2
            go_wp2
            go_roundw
            case rel => exact ⟨k + 1, by omega, by go_num, ⟨by rw [HSu.out]; simpa using HO6.out⟩, HX6, HB7⟩
            case measure => simp [intOf]; omega
          | true =>
            rw [hk2] at HSu
            clear hk2
            go_wp2_with (at_builtin; refine Kd.R_append (Kd.int .i64) (w0 := w) w.heap.size rfl (.tmp 36) (.tmp 38) 42 3 (.int .i64 0) 8 rfl Try.underlying42 info3 rfl (by decide) (by omega) u7 L (k : Int) [.int .i64 (k : Int)] (fun _ => True) (fun _ => False) rfl rfl rfl (fun _ hk => hk.elim) (fun _ _ => trivial) HO6.out HB7.out HB7.out.size (by omega) ?_; intro v2 w2 ho hb hg hat; have HO2 := Aside0.mk ho; have HB2 := Aside0.mk hb; have HX2 := Aside0.mk (blk_grown (g := w.heap.size) HX6.out hg (Kd.R_ne HO6.out HX6.out (by decide))); clear ho hb hg hat)
            go_roundw
            case rel => exact ⟨k + 1, by omega, by go_num, ⟨by rw [HSu.out]; exact HO2.out⟩, HX2, HB2⟩
            case measure => simp [intOf]; omega
    · have i0 : ¬ (k : Int) < (n : Int) := by omega
      obtain rfl : k = n := by omega
      go_wp2
      go_ret
      exact ⟨_, rfl, HO.out, HBr.out⟩

set_option maxHeartbeats 8000000 in
set_option maxRecDepth 100000 in
theorem behind40_any (n : Nat) (ls : List ByteArray) (es : List Ed) (node : Int) (ws : List ByteArray) (A1 A2 A3 : Option Addr) (c1 c2 c3 : Nat) (w : World) (hr1 : Kd.C Kd.string w A1 ls.length ls) (hr2 : Kd.C k81 w A2 es.length es) (hr3 : Kd.C Kd.string w A3 ws.length ws) (h0 : ∀ e ∈ es, 0 ≤ e.f0) (hn : n ≤ 2048) :
    Calls Try.prog 38 #[.agg #[.int .i64 (n : Int), .slice A1 ls.length c1, .slice A2 es.length c2], .int .i64 node, .slice A3 ws.length c3] w (MadeI w (behindW n ls es [node] ws)) := by
  have HR1 := Aside0.mk hr1
  have HR2 := Aside0.mk hr2
  have HR3 := Aside0.mk hr3
  have ha := C_len hr3
  clear hr1 hr2 hr3
  have H0 := Aside0.mk h0
  clear h0
  have HB0 := Aside0.mk (Below.refl w.heap.size w)
  go_enter Try.func38, Try.ntmps38
  go_wp2
  go_loopw [7, 8] (fun v i wr => ∃ k : Nat, k ≤ ws.length ∧ i = .int .i64 k ∧ Aside0 (Kd.R (Kd.int .i64) 3 wr w.heap.size (fun _ => True) v (behindW n ls es [node] (ws.take k))) ∧ Aside0 (BoxL wr w.heap.size n (.slice A1 ls.length c1) (.slice A2 es.length c2)) ∧ Aside0 (Below w.heap.size w wr)) (fun _ i _ => ws.length - (intOf i).toNat)
  case atStart =>
    refine ⟨0, Nat.zero_le _, rfl, ⟨?_⟩, ⟨blk_below (blk_new w _) (below_alloc (Below.refl _ _) _)⟩, ⟨by repeat (first | exact HB0.out | apply below_alloc)⟩⟩
    have := own_lit_of (enc := Value.int .i64) (w.alloc (Obj.cells #[Value.int IntKind.i64 n, Value.slice A1 ls.length c1, Value.slice A2 es.length c2] 25)) w.heap.size 3 [node] (by simp) (by simp)
    have h2 := Kd.R_of_own (enc := Value.int .i64) (h1 := fun _ => rfl) (ok := fun _ => True) this (fun _ _ => trivial)
    simpa [encs, behindW, Kd.int] using h2
  case round =>
    obtain ⟨k, hk, rfl, HO, HXr, HBr⟩ := hrel
    by_cases hlt : k < ws.length
    · obtain ⟨ad, hA, g0⟩ := atS HR3.out k hlt
      subst hA
      replace g0 := later HBr.out g0
      have i0 : (k : Int) < (ws.length : Int) := by omega
      obtain ⟨s, hs⟩ : ∃ s, s = ws.getD k ByteArray.empty := ⟨_, rfl⟩
      rw [← hs] at g0
      have HN := Aside0.mk (show behindW n ls es [node] (ws.take (k + 1)) = nextL n es (behindW n ls es [node] (ws.take k)) (placeS ls s) by rw [take_snoc ByteArray.empty hlt, behindW_snoc, hs])
      obtain ⟨L, hL⟩ : ∃ L, L = behindW n ls es [node] (ws.take k) := ⟨_, rfl⟩
      rw [← hL] at HO HN
      obtain ⟨Ao, co, rfl, _, hCo⟩ := Kd.R_reads HO.out
      have HCo := Aside0.mk hCo
      obtain ⟨p, hp⟩ : ∃ p, p = placeS ls s := ⟨_, rfl⟩
      rw [← hp] at HN
      have HP : ∀ W, Below w.heap.size w W → Calls Try.prog 75 #[.slice A1 ls.length c1, .string s] W fun e w' => e = .returned (.int .i64 p) ∧ W = w' := fun W hW => by rw [hp]; exact place02_any ls s A1 c1 W (Kd.C_below HR1.out hW)
      have HP' := Lib.hid HP
      clear hs hL hCo hp HP
      go_wp2_with fail
      refine start_ (n := 11) (S := fun w' => w'.cell? ⟨w.heap.size, 0, none⟩ = some (.int .i64 (n : Int)) ∧ w'.cell? ⟨w.heap.size, 1, none⟩ = some (.slice A1 ls.length c1) ∧ w'.cell? ⟨w.heap.size, 2, none⟩ = some (.slice A2 es.length c2) ∧ w'.cell? (ad.add k) = some (.string s)) (ds := []) #[false, false, false, false, false, false, false, false, false, false, false] (by kernel_rfl) rfl rfl ⟨HXr.out.c0, HXr.out.c1, HXr.out.c2, g0⟩ (fun hHeld => ?_)
      have HV := Aside0.mk (below_drew1 (Below.refl wr.heap.size wr))
      have HVw := Aside0.mk (below_then HBr.out HBr.out.size HV.out)
      generalize wr.drew = V at HV HVw hHeld ⊢
      clear g0
      refine pure_ (i := 1) (N := some 18) (v := ?_) (a' := ?_) #[false, true, false, false, false, false, false, false, false, false, false] rfl rfl (by kernel_rfl) (fun _ _ _ h => h) (Or.inl ⟨by rfl, ?_⟩) ?_ ?_
      rotate_left
      · intro w'
        go_simp
        with_reducible rfl
      rotate_left
      · simp only [Act.put, List.setIfInBounds_toArray, List.set_cons_zero, List.set_cons_succ, i64_w, i32_w]
        rfl
      refine pure_ (i := 2) (N := some 19) (v := ?_) (a' := ?_) #[false, true, true, false, false, false, false, false, false, false, false] rfl rfl (by kernel_rfl) (fun _ _ _ h => h) (Or.inl ⟨by rfl, ?_⟩) ?_ ?_
      rotate_left
      · intro w'
        go_simp
        with_reducible rfl
      rotate_left
      · simp only [Act.put, List.setIfInBounds_toArray, List.set_cons_zero, List.set_cons_succ, i64_w, i32_w]
        rfl
      refine pure_ (i := 4) (N := some 21) (v := ?_) (a' := ?_) #[false, true, true, false, true, false, false, false, false, false, false] rfl rfl (by kernel_rfl) (fun _ _ _ h => h) (Or.inl ⟨by rfl, ?_⟩) ?_ ?_
      rotate_left
      · intro w'
        go_simp
        with_reducible rfl
      rotate_left
      · simp only [Act.put, List.setIfInBounds_toArray, List.set_cons_zero, List.set_cons_succ, i64_w, i32_w]
        rfl
      refine pure_ (i := 5) (N := some 22) (v := ?_) (a' := ?_) #[false, true, true, false, true, true, false, false, false, false, false] rfl rfl (by kernel_rfl) (fun _ _ _ h => h) (Or.inl ⟨by rfl, ?_⟩) ?_ ?_
      rotate_left
      · intro w'
        go_simp
        with_reducible rfl
      rotate_left
      · simp only [Act.put, List.setIfInBounds_toArray, List.set_cons_zero, List.set_cons_succ, i64_w, i32_w]
        rfl
      refine pure_ (i := 6) (N := some 23) (v := ?_) (a' := ?_) #[false, true, true, false, true, true, true, false, false, false, false] rfl rfl (by kernel_rfl) (fun _ _ _ h => h) (Or.inl ⟨by rfl, ?_⟩) ?_ ?_
      rotate_left
      · intro w'
        go_simp
        with_reducible rfl
      rotate_left
      · simp only [Act.put, List.setIfInBounds_toArray, List.set_cons_zero, List.set_cons_succ, i64_w, i32_w]
        rfl
      refine take_ (i := 0) (N := some 17) (v := ?_) (a' := ?_) #[true, true, true, false, true, true, true, false, false, false, false] rfl rfl (by kernel_rfl) (fun _ _ _ h => h) (Or.inl ⟨by rfl, ?_⟩) hHeld ?_ ?_
      rotate_left
      · rintro w' ⟨s0, s1, s2, s3⟩
        go_simp
        with_reducible rfl
      rotate_left
      · simp only [Act.put, List.setIfInBounds_toArray, List.set_cons_zero, List.set_cons_succ, i64_w, i32_w]
        rfl
      refine take_ (i := 3) (N := some 20) (v := ?_) (a' := ?_) #[true, true, true, true, true, true, true, false, false, false, false] rfl rfl (by kernel_rfl) (fun _ _ _ h => h) (Or.inl ⟨by rfl, ?_⟩) hHeld ?_ ?_
      rotate_left
      · rintro w' ⟨s0, s1, s2, s3⟩
        go_simp
        with_reducible rfl
      rotate_left
      · simp only [Act.put, List.setIfInBounds_toArray, List.set_cons_zero, List.set_cons_succ, i64_w, i32_w]
        rfl
      refine take_ (i := 7) (N := some 24) (v := ?_) (a' := ?_) #[true, true, true, true, true, true, true, true, false, false, false] rfl rfl (by kernel_rfl) (fun _ _ _ h => h) (Or.inl ⟨by rfl, ?_⟩) hHeld ?_ ?_
      rotate_left
      · rintro w' ⟨s0, s1, s2, s3⟩
        go_simp
        with_reducible rfl
      rotate_left
      · simp only [Act.put, List.setIfInBounds_toArray, List.set_cons_zero, List.set_cons_succ, i64_w, i32_w]
        rfl
      refine one_ (i := 8) (N := some 25) #[true, true, true, true, true, true, true, true, true, false, false] rfl rfl (by kernel_rfl) (by decide) (fun K hK => ?_)
      refine goes_ Try.func75 (by kernel_rfl) rfl #[.slice A1 ls.length c1, .string s] (by rfl) rfl rfl (by simp only [List.map_toArray, List.map_cons, List.map_nil]; rfl) ?_
      refine (HP'.out _ HVw.out).mono ?_
      rintro e w3 ⟨rfl, rfl⟩
      refine ⟨_, rfl, ?_⟩
      refine hK.out _ _ ⟨hHeld.1, hHeld.2.1, hHeld.2.2.1, hHeld.2.2.2⟩ (fun hHeld => ?_)
      clear hK K
      refine norm_ (a' := ?_) ?_ ?_
      rotate_left
      · show Act.put _ (some 25) _ = _
        simp only [Act.put, List.setIfInBounds_toArray, List.set_cons_zero, List.set_cons_succ, i64_w, i32_w]
        rfl
      refine one_ (i := 9) (N := some 26) #[true, true, true, true, true, true, true, true, true, true, false] rfl rfl (by kernel_rfl) (by decide) (fun K hK => ?_)
      refine goes_ Try.func80 (by kernel_rfl) rfl #[.agg #[.int .i64 (n : Int), .slice A1 ls.length c1, .slice A2 es.length c2], .slice Ao L.length co, .int .i64 p] (by rfl) rfl rfl (by simp only [List.map_toArray, List.map_cons, List.map_nil]; rfl) ?_
      refine (next_any n es L p _ A2 Ao c2 co _ (Kd.C_below HR2.out HVw.out) (Kd.C_below HCo.out HV.out) H0.out hn).mono ?_
      rintro e w3 ⟨v3, rfl, hR3, hB3⟩
      refine ⟨_, rfl, ?_⟩
      have HB3 := Aside0.mk hB3
      have HO3 := Aside0.mk (Kd.R_lower hR3 HVw.out.size)
      have HV3 := Aside0.mk (below_then HVw.out HVw.out.size hB3)
      have HX3 := Aside0.mk ((HXr.out.below HV.out).below hB3)
      clear hR3 hB3
      refine hK.out _ _ ⟨later HB3.out hHeld.1, later HB3.out hHeld.2.1, later HB3.out hHeld.2.2.1, later HB3.out hHeld.2.2.2⟩ (fun hHeld => ?_)
      clear hK K
      refine norm_ (a' := ?_) ?_ ?_
      rotate_left
      · show Act.put _ (some 26) _ = _
        simp only [Act.put, List.setIfInBounds_toArray, List.set_cons_zero, List.set_cons_succ, i64_w, i32_w]
        rfl
      refine pure_ (i := 10) (N := some 7) (v := ?_) (a' := ?_) #[true, true, true, true, true, true, true, true, true, true, true] rfl rfl (by kernel_rfl) (fun _ _ _ h => h) (Or.inl ⟨by rfl, ?_⟩) ?_ ?_
      rotate_left
      · intro w'
        go_simp
        with_reducible rfl
      rotate_left
      · simp only [Act.put, List.setIfInBounds_toArray, List.set_cons_zero, List.set_cons_succ, i64_w, i32_w]
        rfl
      refine done_ (by kernel_rfl) ?_
      go_wp2
      go_roundw
      case rel => exact ⟨k + 1, by omega, by go_num, ⟨by rw [HN.out]; exact HO3.out⟩, HX3, HV3⟩
      case measure => simp [intOf]; omega
    · have ek : ws.take k = ws := List.take_of_length_le (by omega)
      rw [ek] at HO
      clear ek
      go_wp2
      go_ret
      exact ⟨_, rfl, HO.out, HBr.out⟩

end Go.Proofs.Ytmpiokdomjchiaa.H

set_option linter.unusedVariables false
set_option linter.unusedSimpArgs false
namespace Go.Proofs.Ytmpiokdomjchiaa.H
open Go.RowKit Go.Proofs.Ytmpiokdomjchiaa.Pr Go.Proofs.YtmpiokdomjchiaaW.PrintWords Go.Proofs.Ytmpiokdomjchiaa.Sem Go.Proofs.YtmpiokdomjchiaaW.PrintLast

theorem run_load_set {op : Oper} {a : Act} {w : World} {x : Operand} {b : Nat} {S : Nat → Bool} (ho : op.op = .load 107 x) (hx : a.eval x = .pointer (some ⟨b, 0, none⟩)) (hc : w.rangeAt b 0 (encSet S)) : (execOp a.eval op).run Try.prog w = .ok (.value (.agg (encSet S).toArray)) w := by
  unfold execOp
  simp only [ho, hx, Instr.loadAt, Instr.sureAddr, Sem.run_bind, Sem.run_pure, Result.andThen_ok, run_loadVar_mid w b 0 107 (encSet S) _ hc Try.underlying107 rfl (by rw [encSet_len]; exact info_set)]
theorem run_store_set {op : Oper} {a : Act} {w : World} {x y : Operand} {b : Nat} {S : Nat → Bool} (ho : op.op = .store 107 x y) (hx : a.eval x = .pointer (some ⟨b, 0, none⟩)) (hy : a.eval y = .agg (encSet S).toArray) (ht : w.there b 0 32) : (execOp a.eval op).run Try.prog w = .ok .skip (w.setCells b 0 (encSet S)) := by
  unfold execOp
  simp only [ho, hx, hy, Instr.storeAt, Instr.sureAddr, Sem.run_bind, Sem.run_pure, Result.andThen_ok, run_storeVar_mid w b 0 107 (encSet S).toArray (by simpa [encSet_len] using ht) (by rw [List.size_toArray, encSet_len]; exact info_set) (all_oneCell_toArray (enc_one _))]
theorem blk_setCells_ne {b k : Nat} : ∀ (vs : List Value) (o : Nat) (w : World), k ≠ b → (w.setCells b o vs).heap[k]? = w.heap[k]?
  | [], o, w, _ => rfl
  | v :: r, o, w, h => (blk_setCells_ne r (o + 1) (w.setCell ⟨b, o, none⟩ v) h).trans (Below.heap_setCell _ _ _ _ h)
theorem size_setCells {b : Nat} : ∀ (vs : List Value) (o : Nat) (w : World), (w.setCells b o vs).heap.size = w.heap.size
  | [], o, w => rfl
  | v :: r, o, w => (size_setCells r (o + 1) (w.setCell ⟨b, o, none⟩ v)).trans (by simp [World.setCell])
theorem SetAt.run {t : Nat} {w : World} {b : Nat} {S : Nat → Bool} (h : SetAt t w b S) (S' : Nat → Bool) : (storeCells ⟨b, 0, none⟩ (encSet S')).run Try.prog w = .ok () (w.setCells b 0 (encSet S')) := by
  have := run_storeCells_cells (P := Try.prog) b 0 (encSet S') 0 w (fun j hj => by simpa using (h.there j (by rw [encSet_len] at hj; exact hj)).1) (fun j hj => by simpa using (h.there j (by rw [encSet_len] at hj; exact hj)).2) (enc_one S')
  simpa using this
/-- The nodes behind a word; none, where there is nothing. -/
def behindL (n : Int) (ls : List ByteArray) (es : List Ed) (node : Int) (ws : List ByteArray) : List Int :=
  if mayR n ls es = true ∧ 0 ≤ node ∧ node < n then behindW n.toNat ls es [node] ws else []

theorem tbehind_no (n : Int) (ls : List ByteArray) (es : List Ed) (node : Int) (ws : List ByteArray) (A1 A2 A3 : Option Addr) (c1 c2 c3 : Nat) (w : World) (hr1 : Kd.C Kd.string w A1 ls.length ls) (hr2 : Kd.C k81 w A2 es.length es) (hm : ¬ (mayR n ls es = true ∧ 0 ≤ node ∧ node < n)) :
    Calls Try.prog 36 #[.agg #[.int .i64 n, .slice A1 ls.length c1, .slice A2 es.length c2], .int .i64 node, .slice A3 ws.length c3] w (MadeI w []) := by
  have HB := Aside0.mk (Below.refl w.heap.size w)
  cases q : mayR n ls es with
  | false =>
    have HC : ∀ W, Below w.heap.size w W → Calls Try.prog 66 #[.agg #[.int .i64 n, .slice A1 ls.length c1, .slice A2 es.length c2]] W fun e w' => e = .returned (.int .i64 1) ∧ Below W.heap.size W w' := fun W hW =>
      check_no n ls es A1 A2 c1 c2 W (Kd.C_below hr1 hW) (Kd.C_below hr2 hW) (by rw [may_same]; exact q)
    have HC' := Lib.hid HC
    clear HC hr1 hr2 hm q
    go_enter Try.func36, Try.ntmps36
    go_wp2_with fail
    refine (HC'.out _ (below_alloc HB.out _)).mono ?_
    rintro e w1 ⟨rfl, hB⟩
    have HB1 := Aside0.mk (below_then (below_alloc HB.out _) (by simp) hB)
    clear hB
    go_wp2
    go_ret
    exact ⟨_, rfl, Kd.R_nil _ _ _ _ _, HB1.out⟩
  | true =>
    have HC : ∀ W, Below w.heap.size w W → Calls Try.prog 66 #[.agg #[.int .i64 n, .slice A1 ls.length c1, .slice A2 es.length c2]] W fun e w' => e = .returned (.int .i64 0) ∧ Below W.heap.size W w' := fun W hW =>
      check_yes n ls es A1 A2 c1 c2 W (Kd.C_below hr1 hW) (Kd.C_below hr2 hW) (by rw [may_same]; exact q)
    have HC' := Lib.hid HC
    clear HC hr1 hr2
    rw [q] at hm
    clear q
    by_cases q0 : node < 0
    · clear hm
      go_enter Try.func36, Try.ntmps36
      go_wp2_with fail
      refine (HC'.out _ (below_alloc HB.out _)).mono ?_
      rintro e w1 ⟨rfl, hB⟩
      have HB1 := Aside0.mk (below_then (below_alloc HB.out _) (by simp) hB)
      clear hB
      go_wp2
      go_ret
      exact ⟨_, rfl, Kd.R_nil _ _ _ _ _, HB1.out⟩
    · have q1 : n ≤ node := by
        by_cases h : n ≤ node
        · exact h
        · exact absurd ⟨rfl, by omega, by omega⟩ hm
      clear hm
      go_enter Try.func36, Try.ntmps36
      go_wp2_with fail
      refine (HC'.out _ (below_alloc HB.out _)).mono ?_
      rintro e w1 ⟨rfl, hB⟩
      have HB1 := Aside0.mk (below_then (below_alloc HB.out _) (by simp) hB)
      have hX : BoxL w1 w.heap.size n (.slice A1 ls.length c1) (.slice A2 es.length c2) := blk_below (blk_new w _) hB
      have b0 := hX.c0
      clear hB hX
      go_wp2
      go_ret
      exact ⟨_, rfl, Kd.R_nil _ _ _ _ _, HB1.out⟩

/-- The variables of trace.Behind. -/
structure TBSt (w W : World) (n : Int) (v1 v2 : Value) (g : Nat) (S : Nat → Bool) : Prop where
  box : BoxL W w.heap.size n v1 v2
  set : SetAt 107 W g S
  ne : w.heap.size < g
  below : Below w.heap.size w W
theorem TBSt.on {w W W1 : World} {n : Int} {v1 v2 : Value} {g : Nat} {S : Nat → Bool} (h : TBSt w W n v1 v2 g S) (hb : Below W.heap.size W W1) : TBSt w W1 n v1 v2 g S :=
  ⟨h.box.below hb, h.set.below hb, h.ne, below_then h.below h.below.size hb⟩
theorem TBSt.store {w W : World} {n : Int} {v1 v2 : Value} {g : Nat} {S : Nat → Bool} (h : TBSt w W n v1 v2 g S) (S' : Nat → Bool) : TBSt w (W.setCells g 0 (encSet S')) n v1 v2 g S' :=
  ⟨(blk_setCells_ne _ _ _ (by have := h.ne; omega)).trans h.box, h.set.store S', h.ne, below_setCells h.below 0 _ (by have := h.ne; omega)⟩
theorem TBSt.grown {w W W1 : World} {n : Int} {v1 v2 : Value} {g : Nat} {S : Nat → Bool} (h : TBSt w W n v1 v2 g S) {row : Option Nat} (hg : W.grownBy W1 row) (h1 : some w.heap.size ≠ row) (h2 : some g ≠ row) (hb : Below w.heap.size w W1) : TBSt w W1 n v1 v2 g S :=
  ⟨blk_grown h.box hg h1, blk_grown h.set hg h2, h.ne, hb⟩

set_option maxHeartbeats 8000000 in
set_option maxRecDepth 100000 in
theorem tbehind_yes (n j : Nat) (ls : List ByteArray) (es : List Ed) (ws : List ByteArray) (A1 A2 A3 : Option Addr) (c1 c2 c3 : Nat) (w : World) (hr1 : Kd.C Kd.string w A1 ls.length ls) (hr2 : Kd.C k81 w A2 es.length es) (hr3 : Kd.C Kd.string w A3 ws.length ws) (hm : mayR n ls es = true) (hj : j < n) :
    Calls Try.prog 36 #[.agg #[.int .i64 (n : Int), .slice A1 ls.length c1, .slice A2 es.length c2], .int .i64 (j : Int), .slice A3 ws.length c3] w (MadeI w (behindW n ls es [(j : Int)] ws)) := by
  have HB := Aside0.mk (Below.refl w.heap.size w)
  have hn := (n_le hm).2
  have hn' : n ≤ 2048 := by omega
  have ha := C_len hr3
  have HR1 := Aside0.mk hr1
  have HR2 := Aside0.mk hr2
  have HR3 := Aside0.mk hr3
  have HM := Aside0.mk hm
  have HMS := Aside0.mk (fun a l => memS_next (n := n) (es := es) (fun e he => (es_mem hm he).2.2) a l)
  have HC : ∀ W, Below w.heap.size w W → Calls Try.prog 66 #[.agg #[.int .i64 (n : Int), .slice A1 ls.length c1, .slice A2 es.length c2]] W fun e w' => e = .returned (.int .i64 0) ∧ Below W.heap.size W w' := fun W hW =>
    check_yes n ls es A1 A2 c1 c2 W (Kd.C_below hr1 hW) (Kd.C_below hr2 hW) (by rw [may_same]; exact hm)
  have HC' := Lib.hid HC
  clear HC hr1 hr2 hr3 hm
  have q0 : ¬ (j : Int) < 0 := by omega
  have q1 : ¬ (n : Int) ≤ (j : Int) := by omega
  go_enter Try.func36, Try.ntmps36
  go_wp2_with fail
  refine (HC'.out _ (below_alloc HB.out _)).mono ?_
  rintro e w1 ⟨rfl, hB⟩
  have HB1 := Aside0.mk (below_then (below_alloc HB.out _) (by simp) hB)
  have HX1 := Aside0.mk (show BoxL w1 w.heap.size n (.slice A1 ls.length c1) (.slice A2 es.length c2) from blk_below (blk_new w _) hB)
  have b0 := HX1.out.c0
  clear hB
  go_wp2_with fail
  refine (alone_any j w1 (by omega)).mono ?_
  rintro e w2 ⟨rfl, hB⟩
  have HB2 := Aside0.mk (below_then HB1.out HB1.out.size hB)
  have HX2 := Aside0.mk (HX1.out.below hB)
  clear hB b0 HX1 HB1 HC'
  obtain ⟨g, hg⟩ : ∃ g, g = w2.heap.size := ⟨_, rfl⟩
  have hne : w.heap.size < g := by rw [hg]; exact (Array.getElem?_eq_some_iff.1 HX2.out).1
  go_wp2_with fail
  rw [zero_set, ← hg]
  have HS0 := Aside0.mk (show TBSt w (w2.alloc (Obj.cells (encSet fun _ => false).toArray 107)) n (.slice A1 ls.length c1) (.slice A2 es.length c2) g (fun _ => false) from ⟨HX2.out.below (below_alloc (Below.refl _ _) _), set_new _ _ _ hg.symm, hne, below_alloc HB2.out _⟩)
  clear hg
  generalize (w2.alloc (Obj.cells (encSet fun _ => false).toArray 107)) = W at HS0 ⊢
  have HS1 := Aside0.mk (HS0.out.store (withN (fun _ => false) j))
  have e1 : withN (fun _ => false) j = memS [(j : Int)] := (memS_one j).symm
  rw [e1] at HS1 ⊢
  rw [HS0.out.set.run]
  clear e1 HB2 HX2 HS0
  generalize (W.setCells g 0 (encSet (memS [(j : Int)]))) = W at HS1 ⊢
  go_wp2
  go_loopw [29] (fun i wr => ∃ k : Nat, k ≤ ws.length ∧ i = .int .i64 k ∧ Aside0 (TBSt w wr n (.slice A1 ls.length c1) (.slice A2 es.length c2) g (memS (behindW n ls es [(j : Int)] (ws.take k))))) (fun i _ => ws.length - (intOf i).toNat)
  case atStart => exact ⟨0, Nat.zero_le _, rfl, HS1⟩
  case round =>
    clear HS1
    obtain ⟨k, hk, rfl, HS⟩ := hrel
    by_cases hlt : k < ws.length
    · obtain ⟨ad, hA, g0⟩ := atS HR3.out k hlt
      subst hA
      replace g0 := later HS.out.below g0
      have i0 : (k : Int) < (ws.length : Int) := by omega
      obtain ⟨s, hs⟩ : ∃ s, s = ws.getD k ByteArray.empty := ⟨_, rfl⟩
      rw [← hs] at g0
      have HN := Aside0.mk (show behindW n ls es [(j : Int)] (ws.take (k + 1)) = nextL n es (behindW n ls es [(j : Int)] (ws.take k)) (placeS ls s) by rw [take_snoc ByteArray.empty hlt, behindW_snoc, hs])
      obtain ⟨L, hL⟩ : ∃ L, L = behindW n ls es [(j : Int)] (ws.take k) := ⟨_, rfl⟩
      rw [← hL] at HS HN
      obtain ⟨p, hp⟩ : ∃ p, p = placeS ls s := ⟨_, rfl⟩
      rw [← hp] at HN
      have HNS := Aside0.mk (show memS (behindW n ls es [(j : Int)] (ws.take (k + 1))) = leads es (memS L) p by rw [HN.out]; exact HMS.out L p)
      have HP : ∀ W, Below w.heap.size w W → Calls Try.prog 78 #[.slice A1 ls.length c1, .string s] W fun e w' => e = .returned (.int .i64 p) ∧ W = w' := fun W hW => by rw [hp]; exact place_any ls s A1 c1 W (Kd.C_below HR1.out hW)
      have HP' := Lib.hid HP
      clear hs hL hp HP HN
      go_wp2_with fail
      refine start_ (n := 8) (S := fun w' => w'.cell? ⟨w.heap.size, 0, none⟩ = some (.int .i64 (n : Int)) ∧ w'.cell? ⟨w.heap.size, 1, none⟩ = some (.slice A1 ls.length c1) ∧ w'.cell? ⟨w.heap.size, 2, none⟩ = some (.slice A2 es.length c2) ∧ w'.rangeAt g 0 (encSet (memS L))) (ds := [7]) #[false, false, false, false, false, false, false, false] (by kernel_rfl) rfl rfl ⟨HS.out.box.c0, HS.out.box.c1, HS.out.box.c2, HS.out.set.range⟩ (fun hHeld => ?_)
      have HV := Aside0.mk (HS.out.on (below_drew1 (Below.refl wr.heap.size wr)))
      generalize wr.drew = V at HV hHeld ⊢
      clear g0
      refine pure_ (i := 2) (N := some 35) (v := ?_) (a' := ?_) #[false, false, true, false, false, false, false, false] rfl rfl (by kernel_rfl) (fun _ _ _ h => h) (Or.inl ⟨by rfl, ?_⟩) ?_ ?_
      rotate_left
      · intro w'
        go_simp
        with_reducible rfl
      rotate_left
      · simp only [Act.put, List.setIfInBounds_toArray, List.set_cons_zero, List.set_cons_succ, i64_w, i32_w]
        rfl
      refine pure_ (i := 4) (N := some 37) (v := ?_) (a' := ?_) #[false, false, true, false, true, false, false, false] rfl rfl (by kernel_rfl) (fun _ _ _ h => h) (Or.inl ⟨by rfl, ?_⟩) ?_ ?_
      rotate_left
      · intro w'
        go_simp
        with_reducible rfl
      rotate_left
      · simp only [Act.put, List.setIfInBounds_toArray, List.set_cons_zero, List.set_cons_succ, i64_w, i32_w]
        rfl
      refine take_ (i := 0) (N := some 33) (v := ?_) (a' := ?_) #[true, false, true, false, true, false, false, false] rfl rfl (by kernel_rfl) (fun _ _ _ h => h) (Or.inl ⟨by rfl, ?_⟩) hHeld ?_ ?_
      rotate_left
      · rintro w' ⟨s0, s1, s2, s3⟩
        go_simp
        with_reducible rfl
      rotate_left
      · simp only [Act.put, List.setIfInBounds_toArray, List.set_cons_zero, List.set_cons_succ, i64_w, i32_w]
        rfl
      refine take_ (i := 1) (N := some 34) (v := ?_) (a' := ?_) #[true, true, true, false, true, false, false, false] rfl rfl (by kernel_rfl) (fun _ _ _ h => h) (Or.inl ⟨by rfl, ?_⟩) hHeld ?_ ?_
      rotate_left
      · rintro w' ⟨s0, s1, s2, s3⟩
        refine run_load_set (x := .tmp 7) (b := g) (S := memS L) ?_ ?_ s3 <;> rfl
      rotate_left
      · simp only [Act.put, List.setIfInBounds_toArray, List.set_cons_zero, List.set_cons_succ, i64_w, i32_w]
        rfl
      refine take_ (i := 3) (N := some 36) (v := ?_) (a' := ?_) #[true, true, true, true, true, false, false, false] rfl rfl (by kernel_rfl) (fun _ _ _ h => h) (Or.inl ⟨by rfl, ?_⟩) hHeld ?_ ?_
      rotate_left
      · rintro w' ⟨s0, s1, s2, s3⟩
        go_simp
        with_reducible rfl
      rotate_left
      · simp only [Act.put, List.setIfInBounds_toArray, List.set_cons_zero, List.set_cons_succ, i64_w, i32_w]
        rfl
      refine one_ (i := 5) (N := some 38) #[true, true, true, true, true, true, false, false] rfl rfl (by kernel_rfl) (by decide) (fun K hK => ?_)
      refine goes_ Try.func78 (by kernel_rfl) rfl #[.slice A1 ls.length c1, .string s] (by rfl) rfl rfl (by simp only [List.map_toArray, List.map_cons, List.map_nil]; rfl) ?_
      refine (HP'.out _ HV.out.below).mono ?_
      rintro e w3 ⟨rfl, rfl⟩
      refine ⟨_, rfl, ?_⟩
      refine hK.out _ _ ⟨hHeld.1, hHeld.2.1, hHeld.2.2.1, hHeld.2.2.2⟩ (fun hHeld => ?_)
      clear hK K
      refine norm_ (a' := ?_) ?_ ?_
      rotate_left
      · show Act.put _ (some 38) _ = _
        simp only [Act.put, List.setIfInBounds_toArray, List.set_cons_zero, List.set_cons_succ, i64_w, i32_w]
        rfl
      refine one_ (i := 6) (N := some 39) #[true, true, true, true, true, true, true, false] rfl rfl (by kernel_rfl) (by decide) (fun K hK => ?_)
      refine goes_ Try.func77 (by kernel_rfl) rfl #[.agg #[.int .i64 (n : Int), .slice A1 ls.length c1, .slice A2 es.length c2], .agg (encSet (memS L)).toArray, .int .i64 p] (by rfl) rfl rfl (by simp only [List.map_toArray, List.map_cons, List.map_nil]; rfl) ?_
      refine (behind_any n ls es (memS L) p _ A2 c2 _ (Kd.C_below HR2.out HV.out.below) HM.out).mono ?_
      rintro e w3 ⟨rfl, hB3⟩
      refine ⟨_, rfl, ?_⟩
      have HB3 := Aside0.mk hB3
      have HS3 := Aside0.mk (HV.out.on hB3)
      clear hB3
      refine hK.out _ _ ⟨later HB3.out hHeld.1, later HB3.out hHeld.2.1, later HB3.out hHeld.2.2.1, HS3.out.set.range⟩ (fun hHeld => ?_)
      clear hK K
      refine norm_ (a' := ?_) ?_ ?_
      rotate_left
      · show Act.put _ (some 39) _ = _
        simp only [Act.put, List.setIfInBounds_toArray, List.set_cons_zero, List.set_cons_succ, i64_w, i32_w]
        rfl
      refine last_ (i := 7) (N := none) #[true, true, true, true, true, true, true, true] rfl rfl (by kernel_rfl) (by decide) (fun K hK => ?_)
      refine skip_ (w1 := ?_) (by rfl) rfl ?_ ?_
      rotate_left
      · refine run_store_set (x := .tmp 7) (y := .tmp 39) (b := g) (S := leads es (memS L) p) ?_ ?_ ?_ HS3.out.set.there <;> rfl
      have HS4 := Aside0.mk (HS3.out.store (leads es (memS L) p))
      rw [← HNS.out] at HS4 ⊢
      refine hK.out _ _ ?_
      clear hK K
      refine done_ (by kernel_rfl) ?_
      go_wp2
      go_roundw
      case rel => exact ⟨k + 1, by omega, by go_num, HS4⟩
      case measure => simp [intOf]; omega
    · have ek : ws.take k = ws := List.take_of_length_le (by omega)
      rw [ek] at HS
      have HG := Aside0.mk (show elems n (memS (behindW n ls es [(j : Int)] ws)) = behindW n ls es [(j : Int)] ws from good_behind ws (good_one hj))
      obtain ⟨T, hT⟩ : ∃ T, T = memS (behindW n ls es [(j : Int)] ws) := ⟨_, rfl⟩
      rw [← hT] at HS HG
      have hbox := HS.out.box.c0
      clear ek hT
      go_wp2
      clear hbox
      go_loopw [10, 43] (fun v i wr2 => ∃ k : Nat, k ≤ n ∧ i = .int .i64 k ∧ Aside0 (Kd.R (Kd.int .i64) 3 wr2 w.heap.size (fun _ => True) v (elems k T)) ∧ Aside0 (TBSt w wr2 n (.slice A1 ls.length c1) (.slice A2 es.length c2) g T)) (fun _ i _ => n - (intOf i).toNat)
      case atStart => exact ⟨0, Nat.zero_le _, rfl, ⟨Kd.R_nil _ _ _ _ _⟩, HS⟩
      case round =>
        clear HS
        obtain ⟨k, hk, rfl, HO, HS⟩ := hrel
        by_cases hlt2 : k < n
        · have i0 : (k : Int) < (n : Int) := by omega
          have HSu := Aside0.mk (elems_succ k T)
          have hlen := elems_len k T
          obtain ⟨L, hL⟩ : ∃ L, L = elems k T := ⟨_, rfl⟩
          rw [← hL] at HO HSu hlen
          clear hL
          go_wp2_with fail
          refine (has_set g k T _ HS.out.set (by omega)).mono ?_
          rintro e w3 ⟨rfl, rfl⟩
          cases hk2 : T k with
          | false =>
            rw [hk2] at HSu
            clear hk2
            go_wp2
            go_roundw
            case rel => exact ⟨k + 1, by omega, by go_num, ⟨by rw [HSu.out]; simpa using HO.out⟩, HS⟩
            case measure => simp [intOf]; omega
          | true =>
            rw [hk2] at HSu
            clear hk2
            go_wp2_with (at_builtin; refine Kd.R_append (Kd.int .i64) (w0 := w) w.heap.size rfl (.tmp 48) (.tmp 50) 42 3 (.int .i64 0) 8 rfl Try.underlying42 info3 rfl (by decide) (by omega) u10 L (k : Int) [.int .i64 (k : Int)] (fun _ => True) (fun _ => False) rfl rfl rfl (fun _ hk => hk.elim) (fun _ _ => trivial) HO.out HS.out.below HS.out.below.size (by omega) ?_; intro v2 w2 ho hb hg hat; have HO2 := Aside0.mk ho; have HS2 := Aside0.mk (HS.out.grown hg (Kd.R_ne HO.out HS.out.box (by decide)) (Kd.R_ne HO.out HS.out.set (by decide)) hb); clear ho hb hg hat)
            go_roundw
            case rel => exact ⟨k + 1, by omega, by go_num, ⟨by rw [HSu.out]; exact HO2.out⟩, HS2⟩
            case measure => simp [intOf]; omega
        · obtain rfl : k = n := by omega
          rw [HG.out] at HO
          go_wp2
          go_ret
          exact ⟨_, rfl, HO.out, HS.out.below⟩

theorem tbehind_any (n : Int) (ls : List ByteArray) (es : List Ed) (node : Int) (ws : List ByteArray) (A1 A2 A3 : Option Addr) (c1 c2 c3 : Nat) (w : World) (hr1 : Kd.C Kd.string w A1 ls.length ls) (hr2 : Kd.C k81 w A2 es.length es) (hr3 : Kd.C Kd.string w A3 ws.length ws) :
    Calls Try.prog 36 #[.agg #[.int .i64 n, .slice A1 ls.length c1, .slice A2 es.length c2], .int .i64 node, .slice A3 ws.length c3] w (MadeI w (behindL n ls es node ws)) := by
  unfold behindL
  by_cases h : mayR n ls es = true ∧ 0 ≤ node ∧ node < n
  · rw [if_pos h]
    obtain ⟨hm, h1, h2⟩ := h
    obtain ⟨m, rfl⟩ := Int.eq_ofNat_of_zero_le (show 0 ≤ n by omega)
    obtain ⟨j, rfl⟩ := Int.eq_ofNat_of_zero_le h1
    exact tbehind_yes m j ls es ws A1 A2 A3 c1 c2 c3 w hr1 hr2 hr3 hm (Int.ofNat_lt.1 h2)
  · rw [if_neg h]
    exact tbehind_no n ls es node ws A1 A2 A3 c1 c2 c3 w hr1 hr2 h
/-- Has a node a word? -/
def hasW (n : Int) (ls : List ByteArray) (es : List Ed) (node : Int) (ws : List ByteArray) : Bool := decide (0 < (behindL n ls es node ws).length)
theorem thas_any (n : Int) (ls : List ByteArray) (es : List Ed) (node : Int) (ws : List ByteArray) (r : Bool) (hr : hasW n ls es node ws = r) (A1 A2 A3 : Option Addr) (c1 c2 c3 : Nat) (w : World) (hr1 : Kd.C Kd.string w A1 ls.length ls) (hr2 : Kd.C k81 w A2 es.length es) (hr3 : Kd.C Kd.string w A3 ws.length ws) :
    Calls Try.prog 37 #[.agg #[.int .i64 n, .slice A1 ls.length c1, .slice A2 es.length c2], .int .i64 node, .slice A3 ws.length c3] w fun e w' => e = .returned (.bool r) ∧ Below w.heap.size w w' := by
  have HB := Aside0.mk (Below.refl w.heap.size w)
  have HC : ∀ W, Below w.heap.size w W → Calls Try.prog 36 #[.agg #[.int .i64 n, .slice A1 ls.length c1, .slice A2 es.length c2], .int .i64 node, .slice A3 ws.length c3] W (MadeI W (behindL n ls es node ws)) := fun W hW =>
    tbehind_any n ls es node ws A1 A2 A3 c1 c2 c3 W (Kd.C_below hr1 hW) (Kd.C_below hr2 hW) (Kd.C_below hr3 hW)
  have HC' := Lib.hid HC
  unfold hasW at hr
  obtain ⟨L, hL⟩ : ∃ L, L = behindL n ls es node ws := ⟨_, rfl⟩
  rw [← hL] at HC' hr
  have HR := Aside0.mk hr
  clear HC hr1 hr2 hr3 hL hr
  go_enter Try.func37, Try.ntmps37
  go_wp2_with fail
  refine (HC'.out _ (below_alloc HB.out _)).mono ?_
  rintro e w1 ⟨v, rfl, hR, hB⟩
  obtain ⟨Aa, ca, rfl, _, hCa⟩ := Kd.R_reads hR
  have HB1 := Aside0.mk (below_then (below_alloc HB.out _) (by simp) hB)
  clear hR hCa hB
  go_wp2
  go_ret
  exact ⟨ret_bool (by rw [← HR.out]), HB1.out⟩

end Go.Proofs.Ytmpiokdomjchiaa.H
