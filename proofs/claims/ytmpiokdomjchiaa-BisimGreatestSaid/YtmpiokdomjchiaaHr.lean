/-
  The walk of semblanceref35.Greatest.
-/
import Derived.Test.YtmpiokdomjchiaaPe
set_option linter.unusedVariables false
set_option linter.unusedSimpArgs false
namespace Go.Proofs.Ytmpiokdomjchiaa.H
open Go.RowKit Go.Proofs.Ytmpiokdomjchiaa.Pr Go.Proofs.YtmpiokdomjchiaaW.PrintWords Go.Proofs.Ytmpiokdomjchiaa.Sem Go.Proofs.YtmpiokdomjchiaaW.PrintLast

/-- The first k pairs that are told. -/
def toldTo (n : Nat) (P : List Bool) (k : Nat) : List Pair := ((List.range k).filter fun i => P.getD i false).map fun i : Nat => (⟨((i / n : Nat) : Int), ((i % n : Nat) : Int)⟩ : Pair)
theorem toldTo_succ (n : Nat) (P : List Bool) (k : Nat) : toldTo n P (k + 1) = toldTo n P k ++ (if P.getD k false then [(⟨((k / n : Nat) : Int), ((k % n : Nat) : Int)⟩ : Pair)] else []) := by
  unfold toldTo
  rw [List.range_succ, List.filter_append, List.map_append]
  congr 1
  rw [List.filter_cons]
  split <;> rfl
theorem toldTo_len (n : Nat) (P : List Bool) (k : Nat) : (toldTo n P k).length ≤ k := by
  unfold toldTo
  rw [List.length_map]
  exact Nat.le_trans (List.length_filter_le _ _) (by simp)
theorem empty31 (W : World) (base b : Nat) (hb : base ≤ W.heap.size) (he : W.heap.size = b) : RP (W.alloc (.cells #[] 31)) base (fun _ => True) (.slice (some ⟨b, 0, none⟩) 0 0) [] := by
  subst he
  refine ⟨fun _ _ => trivial, [], ?_, Reps.none _ _⟩
  exact World.ownsRow_lit (base := base) (e := 31) (size := 2) W #[] 0 hb (by simp) (by simp)

set_option maxHeartbeats 8000000 in
set_option maxRecDepth 100000 in
theorem refGreatest_any (n : Nat) (ls : List ByteArray) (es : List Ed) (v1 : Value) (A2 : Option Addr) (c2 : Nat) (w : World) (hr2 : Kd.C k81 w A2 es.length es) (hm : mayR n ls es = true) :
    Calls Try.prog 24 #[.agg #[.int .i64 n, v1, .slice A2 es.length c2]] w fun e w' => ∃ v, e = .returned v ∧ RP w' w.heap.size (fun _ => True) v (greatL n es) ∧ Below w.heap.size w w' := by
  rw [great_list n ls es hm]
  obtain ⟨hPl, _, _⟩ := iter_spec n es (n * n + 1) (List.replicate (n * n) true) (by simp) (by simp)
  unfold toldL
  have hPl2 : (pairsR n es).length = n * n := hPl
  clear hPl
  obtain ⟨P, hP⟩ : ∃ P, P = pairsR n es := ⟨_, rfl⟩
  rw [← hP] at hPl2 ⊢
  have HPl := Aside0.mk hPl2
  clear hPl2
  have HB := Aside0.mk (Below.refl w.heap.size w)
  have HR2 := Aside0.mk hr2
  have HM := Aside0.mk hm
  have hn := n_le hm
  have hnn : n * n ≤ 4194304 := Nat.mul_le_mul (show n ≤ 2048 by omega) (show n ≤ 2048 by omega)
  have HP0 : ∀ W, Below w.heap.size w W → Calls Try.prog 69 #[.agg #[.int .i64 n, v1, .slice A2 es.length c2]] W fun e w' => ∃ v, e = .returned v ∧ RB w' W.heap.size v P ∧ Below W.heap.size W w' := fun W hW => by rw [hP]; exact pairsR_any n ls es v1 A2 c2 W (Kd.C_below hr2 hW) hm
  have HP1 := Lib.hid HP0
  clear HP0 hr2 hm hP
  have hnz : ((n : Int) == 0) = false := by have := hn.1; simp; omega
  have hnz2 : ¬ n = 0 := by have := hn.1; omega
  go_enter Try.func24, Try.ntmps24
  go_wp2_with fail
  refine (HP1.out _ (below_alloc HB.out _)).mono ?_
  rintro e w1 ⟨v, rfl, hR, hB⟩
  obtain ⟨A3, c3, rfl, _, hC⟩ := Kd.R_reads hR
  have HX := Aside0.mk (show BoxL w1 w.heap.size n v1 (.slice A2 es.length c2) from blk_below (blk_new w _) hB)
  have HB1 := Aside0.mk (below_then (below_alloc HB.out _) (by simp) hB)
  have HC := Aside0.mk hC
  clear hB hR hC
  have hPl := HPl.out
  have hpl2 : P.length ≤ 4194304 := by omega
  clear hPl
  go_wp2
  go_loopw [4, 5] (fun v i wr => ∃ k : Nat, k ≤ P.length ∧ i = .int .i64 k ∧ Aside0 (RP wr w1.heap.size (fun _ => True) v (toldTo n P k)) ∧ Aside0 (Below w1.heap.size w1 wr)) (fun _ i _ => P.length - (intOf i).toNat)
  case atStart => exact ⟨0, Nat.zero_le _, rfl, ⟨empty31 _ _ _ (Nat.le_refl _) rfl⟩, ⟨below_alloc (Below.refl _ _) _⟩⟩
  case round =>
    obtain ⟨k, hk, rfl, HO, HBr⟩ := hrel
    by_cases hlt : k < P.length
    · obtain ⟨ap, hAp, gp⟩ := atB HC.out k hlt
      subst hAp
      replace gp := later HBr.out gp
      obtain ⟨z, hz⟩ : ∃ z, z = P.getD k false := ⟨_, rfl⟩
      rw [← hz] at gp
      have HT := Aside0.mk (show toldTo n P (k + 1) = toldTo n P k ++ (if z then [(⟨((k / n : Nat) : Int), ((k % n : Nat) : Int)⟩ : Pair)] else []) by rw [toldTo_succ, hz])
      clear hz
      cases z with
      | false =>
        go_wp2
        go_roundw
        case rel => exact ⟨k + 1, by omega, by go_num, ⟨by rw [HT.out]; simpa using HO.out⟩, HBr⟩
        case measure => simp [intOf]; omega
      | true =>
        obtain ⟨kq, hkq⟩ : ∃ q, q = k / n := ⟨_, rfl⟩
        obtain ⟨kr, hkr⟩ : ∃ q, q = k % n := ⟨_, rfl⟩
        have hkl : kq ≤ 4194304 := by rw [hkq]; exact Nat.le_trans (Nat.div_le_self _ _) (by omega)
        have hq : IntKind.i64.wrap (Int.tdiv (k : Int) (n : Int)) = (kq : Int) := by
          rw [show Int.tdiv (k : Int) (n : Int) = ((k / n : Nat) : Int) from rfl, ← hkq, IntKind.wrap_i64]
          omega
        have hq2 : wrap64 (Int.tdiv (k : Int) (n : Int)) = (kq : Int) := by rw [← i64_w]; exact hq
        have hr : Int.tmod (k : Int) (n : Int) = (kr : Int) := by rw [hkr]; rfl
        have hq3 : IntKind.i64.wrap ((k : Int) / (n : Int)) = (kq : Int) := hq
        have hq4 : wrap64 ((k : Int) / (n : Int)) = (kq : Int) := hq2
        have hr2 : (k : Int) % (n : Int) = (kr : Int) := hr
        have hkrl : kr ≤ 4194304 := by rw [hkr]; exact Nat.le_trans (Nat.mod_le _ _) (by omega)
        have hr3 : IntKind.i64.wrap ((k : Int) % (n : Int)) = (kr : Int) := by rw [hr2, IntKind.wrap_i64]; omega
        have HN := Aside0.mk (show toldTo n P (k + 1) = toldTo n P k ++ [(⟨(kq : Int), (kr : Int)⟩ : Pair)] by rw [HT.out, if_pos rfl, hkq, hkr])
        have hTl := toldTo_len n P k
        obtain ⟨L, hL⟩ : ∃ L, L = toldTo n P k := ⟨_, rfl⟩
        rw [← hL] at HO hTl HN
        clear hkq hkr hkl hkrl hL HT
        have c0 := later HBr.out HX.out.c0
        go_wp2_with fail
        refine start_ (n := 13) (S := fun w' => w'.cell? ⟨w.heap.size, 0, none⟩ = some (.int .i64 (n : Int))) (ds := []) #[false, false, false, false, false, false, false, false, false, false, false, false, false] (by kernel_rfl) rfl rfl (c0) (fun hHeld => ?_)
        have HV := Aside0.mk (below_drew1 HBr.out)
        have HOV := Aside0.mk (Kd.R_below HO.out (below_drew1 (Below.refl wr.heap.size wr)))
        generalize wr.drew = V at HV HOV hHeld ⊢
        clear c0
        refine pure_ (i := 0) (N := some 19) (v := ?_) (a' := ?_) #[true, false, false, false, false, false, false, false, false, false, false, false, false] rfl rfl (by kernel_rfl) (fun _ _ _ h => h) (Or.inl ⟨by rfl, ?_⟩) ?_ ?_
        rotate_left
        · intro w'
          go_simp
          with_reducible rfl
        rotate_left
        · simp only [Act.put, List.setIfInBounds_toArray, List.set_cons_zero, List.set_cons_succ, i64_w, i32_w]
          rfl
        refine pure_ (i := 1) (N := some 20) (v := ?_) (a' := ?_) #[true, true, false, false, false, false, false, false, false, false, false, false, false] rfl rfl (by kernel_rfl) (fun _ _ _ h => h) (Or.inl ⟨by rfl, ?_⟩) ?_ ?_
        rotate_left
        · intro w'
          go_simp
          with_reducible rfl
        rotate_left
        · simp only [Act.put, List.setIfInBounds_toArray, List.set_cons_zero, List.set_cons_succ, i64_w, i32_w]
          rfl
        refine pure_ (i := 2) (N := some 21) (v := ?_) (a' := ?_) #[true, true, true, false, false, false, false, false, false, false, false, false, false] rfl rfl (by kernel_rfl) (fun _ _ _ h => h) (Or.inl ⟨by rfl, ?_⟩) ?_ ?_
        rotate_left
        · intro w'
          go_simp
          with_reducible rfl
        rotate_left
        · simp only [Act.put, List.setIfInBounds_toArray, List.set_cons_zero, List.set_cons_succ, i64_w, i32_w]
          rfl
        refine pure_ (i := 5) (N := some 24) (v := ?_) (a' := ?_) #[true, true, true, false, false, true, false, false, false, false, false, false, false] rfl rfl (by kernel_rfl) (fun _ _ _ h => h) (Or.inl ⟨by rfl, ?_⟩) ?_ ?_
        rotate_left
        · intro w'
          go_simp
          with_reducible rfl
        rotate_left
        · simp only [Act.put, List.setIfInBounds_toArray, List.set_cons_zero, List.set_cons_succ, i64_w, i32_w]
          rfl
        refine pure_ (i := 6) (N := some 25) (v := ?_) (a' := ?_) #[true, true, true, false, false, true, true, false, false, false, false, false, false] rfl rfl (by kernel_rfl) (fun _ _ _ h => h) (Or.inl ⟨by rfl, ?_⟩) ?_ ?_
        rotate_left
        · intro w'
          go_simp
          with_reducible rfl
        rotate_left
        · simp only [Act.put, List.setIfInBounds_toArray, List.set_cons_zero, List.set_cons_succ, i64_w, i32_w]
          rfl
        refine take_ (i := 3) (N := some 22) (v := ?_) (a' := ?_) #[true, true, true, true, false, true, true, false, false, false, false, false, false] rfl rfl (by kernel_rfl) (fun _ _ _ h => h) (Or.inl ⟨by rfl, ?_⟩) hHeld ?_ ?_
        rotate_left
        · intro w' s0
          go_simp
          with_reducible rfl
        rotate_left
        · simp only [Act.put, List.setIfInBounds_toArray, List.set_cons_zero, List.set_cons_succ, i64_w, i32_w]
          rfl
        refine pure_ (i := 4) (N := some 23) (v := ?_) (a' := ?_) #[true, true, true, true, true, true, true, false, false, false, false, false, false] rfl rfl (by kernel_rfl) (fun _ _ _ h => h) (Or.inl ⟨by rfl, ?_⟩) ?_ ?_
        rotate_left
        · intro w'
          go_simp
          with_reducible rfl
        rotate_left
        · simp only [Act.put, List.setIfInBounds_toArray, List.set_cons_zero, List.set_cons_succ, i64_w, i32_w]
          rfl
        refine take_ (i := 7) (N := some 26) (v := ?_) (a' := ?_) #[true, true, true, true, true, true, true, true, false, false, false, false, false] rfl rfl (by kernel_rfl) (fun _ _ _ h => h) (Or.inl ⟨by rfl, ?_⟩) hHeld ?_ ?_
        rotate_left
        · intro w' s0
          go_simp
          with_reducible rfl
        rotate_left
        · simp only [Act.put, List.setIfInBounds_toArray, List.set_cons_zero, List.set_cons_succ, i64_w, i32_w]
          rfl
        refine pure_ (i := 8) (N := some 27) (v := ?_) (a' := ?_) #[true, true, true, true, true, true, true, true, true, false, false, false, false] rfl rfl (by kernel_rfl) (fun _ _ _ h => h) (Or.inl ⟨by rfl, ?_⟩) ?_ ?_
        rotate_left
        · intro w'
          go_simp
          with_reducible rfl
        rotate_left
        · simp only [Act.put, List.setIfInBounds_toArray, List.set_cons_zero, List.set_cons_succ, i64_w, i32_w]
          rfl
        refine pure_ (i := 9) (N := some 28) (v := ?_) (a' := ?_) #[true, true, true, true, true, true, true, true, true, true, false, false, false] rfl rfl (by kernel_rfl) (fun _ _ _ h => h) (Or.inl ⟨by rfl, ?_⟩) ?_ ?_
        rotate_left
        · intro w'
          go_simp
          with_reducible rfl
        rotate_left
        · simp only [Act.put, List.setIfInBounds_toArray, List.set_cons_zero, List.set_cons_succ, i64_w, i32_w]
          rfl
        refine one_ (i := 10) (N := some 29) #[true, true, true, true, true, true, true, true, true, true, true, false, false] rfl rfl (by kernel_rfl) (by decide) (fun K hK => ?_)
        refine value_ (w1 := ?_) (v := ?_) (by rfl) rfl ?_ ?_
        rotate_left 2
        · go_simp
          constructor
          · rfl
          · rfl
        refine hK.out _ _ (later (below_alloc (Below.refl _ _) _) hHeld) (fun hHeld => ?_)
        clear hK K
        refine norm_ (a' := ?_) ?_ ?_
        rotate_left
        · show Act.put _ (some 29) _ = _
          simp only [Act.put, List.setIfInBounds_toArray, List.set_cons_zero, List.set_cons_succ, i64_w, i32_w]
          rfl
        refine one_ (i := 11) (N := some 30) #[true, true, true, true, true, true, true, true, true, true, true, true, false] rfl rfl (by kernel_rfl) (by decide) (fun K hK => ?_)
        refine Kd.R_append_step k31 (w0 := w1) w1.heap.size (by rfl) (.tmp 19) (.tmp 29) 26 31 (.agg #[(.int .i64 0), (.int .i64 0)]) 16 rfl Try.underlying26 info31 rfl (by decide) (by omega) u4 L (⟨(kq : Int), (kr : Int)⟩ : Pair) [.int .i64 (kq : Int), .int .i64 (kr : Int)] (fun _ => True) (fun _ => False) rfl rfl ?aP (fun _ hk => hk.elim) ?aF ?aO ?aB ?aS ?aL ?_
        (case aP => exact k31_mkM _ _ _ (⟨(kq : Int), (kr : Int)⟩ : Pair))
        (case aF => exact fun _ _ => trivial)
        (case aO => exact HOV.out)
        (case aB => exact HV.out)
        (case aS => exact HV.out.size)
        (case aL => omega)
        intro v2 w3 ho hb hg hat
        have HO3 := Aside0.mk ho
        have HB3 := Aside0.mk hb
        have hX3 := later hb HX.out.c0
        clear ho hb hg hat
        refine hK.out _ _ (hX3) (fun hHeld => ?_)
        clear hK K
        refine norm_ (a' := ?_) ?_ ?_
        rotate_left
        · show Act.put _ (some 30) _ = _
          simp only [Act.put, List.setIfInBounds_toArray, List.set_cons_zero, List.set_cons_succ, i64_w, i32_w]
          rfl
        refine pure_ (i := 12) (N := some 4) (v := ?_) (a' := ?_) #[true, true, true, true, true, true, true, true, true, true, true, true, true] rfl rfl (by kernel_rfl) (fun _ _ _ h => h) (Or.inl ⟨by rfl, ?_⟩) ?_ ?_
        rotate_left
        · intro w'
          go_simp
          with_reducible rfl
        rotate_left
        · simp only [Act.put, List.setIfInBounds_toArray, List.set_cons_zero, List.set_cons_succ, i64_w, i32_w]
          rfl
        refine done_ (by kernel_rfl) ?_
        go_wp2
        go_roundw
        case rel => exact ⟨k + 1, by omega, by go_num, ⟨by rw [HN.out]; exact HO3.out⟩, HB3⟩
        case measure => simp [intOf]; omega
    · have ek : k = P.length := by omega
      rw [ek] at HO
      go_wp2
      go_ret
      exact ⟨_, rfl, Kd.R_lower HO.out HB1.out.size, below_then HB1.out HB1.out.size HBr.out⟩

end Go.Proofs.Ytmpiokdomjchiaa.H
