/-
  Walks: semblanceref34.Pairs.
-/
import Derived.Test.YtmpiokdomjchiaaHp
set_option linter.unusedVariables false
set_option linter.unusedSimpArgs false
namespace Go.Proofs.Ytmpiokdomjchiaa.H
open Go.RowKit Go.Proofs.Ytmpiokdomjchiaa.Pr Go.Proofs.YtmpiokdomjchiaaW.PrintWords Go.Proofs.Ytmpiokdomjchiaa.Sem Go.Proofs.YtmpiokdomjchiaaW.PrintLast

/-- One pair is looked at. -/
def stepP (n : Nat) (es : List Ed) (P : List Bool) (i : Nat) : List Bool :=
  if P.getD i false && (!folR n es P ((i / n : Nat) : Int) ((i % n : Nat) : Int) || !folR n es P ((i % n : Nat) : Int) ((i / n : Nat) : Int)) then P.set i false else P
/-- The first k pairs are looked at. -/
def sweepTo (n : Nat) (es : List Ed) (P : List Bool) : Nat → List Bool
  | 0 => P
  | k + 1 => stepP n es (sweepTo n es P k) k
/-- Round by round. -/
def iterP (n : Nat) (es : List Ed) : Nat → List Bool → List Bool
  | 0, P => P
  | f + 1, P => if sweepTo n es P (n * n) = P then P else iterP n es f (sweepTo n es P (n * n))
/-- semblanceref34.Pairs. -/
def pairsR (n : Nat) (es : List Ed) : List Bool := iterP n es (n * n + 1) (List.replicate (n * n) true)
theorem stepP_length (n : Nat) (es : List Ed) (P : List Bool) (i : Nat) : (stepP n es P i).length = P.length := by
  unfold stepP; split
  · rw [List.length_set]
  · rfl
theorem sweepTo_length (n : Nat) (es : List Ed) (P : List Bool) : ∀ k, (sweepTo n es P k).length = P.length
  | 0 => rfl
  | k + 1 => by rw [sweepTo, stepP_length, sweepTo_length n es P k]
theorem count_set_lt {P : List Bool} {i : Nat} (h : P.getD i false = true) : (P.set i false).count true + 1 = P.count true := by
  have hi : i < P.length := by
    rcases Nat.lt_or_ge i P.length with h' | h'
    · exact h'
    · rw [List.getD_eq_getElem?_getD, List.getElem?_eq_none h'] at h; cases h
  have hv : P[i] = true := by rw [List.getD_eq_getElem?_getD, List.getElem?_eq_getElem hi] at h; exact h
  rw [List.count_set hi, hv]
  have : 0 < P.count true := List.count_pos_iff.2 (hv ▸ List.getElem_mem hi)
  simp
  omega
theorem stepP_count (n : Nat) (es : List Ed) (P : List Bool) (i : Nat) : stepP n es P i = P ∨ (stepP n es P i).count true < P.count true := by
  unfold stepP
  split
  · rename_i h
    simp only [Bool.and_eq_true] at h
    right
    have := count_set_lt h.1
    omega
  · exact .inl rfl
theorem sweepTo_count (n : Nat) (es : List Ed) (P : List Bool) : ∀ k, sweepTo n es P k = P ∨ (sweepTo n es P k).count true < P.count true
  | 0 => .inl rfl
  | k + 1 => by
    rw [sweepTo]
    rcases sweepTo_count n es P k with h | h
    · rw [h]; exact stepP_count n es P k
    · rcases stepP_count n es (sweepTo n es P k) k with h2 | h2
      · rw [h2]; exact .inr h
      · exact .inr (Nat.lt_trans h2 h)
theorem div_lt_node {n i : Nat} (h : i < n * n) : i / n < n ∧ i % n < n := by
  have hn : 0 < n := by
    rcases Nat.eq_zero_or_pos n with h0 | h0
    · subst h0; simp at h
    · exact h0
  exact ⟨Nat.div_lt_of_lt_mul h, Nat.mod_lt _ hn⟩

theorem frozen_later {w w1 : World} (hb : Below w.heap.size w w1) {a : Addr} (ha : a.block < w.heap.size) : w1.frozen? a = w.frozen? a := World.frozen?_of_block (hb.block _ ha)
abbrev RB (w : World) (base : Nat) (v : Value) (xs : List Bool) : Prop := Kd.R Kd.bool 4 w base (fun _ => True) v xs
theorem pull_all {N : Nat} {P : List Bool} (hl : P.length = N) (h : ∀ j, j < N → P.getD j false = true) : P = List.replicate N true := by
  apply List.ext_getElem
  · simp [hl]
  · intro i h1 h2
    have := h i (by omega)
    rw [List.getD_eq_getElem?_getD, List.getElem?_eq_getElem h1] at this
    simpa using this

set_option maxHeartbeats 16000000 in
set_option maxRecDepth 100000 in
theorem pairsR_any (n : Nat) (ls : List ByteArray) (es : List Ed) (v1 : Value) (A2 : Option Addr) (c2 : Nat) (w : World) (hr2 : Kd.C k81 w A2 es.length es) (hm : mayR n ls es = true) :
    Calls Try.prog 69 #[.agg #[.int .i64 n, v1, .slice A2 es.length c2]] w fun e w' => ∃ v, e = .returned v ∧ RB w' w.heap.size v (pairsR n es) ∧ Below w.heap.size w w' := by
  have HB := Aside0.mk (Below.refl w.heap.size w)
  have HR2 := Aside0.mk hr2
  have HM := Aside0.mk hm
  have hn := n_le hm
  obtain ⟨N, hN⟩ : ∃ N, N = n * n := ⟨_, rfl⟩
  have hN2 : N ≤ 4194304 := by rw [hN]; exact Nat.mul_le_mul (show n ≤ 2048 by omega) (show n ≤ 2048 by omega)
  have hw : IntKind.i64.wrap ((n : Int) * (n : Int)) = (N : Int) := by
    have e1 : ((n : Int) * (n : Int)) = (N : Int) := by rw [hN]; simp
    rw [e1, IntKind.wrap_i64]
    omega
  have HN := Aside0.mk hN
  have hmk := print_make_of (P := Try.prog) 64 4 (.bool false) 1 Try.underlying64 (by kernel_rfl) rfl (by omega) N (by omega)
  clear hr2 hm hN
  go_enter Try.func69, Try.ntmps69
  go_wp2
  clear hmk
  obtain ⟨g, hg⟩ : ∃ g, g = w.heap.size + 1 := ⟨_, rfl⟩
  have HG := Aside0.mk (show w.heap.size ≤ g by omega)
  have HR0 : RB ((w.alloc (Obj.cells #[Value.int IntKind.i64 n, v1, Value.slice A2 es.length c2] 25)).alloc (Obj.cells (madeCells #[Value.bool false] N) 4)) w.heap.size (.slice (some ⟨g, 0, none⟩) N N) (List.replicate N false) := by
    have h : RB ((w.alloc (Obj.cells #[Value.int IntKind.i64 n, v1, Value.slice A2 es.length c2] 25)).alloc (Obj.cells (madeCells #[Value.bool false] N) 4)) w.heap.size (.slice (some ⟨(w.alloc (Obj.cells #[Value.int IntKind.i64 n, v1, Value.slice A2 es.length c2] 25)).heap.size, 0, none⟩) N N) (List.replicate N false) :=
      Kd.R_of_own (enc := Value.bool) (own_made_of' (enc := Value.bool) (d := false) (w.alloc (Obj.cells #[Value.int IntKind.i64 n, v1, Value.slice A2 es.length c2] 25)) w.heap.size 4 N (by simp) (by omega)) (fun _ _ => trivial)
    rw [show (w.alloc (Obj.cells #[Value.int IntKind.i64 n, v1, Value.slice A2 es.length c2] 25)).heap.size = w.heap.size + 1 by simp] at h
    rw [hg]
    exact h
  rw [← hg]
  have HX0 := Aside0.mk (show BoxL ((w.alloc (Obj.cells #[Value.int IntKind.i64 n, v1, Value.slice A2 es.length c2] 25)).alloc (Obj.cells (madeCells #[Value.bool false] N) 4)) w.heap.size n v1 (.slice A2 es.length c2) from blk_below (blk_new w _) (below_alloc (Below.refl _ _) _))
  have HB0 := Aside0.mk (show Below w.heap.size w ((w.alloc (Obj.cells #[Value.int IntKind.i64 n, v1, Value.slice A2 es.length c2] 25)).alloc (Obj.cells (madeCells #[Value.bool false] N) 4)) by repeat (first | exact HB.out | apply below_alloc))
  have HR1 := Aside0.mk HR0
  clear hg HR0
  go_loopw [5] (fun i wr => ∃ (k : Nat) (P : List Bool), k ≤ N ∧ i = .int .i64 k ∧ Aside0 (RB wr w.heap.size (.slice (some ⟨g, 0, none⟩) N N) P) ∧ Aside0 (P.length = N ∧ ∀ j, j < k → P.getD j false = true) ∧ Aside0 (BoxL wr w.heap.size n v1 (.slice A2 es.length c2)) ∧ Aside0 (Below w.heap.size w wr)) (fun i _ => N - (intOf i).toNat)
  case atStart => exact ⟨0, _, Nat.zero_le _, rfl, HR1, ⟨by simp, fun j hj => by omega⟩, HX0, HB0⟩
  case round =>
    clear HX0 HB0 HR1
    obtain ⟨k, P, hk, rfl, HR1, HP, HX1, HB1⟩ := hrel
    by_cases hlt : k < N
    · have hcell := Kd.R_cell false (by have := HR1.out; rw [← HP.out.1] at this; exact this) (k : Int) (by omega) (by have := HP.out.1; omega)
      have hc := hcell.1
      have hf := hcell.2
      rw [Int.toNat_natCast] at hc hf
      obtain ⟨hR2, hG2⟩ := Kd.R_putg HR1.out (k : Int) true
      rw [Int.toNat_natCast] at hR2 hG2
      have HR2' := Aside0.mk hR2
      have HX2 := Aside0.mk (blk_grown (g := w.heap.size) HX1.out hG2 (by have := Kd.R_ne HR1.out HX1.out (by decide); simpa [Value.ownBlock] using this))
      have HB2 := Aside0.mk (below_set (g := g) (j := k) (v := .bool true) HB1.out HG.out)
      clear hcell hR2 hG2
      go_wp2
      go_roundw
      case rel =>
        refine ⟨k + 1, P.set k true, by omega, by go_num, HR2', ⟨by rw [List.length_set]; exact HP.out.1, fun j hj => ?_⟩, HX2, HB2⟩
        by_cases e : j = k
        · subst e
          have := HP.out.1
          simp [List.getD_eq_getElem?_getD, List.getElem?_set, this, hlt]
        · have := HP.out.2 j (by omega)
          rw [List.getD_eq_getElem?_getD] at this ⊢
          rw [List.getElem?_set_ne (by omega)]
          exact this
      case measure => simp [intOf]; omega
    · have ek : k = N := by omega
      have hP : P = List.replicate N true := pull_all HP.out.1 (fun j hj => HP.out.2 j (by omega))
      rw [hP] at HR1
      have HST := Aside0.mk (show ∃ f, (if true then iterP n es f (List.replicate N true) else List.replicate N true) = pairsR n es ∧ (List.replicate N true).count true < f ∧ (List.replicate N true).length = N from ⟨n * n + 1, by rw [if_pos rfl, HN.out]; rfl, by simp [HN.out], by simp⟩)
      clear hP HP
      go_wp2
      clear hk hlt ek
      have hc0 : (List.replicate N true).count true ≤ N := by simp
      generalize List.replicate N true = P0 at HR1 HST hc0
      have hnz : ((n : Int) == 0) = false := by have := hn.1; simp; omega
      have hnz2 : ¬ n = 0 := by have := hn.1; omega
      go_loopg [6] (2 * N + 1) (fun m b wr => ∃ (P : List Bool) (more : Bool), b = .bool more ∧ Aside0 (2 * P.count true + (if more then 1 else 0) ≤ m) ∧ Aside0 (∃ f, (if more then iterP n es f P else P) = pairsR n es ∧ P.count true < f ∧ P.length = N) ∧ Aside0 (RB wr w.heap.size (.slice (some ⟨g, 0, none⟩) N N) P) ∧ Aside0 (BoxL wr w.heap.size n v1 (.slice A2 es.length c2)) ∧ Aside0 (Below w.heap.size w wr))
      case atStart => exact ⟨P0, true, rfl, ⟨by simp; omega⟩, HST, HR1, HX1, HB1⟩
      case round =>
        clear HST HR1 HX1 HB1 hc0
        obtain ⟨P, more, rfl, HM1, HST, HR1, HX1, HB1⟩ := hrel
        cases more with
        | false =>
          have HF := Aside0.mk (show P = pairsR n es by obtain ⟨f, h, _⟩ := HST.out; simpa using h)
          go_wp2
          go_ret
          exact ⟨_, rfl, by rw [← HF.out]; exact HR1.out, HB1.out⟩
        | true =>
          go_wp2
          go_loopw [6, 7] (fun b i wr2 => ∃ k : Nat, k ≤ N ∧ i = .int .i64 k ∧ b = .bool (decide (sweepTo n es P k ≠ P)) ∧ Aside0 (RB wr2 w.heap.size (.slice (some ⟨g, 0, none⟩) N N) (sweepTo n es P k)) ∧ Aside0 (BoxL wr2 w.heap.size n v1 (.slice A2 es.length c2)) ∧ Aside0 (Below w.heap.size w wr2)) (fun _ i _ => N - (intOf i).toNat)
          case atStart => exact ⟨0, Nat.zero_le _, rfl, by simp [sweepTo], HR1, HX1, HB1⟩
          case round =>
            clear HR1 HX1 HB1
            obtain ⟨k, hk, rfl, rfl, HR1, HX1, HB1⟩ := hrel
            by_cases hlt : k < N
            · have HPl := Aside0.mk (show (sweepTo n es P k).length = N by obtain ⟨f, _, _, h⟩ := HST.out; rw [sweepTo_length]; exact h)
              obtain ⟨Pk, hPk⟩ : ∃ Pk, Pk = sweepTo n es P k := ⟨_, rfl⟩
              obtain ⟨ch, hch⟩ : ∃ ch, ch = decide (sweepTo n es P k ≠ P) := ⟨_, rfl⟩
              have HStep := Aside0.mk (show sweepTo n es P (k + 1) = stepP n es Pk k by rw [hPk]; rfl)
              rw [← hch]
              rw [← hPk] at HR1 HPl
              have HPk := Aside0.mk hPk
              have HCh := Aside0.mk hch
              clear hPk hch
              have hcell := Kd.R_cell false (by have := HR1.out; rw [← HPl.out] at this; exact this) (k : Int) (by omega) (by have := HPl.out; omega)
              have hc := hcell.1
              have hf := hcell.2
              rw [Int.toNat_natCast] at hc hf
              obtain ⟨z, hz⟩ : ∃ z, z = Pk.getD k false := ⟨_, rfl⟩
              have hrd : rdOf false Pk (k : Int) = Pk.getD k false := by simp [rdOf]
              rw [hrd, ← hz] at hc
              have HZ := Aside0.mk hz
              have HF0 := Aside0.mk hf
              clear hcell hz hrd hf
              have i0 : (0 : Int) ≤ (k : Int) := by omega
              have i1 : (k : Int) < (N : Int) := by omega
              have hcd := fun m => later (pw_below_drewN (Below.refl wr.heap.size wr) m) hc
              cases z with
              | false =>
                have HSame := Aside0.mk (show stepP n es Pk k = Pk by unfold stepP; rw [← HZ.out]; rfl)
                clear hc
                go_wp2_with fail
                go_quiet (fail)
                go_wp2
                go_roundw
                case rel => exact ⟨k + 1, by omega, by go_num, by rw [HCh.out, HStep.out, HSame.out, HPk.out], ⟨by rw [HStep.out, HSame.out]; exact Kd.R_below HR1.out (pw_below_drewN (Below.refl _ _) _)⟩, ⟨HX1.out.below (pw_below_drewN (Below.refl _ _) _)⟩, ⟨pw_below_drewN HB1.out _⟩⟩
                case measure => simp [intOf]; omega
              | true =>
                have HC0 := Aside0.mk hc
                obtain ⟨kq, hkq⟩ : ∃ q, q = k / n := ⟨_, rfl⟩
                obtain ⟨kr, hkr⟩ : ∃ q, q = k % n := ⟨_, rfl⟩
                have hkl : kq ≤ 4194304 := by rw [hkq]; exact Nat.le_trans (Nat.div_le_self _ _) (by omega)
                have hq : IntKind.i64.wrap (Int.tdiv (k : Int) (n : Int)) = (kq : Int) := by
                  rw [show Int.tdiv (k : Int) (n : Int) = ((k / n : Nat) : Int) from rfl, ← hkq, IntKind.wrap_i64]
                  omega
                have hq2 : wrap64 (Int.tdiv (k : Int) (n : Int)) = (kq : Int) := by rw [← i64_w]; exact hq
                have hr : Int.tmod (k : Int) (n : Int) = (kr : Int) := by rw [hkr]; rfl
                have hq3 : IntKind.i64.wrap ((k : Int) / (n : Int)) = (kq : Int) := hq
                have hq4 : wrap64 ((k : Int) / (n : Int)) = (kq : Int) := hq2
                have hr2 : (k : Int) % (n : Int) = (kr : Int) := hr
                have hkrl : kr ≤ 4194304 := by rw [hkr]; exact Nat.le_trans (Nat.mod_le _ _) (by omega)
                have hr3 : IntKind.i64.wrap ((k : Int) % (n : Int)) = (kr : Int) := by rw [hr2, IntKind.wrap_i64]; omega
                have HKq := Aside0.mk hkq
                have HKr := Aside0.mk hkr
                clear hkq hkr hkl hkrl hcd
                obtain ⟨f1, hf1⟩ : ∃ f, f = folR n es Pk kq kr := ⟨_, rfl⟩
                obtain ⟨f2, hf2⟩ : ∃ f, f = folR n es Pk kr kq := ⟨_, rfl⟩
                have hfo : ∀ (a b : Int) (r : Bool), folR n es Pk a b = r → ∀ W, Below wr.heap.size wr W → Calls Try.prog 90 #[.agg #[.int .i64 n, v1, .slice A2 es.length c2], .slice (some ⟨g, 0, none⟩) N N, .int .i64 a, .int .i64 b] W fun e w' => e = .returned (.bool r) ∧ Below W.heap.size W w' := fun a b r hr W hW => by
                  have := folR_any n ls es Pk a b r hr v1 A2 (some ⟨g, 0, none⟩) c2 N W (Kd.C_below HR2.out (below_then HB1.out HB1.out.size hW)) (Kd.C_below (Kd.R_reads' HR1.out).2.2 hW) HM.out (by rw [HPl.out, HN.out])
                  rwa [HPl.out] at this
                have HF1 := Lib.hid (hfo kq kr f1 hf1.symm)
                have HF2 := Lib.hid (hfo kr kq f2 hf2.symm)
                have HFs := Aside0.mk (show (!folR n es Pk (kq : Int) (kr : Int) || !folR n es Pk (kr : Int) (kq : Int)) = (!f1 || !f2) by rw [← hf1, ← hf2])
                clear hfo hf1 hf2
                cases f1 with
                | false =>
                  go_wp2_with fail
                  refine start_ (n := 28) (S := fun w' => w'.cell? ⟨w.heap.size, 0, none⟩ = some (.int .i64 (n : Int)) ∧ w'.cell? ⟨w.heap.size, 1, none⟩ = some v1 ∧ w'.cell? ⟨w.heap.size, 2, none⟩ = some (.slice A2 es.length c2) ∧ w'.cell? ⟨g, k, none⟩ = some (.bool true)) (ds := []) #[false, false, false, false, false, false, false, false, false, false, false, false, false, false, false, false, false, false, false, false, false, false, false, false, false, false, false, false] (by kernel_rfl) rfl rfl ⟨HX1.out.c0, HX1.out.c1, HX1.out.c2, hc⟩ (fun hHeld => ?_)
                  have HV := Aside0.mk (below_drew1 (Below.refl wr.heap.size wr))
                  generalize wr.drew = V at HV hHeld ⊢
                  clear hc
                  refine pure_ (i := 0) (N := some 32) (v := ?_) (a' := ?_) #[true, false, false, false, false, false, false, false, false, false, false, false, false, false, false, false, false, false, false, false, false, false, false, false, false, false, false, false] rfl rfl (by kernel_rfl) (fun _ _ _ h => h) (Or.inl ⟨by rfl, ?_⟩) ?_ ?_
                  rotate_left
                  · intro w'
                    go_simp
                    with_reducible rfl
                  rotate_left
                  · simp only [Act.put, List.setIfInBounds_toArray, List.set_cons_zero, List.set_cons_succ, i64_w, i32_w]
                    rfl
                  refine pure_ (i := 1) (N := some 33) (v := ?_) (a' := ?_) #[true, true, false, false, false, false, false, false, false, false, false, false, false, false, false, false, false, false, false, false, false, false, false, false, false, false, false, false] rfl rfl (by kernel_rfl) (fun _ _ _ h => h) (Or.inl ⟨by rfl, ?_⟩) ?_ ?_
                  rotate_left
                  · intro w'
                    go_simp
                    with_reducible rfl
                  rotate_left
                  · simp only [Act.put, List.setIfInBounds_toArray, List.set_cons_zero, List.set_cons_succ, i64_w, i32_w]
                    rfl
                  refine pure_ (i := 2) (N := some 34) (v := ?_) (a' := ?_) #[true, true, true, false, false, false, false, false, false, false, false, false, false, false, false, false, false, false, false, false, false, false, false, false, false, false, false, false] rfl rfl (by kernel_rfl) (fun _ _ _ h => h) (Or.inl ⟨by rfl, ?_⟩) ?_ ?_
                  rotate_left
                  · intro w'
                    go_simp
                    with_reducible rfl
                  rotate_left
                  · simp only [Act.put, List.setIfInBounds_toArray, List.set_cons_zero, List.set_cons_succ, i64_w, i32_w]
                    rfl
                  refine take_ (i := 3) (N := some 35) (v := ?_) (a' := ?_) #[true, true, true, true, false, false, false, false, false, false, false, false, false, false, false, false, false, false, false, false, false, false, false, false, false, false, false, false] rfl rfl (by kernel_rfl) (fun _ _ _ h => h) (Or.inl ⟨by rfl, ?_⟩) hHeld ?_ ?_
                  rotate_left
                  · rintro w' ⟨s0, s1, s2, s3⟩
                    go_simp
                    with_reducible rfl
                  rotate_left
                  · simp only [Act.put, List.setIfInBounds_toArray, List.set_cons_zero, List.set_cons_succ, i64_w, i32_w]
                    rfl
                  refine pure_ (i := 4) (N := some 36) (v := ?_) (a' := ?_) #[true, true, true, true, true, false, false, false, false, false, false, false, false, false, false, false, false, false, false, false, false, false, false, false, false, false, false, false] rfl rfl (by kernel_rfl) (fun _ _ _ h => h) (Or.inl ⟨by rfl, ?_⟩) ?_ ?_
                  rotate_left
                  · intro w'
                    go_simp
                    with_reducible rfl
                  rotate_left
                  · simp only [Act.put, List.setIfInBounds_toArray, List.set_cons_zero, List.set_cons_succ, i64_w, i32_w]
                    rfl
                  refine pure_ (i := 6) (N := some 38) (v := ?_) (a' := ?_) #[true, true, true, true, true, false, true, false, false, false, false, false, false, false, false, false, false, false, false, false, false, false, false, false, false, false, false, false] rfl rfl (by kernel_rfl) (fun _ _ _ h => h) (Or.inl ⟨by rfl, ?_⟩) ?_ ?_
                  rotate_left
                  · intro w'
                    go_simp
                    with_reducible rfl
                  rotate_left
                  · simp only [Act.put, List.setIfInBounds_toArray, List.set_cons_zero, List.set_cons_succ, i64_w, i32_w]
                    rfl
                  refine pure_ (i := 7) (N := some 39) (v := ?_) (a' := ?_) #[true, true, true, true, true, false, true, true, false, false, false, false, false, false, false, false, false, false, false, false, false, false, false, false, false, false, false, false] rfl rfl (by kernel_rfl) (fun _ _ _ h => h) (Or.inl ⟨by rfl, ?_⟩) ?_ ?_
                  rotate_left
                  · intro w'
                    go_simp
                    with_reducible rfl
                  rotate_left
                  · simp only [Act.put, List.setIfInBounds_toArray, List.set_cons_zero, List.set_cons_succ, i64_w, i32_w]
                    rfl
                  refine pure_ (i := 8) (N := some 40) (v := ?_) (a' := ?_) #[true, true, true, true, true, false, true, true, true, false, false, false, false, false, false, false, false, false, false, false, false, false, false, false, false, false, false, false] rfl rfl (by kernel_rfl) (fun _ _ _ h => h) (Or.inl ⟨by rfl, ?_⟩) ?_ ?_
                  rotate_left
                  · intro w'
                    go_simp
                    with_reducible rfl
                  rotate_left
                  · simp only [Act.put, List.setIfInBounds_toArray, List.set_cons_zero, List.set_cons_succ, i64_w, i32_w]
                    rfl
                  refine pure_ (i := 9) (N := some 41) (v := ?_) (a' := ?_) #[true, true, true, true, true, false, true, true, true, true, false, false, false, false, false, false, false, false, false, false, false, false, false, false, false, false, false, false] rfl rfl (by kernel_rfl) (fun _ _ _ h => h) (Or.inl ⟨by rfl, ?_⟩) ?_ ?_
                  rotate_left
                  · intro w'
                    go_simp
                    with_reducible rfl
                  rotate_left
                  · simp only [Act.put, List.setIfInBounds_toArray, List.set_cons_zero, List.set_cons_succ, i64_w, i32_w]
                    rfl
                  refine pure_ (i := 10) (N := some 42) (v := ?_) (a' := ?_) #[true, true, true, true, true, false, true, true, true, true, true, false, false, false, false, false, false, false, false, false, false, false, false, false, false, false, false, false] rfl rfl (by kernel_rfl) (fun _ _ _ h => h) (Or.inl ⟨by rfl, ?_⟩) ?_ ?_
                  rotate_left
                  · intro w'
                    go_simp
                    with_reducible rfl
                  rotate_left
                  · simp only [Act.put, List.setIfInBounds_toArray, List.set_cons_zero, List.set_cons_succ, i64_w, i32_w]
                    rfl
                  refine pure_ (i := 11) (N := some 43) (v := ?_) (a' := ?_) #[true, true, true, true, true, false, true, true, true, true, true, true, false, false, false, false, false, false, false, false, false, false, false, false, false, false, false, false] rfl rfl (by kernel_rfl) (fun _ _ _ h => h) (Or.inl ⟨by rfl, ?_⟩) ?_ ?_
                  rotate_left
                  · intro w'
                    go_simp
                    with_reducible rfl
                  rotate_left
                  · simp only [Act.put, List.setIfInBounds_toArray, List.set_cons_zero, List.set_cons_succ, i64_w, i32_w]
                    rfl
                  refine pure_ (i := 12) (N := some 44) (v := ?_) (a' := ?_) #[true, true, true, true, true, false, true, true, true, true, true, true, true, false, false, false, false, false, false, false, false, false, false, false, false, false, false, false] rfl rfl (by kernel_rfl) (fun _ _ _ h => h) (Or.inl ⟨by rfl, ?_⟩) ?_ ?_
                  rotate_left
                  · intro w'
                    go_simp
                    with_reducible rfl
                  rotate_left
                  · simp only [Act.put, List.setIfInBounds_toArray, List.set_cons_zero, List.set_cons_succ, i64_w, i32_w]
                    rfl
                  refine take_ (i := 5) (N := some 37) (v := ?_) (a' := ?_) #[true, true, true, true, true, true, true, true, true, true, true, true, true, false, false, false, false, false, false, false, false, false, false, false, false, false, false, false] rfl rfl (by kernel_rfl) (fun _ _ _ h => h) (Or.inl ⟨by rfl, ?_⟩) hHeld ?_ ?_
                  rotate_left
                  · rintro w' ⟨s0, s1, s2, s3⟩
                    go_simp
                    with_reducible rfl
                  rotate_left
                  · simp only [Act.put, List.setIfInBounds_toArray, List.set_cons_zero, List.set_cons_succ, i64_w, i32_w]
                    rfl
                  refine one_ (i := 13) (N := some 45) #[true, true, true, true, true, true, true, true, true, true, true, true, true, true, false, false, false, false, false, false, false, false, false, false, false, false, false, false] rfl rfl (by kernel_rfl) (by decide) (fun K hK => ?_)
                  refine goes_ Try.func90 (by kernel_rfl) rfl #[.agg #[.int .i64 n, v1, .slice A2 es.length c2], .slice (some ⟨g, 0, none⟩) N N, .int .i64 (kq : Int), .int .i64 (kr : Int)] (by rfl) rfl rfl (by simp only [List.map_toArray, List.map_cons, List.map_nil]; rfl) ?_
                  refine (HF1.out _ HV.out).mono ?_
                  rintro e w3 ⟨rfl, hB⟩
                  refine ⟨_, rfl, ?_⟩
                  have HL3 := Aside0.mk hB
                  have HV3 := Aside0.mk (below_then HV.out HV.out.size hB)
                  clear hB
                  refine hK.out _ _ ⟨later HL3.out hHeld.1, later HL3.out hHeld.2.1, later HL3.out hHeld.2.2.1, later HL3.out hHeld.2.2.2⟩ (fun hHeld => ?_)
                  clear hK K
                  refine norm_ (a' := ?_) ?_ ?_
                  rotate_left
                  · show Act.put _ (some 45) _ = _
                    simp only [Act.put, List.setIfInBounds_toArray, List.set_cons_zero, List.set_cons_succ, i64_w, i32_w]
                    rfl
                  refine pure_ (i := 14) (N := some 46) (v := ?_) (a' := ?_) #[true, true, true, true, true, true, true, true, true, true, true, true, true, true, true, false, false, false, false, false, false, false, false, false, false, false, false, false] rfl rfl (by kernel_rfl) (fun _ _ _ h => h) (Or.inl ⟨by rfl, ?_⟩) ?_ ?_
                  rotate_left
                  · intro w'
                    go_simp
                    with_reducible rfl
                  rotate_left
                  · simp only [Act.put, List.setIfInBounds_toArray, List.set_cons_zero, List.set_cons_succ, i64_w, i32_w]
                    rfl
                  refine pure_ (i := 15) (N := some 47) (v := ?_) (a' := ?_) #[true, true, true, true, true, true, true, true, true, true, true, true, true, true, true, true, false, false, false, false, false, false, false, false, false, false, false, false] rfl rfl (by kernel_rfl) (fun _ _ _ h => h) (Or.inl ⟨by rfl, ?_⟩) ?_ ?_
                  rotate_left
                  · intro w'
                    go_simp
                    with_reducible rfl
                  rotate_left
                  · simp only [Act.put, List.setIfInBounds_toArray, List.set_cons_zero, List.set_cons_succ, i64_w, i32_w]
                    rfl
                  refine pure_ (i := 16) (N := some 48) (v := undef) (a' := ?_) #[true, true, true, true, true, true, true, true, true, true, true, true, true, true, true, true, true, false, false, false, false, false, false, false, false, false, false, false] rfl rfl (by kernel_rfl) (fun _ _ _ h => h) (Or.inr ⟨by rfl, rfl⟩) ?_ ?_
                  rotate_left
                  · simp only [Act.put, List.setIfInBounds_toArray, List.set_cons_zero, List.set_cons_succ, i64_w, i32_w]
                    rfl
                  refine pure_ (i := 17) (N := some 49) (v := undef) (a' := ?_) #[true, true, true, true, true, true, true, true, true, true, true, true, true, true, true, true, true, true, false, false, false, false, false, false, false, false, false, false] rfl rfl (by kernel_rfl) (fun _ _ _ h => h) (Or.inr ⟨by rfl, rfl⟩) ?_ ?_
                  rotate_left
                  · simp only [Act.put, List.setIfInBounds_toArray, List.set_cons_zero, List.set_cons_succ, i64_w, i32_w]
                    rfl
                  refine pure_ (i := 18) (N := some 50) (v := undef) (a' := ?_) #[true, true, true, true, true, true, true, true, true, true, true, true, true, true, true, true, true, true, true, false, false, false, false, false, false, false, false, false] rfl rfl (by kernel_rfl) (fun _ _ _ h => h) (Or.inr ⟨by rfl, rfl⟩) ?_ ?_
                  rotate_left
                  · simp only [Act.put, List.setIfInBounds_toArray, List.set_cons_zero, List.set_cons_succ, i64_w, i32_w]
                    rfl
                  refine pure_ (i := 19) (N := some 51) (v := undef) (a' := ?_) #[true, true, true, true, true, true, true, true, true, true, true, true, true, true, true, true, true, true, true, true, false, false, false, false, false, false, false, false] rfl rfl (by kernel_rfl) (fun _ _ _ h => h) (Or.inr ⟨by rfl, rfl⟩) ?_ ?_
                  rotate_left
                  · simp only [Act.put, List.setIfInBounds_toArray, List.set_cons_zero, List.set_cons_succ, i64_w, i32_w]
                    rfl
                  refine pure_ (i := 20) (N := some 52) (v := undef) (a' := ?_) #[true, true, true, true, true, true, true, true, true, true, true, true, true, true, true, true, true, true, true, true, true, false, false, false, false, false, false, false] rfl rfl (by kernel_rfl) (fun _ _ _ h => h) (Or.inr ⟨by rfl, rfl⟩) ?_ ?_
                  rotate_left
                  · simp only [Act.put, List.setIfInBounds_toArray, List.set_cons_zero, List.set_cons_succ, i64_w, i32_w]
                    rfl
                  refine pure_ (i := 21) (N := some 53) (v := undef) (a' := ?_) #[true, true, true, true, true, true, true, true, true, true, true, true, true, true, true, true, true, true, true, true, true, true, false, false, false, false, false, false] rfl rfl (by kernel_rfl) (fun _ _ _ h => h) (Or.inr ⟨by rfl, rfl⟩) ?_ ?_
                  rotate_left
                  · simp only [Act.put, List.setIfInBounds_toArray, List.set_cons_zero, List.set_cons_succ, i64_w, i32_w]
                    rfl
                  refine pure_ (i := 22) (N := some 54) (v := undef) (a' := ?_) #[true, true, true, true, true, true, true, true, true, true, true, true, true, true, true, true, true, true, true, true, true, true, true, false, false, false, false, false] rfl rfl (by kernel_rfl) (fun _ _ _ h => h) (Or.inr ⟨by rfl, rfl⟩) ?_ ?_
                  rotate_left
                  · simp only [Act.put, List.setIfInBounds_toArray, List.set_cons_zero, List.set_cons_succ, i64_w, i32_w]
                    rfl
                  refine pure_ (i := 23) (N := some 55) (v := undef) (a' := ?_) #[true, true, true, true, true, true, true, true, true, true, true, true, true, true, true, true, true, true, true, true, true, true, true, true, false, false, false, false] rfl rfl (by kernel_rfl) (fun _ _ _ h => h) (Or.inr ⟨by rfl, rfl⟩) ?_ ?_
                  rotate_left
                  · simp only [Act.put, List.setIfInBounds_toArray, List.set_cons_zero, List.set_cons_succ, i64_w, i32_w]
                    rfl
                  refine pure_ (i := 24) (N := some 56) (v := undef) (a' := ?_) #[true, true, true, true, true, true, true, true, true, true, true, true, true, true, true, true, true, true, true, true, true, true, true, true, true, false, false, false] rfl rfl (by kernel_rfl) (fun _ _ _ h => h) (Or.inr ⟨by rfl, rfl⟩) ?_ ?_
                  rotate_left
                  · simp only [Act.put, List.setIfInBounds_toArray, List.set_cons_zero, List.set_cons_succ, i64_w, i32_w]
                    rfl
                  refine pure_ (i := 25) (N := some 57) (v := undef) (a' := ?_) #[true, true, true, true, true, true, true, true, true, true, true, true, true, true, true, true, true, true, true, true, true, true, true, true, true, true, false, false] rfl rfl (by kernel_rfl) (fun _ _ _ h => h) (Or.inr ⟨by rfl, rfl⟩) ?_ ?_
                  rotate_left
                  · simp only [Act.put, List.setIfInBounds_toArray, List.set_cons_zero, List.set_cons_succ, i64_w, i32_w]
                    rfl
                  refine pure_ (i := 26) (N := some 58) (v := ?_) (a' := ?_) #[true, true, true, true, true, true, true, true, true, true, true, true, true, true, true, true, true, true, true, true, true, true, true, true, true, true, true, false] rfl rfl (by kernel_rfl) (fun _ _ _ h => h) (Or.inl ⟨by rfl, ?_⟩) ?_ ?_
                  rotate_left
                  · intro w'
                    go_simp
                    with_reducible rfl
                  rotate_left
                  · simp only [Act.put, List.setIfInBounds_toArray, List.set_cons_zero, List.set_cons_succ, i64_w, i32_w]
                    rfl
                  refine pure_ (i := 27) (N := some 59) (v := ?_) (a' := ?_) #[true, true, true, true, true, true, true, true, true, true, true, true, true, true, true, true, true, true, true, true, true, true, true, true, true, true, true, true] rfl rfl (by kernel_rfl) (fun _ _ _ h => h) (Or.inl ⟨by rfl, ?_⟩) ?_ ?_
                  rotate_left
                  · intro w'
                    go_simp
                    with_reducible rfl
                  rotate_left
                  · simp only [Act.put, List.setIfInBounds_toArray, List.set_cons_zero, List.set_cons_succ, i64_w, i32_w]
                    rfl
                  refine done_ (by kernel_rfl) ?_
                  have HSet := Aside0.mk (show stepP n es Pk k = Pk.set k false by unfold stepP; rw [← HZ.out, ← HKq.out, ← HKr.out, HFs.out]; rfl)
                  have hc9 := later HV3.out HC0.out
                  have hf9 := (frozen_later HV3.out (World.block_lt_of_cell? _ _ HC0.out)).trans HF0.out
                  obtain ⟨hR2, hG2⟩ := Kd.R_putg (Kd.R_below HR1.out HV3.out) (k : Int) false
                  rw [Int.toNat_natCast] at hR2 hG2
                  have HR2' := Aside0.mk hR2
                  have HX2 := Aside0.mk (blk_grown (g := w.heap.size) (HX1.out.below HV3.out) hG2 (by have := Kd.R_ne HR1.out HX1.out (by decide); simpa [Value.ownBlock] using this))
                  have HB2 := Aside0.mk (below_set (g := g) (j := k) (v := .bool false) (below_then HB1.out HB1.out.size HV3.out) HG.out)
                  have HDec := Aside0.mk (show decide (sweepTo n es P (k + 1) ≠ P) = true by
                    rw [HStep.out, HSet.out, decide_eq_true_eq]
                    intro e
                    have h1 := count_set_lt (P := Pk) (i := k) HZ.out.symm
                    rw [e] at h1
                    rcases sweepTo_count n es P k with h2 | h2
                    · rw [← HPk.out] at h2; rw [h2] at h1; omega
                    · rw [← HPk.out] at h2; omega)
                  clear hR2 hG2
                  go_wp2
                  go_roundw
                  case rel => exact ⟨k + 1, by omega, by go_num, by rw [HDec.out], ⟨by rw [HStep.out, HSet.out]; exact HR2'.out⟩, HX2, HB2⟩
                  case measure => simp [intOf]; omega
                | true =>
                  cases f2 with
                  | false =>
                    go_wp2_with fail
                    refine start_ (n := 28) (S := fun w' => w'.cell? ⟨w.heap.size, 0, none⟩ = some (.int .i64 (n : Int)) ∧ w'.cell? ⟨w.heap.size, 1, none⟩ = some v1 ∧ w'.cell? ⟨w.heap.size, 2, none⟩ = some (.slice A2 es.length c2) ∧ w'.cell? ⟨g, k, none⟩ = some (.bool true)) (ds := []) #[false, false, false, false, false, false, false, false, false, false, false, false, false, false, false, false, false, false, false, false, false, false, false, false, false, false, false, false] (by kernel_rfl) rfl rfl ⟨HX1.out.c0, HX1.out.c1, HX1.out.c2, hc⟩ (fun hHeld => ?_)
                    have HV := Aside0.mk (below_drew1 (Below.refl wr.heap.size wr))
                    generalize wr.drew = V at HV hHeld ⊢
                    clear hc
                    refine pure_ (i := 0) (N := some 32) (v := ?_) (a' := ?_) #[true, false, false, false, false, false, false, false, false, false, false, false, false, false, false, false, false, false, false, false, false, false, false, false, false, false, false, false] rfl rfl (by kernel_rfl) (fun _ _ _ h => h) (Or.inl ⟨by rfl, ?_⟩) ?_ ?_
                    rotate_left
                    · intro w'
                      go_simp
                      with_reducible rfl
                    rotate_left
                    · simp only [Act.put, List.setIfInBounds_toArray, List.set_cons_zero, List.set_cons_succ, i64_w, i32_w]
                      rfl
                    refine pure_ (i := 1) (N := some 33) (v := ?_) (a' := ?_) #[true, true, false, false, false, false, false, false, false, false, false, false, false, false, false, false, false, false, false, false, false, false, false, false, false, false, false, false] rfl rfl (by kernel_rfl) (fun _ _ _ h => h) (Or.inl ⟨by rfl, ?_⟩) ?_ ?_
                    rotate_left
                    · intro w'
                      go_simp
                      with_reducible rfl
                    rotate_left
                    · simp only [Act.put, List.setIfInBounds_toArray, List.set_cons_zero, List.set_cons_succ, i64_w, i32_w]
                      rfl
                    refine pure_ (i := 2) (N := some 34) (v := ?_) (a' := ?_) #[true, true, true, false, false, false, false, false, false, false, false, false, false, false, false, false, false, false, false, false, false, false, false, false, false, false, false, false] rfl rfl (by kernel_rfl) (fun _ _ _ h => h) (Or.inl ⟨by rfl, ?_⟩) ?_ ?_
                    rotate_left
                    · intro w'
                      go_simp
                      with_reducible rfl
                    rotate_left
                    · simp only [Act.put, List.setIfInBounds_toArray, List.set_cons_zero, List.set_cons_succ, i64_w, i32_w]
                      rfl
                    refine take_ (i := 3) (N := some 35) (v := ?_) (a' := ?_) #[true, true, true, true, false, false, false, false, false, false, false, false, false, false, false, false, false, false, false, false, false, false, false, false, false, false, false, false] rfl rfl (by kernel_rfl) (fun _ _ _ h => h) (Or.inl ⟨by rfl, ?_⟩) hHeld ?_ ?_
                    rotate_left
                    · rintro w' ⟨s0, s1, s2, s3⟩
                      go_simp
                      with_reducible rfl
                    rotate_left
                    · simp only [Act.put, List.setIfInBounds_toArray, List.set_cons_zero, List.set_cons_succ, i64_w, i32_w]
                      rfl
                    refine pure_ (i := 4) (N := some 36) (v := ?_) (a' := ?_) #[true, true, true, true, true, false, false, false, false, false, false, false, false, false, false, false, false, false, false, false, false, false, false, false, false, false, false, false] rfl rfl (by kernel_rfl) (fun _ _ _ h => h) (Or.inl ⟨by rfl, ?_⟩) ?_ ?_
                    rotate_left
                    · intro w'
                      go_simp
                      with_reducible rfl
                    rotate_left
                    · simp only [Act.put, List.setIfInBounds_toArray, List.set_cons_zero, List.set_cons_succ, i64_w, i32_w]
                      rfl
                    refine pure_ (i := 6) (N := some 38) (v := ?_) (a' := ?_) #[true, true, true, true, true, false, true, false, false, false, false, false, false, false, false, false, false, false, false, false, false, false, false, false, false, false, false, false] rfl rfl (by kernel_rfl) (fun _ _ _ h => h) (Or.inl ⟨by rfl, ?_⟩) ?_ ?_
                    rotate_left
                    · intro w'
                      go_simp
                      with_reducible rfl
                    rotate_left
                    · simp only [Act.put, List.setIfInBounds_toArray, List.set_cons_zero, List.set_cons_succ, i64_w, i32_w]
                      rfl
                    refine pure_ (i := 7) (N := some 39) (v := ?_) (a' := ?_) #[true, true, true, true, true, false, true, true, false, false, false, false, false, false, false, false, false, false, false, false, false, false, false, false, false, false, false, false] rfl rfl (by kernel_rfl) (fun _ _ _ h => h) (Or.inl ⟨by rfl, ?_⟩) ?_ ?_
                    rotate_left
                    · intro w'
                      go_simp
                      with_reducible rfl
                    rotate_left
                    · simp only [Act.put, List.setIfInBounds_toArray, List.set_cons_zero, List.set_cons_succ, i64_w, i32_w]
                      rfl
                    refine pure_ (i := 8) (N := some 40) (v := ?_) (a' := ?_) #[true, true, true, true, true, false, true, true, true, false, false, false, false, false, false, false, false, false, false, false, false, false, false, false, false, false, false, false] rfl rfl (by kernel_rfl) (fun _ _ _ h => h) (Or.inl ⟨by rfl, ?_⟩) ?_ ?_
                    rotate_left
                    · intro w'
                      go_simp
                      with_reducible rfl
                    rotate_left
                    · simp only [Act.put, List.setIfInBounds_toArray, List.set_cons_zero, List.set_cons_succ, i64_w, i32_w]
                      rfl
                    refine pure_ (i := 9) (N := some 41) (v := ?_) (a' := ?_) #[true, true, true, true, true, false, true, true, true, true, false, false, false, false, false, false, false, false, false, false, false, false, false, false, false, false, false, false] rfl rfl (by kernel_rfl) (fun _ _ _ h => h) (Or.inl ⟨by rfl, ?_⟩) ?_ ?_
                    rotate_left
                    · intro w'
                      go_simp
                      with_reducible rfl
                    rotate_left
                    · simp only [Act.put, List.setIfInBounds_toArray, List.set_cons_zero, List.set_cons_succ, i64_w, i32_w]
                      rfl
                    refine pure_ (i := 10) (N := some 42) (v := ?_) (a' := ?_) #[true, true, true, true, true, false, true, true, true, true, true, false, false, false, false, false, false, false, false, false, false, false, false, false, false, false, false, false] rfl rfl (by kernel_rfl) (fun _ _ _ h => h) (Or.inl ⟨by rfl, ?_⟩) ?_ ?_
                    rotate_left
                    · intro w'
                      go_simp
                      with_reducible rfl
                    rotate_left
                    · simp only [Act.put, List.setIfInBounds_toArray, List.set_cons_zero, List.set_cons_succ, i64_w, i32_w]
                      rfl
                    refine pure_ (i := 11) (N := some 43) (v := ?_) (a' := ?_) #[true, true, true, true, true, false, true, true, true, true, true, true, false, false, false, false, false, false, false, false, false, false, false, false, false, false, false, false] rfl rfl (by kernel_rfl) (fun _ _ _ h => h) (Or.inl ⟨by rfl, ?_⟩) ?_ ?_
                    rotate_left
                    · intro w'
                      go_simp
                      with_reducible rfl
                    rotate_left
                    · simp only [Act.put, List.setIfInBounds_toArray, List.set_cons_zero, List.set_cons_succ, i64_w, i32_w]
                      rfl
                    refine pure_ (i := 12) (N := some 44) (v := ?_) (a' := ?_) #[true, true, true, true, true, false, true, true, true, true, true, true, true, false, false, false, false, false, false, false, false, false, false, false, false, false, false, false] rfl rfl (by kernel_rfl) (fun _ _ _ h => h) (Or.inl ⟨by rfl, ?_⟩) ?_ ?_
                    rotate_left
                    · intro w'
                      go_simp
                      with_reducible rfl
                    rotate_left
                    · simp only [Act.put, List.setIfInBounds_toArray, List.set_cons_zero, List.set_cons_succ, i64_w, i32_w]
                      rfl
                    refine take_ (i := 5) (N := some 37) (v := ?_) (a' := ?_) #[true, true, true, true, true, true, true, true, true, true, true, true, true, false, false, false, false, false, false, false, false, false, false, false, false, false, false, false] rfl rfl (by kernel_rfl) (fun _ _ _ h => h) (Or.inl ⟨by rfl, ?_⟩) hHeld ?_ ?_
                    rotate_left
                    · rintro w' ⟨s0, s1, s2, s3⟩
                      go_simp
                      with_reducible rfl
                    rotate_left
                    · simp only [Act.put, List.setIfInBounds_toArray, List.set_cons_zero, List.set_cons_succ, i64_w, i32_w]
                      rfl
                    refine one_ (i := 13) (N := some 45) #[true, true, true, true, true, true, true, true, true, true, true, true, true, true, false, false, false, false, false, false, false, false, false, false, false, false, false, false] rfl rfl (by kernel_rfl) (by decide) (fun K hK => ?_)
                    refine goes_ Try.func90 (by kernel_rfl) rfl #[.agg #[.int .i64 n, v1, .slice A2 es.length c2], .slice (some ⟨g, 0, none⟩) N N, .int .i64 (kq : Int), .int .i64 (kr : Int)] (by rfl) rfl rfl (by simp only [List.map_toArray, List.map_cons, List.map_nil]; rfl) ?_
                    refine (HF1.out _ HV.out).mono ?_
                    rintro e w3 ⟨rfl, hB⟩
                    refine ⟨_, rfl, ?_⟩
                    have HL3 := Aside0.mk hB
                    have HV3 := Aside0.mk (below_then HV.out HV.out.size hB)
                    clear hB
                    refine hK.out _ _ ⟨later HL3.out hHeld.1, later HL3.out hHeld.2.1, later HL3.out hHeld.2.2.1, later HL3.out hHeld.2.2.2⟩ (fun hHeld => ?_)
                    clear hK K
                    refine norm_ (a' := ?_) ?_ ?_
                    rotate_left
                    · show Act.put _ (some 45) _ = _
                      simp only [Act.put, List.setIfInBounds_toArray, List.set_cons_zero, List.set_cons_succ, i64_w, i32_w]
                      rfl
                    refine pure_ (i := 14) (N := some 46) (v := ?_) (a' := ?_) #[true, true, true, true, true, true, true, true, true, true, true, true, true, true, true, false, false, false, false, false, false, false, false, false, false, false, false, false] rfl rfl (by kernel_rfl) (fun _ _ _ h => h) (Or.inl ⟨by rfl, ?_⟩) ?_ ?_
                    rotate_left
                    · intro w'
                      go_simp
                      with_reducible rfl
                    rotate_left
                    · simp only [Act.put, List.setIfInBounds_toArray, List.set_cons_zero, List.set_cons_succ, i64_w, i32_w]
                      rfl
                    refine pure_ (i := 15) (N := some 47) (v := ?_) (a' := ?_) #[true, true, true, true, true, true, true, true, true, true, true, true, true, true, true, true, false, false, false, false, false, false, false, false, false, false, false, false] rfl rfl (by kernel_rfl) (fun _ _ _ h => h) (Or.inl ⟨by rfl, ?_⟩) ?_ ?_
                    rotate_left
                    · intro w'
                      go_simp
                      with_reducible rfl
                    rotate_left
                    · simp only [Act.put, List.setIfInBounds_toArray, List.set_cons_zero, List.set_cons_succ, i64_w, i32_w]
                      rfl
                    refine pure_ (i := 17) (N := some 49) (v := ?_) (a' := ?_) #[true, true, true, true, true, true, true, true, true, true, true, true, true, true, true, true, false, true, false, false, false, false, false, false, false, false, false, false] rfl rfl (by kernel_rfl) (fun _ _ _ h => h) (Or.inl ⟨by rfl, ?_⟩) ?_ ?_
                    rotate_left
                    · intro w'
                      go_simp
                      with_reducible rfl
                    rotate_left
                    · simp only [Act.put, List.setIfInBounds_toArray, List.set_cons_zero, List.set_cons_succ, i64_w, i32_w]
                      rfl
                    refine pure_ (i := 18) (N := some 50) (v := ?_) (a' := ?_) #[true, true, true, true, true, true, true, true, true, true, true, true, true, true, true, true, false, true, true, false, false, false, false, false, false, false, false, false] rfl rfl (by kernel_rfl) (fun _ _ _ h => h) (Or.inl ⟨by rfl, ?_⟩) ?_ ?_
                    rotate_left
                    · intro w'
                      go_simp
                      with_reducible rfl
                    rotate_left
                    · simp only [Act.put, List.setIfInBounds_toArray, List.set_cons_zero, List.set_cons_succ, i64_w, i32_w]
                      rfl
                    refine pure_ (i := 19) (N := some 51) (v := ?_) (a' := ?_) #[true, true, true, true, true, true, true, true, true, true, true, true, true, true, true, true, false, true, true, true, false, false, false, false, false, false, false, false] rfl rfl (by kernel_rfl) (fun _ _ _ h => h) (Or.inl ⟨by rfl, ?_⟩) ?_ ?_
                    rotate_left
                    · intro w'
                      go_simp
                      with_reducible rfl
                    rotate_left
                    · simp only [Act.put, List.setIfInBounds_toArray, List.set_cons_zero, List.set_cons_succ, i64_w, i32_w]
                      rfl
                    refine pure_ (i := 20) (N := some 52) (v := ?_) (a' := ?_) #[true, true, true, true, true, true, true, true, true, true, true, true, true, true, true, true, false, true, true, true, true, false, false, false, false, false, false, false] rfl rfl (by kernel_rfl) (fun _ _ _ h => h) (Or.inl ⟨by rfl, ?_⟩) ?_ ?_
                    rotate_left
                    · intro w'
                      go_simp
                      with_reducible rfl
                    rotate_left
                    · simp only [Act.put, List.setIfInBounds_toArray, List.set_cons_zero, List.set_cons_succ, i64_w, i32_w]
                      rfl
                    refine pure_ (i := 21) (N := some 53) (v := ?_) (a' := ?_) #[true, true, true, true, true, true, true, true, true, true, true, true, true, true, true, true, false, true, true, true, true, true, false, false, false, false, false, false] rfl rfl (by kernel_rfl) (fun _ _ _ h => h) (Or.inl ⟨by rfl, ?_⟩) ?_ ?_
                    rotate_left
                    · intro w'
                      go_simp
                      with_reducible rfl
                    rotate_left
                    · simp only [Act.put, List.setIfInBounds_toArray, List.set_cons_zero, List.set_cons_succ, i64_w, i32_w]
                      rfl
                    refine pure_ (i := 22) (N := some 54) (v := ?_) (a' := ?_) #[true, true, true, true, true, true, true, true, true, true, true, true, true, true, true, true, false, true, true, true, true, true, true, false, false, false, false, false] rfl rfl (by kernel_rfl) (fun _ _ _ h => h) (Or.inl ⟨by rfl, ?_⟩) ?_ ?_
                    rotate_left
                    · intro w'
                      go_simp
                      with_reducible rfl
                    rotate_left
                    · simp only [Act.put, List.setIfInBounds_toArray, List.set_cons_zero, List.set_cons_succ, i64_w, i32_w]
                      rfl
                    refine pure_ (i := 23) (N := some 55) (v := ?_) (a' := ?_) #[true, true, true, true, true, true, true, true, true, true, true, true, true, true, true, true, false, true, true, true, true, true, true, true, false, false, false, false] rfl rfl (by kernel_rfl) (fun _ _ _ h => h) (Or.inl ⟨by rfl, ?_⟩) ?_ ?_
                    rotate_left
                    · intro w'
                      go_simp
                      with_reducible rfl
                    rotate_left
                    · simp only [Act.put, List.setIfInBounds_toArray, List.set_cons_zero, List.set_cons_succ, i64_w, i32_w]
                      rfl
                    refine take_ (i := 16) (N := some 48) (v := ?_) (a' := ?_) #[true, true, true, true, true, true, true, true, true, true, true, true, true, true, true, true, true, true, true, true, true, true, true, true, false, false, false, false] rfl rfl (by kernel_rfl) (fun _ _ _ h => h) (Or.inl ⟨by rfl, ?_⟩) hHeld ?_ ?_
                    rotate_left
                    · rintro w' ⟨s0, s1, s2, s3⟩
                      go_simp
                      with_reducible rfl
                    rotate_left
                    · simp only [Act.put, List.setIfInBounds_toArray, List.set_cons_zero, List.set_cons_succ, i64_w, i32_w]
                      rfl
                    refine one_ (i := 24) (N := some 56) #[true, true, true, true, true, true, true, true, true, true, true, true, true, true, true, true, true, true, true, true, true, true, true, true, true, false, false, false] rfl rfl (by kernel_rfl) (by decide) (fun K hK => ?_)
                    refine goes_ Try.func90 (by kernel_rfl) rfl #[.agg #[.int .i64 n, v1, .slice A2 es.length c2], .slice (some ⟨g, 0, none⟩) N N, .int .i64 (kr : Int), .int .i64 (kq : Int)] (by rfl) rfl rfl (by simp only [List.map_toArray, List.map_cons, List.map_nil]; rfl) ?_
                    refine (HF2.out _ HV3.out).mono ?_
                    rintro e w4 ⟨rfl, hB⟩
                    refine ⟨_, rfl, ?_⟩
                    have HL4 := Aside0.mk hB
                    have HV4 := Aside0.mk (below_then HV3.out HV3.out.size hB)
                    clear hB
                    refine hK.out _ _ ⟨later HL4.out hHeld.1, later HL4.out hHeld.2.1, later HL4.out hHeld.2.2.1, later HL4.out hHeld.2.2.2⟩ (fun hHeld => ?_)
                    clear hK K
                    refine norm_ (a' := ?_) ?_ ?_
                    rotate_left
                    · show Act.put _ (some 56) _ = _
                      simp only [Act.put, List.setIfInBounds_toArray, List.set_cons_zero, List.set_cons_succ, i64_w, i32_w]
                      rfl
                    refine pure_ (i := 25) (N := some 57) (v := ?_) (a' := ?_) #[true, true, true, true, true, true, true, true, true, true, true, true, true, true, true, true, true, true, true, true, true, true, true, true, true, true, false, false] rfl rfl (by kernel_rfl) (fun _ _ _ h => h) (Or.inl ⟨by rfl, ?_⟩) ?_ ?_
                    rotate_left
                    · intro w'
                      go_simp
                      with_reducible rfl
                    rotate_left
                    · simp only [Act.put, List.setIfInBounds_toArray, List.set_cons_zero, List.set_cons_succ, i64_w, i32_w]
                      rfl
                    refine pure_ (i := 26) (N := some 58) (v := ?_) (a' := ?_) #[true, true, true, true, true, true, true, true, true, true, true, true, true, true, true, true, true, true, true, true, true, true, true, true, true, true, true, false] rfl rfl (by kernel_rfl) (fun _ _ _ h => h) (Or.inl ⟨by rfl, ?_⟩) ?_ ?_
                    rotate_left
                    · intro w'
                      go_simp
                      with_reducible rfl
                    rotate_left
                    · simp only [Act.put, List.setIfInBounds_toArray, List.set_cons_zero, List.set_cons_succ, i64_w, i32_w]
                      rfl
                    refine pure_ (i := 27) (N := some 59) (v := ?_) (a' := ?_) #[true, true, true, true, true, true, true, true, true, true, true, true, true, true, true, true, true, true, true, true, true, true, true, true, true, true, true, true] rfl rfl (by kernel_rfl) (fun _ _ _ h => h) (Or.inl ⟨by rfl, ?_⟩) ?_ ?_
                    rotate_left
                    · intro w'
                      go_simp
                      with_reducible rfl
                    rotate_left
                    · simp only [Act.put, List.setIfInBounds_toArray, List.set_cons_zero, List.set_cons_succ, i64_w, i32_w]
                      rfl
                    refine done_ (by kernel_rfl) ?_
                    have HSet := Aside0.mk (show stepP n es Pk k = Pk.set k false by unfold stepP; rw [← HZ.out, ← HKq.out, ← HKr.out, HFs.out]; rfl)
                    have hc9 := later HV4.out HC0.out
                    have hf9 := (frozen_later HV4.out (World.block_lt_of_cell? _ _ HC0.out)).trans HF0.out
                    obtain ⟨hR2, hG2⟩ := Kd.R_putg (Kd.R_below HR1.out HV4.out) (k : Int) false
                    rw [Int.toNat_natCast] at hR2 hG2
                    have HR2' := Aside0.mk hR2
                    have HX2 := Aside0.mk (blk_grown (g := w.heap.size) (HX1.out.below HV4.out) hG2 (by have := Kd.R_ne HR1.out HX1.out (by decide); simpa [Value.ownBlock] using this))
                    have HB2 := Aside0.mk (below_set (g := g) (j := k) (v := .bool false) (below_then HB1.out HB1.out.size HV4.out) HG.out)
                    have HDec := Aside0.mk (show decide (sweepTo n es P (k + 1) ≠ P) = true by
                      rw [HStep.out, HSet.out, decide_eq_true_eq]
                      intro e
                      have h1 := count_set_lt (P := Pk) (i := k) HZ.out.symm
                      rw [e] at h1
                      rcases sweepTo_count n es P k with h2 | h2
                      · rw [← HPk.out] at h2; rw [h2] at h1; omega
                      · rw [← HPk.out] at h2; omega)
                    clear hR2 hG2
                    go_wp2
                    go_roundw
                    case rel => exact ⟨k + 1, by omega, by go_num, by rw [HDec.out], ⟨by rw [HStep.out, HSet.out]; exact HR2'.out⟩, HX2, HB2⟩
                    case measure => simp [intOf]; omega
                  | true =>
                    have HSame := Aside0.mk (show stepP n es Pk k = Pk by unfold stepP; rw [← HZ.out, ← HKq.out, ← HKr.out, HFs.out]; rfl)
                    go_wp2_with fail
                    refine start_ (n := 28) (S := fun w' => w'.cell? ⟨w.heap.size, 0, none⟩ = some (.int .i64 (n : Int)) ∧ w'.cell? ⟨w.heap.size, 1, none⟩ = some v1 ∧ w'.cell? ⟨w.heap.size, 2, none⟩ = some (.slice A2 es.length c2) ∧ w'.cell? ⟨g, k, none⟩ = some (.bool true)) (ds := []) #[false, false, false, false, false, false, false, false, false, false, false, false, false, false, false, false, false, false, false, false, false, false, false, false, false, false, false, false] (by kernel_rfl) rfl rfl ⟨HX1.out.c0, HX1.out.c1, HX1.out.c2, hc⟩ (fun hHeld => ?_)
                    have HV := Aside0.mk (below_drew1 (Below.refl wr.heap.size wr))
                    generalize wr.drew = V at HV hHeld ⊢
                    clear hc
                    refine pure_ (i := 0) (N := some 32) (v := ?_) (a' := ?_) #[true, false, false, false, false, false, false, false, false, false, false, false, false, false, false, false, false, false, false, false, false, false, false, false, false, false, false, false] rfl rfl (by kernel_rfl) (fun _ _ _ h => h) (Or.inl ⟨by rfl, ?_⟩) ?_ ?_
                    rotate_left
                    · intro w'
                      go_simp
                      with_reducible rfl
                    rotate_left
                    · simp only [Act.put, List.setIfInBounds_toArray, List.set_cons_zero, List.set_cons_succ, i64_w, i32_w]
                      rfl
                    refine pure_ (i := 1) (N := some 33) (v := ?_) (a' := ?_) #[true, true, false, false, false, false, false, false, false, false, false, false, false, false, false, false, false, false, false, false, false, false, false, false, false, false, false, false] rfl rfl (by kernel_rfl) (fun _ _ _ h => h) (Or.inl ⟨by rfl, ?_⟩) ?_ ?_
                    rotate_left
                    · intro w'
                      go_simp
                      with_reducible rfl
                    rotate_left
                    · simp only [Act.put, List.setIfInBounds_toArray, List.set_cons_zero, List.set_cons_succ, i64_w, i32_w]
                      rfl
                    refine pure_ (i := 2) (N := some 34) (v := ?_) (a' := ?_) #[true, true, true, false, false, false, false, false, false, false, false, false, false, false, false, false, false, false, false, false, false, false, false, false, false, false, false, false] rfl rfl (by kernel_rfl) (fun _ _ _ h => h) (Or.inl ⟨by rfl, ?_⟩) ?_ ?_
                    rotate_left
                    · intro w'
                      go_simp
                      with_reducible rfl
                    rotate_left
                    · simp only [Act.put, List.setIfInBounds_toArray, List.set_cons_zero, List.set_cons_succ, i64_w, i32_w]
                      rfl
                    refine take_ (i := 3) (N := some 35) (v := ?_) (a' := ?_) #[true, true, true, true, false, false, false, false, false, false, false, false, false, false, false, false, false, false, false, false, false, false, false, false, false, false, false, false] rfl rfl (by kernel_rfl) (fun _ _ _ h => h) (Or.inl ⟨by rfl, ?_⟩) hHeld ?_ ?_
                    rotate_left
                    · rintro w' ⟨s0, s1, s2, s3⟩
                      go_simp
                      with_reducible rfl
                    rotate_left
                    · simp only [Act.put, List.setIfInBounds_toArray, List.set_cons_zero, List.set_cons_succ, i64_w, i32_w]
                      rfl
                    refine pure_ (i := 4) (N := some 36) (v := ?_) (a' := ?_) #[true, true, true, true, true, false, false, false, false, false, false, false, false, false, false, false, false, false, false, false, false, false, false, false, false, false, false, false] rfl rfl (by kernel_rfl) (fun _ _ _ h => h) (Or.inl ⟨by rfl, ?_⟩) ?_ ?_
                    rotate_left
                    · intro w'
                      go_simp
                      with_reducible rfl
                    rotate_left
                    · simp only [Act.put, List.setIfInBounds_toArray, List.set_cons_zero, List.set_cons_succ, i64_w, i32_w]
                      rfl
                    refine pure_ (i := 6) (N := some 38) (v := ?_) (a' := ?_) #[true, true, true, true, true, false, true, false, false, false, false, false, false, false, false, false, false, false, false, false, false, false, false, false, false, false, false, false] rfl rfl (by kernel_rfl) (fun _ _ _ h => h) (Or.inl ⟨by rfl, ?_⟩) ?_ ?_
                    rotate_left
                    · intro w'
                      go_simp
                      with_reducible rfl
                    rotate_left
                    · simp only [Act.put, List.setIfInBounds_toArray, List.set_cons_zero, List.set_cons_succ, i64_w, i32_w]
                      rfl
                    refine pure_ (i := 7) (N := some 39) (v := ?_) (a' := ?_) #[true, true, true, true, true, false, true, true, false, false, false, false, false, false, false, false, false, false, false, false, false, false, false, false, false, false, false, false] rfl rfl (by kernel_rfl) (fun _ _ _ h => h) (Or.inl ⟨by rfl, ?_⟩) ?_ ?_
                    rotate_left
                    · intro w'
                      go_simp
                      with_reducible rfl
                    rotate_left
                    · simp only [Act.put, List.setIfInBounds_toArray, List.set_cons_zero, List.set_cons_succ, i64_w, i32_w]
                      rfl
                    refine pure_ (i := 8) (N := some 40) (v := ?_) (a' := ?_) #[true, true, true, true, true, false, true, true, true, false, false, false, false, false, false, false, false, false, false, false, false, false, false, false, false, false, false, false] rfl rfl (by kernel_rfl) (fun _ _ _ h => h) (Or.inl ⟨by rfl, ?_⟩) ?_ ?_
                    rotate_left
                    · intro w'
                      go_simp
                      with_reducible rfl
                    rotate_left
                    · simp only [Act.put, List.setIfInBounds_toArray, List.set_cons_zero, List.set_cons_succ, i64_w, i32_w]
                      rfl
                    refine pure_ (i := 9) (N := some 41) (v := ?_) (a' := ?_) #[true, true, true, true, true, false, true, true, true, true, false, false, false, false, false, false, false, false, false, false, false, false, false, false, false, false, false, false] rfl rfl (by kernel_rfl) (fun _ _ _ h => h) (Or.inl ⟨by rfl, ?_⟩) ?_ ?_
                    rotate_left
                    · intro w'
                      go_simp
                      with_reducible rfl
                    rotate_left
                    · simp only [Act.put, List.setIfInBounds_toArray, List.set_cons_zero, List.set_cons_succ, i64_w, i32_w]
                      rfl
                    refine pure_ (i := 10) (N := some 42) (v := ?_) (a' := ?_) #[true, true, true, true, true, false, true, true, true, true, true, false, false, false, false, false, false, false, false, false, false, false, false, false, false, false, false, false] rfl rfl (by kernel_rfl) (fun _ _ _ h => h) (Or.inl ⟨by rfl, ?_⟩) ?_ ?_
                    rotate_left
                    · intro w'
                      go_simp
                      with_reducible rfl
                    rotate_left
                    · simp only [Act.put, List.setIfInBounds_toArray, List.set_cons_zero, List.set_cons_succ, i64_w, i32_w]
                      rfl
                    refine pure_ (i := 11) (N := some 43) (v := ?_) (a' := ?_) #[true, true, true, true, true, false, true, true, true, true, true, true, false, false, false, false, false, false, false, false, false, false, false, false, false, false, false, false] rfl rfl (by kernel_rfl) (fun _ _ _ h => h) (Or.inl ⟨by rfl, ?_⟩) ?_ ?_
                    rotate_left
                    · intro w'
                      go_simp
                      with_reducible rfl
                    rotate_left
                    · simp only [Act.put, List.setIfInBounds_toArray, List.set_cons_zero, List.set_cons_succ, i64_w, i32_w]
                      rfl
                    refine pure_ (i := 12) (N := some 44) (v := ?_) (a' := ?_) #[true, true, true, true, true, false, true, true, true, true, true, true, true, false, false, false, false, false, false, false, false, false, false, false, false, false, false, false] rfl rfl (by kernel_rfl) (fun _ _ _ h => h) (Or.inl ⟨by rfl, ?_⟩) ?_ ?_
                    rotate_left
                    · intro w'
                      go_simp
                      with_reducible rfl
                    rotate_left
                    · simp only [Act.put, List.setIfInBounds_toArray, List.set_cons_zero, List.set_cons_succ, i64_w, i32_w]
                      rfl
                    refine take_ (i := 5) (N := some 37) (v := ?_) (a' := ?_) #[true, true, true, true, true, true, true, true, true, true, true, true, true, false, false, false, false, false, false, false, false, false, false, false, false, false, false, false] rfl rfl (by kernel_rfl) (fun _ _ _ h => h) (Or.inl ⟨by rfl, ?_⟩) hHeld ?_ ?_
                    rotate_left
                    · rintro w' ⟨s0, s1, s2, s3⟩
                      go_simp
                      with_reducible rfl
                    rotate_left
                    · simp only [Act.put, List.setIfInBounds_toArray, List.set_cons_zero, List.set_cons_succ, i64_w, i32_w]
                      rfl
                    refine one_ (i := 13) (N := some 45) #[true, true, true, true, true, true, true, true, true, true, true, true, true, true, false, false, false, false, false, false, false, false, false, false, false, false, false, false] rfl rfl (by kernel_rfl) (by decide) (fun K hK => ?_)
                    refine goes_ Try.func90 (by kernel_rfl) rfl #[.agg #[.int .i64 n, v1, .slice A2 es.length c2], .slice (some ⟨g, 0, none⟩) N N, .int .i64 (kq : Int), .int .i64 (kr : Int)] (by rfl) rfl rfl (by simp only [List.map_toArray, List.map_cons, List.map_nil]; rfl) ?_
                    refine (HF1.out _ HV.out).mono ?_
                    rintro e w3 ⟨rfl, hB⟩
                    refine ⟨_, rfl, ?_⟩
                    have HL3 := Aside0.mk hB
                    have HV3 := Aside0.mk (below_then HV.out HV.out.size hB)
                    clear hB
                    refine hK.out _ _ ⟨later HL3.out hHeld.1, later HL3.out hHeld.2.1, later HL3.out hHeld.2.2.1, later HL3.out hHeld.2.2.2⟩ (fun hHeld => ?_)
                    clear hK K
                    refine norm_ (a' := ?_) ?_ ?_
                    rotate_left
                    · show Act.put _ (some 45) _ = _
                      simp only [Act.put, List.setIfInBounds_toArray, List.set_cons_zero, List.set_cons_succ, i64_w, i32_w]
                      rfl
                    refine pure_ (i := 14) (N := some 46) (v := ?_) (a' := ?_) #[true, true, true, true, true, true, true, true, true, true, true, true, true, true, true, false, false, false, false, false, false, false, false, false, false, false, false, false] rfl rfl (by kernel_rfl) (fun _ _ _ h => h) (Or.inl ⟨by rfl, ?_⟩) ?_ ?_
                    rotate_left
                    · intro w'
                      go_simp
                      with_reducible rfl
                    rotate_left
                    · simp only [Act.put, List.setIfInBounds_toArray, List.set_cons_zero, List.set_cons_succ, i64_w, i32_w]
                      rfl
                    refine pure_ (i := 15) (N := some 47) (v := ?_) (a' := ?_) #[true, true, true, true, true, true, true, true, true, true, true, true, true, true, true, true, false, false, false, false, false, false, false, false, false, false, false, false] rfl rfl (by kernel_rfl) (fun _ _ _ h => h) (Or.inl ⟨by rfl, ?_⟩) ?_ ?_
                    rotate_left
                    · intro w'
                      go_simp
                      with_reducible rfl
                    rotate_left
                    · simp only [Act.put, List.setIfInBounds_toArray, List.set_cons_zero, List.set_cons_succ, i64_w, i32_w]
                      rfl
                    refine pure_ (i := 17) (N := some 49) (v := ?_) (a' := ?_) #[true, true, true, true, true, true, true, true, true, true, true, true, true, true, true, true, false, true, false, false, false, false, false, false, false, false, false, false] rfl rfl (by kernel_rfl) (fun _ _ _ h => h) (Or.inl ⟨by rfl, ?_⟩) ?_ ?_
                    rotate_left
                    · intro w'
                      go_simp
                      with_reducible rfl
                    rotate_left
                    · simp only [Act.put, List.setIfInBounds_toArray, List.set_cons_zero, List.set_cons_succ, i64_w, i32_w]
                      rfl
                    refine pure_ (i := 18) (N := some 50) (v := ?_) (a' := ?_) #[true, true, true, true, true, true, true, true, true, true, true, true, true, true, true, true, false, true, true, false, false, false, false, false, false, false, false, false] rfl rfl (by kernel_rfl) (fun _ _ _ h => h) (Or.inl ⟨by rfl, ?_⟩) ?_ ?_
                    rotate_left
                    · intro w'
                      go_simp
                      with_reducible rfl
                    rotate_left
                    · simp only [Act.put, List.setIfInBounds_toArray, List.set_cons_zero, List.set_cons_succ, i64_w, i32_w]
                      rfl
                    refine pure_ (i := 19) (N := some 51) (v := ?_) (a' := ?_) #[true, true, true, true, true, true, true, true, true, true, true, true, true, true, true, true, false, true, true, true, false, false, false, false, false, false, false, false] rfl rfl (by kernel_rfl) (fun _ _ _ h => h) (Or.inl ⟨by rfl, ?_⟩) ?_ ?_
                    rotate_left
                    · intro w'
                      go_simp
                      with_reducible rfl
                    rotate_left
                    · simp only [Act.put, List.setIfInBounds_toArray, List.set_cons_zero, List.set_cons_succ, i64_w, i32_w]
                      rfl
                    refine pure_ (i := 20) (N := some 52) (v := ?_) (a' := ?_) #[true, true, true, true, true, true, true, true, true, true, true, true, true, true, true, true, false, true, true, true, true, false, false, false, false, false, false, false] rfl rfl (by kernel_rfl) (fun _ _ _ h => h) (Or.inl ⟨by rfl, ?_⟩) ?_ ?_
                    rotate_left
                    · intro w'
                      go_simp
                      with_reducible rfl
                    rotate_left
                    · simp only [Act.put, List.setIfInBounds_toArray, List.set_cons_zero, List.set_cons_succ, i64_w, i32_w]
                      rfl
                    refine pure_ (i := 21) (N := some 53) (v := ?_) (a' := ?_) #[true, true, true, true, true, true, true, true, true, true, true, true, true, true, true, true, false, true, true, true, true, true, false, false, false, false, false, false] rfl rfl (by kernel_rfl) (fun _ _ _ h => h) (Or.inl ⟨by rfl, ?_⟩) ?_ ?_
                    rotate_left
                    · intro w'
                      go_simp
                      with_reducible rfl
                    rotate_left
                    · simp only [Act.put, List.setIfInBounds_toArray, List.set_cons_zero, List.set_cons_succ, i64_w, i32_w]
                      rfl
                    refine pure_ (i := 22) (N := some 54) (v := ?_) (a' := ?_) #[true, true, true, true, true, true, true, true, true, true, true, true, true, true, true, true, false, true, true, true, true, true, true, false, false, false, false, false] rfl rfl (by kernel_rfl) (fun _ _ _ h => h) (Or.inl ⟨by rfl, ?_⟩) ?_ ?_
                    rotate_left
                    · intro w'
                      go_simp
                      with_reducible rfl
                    rotate_left
                    · simp only [Act.put, List.setIfInBounds_toArray, List.set_cons_zero, List.set_cons_succ, i64_w, i32_w]
                      rfl
                    refine pure_ (i := 23) (N := some 55) (v := ?_) (a' := ?_) #[true, true, true, true, true, true, true, true, true, true, true, true, true, true, true, true, false, true, true, true, true, true, true, true, false, false, false, false] rfl rfl (by kernel_rfl) (fun _ _ _ h => h) (Or.inl ⟨by rfl, ?_⟩) ?_ ?_
                    rotate_left
                    · intro w'
                      go_simp
                      with_reducible rfl
                    rotate_left
                    · simp only [Act.put, List.setIfInBounds_toArray, List.set_cons_zero, List.set_cons_succ, i64_w, i32_w]
                      rfl
                    refine take_ (i := 16) (N := some 48) (v := ?_) (a' := ?_) #[true, true, true, true, true, true, true, true, true, true, true, true, true, true, true, true, true, true, true, true, true, true, true, true, false, false, false, false] rfl rfl (by kernel_rfl) (fun _ _ _ h => h) (Or.inl ⟨by rfl, ?_⟩) hHeld ?_ ?_
                    rotate_left
                    · rintro w' ⟨s0, s1, s2, s3⟩
                      go_simp
                      with_reducible rfl
                    rotate_left
                    · simp only [Act.put, List.setIfInBounds_toArray, List.set_cons_zero, List.set_cons_succ, i64_w, i32_w]
                      rfl
                    refine one_ (i := 24) (N := some 56) #[true, true, true, true, true, true, true, true, true, true, true, true, true, true, true, true, true, true, true, true, true, true, true, true, true, false, false, false] rfl rfl (by kernel_rfl) (by decide) (fun K hK => ?_)
                    refine goes_ Try.func90 (by kernel_rfl) rfl #[.agg #[.int .i64 n, v1, .slice A2 es.length c2], .slice (some ⟨g, 0, none⟩) N N, .int .i64 (kr : Int), .int .i64 (kq : Int)] (by rfl) rfl rfl (by simp only [List.map_toArray, List.map_cons, List.map_nil]; rfl) ?_
                    refine (HF2.out _ HV3.out).mono ?_
                    rintro e w4 ⟨rfl, hB⟩
                    refine ⟨_, rfl, ?_⟩
                    have HL4 := Aside0.mk hB
                    have HV4 := Aside0.mk (below_then HV3.out HV3.out.size hB)
                    clear hB
                    refine hK.out _ _ ⟨later HL4.out hHeld.1, later HL4.out hHeld.2.1, later HL4.out hHeld.2.2.1, later HL4.out hHeld.2.2.2⟩ (fun hHeld => ?_)
                    clear hK K
                    refine norm_ (a' := ?_) ?_ ?_
                    rotate_left
                    · show Act.put _ (some 56) _ = _
                      simp only [Act.put, List.setIfInBounds_toArray, List.set_cons_zero, List.set_cons_succ, i64_w, i32_w]
                      rfl
                    refine pure_ (i := 25) (N := some 57) (v := ?_) (a' := ?_) #[true, true, true, true, true, true, true, true, true, true, true, true, true, true, true, true, true, true, true, true, true, true, true, true, true, true, false, false] rfl rfl (by kernel_rfl) (fun _ _ _ h => h) (Or.inl ⟨by rfl, ?_⟩) ?_ ?_
                    rotate_left
                    · intro w'
                      go_simp
                      with_reducible rfl
                    rotate_left
                    · simp only [Act.put, List.setIfInBounds_toArray, List.set_cons_zero, List.set_cons_succ, i64_w, i32_w]
                      rfl
                    refine pure_ (i := 26) (N := some 58) (v := ?_) (a' := ?_) #[true, true, true, true, true, true, true, true, true, true, true, true, true, true, true, true, true, true, true, true, true, true, true, true, true, true, true, false] rfl rfl (by kernel_rfl) (fun _ _ _ h => h) (Or.inl ⟨by rfl, ?_⟩) ?_ ?_
                    rotate_left
                    · intro w'
                      go_simp
                      with_reducible rfl
                    rotate_left
                    · simp only [Act.put, List.setIfInBounds_toArray, List.set_cons_zero, List.set_cons_succ, i64_w, i32_w]
                      rfl
                    refine pure_ (i := 27) (N := some 59) (v := ?_) (a' := ?_) #[true, true, true, true, true, true, true, true, true, true, true, true, true, true, true, true, true, true, true, true, true, true, true, true, true, true, true, true] rfl rfl (by kernel_rfl) (fun _ _ _ h => h) (Or.inl ⟨by rfl, ?_⟩) ?_ ?_
                    rotate_left
                    · intro w'
                      go_simp
                      with_reducible rfl
                    rotate_left
                    · simp only [Act.put, List.setIfInBounds_toArray, List.set_cons_zero, List.set_cons_succ, i64_w, i32_w]
                      rfl
                    refine done_ (by kernel_rfl) ?_
                    go_wp2
                    go_roundw
                    case rel => exact ⟨k + 1, by omega, by go_num, by rw [HCh.out, HStep.out, HSame.out, HPk.out], ⟨by rw [HStep.out, HSame.out]; exact Kd.R_below HR1.out HV4.out⟩, ⟨HX1.out.below HV4.out⟩, ⟨below_then HB1.out HB1.out.size HV4.out⟩⟩
                    case measure => simp [intOf]; omega
            · have ek : k = N := by omega
              obtain ⟨P2, hP2⟩ : ∃ P2, P2 = sweepTo n es P k := ⟨_, rfl⟩
              have hst : ∃ f, (if decide (P2 ≠ P) then iterP n es f P2 else P2) = pairsR n es ∧ P2.count true < f ∧ P2.length = N := by
                obtain ⟨f, h1, h2, h3⟩ := HST.out
                replace h1 : iterP n es f P = pairsR n es := by simpa using h1
                cases f with
                | zero => omega
                | succ f =>
                  unfold iterP at h1
                  rw [← HN.out, ← ek, ← hP2] at h1
                  by_cases e : P2 = P
                  · rw [if_pos e] at h1
                    rw [decide_eq_false (by simpa using e)]
                    exact ⟨f + 1, by rw [e]; simpa using h1, by rw [e]; exact h2, by rw [e]; exact h3⟩
                  · rw [if_neg e] at h1
                    have hlt2 : P2.count true < P.count true := by
                      rcases sweepTo_count n es P k with h4 | h4
                      · exact absurd (hP2.trans h4) e
                      · rw [hP2]; exact h4
                    rw [decide_eq_true e]
                    exact ⟨f, by simpa using h1, by omega, by rw [hP2, sweepTo_length]; exact h3⟩
              have HST2 := Aside0.mk hst
              have hms : 2 * P2.count true + (if decide (P2 ≠ P) then 1 else 0) < 2 * P.count true + 1 := by
                by_cases e : P2 = P
                · rw [decide_eq_false (by simpa using e), e]; simp
                · have hlt2 : P2.count true < P.count true := by
                    rcases sweepTo_count n es P k with h4 | h4
                    · exact absurd (hP2.trans h4) e
                    · rw [hP2]; exact h4
                  rw [decide_eq_true e]
                  simp
                  omega
              have HMs := Aside0.mk hms
              rw [← hP2] at HR1 ⊢
              obtain ⟨ch, hch⟩ : ∃ ch, ch = decide (P2 ≠ P) := ⟨_, rfl⟩
              rw [← hch] at HST2 HMs ⊢
              have hm2 : 2 * P2.count true + (if ch then 1 else 0) < gk := by
                have h1 := HMs.out
                have h2 : 2 * P.count true + 1 ≤ gk := by simpa using HM1.out
                omega
              have HM2 := Aside0.mk hm2
              clear hm2
              clear hch hP2 hst hms
              go_wp2
              go_roundg (2 * P2.count true + (if ch then 1 else 0))
              case measure => exact HM2.out
              case rel => exact ⟨P2, ch, rfl, ⟨Nat.le_refl _⟩, HST2, HR1, HX1, HB1⟩

end Go.Proofs.Ytmpiokdomjchiaa.H
