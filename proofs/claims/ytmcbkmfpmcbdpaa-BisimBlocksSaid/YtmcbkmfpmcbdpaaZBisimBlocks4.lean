/-
  Parts of the proof of BisimBlocks (joined by wip/tools/bundle.py), part 4: plain words and walks of the functions that the law reaches.
-/
import Derived.Test.YtmcbkmfpmcbdpaaZBisimBlocks3
set_option linter.unusedVariables false
set_option linter.unusedSimpArgs false
set_option linter.unusedSectionVars false
namespace Go.Proofs.Ytmcbkmfpmcbdpaa.H
open Go.RowKit Go.Proofs.Ytmcbkmfpmcbdpaa.Pr Go.Proofs.YtmcbkmfpmcbdpaaW.PrintWords Go.Proofs.Ytmcbkmfpmcbdpaa.Sem Go.Proofs.YtmcbkmfpmcbdpaaW.PrintLast
set_option maxHeartbeats 16000000 in
set_option maxRecDepth 100000 in
theorem refine_any {T n : Nat} {v1 v2 : Value} {s : Sg} {p : PSt} {wt : Int → Bool} {cls : Nat → Cl} {es : List Ed} {old : Nat} (w0 w : World) (hS : SP w0.heap.size T w cls s) (hD : Std n v1 v2 s p) (hP : PW n p) (hI : StdI n es s) (hn0 : 0 < n) (hn : n ≤ 2048) (hel : es.length ≤ 1000000) (hes : ∀ e ∈ es, Nd n e.f0 ∧ (0 ≤ e.f1 ∧ e.f1 < 64) ∧ Nd n e.f2)
    {fr : Nat} {b : Nat} (hfr : fr < p.heaps.length) (hfb : gl p.heaps (fr : Int) = [(b : Int)]) {H0 : Int → Int} (hC : StdC es s fr H0) (hold : old < fr) (hLo : ∀ x ∈ gl p.blocks (b : Int), H0 x = (old : Int)) (hH : ∀ x, Nd n x → HP p x = if gi p.block x = (b : Int) then (fr : Int) else H0 x) (hH0 : ∀ x, Nd n x → H0 x < (fr : Int)) (hR : RefJ n es (gi p.block) H0 (gi p.block) (HP p) (fr : Int) (old : Int) 0)
    {A1 : Option Addr} {nl c1 : Nat} (hv1 : v1 = .slice A1 nl c1) (hnl : nl ≤ 64) (hW : StdW s wt) (hWt : Wt p wt) (hB : Below w0.heap.size w0 w) :
    Calls Try.prog 149 #[.pointer (some ⟨T, 0, none⟩), .int .i64 (fr : Int), .int .i64 (old : Int)] w fun e w' => e = .returned (.tuple #[]) ∧ ∃ s' cls' p' wt', SP w0.heap.size T w' cls' s' ∧ Std n v1 v2 s' p' ∧ PW n p' ∧ StdW s' wt' ∧ Wt p' wt' ∧ StdI n es s' ∧ StdC es s' (fr + 1) (HP p) ∧ RefJ n es (gi p.block) H0 (gi p'.block) (HP p) (fr : Int) (old : Int) nl ∧ (∀ x, Nd n x → HP p' x = HP p x) ∧ p'.heaps.length = p.heaps.length ∧ Fr w w' cls cls' (fun _ => False) ∧ Below w0.heap.size w0 w' := by
  have hmm := @run_makeMap Try.prog
  have hb : Nd p.blocks.length (b : Int) := ((hP.hm (fr : Int) (nd_iff.2 hfr) (b : Int)).1 (by rw [hfb]; simp)).1
  have hbn := nd_iff.1 hb
  have hnb := hP.nb_le
  have hnh := hP.nh_le
  have hhs : s.hs.length = p.heaps.length := by rw [hD.hs, hD.hl]
  obtain ⟨gS, cS, hvS, hcS⟩ := hS.slice (hS .hs) (by rw [hhs]; omega)
  rw [hhs] at hvS
  have hbs : s.bs.length = p.blocks.length := by rw [hD.bs, hD.bl]
  obtain ⟨gQ, cQ, hvQ, hcQ⟩ := hS.slice (hS .bs) (by rw [hbs]; omega)
  rw [hbs] at hvQ
  have t5 : w.cell? ⟨T, 5, none⟩ = some (.slice (some ⟨gQ, 0, none⟩) p.blocks.length cQ) := by rw [hS.cell 5 s.vBs (by rw [hD.tc]; rfl), hvQ]
  have t7 : w.cell? ⟨T, 7, none⟩ = some (.slice (some ⟨gS, 0, none⟩) p.heaps.length cS) := by rw [hS.cell 7 s.vHs (by rw [hD.tc]; rfl), hvS]
  have hRf : IR w w0.heap.size cls (.hro fr) (slV (s.hsl.getD fr nilL)) [(b : Int)] := by
    have h : IR w w0.heap.size cls (.hro fr) (slV (s.hsl.getD fr nilL)) (s.heaps.getD fr []) := hS (.hro fr) (by rw [hD.hl]; exact hfr)
    rw [hD.heaps] at h
    rw [← hfb]
    exact h
  obtain ⟨gF, cF, hvF, hcF⟩ := IR.slice hRf (by simp)
  have q7 : w.cell? ⟨gS, fr, none⟩ = some (.slice (some ⟨gF, 0, none⟩) 1 cF) := by rw [(hcS fr (by rw [hhs]; exact hfr)).1, hD.hs, hvF]; rfl
  have q8 : w.cell? ⟨gF, 0, none⟩ = some (.int .i64 (b : Int)) := (hcF 0 (by simp)).1
  obtain ⟨L, hL⟩ : ∃ L, L = gl p.blocks (b : Int) := ⟨_, rfl⟩
  have hRb : IR w w0.heap.size cls (.bro b) (slV (s.bsl.getD b nilL)) L := by
    have h : IR w w0.heap.size cls (.bro b) (slV (s.bsl.getD b nilL)) (s.blocks.getD b []) := hS (.bro b) (by rw [hD.bl]; exact hbn)
    rw [hD.blocks] at h
    rw [hL]
    exact h
  obtain ⟨AL, cL, hvL, _, hCL⟩ := Kd.R_reads hRb
  have q9 : w.cell? ⟨gQ, b, none⟩ = some (.slice AL L.length cL) := by rw [(hcQ b (by rw [hbs]; exact hbn)).1, hD.bs, hvL]
  have hLl : L.length ≤ n := by rw [hL]; exact hP.len_b hb
  have HS := Aside0.mk hS
  have HD := Aside0.mk hD
  have HP := Aside0.mk hP
  have HI := Aside0.mk hI
  have HC := Aside0.mk hC
  have j9 := Aside0.mk (And.intro hH (And.intro hH0 hR))
  have HW := Aside0.mk hW
  have HWt := Aside0.mk hWt
  subst hv1
  have HLo := Aside0.mk hLo
  have HEs := Aside0.mk hes
  have HB := Aside0.mk hB
  have HL := Aside0.mk hL
  have HT := Aside0.mk (And.intro t5 (And.intro t7 (And.intro q7 (And.intro q8 q9))))
  have HCL := Aside0.mk hCL
  have HFb := Aside0.mk hfb
  clear hS hD hP hI hC hLo hH hH0 hR hW hWt hes hB hL t5 t7 q7 q8 q9 hCL hvS hcS hvQ hcQ hRf hvF hcF hRb hvL hfb hb hhs hbs
  go_enter Try.func149, Try.ntmps149
  go_wp2_with fail
  have a0 := below_drew1 (below_alloc (Below.refl w.heap.size w) (Obj.map #[] 0))
  have j8 := Aside0.mk (show G2 (w.alloc (Obj.map #[] 0)).drew w.heap.size (fun _ => none) 0 from GM.made _ _ _ _ _)
  have a8 := Aside0.mk a0
  have t5 := later a0 HT.out.1
  have t7 := later a0 HT.out.2.1
  have q7 := later a0 HT.out.2.2.1
  have q8 := later a0 HT.out.2.2.2.1
  have q9 := later a0 HT.out.2.2.2.2
  have k1 : fr < p.heaps.length := hfr
  have k2 : b < p.blocks.length := hbn
  clear a0 hmm
  refine start_ (n := 18) (S := fun w' => w'.cell? ⟨T, 5, none⟩ = some (.slice (some ⟨gQ, 0, none⟩) p.blocks.length cQ) ∧ w'.cell? ⟨T, 7, none⟩ = some (.slice (some ⟨gS, 0, none⟩) p.heaps.length cS) ∧ w'.cell? ⟨gS, fr, none⟩ = some (.slice (some ⟨gF, 0, none⟩) 1 cF) ∧ w'.cell? ⟨gF, 0, none⟩ = some (.int .i64 (b : Int)) ∧ w'.cell? ⟨gQ, b, none⟩ = some (.slice AL L.length cL)) (ds := []) #[false, false, false, false, false, false, false, false, false, false, false, false, false, false, false, false, false, false] (by kernel_rfl) rfl rfl ⟨t5, t7, q7, q8, q9⟩ (fun hHeld => ?_)
  clear t5 t7 q7 q8 q9
  generalize (w.alloc (Obj.map #[] 0)).drew = V at j8 a8 hHeld ⊢
  have HH := Aside0.mk hHeld
  have HV := Aside0.mk (Below.refl V.heap.size V)
  refine pure_ (i := 1) (N := some 20) (v := ?_) (a' := ?_) #[false, true, false, false, false, false, false, false, false, false, false, false, false, false, false, false, false, false] rfl rfl (by kernel_rfl) (fun _ _ _ h => h) (Or.inl ⟨by rfl, ?_⟩) ?_ ?_
  rotate_left
  · intro w'
    go_simp
    with_reducible rfl
  rotate_left
  · simp only [Act.put, List.setIfInBounds_toArray, List.set_cons_zero, List.set_cons_succ, i64_w, i32_w]
    rfl
  refine pure_ (i := 2) (N := some 21) (v := ?_) (a' := ?_) #[false, true, true, false, false, false, false, false, false, false, false, false, false, false, false, false, false, false] rfl rfl (by kernel_rfl) (fun _ _ _ h => h) (Or.inl ⟨by rfl, ?_⟩) ?_ ?_
  rotate_left
  · intro w'
    go_simp
    with_reducible rfl
  rotate_left
  · simp only [Act.put, List.setIfInBounds_toArray, List.set_cons_zero, List.set_cons_succ, i64_w, i32_w]
    rfl
  refine pure_ (i := 3) (N := some 22) (v := ?_) (a' := ?_) #[false, true, true, true, false, false, false, false, false, false, false, false, false, false, false, false, false, false] rfl rfl (by kernel_rfl) (fun _ _ _ h => h) (Or.inl ⟨by rfl, ?_⟩) ?_ ?_
  rotate_left
  · intro w'
    go_simp
    with_reducible rfl
  rotate_left
  · simp only [Act.put, List.setIfInBounds_toArray, List.set_cons_zero, List.set_cons_succ, i64_w, i32_w]
    rfl
  refine pure_ (i := 5) (N := some 24) (v := ?_) (a' := ?_) #[false, true, true, true, false, true, false, false, false, false, false, false, false, false, false, false, false, false] rfl rfl (by kernel_rfl) (fun _ _ _ h => h) (Or.inl ⟨by rfl, ?_⟩) ?_ ?_
  rotate_left
  · intro w'
    go_simp
    with_reducible rfl
  rotate_left
  · simp only [Act.put, List.setIfInBounds_toArray, List.set_cons_zero, List.set_cons_succ, i64_w, i32_w]
    rfl
  refine pure_ (i := 6) (N := some 25) (v := ?_) (a' := ?_) #[false, true, true, true, false, true, true, false, false, false, false, false, false, false, false, false, false, false] rfl rfl (by kernel_rfl) (fun _ _ _ h => h) (Or.inl ⟨by rfl, ?_⟩) ?_ ?_
  rotate_left
  · intro w'
    go_simp
    with_reducible rfl
  rotate_left
  · simp only [Act.put, List.setIfInBounds_toArray, List.set_cons_zero, List.set_cons_succ, i64_w, i32_w]
    rfl
  refine pure_ (i := 7) (N := some 26) (v := ?_) (a' := ?_) #[false, true, true, true, false, true, true, true, false, false, false, false, false, false, false, false, false, false] rfl rfl (by kernel_rfl) (fun _ _ _ h => h) (Or.inl ⟨by rfl, ?_⟩) ?_ ?_
  rotate_left
  · intro w'
    go_simp
    with_reducible rfl
  rotate_left
  · simp only [Act.put, List.setIfInBounds_toArray, List.set_cons_zero, List.set_cons_succ, i64_w, i32_w]
    rfl
  refine pure_ (i := 9) (N := some 28) (v := ?_) (a' := ?_) #[false, true, true, true, false, true, true, true, false, true, false, false, false, false, false, false, false, false] rfl rfl (by kernel_rfl) (fun _ _ _ h => h) (Or.inl ⟨by rfl, ?_⟩) ?_ ?_
  rotate_left
  · intro w'
    go_simp
    with_reducible rfl
  rotate_left
  · simp only [Act.put, List.setIfInBounds_toArray, List.set_cons_zero, List.set_cons_succ, i64_w, i32_w]
    rfl
  refine take_ (i := 4) (N := some 23) (v := ?_) (a' := ?_) #[false, true, true, true, true, true, true, true, false, true, false, false, false, false, false, false, false, false] rfl rfl (by kernel_rfl) (fun _ _ _ h => h) (Or.inl ⟨by rfl, ?_⟩) hHeld ?_ ?_
  rotate_left
  · rintro w' ⟨s0, s1, s2, s3, s4⟩
    go_simp
    with_reducible rfl
  rotate_left
  · simp only [Act.put, List.setIfInBounds_toArray, List.set_cons_zero, List.set_cons_succ, i64_w, i32_w]
    rfl
  refine take_ (i := 8) (N := some 27) (v := ?_) (a' := ?_) #[false, true, true, true, true, true, true, true, true, true, false, false, false, false, false, false, false, false] rfl rfl (by kernel_rfl) (fun _ _ _ h => h) (Or.inl ⟨by rfl, ?_⟩) hHeld ?_ ?_
  rotate_left
  · rintro w' ⟨s0, s1, s2, s3, s4⟩
    go_simp
    with_reducible rfl
  rotate_left
  · simp only [Act.put, List.setIfInBounds_toArray, List.set_cons_zero, List.set_cons_succ, i64_w, i32_w]
    rfl
  refine pure_ (i := 10) (N := some 29) (v := ?_) (a' := ?_) #[false, true, true, true, true, true, true, true, true, true, true, false, false, false, false, false, false, false] rfl rfl (by kernel_rfl) (fun _ _ _ h => h) (Or.inl ⟨by rfl, ?_⟩) ?_ ?_
  rotate_left
  · intro w'
    go_simp
    with_reducible rfl
  rotate_left
  · simp only [Act.put, List.setIfInBounds_toArray, List.set_cons_zero, List.set_cons_succ, i64_w, i32_w]
    rfl
  refine take_ (i := 11) (N := some 30) (v := ?_) (a' := ?_) #[false, true, true, true, true, true, true, true, true, true, true, true, false, false, false, false, false, false] rfl rfl (by kernel_rfl) (fun _ _ _ h => h) (Or.inl ⟨by rfl, ?_⟩) hHeld ?_ ?_
  rotate_left
  · rintro w' ⟨s0, s1, s2, s3, s4⟩
    go_simp
    with_reducible rfl
  rotate_left
  · simp only [Act.put, List.setIfInBounds_toArray, List.set_cons_zero, List.set_cons_succ, i64_w, i32_w]
    rfl
  refine pure_ (i := 12) (N := some 31) (v := ?_) (a' := ?_) #[false, true, true, true, true, true, true, true, true, true, true, true, true, false, false, false, false, false] rfl rfl (by kernel_rfl) (fun _ _ _ h => h) (Or.inl ⟨by rfl, ?_⟩) ?_ ?_
  rotate_left
  · intro w'
    go_simp
    with_reducible rfl
  rotate_left
  · simp only [Act.put, List.setIfInBounds_toArray, List.set_cons_zero, List.set_cons_succ, i64_w, i32_w]
    rfl
  refine take_ (i := 13) (N := some 32) (v := ?_) (a' := ?_) #[false, true, true, true, true, true, true, true, true, true, true, true, true, true, false, false, false, false] rfl rfl (by kernel_rfl) (fun _ _ _ h => h) (Or.inl ⟨by rfl, ?_⟩) hHeld ?_ ?_
  rotate_left
  · rintro w' ⟨s0, s1, s2, s3, s4⟩
    go_simp
    with_reducible rfl
  rotate_left
  · simp only [Act.put, List.setIfInBounds_toArray, List.set_cons_zero, List.set_cons_succ, i64_w, i32_w]
    rfl
  refine pure_ (i := 14) (N := some 33) (v := ?_) (a' := ?_) #[false, true, true, true, true, true, true, true, true, true, true, true, true, true, true, false, false, false] rfl rfl (by kernel_rfl) (fun _ _ _ h => h) (Or.inl ⟨by rfl, ?_⟩) ?_ ?_
  rotate_left
  · intro w'
    go_simp
    with_reducible rfl
  rotate_left
  · simp only [Act.put, List.setIfInBounds_toArray, List.set_cons_zero, List.set_cons_succ, i64_w, i32_w]
    rfl
  refine take_ (i := 15) (N := some 34) (v := ?_) (a' := ?_) #[false, true, true, true, true, true, true, true, true, true, true, true, true, true, true, true, false, false] rfl rfl (by kernel_rfl) (fun _ _ _ h => h) (Or.inl ⟨by rfl, ?_⟩) hHeld ?_ ?_
  rotate_left
  · rintro w' ⟨s0, s1, s2, s3, s4⟩
    go_simp
    with_reducible rfl
  rotate_left
  · simp only [Act.put, List.setIfInBounds_toArray, List.set_cons_zero, List.set_cons_succ, i64_w, i32_w]
    rfl
  refine one_ (i := 0) (N := some 19) #[true, true, true, true, true, true, true, true, true, true, true, true, true, true, true, true, false, false] rfl rfl (by kernel_rfl) (by decide) (fun K hK => ?_)
  refine Kd.R_lit_step (Kd.int .i64) (w0 := V) V.heap.size 3 (by rfl) (N := 19) rfl (xs := ([] : List Int)) (inner := []) (okp := fun _ => False) (ok := fun _ => True) ?hr ⟨rfl, fun j p h => by simp at h⟩ (fun _ hk => hk.elim) trivial HV.out (Nat.le_refl _) (by simp) ?_
  (case hr => first | (go_simp; done) | (go_simp; rfl))
  intro v5 w5 ho hb hg hat
  obtain ⟨A5, c5, y5⟩ := Kd.R_slice ho
  subst y5
  have u0 := Aside0.mk ho
  have a7 := Aside0.mk hb
  clear ho hb hg hat
  refine hK.out _ _ ⟨later a7.out HH.out.1, later a7.out HH.out.2.1, later a7.out HH.out.2.2.1, later a7.out HH.out.2.2.2.1, later a7.out HH.out.2.2.2.2⟩ (fun hHeld => ?_)
  clear hK K
  refine norm_ (a' := ?_) ?_ ?_
  rotate_left
  · show Act.put _ (some 19) _ = _
    simp only [Act.put, List.setIfInBounds_toArray, List.set_cons_zero, List.set_cons_succ, i64_w, i32_w]
    rfl
  refine one_ (i := 16) (N := some 35) #[true, true, true, true, true, true, true, true, true, true, true, true, true, true, true, true, true, false] rfl rfl (by kernel_rfl) (by decide) (fun K hK => ?_)
  refine Kd.R_append_rows_step (Kd.int .i64) (Rr := (Kd.int .i64).K w5) (w0 := V) V.heap.size (by rfl) (.tmp 19) (.tmp 34) 28 3 (.int .i64 0) 8 rfl Try.underlying28 infoI rfl (by decide) (by omega) (.slice A5 ([] : List Int).length c5) [] L AL L.length cL (fun _ => True) (fun _ => False) rfl rfl u0.out (Kd.C_below (Kd.C_below HCL.out a8.out) a7.out) (fun _ _ h => h) (fun _ hk => hk.elim) (fun _ _ => trivial) a7.out a7.out.size (by simp; omega) ?_
  intro v6 w6 ho hb hg hat
  obtain ⟨A6, c6, v8⟩ := Kd.R_slice ho
  rw [List.nil_append] at ho v8
  subst v8
  have v7 := Aside0.mk ho
  have a1 := Aside0.mk hb
  clear ho hb hg hat
  refine hK.out _ _ ⟨later a1.out HH.out.1, later a1.out HH.out.2.1, later a1.out HH.out.2.2.1, later a1.out HH.out.2.2.2.1, later a1.out HH.out.2.2.2.2⟩ (fun hHeld => ?_)
  clear hK K
  refine norm_ (a' := ?_) ?_ ?_
  rotate_left
  · show Act.put _ (some 35) _ = _
    simp only [Act.put, List.setIfInBounds_toArray, List.set_cons_zero, List.set_cons_succ, i64_w, i32_w]
    rfl
  refine pure_ (i := 17) (N := some 7) (v := ?_) (a' := ?_) #[true, true, true, true, true, true, true, true, true, true, true, true, true, true, true, true, true, true] rfl rfl (by kernel_rfl) (fun _ _ _ h => h) (Or.inl ⟨by rfl, ?_⟩) ?_ ?_
  rotate_left
  · intro w'
    go_simp
    with_reducible rfl
  rotate_left
  · simp only [Act.put, List.setIfInBounds_toArray, List.set_cons_zero, List.set_cons_succ, i64_w, i32_w]
    rfl
  refine done_ (by kernel_rfl) ?_
  have a3 := Aside0.mk (show G2 w6 w.heap.size (fun _ => none) 0 from j8.out.below a1.out)
  have b2 := Aside0.mk (below_then a8.out a8.out.size a1.out)
  have HVs := Aside0.mk (show w.heap.size + 1 ≤ V.heap.size from by have := a8.out.size; have h2 := j8.out.lt_; omega)
  have f5 := Aside0.mk (Kd.R_lower v7.out HVs.out)
  obtain ⟨M, hM⟩ : ∃ M, M = w.heap.size := ⟨_, rfl⟩
  rw [← hM] at a3 f5 ⊢
  have HMe := Aside0.mk hM
  clear j8 a8 HH HV u0 a7 a1 v7 hM HT HCL
  go_wp2
  go_loopw [38] (fun i wr => ∃ (k : Nat) (f : Int × Int → Option Value) (c : Nat), k ≤ L.length ∧ i = .int .i64 k ∧ Aside0 (G2 wr M f c) ∧ Aside0 (∀ q, ptOk q → f q = encZ (cntL (intoL es (L.take k)) q)) ∧ Aside0 (Kd.R (Kd.int .i64) 3 wr (M + 1) (fun _ => True) (.slice A6 L.length c6) L) ∧ Aside0 (Below w.heap.size w wr)) (fun i _ => L.length - (intOf i).toNat)
  case atStart => exact ⟨0, _, _, Nat.zero_le _, rfl, a3, ⟨fun q hq => rfl⟩, f5, b2⟩
  case round =>
    clear a3 f5 b2 hHeld
    obtain ⟨k, f, c, hk, rfl, HG, HF, HN, HBr⟩ := hrel
    by_cases hlt : k < L.length
    · obtain ⟨ad, hA, hc⟩ := atI (Kd.R_reads' HN.out).2.2 k hlt
      obtain ⟨x, hx, hxn⟩ := (((HP.out.bm (b : Int) (nd_iff.2 hbn) (L.getD k 0)).1 (by rw [← HL.out, List.getD_eq_getElem?_getD, List.getElem?_eq_getElem hlt]; exact List.getElem_mem hlt)).1).nat
      rw [hx] at hc
      have HX := Aside0.mk hx
      subst hA
      have HSr := Aside0.mk (HS.out.below HBr.out)
      obtain ⟨gI, cI, hvI, hcI⟩ := slR (show XR wr w0.heap.size cls .tab s.vI s.is from HSr.out .tab) (by rw [HI.out.len]; exact hn0)
      rw [HI.out.len] at hvI
      have t3 : wr.cell? ⟨T, 3, none⟩ = some (.slice (some ⟨gI, 0, none⟩) n cI) := by rw [HSr.out.cell 3 s.vI (by rw [HD.out.tc]; rfl), hvI]
      obtain ⟨m, hm⟩ : ∃ m, m = es.filter fun e => decide (e.f2 = (x : Int)) := ⟨_, rfl⟩
      have hrow : ER wr w0.heap.size cls .tro (slV (s.is.getD x nilL)) m := by
        have h : ER wr w0.heap.size cls .tro (slV (s.is.getD x nilL)) (s.ins.getD x []) := HSr.out .tro x (by rw [HI.out.len]; exact hxn)
        rw [HI.out.ins x hxn, ← hm] at h
        exact h
      obtain ⟨Ax, cx, hvx, _, hCx⟩ := Kd.R_reads hrow
      have q3 : wr.cell? ⟨gI, x, none⟩ = some (.slice Ax m.length cx) := by rw [(hcI x (by rw [HI.out.len]; exact hxn)).1, hvx]
      have hml : m.length ≤ es.length := by rw [hm]; exact List.length_filter_le _ _
      have HM := Aside0.mk hm
      have HRx := Aside0.mk hrow
      have HVx := Aside0.mk hvx
      clear hx hvI hcI hm hrow hvx hCx
      go_wp2
      clear t3 q3 hc
      obtain ⟨W1, k0⟩ : ∃ W1, W1 = wr := ⟨_, rfl⟩
      subst k0
      go_loopw [50] (fun i wr => ∃ (j : Nat) (f : Int × Int → Option Value) (c : Nat), j ≤ m.length ∧ i = .int .i64 j ∧ Aside0 (G2 wr M f c) ∧ Aside0 (∀ q, ptOk q → f q = encZ (cntL (intoL es (L.take k) ++ m.take j) q)) ∧ Aside0 (Kd.R (Kd.int .i64) 3 wr (M + 1) (fun _ => True) (.slice (some ad) L.length c6) L) ∧ Aside0 (Below w.heap.size w wr)) (fun i _ => m.length - (intOf i).toNat)
      case atStart => exact ⟨0, _, _, Nat.zero_le _, rfl, HG, ⟨fun q hq => by rw [List.take_zero, List.append_nil]; exact HF.out q hq⟩, HN, HBr⟩
      case round =>
        clear HG HF HN
        obtain ⟨j, f, c, hj, rfl, HG, HF, HN, HBj⟩ := hrel
        by_cases b8 : j < m.length
        · have e7 : ER wr w0.heap.size cls .tro (slV (s.is.getD x nilL)) m := by
            have h : ER wr w0.heap.size cls .tro (slV (s.is.getD x nilL)) (s.ins.getD x []) := (HS.out.below HBj.out) .tro x (by rw [HI.out.len]; exact hxn)
            rw [HI.out.ins x hxn, ← HM.out] at h
            exact h
          rw [HVx.out] at e7
          obtain ⟨ae, y7, g0, g1, g2⟩ := atE (Kd.R_reads' e7).2.2 j b8
          subst y7
          obtain ⟨e, he⟩ : ∃ e, e = m.getD j z80 := ⟨_, rfl⟩
          have hee := HEs.out e (by
            have h : e ∈ m := by rw [he, List.getD_eq_getElem?_getD, List.getElem?_eq_getElem b8]; exact List.getElem_mem b8
            rw [HM.out] at h
            exact (List.mem_filter.1 h).1)
          have y3 : Aside0 (m.take (j + 1) = m.take j ++ [e]) := ⟨by rw [take_snoc z80 b8, ← he]⟩
          rw [← he] at g0 g1 g2
          have hok : ptOk (e.f0, e.f1) := by
            obtain ⟨h1, h2, h3⟩ := hee
            have := h1.1
            have := h1.2
            exact ⟨by show i64in e.f0; unfold i64in; omega, by show i64in e.f1; unfold i64in; omega⟩
          obtain ⟨z, hz⟩ : ∃ z, z = cntL (intoL es (L.take k) ++ m.take j) (e.f0, e.f1) := ⟨_, rfl⟩
          have hlen : (intoL es (L.take k) ++ m.take j).length ≤ 3000000000 := by
            rw [List.length_append]
            have h1 := intoL_len es (L.take k)
            have h2 : (L.take k).length * es.length ≤ 2048 * 1000000 := Nat.mul_le_mul (by rw [List.length_take]; omega) hel
            have h3 : (m.take j).length ≤ m.length := by rw [List.length_take]; omega
            omega
          have y8 := cntL_nn (intoL es (L.take k) ++ m.take j) (e.f0, e.f1)
          rw [← hz] at y8
          have hcn : c < maxLen := by have := cnt_le2 HG.out HF.out; unfold maxLen; omega
          have HOk := Aside0.mk hok
          have HZ := Aside0.mk hz
          have HCn := Aside0.mk hcn
          have hwz : wrap64 (z + 1) = z + 1 := by unfold wrap64; omega
          clear e7 he hee hok hz hcn
          go_wp2_with fail
          clear g0 g1 g2
          obtain ⟨E, hE⟩ : ∃ E, E = wr.heap.size := ⟨_, rfl⟩
          rw [← hE]
          have HME := Aside0.mk (show M < E by rw [hE]; exact HG.out.lt_)
          have b4 := below_drew1 (below_alloc (Below.refl wr.heap.size wr) (Obj.cells #[Value.int IntKind.i64 e.f0, Value.int IntKind.i64 e.f1, Value.int IntKind.i64 e.f2] 80))
          have e0 := (blk_cell (blk_new wr (Obj.cells #[Value.int IntKind.i64 e.f0, Value.int IntKind.i64 e.f1, Value.int IntKind.i64 e.f2] 80)) 0).trans rfl
          have e1 := (blk_cell (blk_new wr (Obj.cells #[Value.int IntKind.i64 e.f0, Value.int IntKind.i64 e.f1, Value.int IntKind.i64 e.f2] 80)) 1).trans rfl
          rw [← hE] at e0 e1
          have a6 := Aside0.mk (HG.out.below b4)
          have n7 := Aside0.mk (Kd.R_below HN.out b4)
          have a8 := Aside0.mk (below_then HBj.out HBj.out.size b4)
          clear b4 hE HG HN HBj
          generalize (wr.alloc (Obj.cells #[Value.int IntKind.i64 e.f0, Value.int IntKind.i64 e.f1, Value.int IntKind.i64 e.f2] 80)) = W at a6 n7 a8 e0 e1 ⊢
          have hlook := a6.out.get ptKB HOk.out Try.underlying165 (zeroI _)
          rw [HF.out _ HOk.out, encZ_get, ← HZ.out] at hlook
          have u6 : (Instr.lookup 165 (.map (some M)) (.agg #[.int .i64 e.f0, .int .i64 e.f1]) false).run Try.prog W.drew = .ok (.int .i64 z) W.drew := hlook
          clear hlook
          refine start_ (n := 11) (S := fun w' => w'.cell? ⟨E, 0, none⟩ = some (.int .i64 e.f0) ∧ w'.cell? ⟨E, 1, none⟩ = some (.int .i64 e.f1) ∧ (Instr.lookup 165 (.map (some M)) (.agg #[.int .i64 e.f0, .int .i64 e.f1]) false).run Try.prog w' = .ok (.int .i64 z) w') (ds := [10]) #[false, false, false, false, false, false, false, false, false, false, false] (by kernel_rfl) rfl rfl ⟨e0, e1, u6⟩ (fun hHeld => ?_)
          clear e0 e1 u6
          generalize W.drew = V at a6 n7 a8 hHeld ⊢
          obtain ⟨v0, st, w5, hrun, p1, x4, n3, o3⟩ := a6.out.entry ptKB pt_law HOk.out Try.underlying165 zeroI HCn.out
          have HRun := Aside0.mk hrun
          have b5 := Aside0.mk p1
          have HLk := Aside0.mk n3
          have HSt := Aside0.mk o3
          have HH := Aside0.mk hHeld
          clear hrun p1 x4 n3 o3
          refine pure_ (i := 0) (N := some 54) (v := ?_) (a' := ?_) #[true, false, false, false, false, false, false, false, false, false, false] rfl rfl (by kernel_rfl) (fun _ _ _ h => h) (Or.inl ⟨by rfl, ?_⟩) ?_ ?_
          rotate_left
          · intro w'
            go_simp
            with_reducible rfl
          rotate_left
          · simp only [Act.put, List.setIfInBounds_toArray, List.set_cons_zero, List.set_cons_succ, i64_w, i32_w]
            rfl
          refine pure_ (i := 1) (N := some 55) (v := ?_) (a' := ?_) #[true, true, false, false, false, false, false, false, false, false, false] rfl rfl (by kernel_rfl) (fun _ _ _ h => h) (Or.inl ⟨by rfl, ?_⟩) ?_ ?_
          rotate_left
          · intro w'
            go_simp
            with_reducible rfl
          rotate_left
          · simp only [Act.put, List.setIfInBounds_toArray, List.set_cons_zero, List.set_cons_succ, i64_w, i32_w]
            rfl
          refine pure_ (i := 3) (N := some 57) (v := ?_) (a' := ?_) #[true, true, false, true, false, false, false, false, false, false, false] rfl rfl (by kernel_rfl) (fun _ _ _ h => h) (Or.inl ⟨by rfl, ?_⟩) ?_ ?_
          rotate_left
          · intro w'
            go_simp
            with_reducible rfl
          rotate_left
          · simp only [Act.put, List.setIfInBounds_toArray, List.set_cons_zero, List.set_cons_succ, i64_w, i32_w]
            rfl
          refine take_ (i := 2) (N := some 56) (v := ?_) (a' := ?_) #[true, true, true, true, false, false, false, false, false, false, false] rfl rfl (by kernel_rfl) (fun _ _ _ h => h) (Or.inl ⟨by rfl, ?_⟩) hHeld ?_ ?_
          rotate_left
          · rintro w' ⟨s0, s1, s2⟩
            go_simp
            with_reducible rfl
          rotate_left
          · simp only [Act.put, List.setIfInBounds_toArray, List.set_cons_zero, List.set_cons_succ, i64_w, i32_w]
            rfl
          refine take_ (i := 4) (N := some 58) (v := ?_) (a' := ?_) #[true, true, true, true, true, false, false, false, false, false, false] rfl rfl (by kernel_rfl) (fun _ _ _ h => h) (Or.inl ⟨by rfl, ?_⟩) hHeld ?_ ?_
          rotate_left
          · rintro w' ⟨s0, s1, s2⟩
            go_simp
            with_reducible rfl
          rotate_left
          · simp only [Act.put, List.setIfInBounds_toArray, List.set_cons_zero, List.set_cons_succ, i64_w, i32_w]
            rfl
          refine pure_ (i := 5) (N := some 59) (v := ?_) (a' := ?_) #[true, true, true, true, true, true, false, false, false, false, false] rfl rfl (by kernel_rfl) (fun _ _ _ h => h) (Or.inl ⟨by rfl, ?_⟩) ?_ ?_
          rotate_left
          · intro w'
            go_simp
            with_reducible rfl
          rotate_left
          · simp only [Act.put, List.setIfInBounds_toArray, List.set_cons_zero, List.set_cons_succ, i64_w, i32_w]
            rfl
          refine take_ (i := 6) (N := some 60) (v := ?_) (a' := ?_) #[true, true, true, true, true, true, true, false, false, false, false] rfl rfl (by kernel_rfl) (fun _ _ _ h => h) (Or.inl ⟨by rfl, ?_⟩) hHeld ?_ ?_
          rotate_left
          · rintro w' ⟨s0, s1, s2⟩
            go_simp
            with_reducible rfl
          rotate_left
          · simp only [Act.put, List.setIfInBounds_toArray, List.set_cons_zero, List.set_cons_succ, i64_w, i32_w]
            rfl
          refine pure_ (i := 7) (N := some 61) (v := ?_) (a' := ?_) #[true, true, true, true, true, true, true, true, false, false, false] rfl rfl (by kernel_rfl) (fun _ _ _ h => h) (Or.inl ⟨by rfl, ?_⟩) ?_ ?_
          rotate_left
          · intro w'
            go_simp
            with_reducible rfl
          rotate_left
          · simp only [Act.put, List.setIfInBounds_toArray, List.set_cons_zero, List.set_cons_succ, i64_w, i32_w]
            rfl
          refine one_ (i := 8) (N := some 62) #[true, true, true, true, true, true, true, true, true, false, false] rfl rfl (by kernel_rfl) (by decide) (fun K hK => ?_)
          refine value_ (w1 := w5) (v := .tuple #[v0, goInt st]) (by rfl) rfl (run_gentry rfl rfl rfl HRun.out) ?_
          refine hK.out _ _ ⟨cell_keep b5.out HME.out HH.out.1, cell_keep b5.out HME.out HH.out.2.1, (by have h := HLk.out; rw [HF.out _ HOk.out, encZ_get, ← HZ.out] at h; exact h)⟩ (fun hHeld => ?_)
          clear hK K
          refine norm_ (a' := ?_) ?_ ?_
          rotate_left
          · show Act.put _ (some 62) _ = _
            simp only [Act.put, List.setIfInBounds_toArray, List.set_cons_zero, List.set_cons_succ, i64_w, i32_w]
            rfl
          refine pure_ (i := 9) (N := some 63) (v := ?_) (a' := ?_) #[true, true, true, true, true, true, true, true, true, true, false] rfl rfl (by kernel_rfl) (fun _ _ _ h => h) (Or.inl ⟨by rfl, ?_⟩) ?_ ?_
          rotate_left
          · intro w'
            go_simp
            with_reducible rfl
          rotate_left
          · simp only [Act.put, List.setIfInBounds_toArray, List.set_cons_zero, List.set_cons_succ, i64_w, i32_w]
            rfl
          refine last_ (i := 10) (N := none) #[true, true, true, true, true, true, true, true, true, true, true] rfl rfl (by kernel_rfl) (by decide) (fun K hK => ?_)
          obtain ⟨w6, j7, k4, o2, g9⟩ := HSt.out w5 (.int .i64 (z + 1)) rfl
          refine skip_ (w1 := w6) (by rfl) rfl (run_gstore rfl rfl rfl ?hv j7) ?_
          (case hv => go_simp)
          have a3 := Aside0.mk k4
          have HGG := Aside0.mk o2
          clear j7 k4 o2 g9
          refine hK.out _ _ ?_
          clear hK K
          refine done_ (by kernel_rfl) ?_
          go_wp2
          go_roundw
          case rel =>
            have hMle : w.heap.size ≤ M := by rw [HMe.out]; exact Nat.le_refl _
            have f5 := Kd.R_grown (Kd.R_grown (Kd.R_bound n7.out) b5.out fun q hq e => by cases e; have := hq.2.1; omega) HGG.out fun q hq e => by cases e; have := hq.2.1; omega
            refine ⟨j + 1, _, _, by omega, by go_num, a3, ⟨fun q hq => ?_⟩, ⟨Kd.R_mono f5 fun _ _ => trivial⟩, ⟨(a8.out.grown b5.out a8.out.size fun q e => by cases e; exact hMle).grown HGG.out (Nat.le_trans a8.out.size b5.out.size) fun q e => by cases e; exact hMle⟩⟩
            rw [y3.out, ← List.append_assoc, cntL_snoc]
            unfold putM
            by_cases hqe : q = (e.f0, e.f1)
            · rw [if_pos hqe, if_pos hqe, hqe, ← HZ.out]
              unfold encZ
              rw [if_neg (by omega)]
            · rw [if_neg hqe, if_neg hqe]
              exact HF.out q hq
          case measure => simp [intOf]; omega
        · have ej : j = m.length := by omega
          subst ej
          go_wp2
          go_roundw
          case rel =>
            refine ⟨k + 1, _, _, by omega, by go_num, HG, ⟨fun q hq => ?_⟩, HN, HBj⟩
            rw [HF.out q hq, List.take_length, take_snoc (0 : Int) hlt, HX.out, intoL_snoc, ← HM.out]
          case measure => simp [intOf]; omega
    · have ek : k = L.length := by omega
      subst ek
      rw [List.take_length] at HF
      clear hlt hk HN
      have HLn := Aside0.mk (show L.Nodup by rw [HL.out]; exact HP.out.bn _ (nd_iff.2 hbn))
      have i1 := Aside0.mk (show ∀ q, ptOk q → f q = encZ (cntE es (fun x => decide (x ∈ L)) q.1 q.2) from fun q hq => by rw [HF.out q hq, cntL_into es q L HLn.out])
      have hMw : w.heap.size ≤ M := by rw [HMe.out]; exact Nat.le_refl _
      have u5 : w0.heap.size ≤ w.heap.size := HB.out.size
      have hcb : c ≤ es.length := by
        have := HG.out.count_le ptKB (es.map fun e => (e.f0, e.f1)) fun q hq hs => by
          rw [i1.out q hq] at hs
          obtain ⟨e, he, h0, h1, _⟩ := cntE_pos.1 (encZ_some.1 hs)
          exact List.mem_map.2 ⟨e, he, Prod.ext h0 h1⟩
        simpa using this
      obtain ⟨e3, i0⟩ : ∃ e3 : Nat → Cl, e3 = fun k => if k = M then .far 100 else cls k := ⟨_, rfl⟩
      have k3 : ∀ k, k < w.heap.size → e3 k = cls k := fun k hk => by rw [i0]; show (if k = M then _ else _) = _; rw [if_neg (by omega)]
      have hcM : e3 M = .far 100 := by rw [i0]; show (if M = M then _ else _) = _; rw [if_pos rfl]
      have HS1 := Aside0.mk (HS.out.stay (cls' := e3) (Kept.of_below HBr.out _) fun k hk _ => k3 k hk)
      have x0 := Aside0.mk (Fr.same (D := fun _ => False) (Kept.of_below HBr.out _) k3)
      have a8 := Aside0.mk (below_then HB.out HB.out.size HBr.out)
      have HGc := Aside0.mk ((HS1.out .mc).2.1)
      have hcC : s.cC ≤ fr := by
        have := HGc.out.count_le intKB ((List.range fr).map fun k : Nat => (k : Int)) fun a ha hs => by
          rw [HC.out.fC a ha] at hs
          by_cases hq : (decide (0 ≤ a) && decide (a < (fr : Int))) = true
          · simp only [Bool.and_eq_true, decide_eq_true_eq] at hq
            exact List.mem_map.2 ⟨a.toNat, List.mem_range.2 (by omega), by omega⟩
          · rw [if_neg hq] at hs; cases hs
        simpa using this
      have hfi : i64in (fr : Int) := by unfold i64in; omega
      have t8 : wr.cell? ⟨T, 8, none⟩ = some (.map (some s.mC)) := HS1.out.cell 8 _ (by rw [HD.out.tc]; rfl)
      have HCl := Aside0.mk (And.intro hcM (And.intro hcb (And.intro hcC hfi)))
      have HMw := Aside0.mk (And.intro hMw u5)
      clear i0 k3 hcM hcb hcC hfi hMw u5 HF
      go_wp2_with (first
        | (refine wpList_gput _ intKB rfl _ _ _ 87 rfl 165 Try.underlying87 s.mC s.cC s.fC rfl HGc.out (by have := HCl.out.2.2.1; unfold maxLen; omega) (fr : Int) HCl.out.2.2.2 (.map (some M)) rfl rfl ?_
           intro w2 hgm hgg hsz
           have g4 := HS1.out.pushC (w1 := w2) HCl.out.1 (Nat.le_trans HMw.out.2 HMw.out.1) HG.out hgm hgg
           rw [HC.out.ln] at g4
           have f8 := Aside0.mk (x0.out.step (w2 := w2) (cls2 := fun k => if k = M then .cmp fr else e3 k) (kept_grown hgg fun k e => by cases e; exact .inl (by rw [(HS1.out .mc).1]; rfl)) (fun k hk j e _ => by
             show (if k = M then _ else _) = _
             rw [if_neg (by have := HMw.out.1; omega)]
             exact e))
           have i4 := Aside0.mk (a8.out.grown hgg a8.out.size (fun k e => by cases e; exact (HS1.out .mc).2.2))
           have b3 := Aside0.mk (HG.out.grown (fun e => by
             have h1 := (HS1.out .mc).1
             have h2 : s.mC = M := by cases e; rfl
             rw [h2, HCl.out.1] at h1
             cases h1) hgg)
           obtain ⟨s2, n4⟩ : ∃ s2 : Sg, s2 = { s with fC := putM s.fC (fr : Int) (.map (some M)), cC := if (s.fC (fr : Int)).isSome = true then s.cC else s.cC + 1, cm := s.cm ++ [M], fc := fun i => if i = fr then f else s.fc i, cc := fun i => if i = fr then c else s.cc i } := ⟨_, rfl⟩
           rw [← n4] at g4
           obtain ⟨d8, l8⟩ : ∃ d8 : Nat → Cl, d8 = fun k => if k = M then .cmp fr else e3 k := ⟨_, rfl⟩
           rw [← l8] at g4 f8
           have HS2 := Aside0.mk g4
           have a5 := Aside0.mk n4
           clear hgm hgg hsz g4 n4 l8)
        | (at_range; refine wpList_grange _ ptKB rfl _ 165 rfl 3 Try.underlying165 M c f rfl b3.out ?_; intro w3 hgr hg hsz))
      go_frame
      have HGr := Aside0.mk hgr
      have b9 : Below w2.heap.size w2 w3 := (Below.refl _ _).grown hg (Nat.le_refl _) (fun k e => by cases e)
      have HS3 := Aside0.mk (HS2.out.below b9)
      have k6 := Aside0.mk (f8.out.step (cls2 := d8) (Kept.of_below b9 _) fun _ _ _ e _ => e)
      have r9 := Aside0.mk (below_then i4.out i4.out.size b9)
      have hmo : s2.cm.getD old 0 = s.cm.getD old 0 := by rw [a5.out]; show (s.cm ++ [M]).getD old 0 = _; rw [gD_snoc, if_neg (by rw [HC.out.ln]; omega)]
      have holn : old < s2.cm.length := by rw [a5.out]; show old < (s.cm ++ [M]).length; rw [List.length_append, HC.out.ln]; simp; omega
      obtain ⟨mo, hmoe⟩ : ∃ mo, mo = s2.cm.getD old 0 := ⟨_, rfl⟩
      have HMo := Aside0.mk (And.intro hmoe (And.intro holn hmo))
      have HA := Aside0.mk (show ∀ q, ptOk q → s2.fc old q = encZ (cntE es (fun x => decide (H0 x = (old : Int))) q.1 q.2) from fun q hq => by
        rw [a5.out]
        show (if old = fr then f else s.fc old) q = _
        rw [if_neg (by omega)]
        exact HC.out.fc old hold q hq)
      have k8 := (HS2.out (.cmp old) holn).1
      have HCm := Aside0.mk (show d8 mo = .cmp old by rw [hmoe]; exact k8)
      have HAB := Aside0.mk (show ∀ s l, cntE es (fun x => decide (x ∈ L)) s l ≤ cntE es (fun x => decide (H0 x = (old : Int))) s l from fun s l => by
        have h := cntE_sub es (fun x => decide (H0 x = (old : Int))) (fun x => decide (x ∈ L)) (fun e _ hx => by
          have hx := of_decide_eq_true hx
          rw [HL.out] at hx
          exact decide_eq_true (HLo.out _ hx)) s l
        have h2 := (cntE_nn es (fun x => decide (H0 x = (old : Int)) && !decide (x ∈ L)) s l).1
        omega)
      have b1 := Aside0.mk (show s2.mC = s.mC ∧ d8 s.mC = .mc ∧ (∀ h, i64in h → s2.fC h = if decide (0 ≤ h) && decide (h < ((fr + 1 : Nat) : Int)) then some (.map (some (s2.cm.getD h.toNat 0))) else none) from by
        refine ⟨by rw [a5.out], by have := (HS2.out .mc).1; rw [a5.out] at this; exact this, fun h hh => ?_⟩
        rw [a5.out]
        show putM s.fC (fr : Int) (.map (some M)) h = if _ then some (.map (some ((s.cm ++ [M]).getD h.toNat 0))) else none
        unfold putM
        by_cases e : h = (fr : Int)
        · subst e
          rw [if_pos rfl, if_pos (by simp; omega), gD_snoc, if_pos (by rw [HC.out.ln]; simp)]
        · rw [if_neg e, HC.out.fC h hh]
          by_cases hq : (decide (0 ≤ h) && decide (h < (fr : Int))) = true
          · rw [if_pos hq]
            simp only [Bool.and_eq_true, decide_eq_true_eq] at hq
            rw [if_pos (by simp; omega), gD_snoc, if_neg (by rw [HC.out.ln]; omega)]
          · rw [if_neg hq, if_neg]
            intro z4
            apply hq
            simp only [Bool.and_eq_true, decide_eq_true_eq] at z4 ⊢
            omega)
      have hoi : i64in (old : Int) := by unfold i64in; omega
      have HOi := Aside0.mk hoi
      obtain ⟨r, hr⟩ : ∃ r, r = w2.heap.size := ⟨_, rfl⟩
      rw [← hr] at HGr ⊢
      have HRr := Aside0.mk (show w0.heap.size ≤ r ∧ w.heap.size ≤ r ∧ T < r ∧ M < r ∧ mo < r ∧ s.mC < r from by
        have h1 := i4.out.size
        have h2 := f8.out.kept.1
        have h3 := HS2.out.ownT
        have h4 := b3.out.lt_
        have h5 := (HS2.out (.cmp old) holn).2.1.lt_
        have h6 := (HS2.out .mc).2.1.lt_
        rw [b1.out.1] at h6
        rw [hr, hmoe]
        exact ⟨h1, h2, h3, h4, h5, h6⟩)
      obtain ⟨a2, h9⟩ : ∃ a2 : Nat → Cl, a2 = fun k => if k = r then .far 101 else d8 k := ⟨_, rfl⟩
      have h3 : ∀ k, k < r → a2 k = d8 k := fun k hk => by rw [h9]; show (if k = r then _ else _) = _; rw [if_neg (by omega)]
      have h3r : a2 r = .far 101 := by rw [h9]; show (if r = r then _ else _) = _; rw [if_pos rfl]
      have HS3 := Aside0.mk (HS2.out.stay (cls' := a2) (Kept.of_below b9 _) fun k hk _ => h3 k (by rw [hr]; exact hk))
      have k6 := Aside0.mk (f8.out.step (cls2 := a2) (Kept.of_below b9 _) fun k hk j e _ => by rw [h3 k (Nat.lt_of_lt_of_le hk HRr.out.2.1)]; exact e)
      have HCm := Aside0.mk (show a2 mo = .cmp old by rw [h3 mo HRr.out.2.2.2.2.1]; exact HCm.out)
      have b1 := Aside0.mk (show s2.mC = s.mC ∧ a2 s.mC = .mc ∧ _ from ⟨b1.out.1, by rw [h3 _ HRr.out.2.2.2.2.2]; exact b1.out.2.1, b1.out.2.2⟩)
      have HClM := Aside0.mk (show a2 M = .cmp fr ∧ a2 r = .far 101 ∧ a2 T = .tt from ⟨by rw [h3 M HRr.out.2.2.2.1]; have h := HS2.out (.cmp fr) (by rw [a5.out]; show fr < (s.cm ++ [M]).length; rw [List.length_append, HC.out.ln]; simp); have h := h.1; rw [a5.out] at h; rw [show ({ s with fC := putM s.fC (fr : Int) (.map (some M)), cC := _, cm := s.cm ++ [M], fc := _, cc := _ } : Sg).cm.getD fr 0 = M by show (s.cm ++ [M]).getD fr 0 = M; rw [gD_snoc, if_pos HC.out.ln.symm]] at h; exact h, h3r, by rw [h3 T HRr.out.2.2.1]; exact (HS2.out .tt).2.1⟩)
      clear h3 h3r h9 hgr hg hsz b9 hmo holn hmoe k8 hoi hr HS1 x0 a8 HS2 f8 i4 HGc HG HBr t8
      go_loopw [] (fun wr => ∃ (left : Int × Int → Bool) (cnt : Nat) (fcx : Nat → Int × Int → Option Value) (ccx : Nat → Nat),
        Aside0 (GR Try.prog 167 ptL ptOk wr M r f left cnt) ∧ Aside0 (SP w0.heap.size T wr a2 { s2 with fc := fcx, cc := ccx }) ∧ Aside0 (∀ i, i ≠ old → fcx i = s2.fc i ∧ ccx i = s2.cc i) ∧
        Aside0 (∀ q, ptOk q → fcx old q = encZ (if left q = true then cntE es (fun x => decide (H0 x = (old : Int))) q.1 q.2 else cntE es (fun x => decide (H0 x = (old : Int))) q.1 q.2 - cntE es (fun x => decide (x ∈ L)) q.1 q.2)) ∧ Aside0 (ccx old ≤ es.length) ∧ Aside0 (Fr w wr cls a2 fun _ => False) ∧ Aside0 (Below w0.heap.size w0 wr)) (fun wr => wr.rangeLeft M r)
      case atStart =>
        refine ⟨_, _, s2.fc, s2.cc, HGr, HS3, ⟨fun _ _ => ⟨rfl, rfl⟩⟩, ⟨fun q hq => ?_⟩, ⟨?_⟩, k6, r9⟩
        · rw [HA.out q hq]
          cases hs : (f q).isSome with
          | true => rw [if_pos rfl]
          | false =>
            rw [if_neg (by simp)]
            rw [i1.out q hq] at hs
            have hz : cntE es (fun x => decide (x ∈ L)) q.1 q.2 = 0 := by
              by_cases hz : cntE es (fun x => decide (x ∈ L)) q.1 q.2 = 0
              · exact hz
              · rw [encZ_some.2 hz] at hs; cases hs
            rw [hz, Int.sub_zero]
        · rw [a5.out]
          show (if old = fr then c else s.cc old) ≤ _
          rw [if_neg (by omega)]
          exact HC.out.cc old hold
      case round =>
        clear HGr HS3 k6 r9
        obtain ⟨left, cnt, fcx, ccx, HGr, HS4, HOt, j4, HCc, i2, g8⟩ := hrel
        go_wp2_with (at_next; refine wpList_gnext _ ptKB rfl _ rfl M r f left cnt rfl HGr.out ?_ ?_)
        rotate_left
        · intro ya yb v w5 x3 hy hly hfy d7 hlt a4 hsz hen
          obtain ⟨zA, hzA⟩ : ∃ zA, zA = cntE es (fun x => decide (H0 x = (old : Int))) ya yb := ⟨_, rfl⟩
          obtain ⟨zB, hzB⟩ : ∃ zB, zB = cntE es (fun x => decide (x ∈ L)) ya yb := ⟨_, rfl⟩
          have f4 := i1.out (ya, yb) hy
          rw [hfy] at f4
          have x5 : zB ≠ 0 := by
            have := encZ_some (z := cntE es (fun x => decide (x ∈ L)) ya yb)
            rw [hzB]
            exact this.1 (by rw [show encZ (cntE es (fun x => decide (x ∈ L)) ya yb) = some v from f4.symm]; rfl)
          obtain rfl : v = .int .i64 zB := by
            have h1 : some v = encZ zB := by rw [hzB]; exact f4
            unfold encZ at h1
            rw [if_neg x5] at h1
            exact Option.some.inj h1
          have hzle : zB ≤ zA := by rw [hzA, hzB]; exact HAB.out ya yb
          have z6 : 0 ≤ zB := by rw [hzB]; exact (cntE_nn _ _ _ _).1
          have z5 : zA ≤ es.length := by rw [hzA]; exact (cntE_nn _ _ _ _).2
          have o7 : (Instr.entry (.pointer (some ⟨r, 0, none⟩))).run Try.prog w5 = .ok (.tuple #[.agg #[.int .i64 ya, .int .i64 yb], .int .i64 zB]) w5 := hen
          have l9 : Kept _ w5 (fun k => k = r) := kept_grown a4 fun k e => by cases e; rfl
          have a7 := Aside0.mk (g8.out.grown a4 g8.out.size (fun k e => by cases e; exact HRr.out.1))
          have b5 := Aside0.mk d7
          clear hen f4
          have HS5 := Aside0.mk (HS4.out.stay (cls' := a2) (l9.mono fun k hk => by show (a2 k).own = false; rw [show k = r from hk, HClM.out.2.1]; rfl) fun _ _ _ => rfl)
          have t2 := Aside0.mk (i2.out.step (cls2 := a2) (l9.mono fun k hk => .inr (by rw [show k = r from hk]; exact HRr.out.2.1)) fun _ _ _ e _ => e)
          have hokq : ptOk (ya, yb) := hy
          have hva : fcx old (ya, yb) = encZ zA := by rw [j4.out _ hokq, if_pos hly, hzA]
          have HQ := Aside0.mk (And.intro hokq (And.intro hva (And.intro hly (And.intro hlt hfy))))
          have HZ := Aside0.mk (And.intro hzA hzB)
          clear l9 d7 hlt a4 hsz hly hfy hy hokq hva hzA hzB HS4 i2 g8
          go_wp2_with fail
          clear o7
          obtain ⟨E, hE⟩ : ∃ E, E = w5.heap.size := ⟨_, rfl⟩
          rw [← hE]
          have b4 := below_drew1 (below_alloc (Below.refl w5.heap.size w5) (Obj.cells #[Value.int IntKind.i64 ya, Value.int IntKind.i64 yb] 167))
          have e0 := (blk_cell (blk_new w5 (Obj.cells #[Value.int IntKind.i64 ya, Value.int IntKind.i64 yb] 167)) 0).trans rfl
          have e1 := (blk_cell (blk_new w5 (Obj.cells #[Value.int IntKind.i64 ya, Value.int IntKind.i64 yb] 167)) 1).trans rfl
          rw [← hE] at e0 e1
          have HrE := Aside0.mk (show r < E from by rw [hE]; exact b5.out.lt_)
          have HS6 := Aside0.mk (HS5.out.below b4)
          have e4 := Aside0.mk (t2.out.step (cls2 := a2) (Kept.of_below b4 _) fun _ _ _ e _ => e)
          have a1 := Aside0.mk (below_then a7.out a7.out.size b4)
          have a3 := Aside0.mk (b5.out.same (b4.block M b5.out.mlt) (b4.block r b5.out.lt_))
          clear b4 hE HS5 t2 a7 b5
          generalize (w5.alloc (Obj.cells #[Value.int IntKind.i64 ya, Value.int IntKind.i64 yb] 167)) = W at HS6 e4 a1 a3 e0 e1 ⊢
          have d4 := HS6.out.cell 8 (.map (some s.mC)) (by show s2.tc[8]? = _; rw [a5.out]; show s.tc[8]? = _; rw [HD.out.tc]; rfl)
          have d3 : G1 W.drew s.mC s2.fC s2.cC := by have h := (HS6.out .mc).2.1; rw [← b1.out.1]; exact h
          have a4 : G2 W.drew mo (fcx old) (ccx old) := by have h := (HS6.out (.cmp old) HMo.out.2.1).2.1; rw [HMo.out.1]; exact h
          have hfo : s2.fC (old : Int) = some (.map (some mo)) := by rw [b1.out.2.2 _ HOi.out, if_pos (by simp; omega), Int.toNat_natCast, ← HMo.out.1]
          have HFo := Aside0.mk hfo
          have l1 : (Instr.lookup 87 (.map (some s.mC)) (.int .i64 (old : Int)) false).run Try.prog W.drew = .ok (.map (some mo)) W.drew := look_eq intKB d3 HOi.out Try.underlying87 (zeroM _) (by rw [hfo]; rfl)
          have l2 : (Instr.lookup 165 (.map (some mo)) (.agg #[.int .i64 ya, .int .i64 yb]) false).run Try.prog W.drew = .ok (.int .i64 zA) W.drew := look_eq ptKB a4 HQ.out.1 Try.underlying165 (zeroI _) (by rw [HQ.out.2.1]; exact encZ_get _)
          have a6 := Aside0.mk d3
          have HG2' := Aside0.mk a4
          have HNm := Aside0.mk (show s.mC ≠ mo ∧ T ≠ mo ∧ E ≠ mo from ⟨fun e => (by have h := b1.out.2.1; rw [e, HCm.out] at h; cases h), fun e => (by have h := HClM.out.2.2; rw [e, HCm.out] at h; cases h), by have := HrE.out; have := HRr.out.2.2.2.2.1; omega⟩)
          have hwz : wrap64 (zA - zB) = zA - zB := by unfold wrap64; omega
          clear d3 a4 hfo
          refine start_ (n := 13) (S := fun w' => w'.cell? ⟨T, 8, none⟩ = some (.map (some s.mC)) ∧ w'.cell? ⟨E, 0, none⟩ = some (.int .i64 ya) ∧ w'.cell? ⟨E, 1, none⟩ = some (.int .i64 yb) ∧ (Instr.lookup 87 (.map (some s.mC)) (.int .i64 (old : Int)) false).run Try.prog w' = .ok (.map (some mo)) w' ∧ (Instr.lookup 165 (.map (some mo)) (.agg #[.int .i64 ya, .int .i64 yb]) false).run Try.prog w' = .ok (.int .i64 zA) w') (ds := [12]) #[false, false, false, false, false, false, false, false, false, false, false, false, false] (by kernel_rfl) rfl rfl ⟨d4, e0, e1, l1, l2⟩ (fun hHeld => ?_)
          clear d4 e0 e1 l1 l2
          generalize W.drew = V at HS6 e4 a1 a3 a6 HG2' hHeld ⊢
          obtain ⟨v0, st, w6, hrun, u9, g9, o0, l4⟩ := HG2'.out.entry ptKB pt_law HQ.out.1 Try.underlying165 zeroI (by have := HCc.out; unfold maxLen; omega)
          have HRun := Aside0.mk hrun
          have e5 := Aside0.mk u9
          have HLk := Aside0.mk o0
          have HSt := Aside0.mk l4
          have HH := Aside0.mk hHeld
          clear hrun u9 g9 o0 l4
          refine pure_ (i := 0) (N := some 79) (v := ?_) (a' := ?_) #[true, false, false, false, false, false, false, false, false, false, false, false, false] rfl rfl (by kernel_rfl) (fun _ _ _ h => h) (Or.inl ⟨by rfl, ?_⟩) ?_ ?_
          rotate_left
          · intro w'
            go_simp
            with_reducible rfl
          rotate_left
          · simp only [Act.put, List.setIfInBounds_toArray, List.set_cons_zero, List.set_cons_succ, i64_w, i32_w]
            rfl
          refine pure_ (i := 1) (N := some 80) (v := ?_) (a' := ?_) #[true, true, false, false, false, false, false, false, false, false, false, false, false] rfl rfl (by kernel_rfl) (fun _ _ _ h => h) (Or.inl ⟨by rfl, ?_⟩) ?_ ?_
          rotate_left
          · intro w'
            go_simp
            with_reducible rfl
          rotate_left
          · simp only [Act.put, List.setIfInBounds_toArray, List.set_cons_zero, List.set_cons_succ, i64_w, i32_w]
            rfl
          refine pure_ (i := 2) (N := some 81) (v := ?_) (a' := ?_) #[true, true, true, false, false, false, false, false, false, false, false, false, false] rfl rfl (by kernel_rfl) (fun _ _ _ h => h) (Or.inl ⟨by rfl, ?_⟩) ?_ ?_
          rotate_left
          · intro w'
            go_simp
            with_reducible rfl
          rotate_left
          · simp only [Act.put, List.setIfInBounds_toArray, List.set_cons_zero, List.set_cons_succ, i64_w, i32_w]
            rfl
          refine pure_ (i := 4) (N := some 83) (v := ?_) (a' := ?_) #[true, true, true, false, true, false, false, false, false, false, false, false, false] rfl rfl (by kernel_rfl) (fun _ _ _ h => h) (Or.inl ⟨by rfl, ?_⟩) ?_ ?_
          rotate_left
          · intro w'
            go_simp
            with_reducible rfl
          rotate_left
          · simp only [Act.put, List.setIfInBounds_toArray, List.set_cons_zero, List.set_cons_succ, i64_w, i32_w]
            rfl
          refine pure_ (i := 8) (N := some 87) (v := ?_) (a' := ?_) #[true, true, true, false, true, false, false, false, true, false, false, false, false] rfl rfl (by kernel_rfl) (fun _ _ _ h => h) (Or.inl ⟨by rfl, ?_⟩) ?_ ?_
          rotate_left
          · intro w'
            go_simp
            with_reducible rfl
          rotate_left
          · simp only [Act.put, List.setIfInBounds_toArray, List.set_cons_zero, List.set_cons_succ, i64_w, i32_w]
            rfl
          refine take_ (i := 3) (N := some 82) (v := ?_) (a' := ?_) #[true, true, true, true, true, false, false, false, true, false, false, false, false] rfl rfl (by kernel_rfl) (fun _ _ _ h => h) (Or.inl ⟨by rfl, ?_⟩) hHeld ?_ ?_
          rotate_left
          · rintro w' ⟨s0, s1, s2, s3, s4⟩
            go_simp
            with_reducible rfl
          rotate_left
          · simp only [Act.put, List.setIfInBounds_toArray, List.set_cons_zero, List.set_cons_succ, i64_w, i32_w]
            rfl
          refine take_ (i := 5) (N := some 84) (v := ?_) (a' := ?_) #[true, true, true, true, true, true, false, false, true, false, false, false, false] rfl rfl (by kernel_rfl) (fun _ _ _ h => h) (Or.inl ⟨by rfl, ?_⟩) hHeld ?_ ?_
          rotate_left
          · rintro w' ⟨s0, s1, s2, s3, s4⟩
            go_simp
            with_reducible rfl
          rotate_left
          · simp only [Act.put, List.setIfInBounds_toArray, List.set_cons_zero, List.set_cons_succ, i64_w, i32_w]
            rfl
          refine take_ (i := 6) (N := some 85) (v := ?_) (a' := ?_) #[true, true, true, true, true, true, true, false, true, false, false, false, false] rfl rfl (by kernel_rfl) (fun _ _ _ h => h) (Or.inl ⟨by rfl, ?_⟩) hHeld ?_ ?_
          rotate_left
          · rintro w' ⟨s0, s1, s2, s3, s4⟩
            go_simp
            with_reducible rfl
          rotate_left
          · simp only [Act.put, List.setIfInBounds_toArray, List.set_cons_zero, List.set_cons_succ, i64_w, i32_w]
            rfl
          refine take_ (i := 7) (N := some 86) (v := ?_) (a' := ?_) #[true, true, true, true, true, true, true, true, true, false, false, false, false] rfl rfl (by kernel_rfl) (fun _ _ _ h => h) (Or.inl ⟨by rfl, ?_⟩) hHeld ?_ ?_
          rotate_left
          · rintro w' ⟨s0, s1, s2, s3, s4⟩
            go_simp
            with_reducible rfl
          rotate_left
          · simp only [Act.put, List.setIfInBounds_toArray, List.set_cons_zero, List.set_cons_succ, i64_w, i32_w]
            rfl
          refine pure_ (i := 9) (N := some 88) (v := ?_) (a' := ?_) #[true, true, true, true, true, true, true, true, true, true, false, false, false] rfl rfl (by kernel_rfl) (fun _ _ _ h => h) (Or.inl ⟨by rfl, ?_⟩) ?_ ?_
          rotate_left
          · intro w'
            go_simp
            with_reducible rfl
          rotate_left
          · simp only [Act.put, List.setIfInBounds_toArray, List.set_cons_zero, List.set_cons_succ, i64_w, i32_w]
            rfl
          refine one_ (i := 10) (N := some 89) #[true, true, true, true, true, true, true, true, true, true, true, false, false] rfl rfl (by kernel_rfl) (by decide) (fun K hK => ?_)
          refine value_ (w1 := w6) (v := .tuple #[v0, goInt st]) (by rfl) rfl (run_gentry rfl rfl rfl HRun.out) ?_
          refine hK.out _ _ ⟨cell_keep2 e5.out HNm.out.2.1 HH.out.1, cell_keep2 e5.out HNm.out.2.2 HH.out.2.1, cell_keep2 e5.out HNm.out.2.2 HH.out.2.2.1, look_eq intKB (a6.out.grown (fun e => HNm.out.1 (by cases e; rfl)) e5.out) HOi.out Try.underlying87 (zeroM _) (by rw [HFo.out]; rfl), (by have h := HLk.out; rw [HQ.out.2.1, encZ_get] at h; exact h)⟩ (fun hHeld => ?_)
          clear hK K
          refine norm_ (a' := ?_) ?_ ?_
          rotate_left
          · show Act.put _ (some 89) _ = _
            simp only [Act.put, List.setIfInBounds_toArray, List.set_cons_zero, List.set_cons_succ, i64_w, i32_w]
            rfl
          refine pure_ (i := 11) (N := some 90) (v := ?_) (a' := ?_) #[true, true, true, true, true, true, true, true, true, true, true, true, false] rfl rfl (by kernel_rfl) (fun _ _ _ h => h) (Or.inl ⟨by rfl, ?_⟩) ?_ ?_
          rotate_left
          · intro w'
            go_simp
            with_reducible rfl
          rotate_left
          · simp only [Act.put, List.setIfInBounds_toArray, List.set_cons_zero, List.set_cons_succ, i64_w, i32_w]
            rfl
          refine last_ (i := 12) (N := none) #[true, true, true, true, true, true, true, true, true, true, true, true, true] rfl rfl (by kernel_rfl) (by decide) (fun K hK => ?_)
          obtain ⟨w7, i5, l7, n0, x9⟩ := HSt.out w6 (.int .i64 (zA - zB)) rfl
          refine skip_ (w1 := w7) (by rfl) rfl (run_gstore rfl rfl rfl ?hv i5) ?_
          (case hv => go_simp)
          have n2 := Aside0.mk l7
          have HGG := Aside0.mk n0
          clear i5 l7 n0 x9
          refine hK.out _ _ ?_
          clear hK K
          refine done_ (by kernel_rfl) ?_
          have hgv := e5.out.trans HGG.out
          have HHe := Aside0.mk (And.intro (cell_keep2 hgv HNm.out.2.1 HH.out.1) (And.intro (cell_keep2 hgv HNm.out.2.2 HH.out.2.1) (cell_keep2 hgv HNm.out.2.2 HH.out.2.2.1)))
          have hsome : (fcx old (ya, yb)).isSome = true := by rw [HQ.out.2.1]; exact encZ_some.2 (by omega)
          have n8 : G2 w7 mo (putM (fcx old) (ya, yb) (.int .i64 (zA - zB))) (ccx old) := by have h := n2.out; rw [if_pos hsome] at h; exact h
          have HS7 := Aside0.mk (HS6.out.setC (i := old) HMo.out.2.1 (w1 := w7) (by rw [← HMo.out.1]; exact n8) (by rw [← HMo.out.1]; exact hgv))
          have r6 := Aside0.mk (e4.out.step (w2 := w7) (cls2 := a2) (kept_grown hgv fun k e => by cases e; exact .inl (by rw [HCm.out]; rfl)) fun _ _ _ e _ => e)
          have b2 := Aside0.mk (a1.out.grown hgv a1.out.size (fun k e => by cases e; rw [HMo.out.1]; exact (HS6.out (.cmp old) HMo.out.2.1).2.2))
          have hMm : M ≠ mo := fun e => by have h := HClM.out.1; rw [e, HCm.out] at h; have := Cl.cmp.inj h; omega
          have hrm : r ≠ mo := by have := HRr.out.2.2.2.2.1; omega
          have b7 := Aside0.mk (a3.out.same (w1 := w7) (hgv.block M a3.out.mlt fun e => hMm (by cases e; rfl)) (hgv.block r a3.out.lt_ fun e => hrm (by cases e; rfl)))
          have a6 := Aside0.mk (a6.out.grown (fun e => HNm.out.1 (by cases e; rfl)) hgv)
          have b3 := Aside0.mk n8
          clear hgv hsome n8 HS6 e4 a1 a3 HG2' e5 HGG n2 HLk HSt HRun HH hHeld
          go_wp2_with fail
          have a0 := below_drew1 (Below.refl w7.heap.size w7)
          have HS8 := Aside0.mk (HS7.out.below a0)
          have j5 := Aside0.mk (r6.out.step (cls2 := a2) (Kept.of_below a0 _) fun _ _ _ e _ => e)
          have b6 := Aside0.mk (below_then b2.out b2.out.size a0)
          have b0 := Aside0.mk (b7.out.same (w1 := w7.drew) rfl rfl)
          have a6 := Aside0.mk (a6.out.below a0)
          have b3 := Aside0.mk (b3.out.below a0)
          have e8 := later a0 HHe.out.1
          have e9 := later a0 HHe.out.2.1
          have g3 := later a0 HHe.out.2.2
          have l1 : (Instr.lookup 87 (.map (some s.mC)) (.int .i64 (old : Int)) false).run Try.prog w7.drew = .ok (.map (some mo)) w7.drew := look_eq intKB a6.out HOi.out Try.underlying87 (zeroM _) (by rw [HFo.out]; rfl)
          have l2 : (Instr.lookup 165 (.map (some mo)) (.agg #[.int .i64 ya, .int .i64 yb]) false).run Try.prog w7.drew = .ok (.int .i64 (zA - zB)) w7.drew := look_eq ptKB b3.out HQ.out.1 Try.underlying165 (zeroI _) (by unfold putM; rw [if_pos rfl]; rfl)
          clear a0 HS7 r6 b2 b7
          refine start_ (n := 9) (S := fun w' => w'.cell? ⟨T, 8, none⟩ = some (.map (some s.mC)) ∧ w'.cell? ⟨E, 0, none⟩ = some (.int .i64 ya) ∧ w'.cell? ⟨E, 1, none⟩ = some (.int .i64 yb) ∧ (Instr.lookup 87 (.map (some s.mC)) (.int .i64 (old : Int)) false).run Try.prog w' = .ok (.map (some mo)) w' ∧ (Instr.lookup 165 (.map (some mo)) (.agg #[.int .i64 ya, .int .i64 yb]) false).run Try.prog w' = .ok (.int .i64 (zA - zB)) w') (ds := []) #[false, false, false, false, false, false, false, false, false] (by kernel_rfl) rfl rfl ⟨e8, e9, g3, l1, l2⟩ (fun hHeld => ?_)
          clear e8 e9 g3 l1 l2
          generalize w7.drew = U at HS8 j5 b6 b0 a6 b3 hHeld ⊢
          refine pure_ (i := 0) (N := some 91) (v := ?_) (a' := ?_) #[true, false, false, false, false, false, false, false, false] rfl rfl (by kernel_rfl) (fun _ _ _ h => h) (Or.inl ⟨by rfl, ?_⟩) ?_ ?_
          rotate_left
          · intro w'
            go_simp
            with_reducible rfl
          rotate_left
          · simp only [Act.put, List.setIfInBounds_toArray, List.set_cons_zero, List.set_cons_succ, i64_w, i32_w]
            rfl
          refine pure_ (i := 1) (N := some 92) (v := ?_) (a' := ?_) #[true, true, false, false, false, false, false, false, false] rfl rfl (by kernel_rfl) (fun _ _ _ h => h) (Or.inl ⟨by rfl, ?_⟩) ?_ ?_
          rotate_left
          · intro w'
            go_simp
            with_reducible rfl
          rotate_left
          · simp only [Act.put, List.setIfInBounds_toArray, List.set_cons_zero, List.set_cons_succ, i64_w, i32_w]
            rfl
          refine pure_ (i := 2) (N := some 93) (v := ?_) (a' := ?_) #[true, true, true, false, false, false, false, false, false] rfl rfl (by kernel_rfl) (fun _ _ _ h => h) (Or.inl ⟨by rfl, ?_⟩) ?_ ?_
          rotate_left
          · intro w'
            go_simp
            with_reducible rfl
          rotate_left
          · simp only [Act.put, List.setIfInBounds_toArray, List.set_cons_zero, List.set_cons_succ, i64_w, i32_w]
            rfl
          refine pure_ (i := 4) (N := some 95) (v := ?_) (a' := ?_) #[true, true, true, false, true, false, false, false, false] rfl rfl (by kernel_rfl) (fun _ _ _ h => h) (Or.inl ⟨by rfl, ?_⟩) ?_ ?_
          rotate_left
          · intro w'
            go_simp
            with_reducible rfl
          rotate_left
          · simp only [Act.put, List.setIfInBounds_toArray, List.set_cons_zero, List.set_cons_succ, i64_w, i32_w]
            rfl
          refine take_ (i := 3) (N := some 94) (v := ?_) (a' := ?_) #[true, true, true, true, true, false, false, false, false] rfl rfl (by kernel_rfl) (fun _ _ _ h => h) (Or.inl ⟨by rfl, ?_⟩) hHeld ?_ ?_
          rotate_left
          · rintro w' ⟨s0, s1, s2, s3, s4⟩
            go_simp
            with_reducible rfl
          rotate_left
          · simp only [Act.put, List.setIfInBounds_toArray, List.set_cons_zero, List.set_cons_succ, i64_w, i32_w]
            rfl
          refine take_ (i := 5) (N := some 96) (v := ?_) (a' := ?_) #[true, true, true, true, true, true, false, false, false] rfl rfl (by kernel_rfl) (fun _ _ _ h => h) (Or.inl ⟨by rfl, ?_⟩) hHeld ?_ ?_
          rotate_left
          · rintro w' ⟨s0, s1, s2, s3, s4⟩
            go_simp
            with_reducible rfl
          rotate_left
          · simp only [Act.put, List.setIfInBounds_toArray, List.set_cons_zero, List.set_cons_succ, i64_w, i32_w]
            rfl
          refine take_ (i := 6) (N := some 97) (v := ?_) (a' := ?_) #[true, true, true, true, true, true, true, false, false] rfl rfl (by kernel_rfl) (fun _ _ _ h => h) (Or.inl ⟨by rfl, ?_⟩) hHeld ?_ ?_
          rotate_left
          · rintro w' ⟨s0, s1, s2, s3, s4⟩
            go_simp
            with_reducible rfl
          rotate_left
          · simp only [Act.put, List.setIfInBounds_toArray, List.set_cons_zero, List.set_cons_succ, i64_w, i32_w]
            rfl
          refine take_ (i := 7) (N := some 98) (v := ?_) (a' := ?_) #[true, true, true, true, true, true, true, true, false] rfl rfl (by kernel_rfl) (fun _ _ _ h => h) (Or.inl ⟨by rfl, ?_⟩) hHeld ?_ ?_
          rotate_left
          · rintro w' ⟨s0, s1, s2, s3, s4⟩
            go_simp
            with_reducible rfl
          rotate_left
          · simp only [Act.put, List.setIfInBounds_toArray, List.set_cons_zero, List.set_cons_succ, i64_w, i32_w]
            rfl
          refine pure_ (i := 8) (N := some 99) (v := ?_) (a' := ?_) #[true, true, true, true, true, true, true, true, true] rfl rfl (by kernel_rfl) (fun _ _ _ h => h) (Or.inl ⟨by rfl, ?_⟩) ?_ ?_
          rotate_left
          · intro w'
            go_simp
            with_reducible rfl
          rotate_left
          · simp only [Act.put, List.setIfInBounds_toArray, List.set_cons_zero, List.set_cons_succ, i64_w, i32_w]
            rfl
          refine done_ (by kernel_rfl) ?_
          have HVal := Aside0.mk (show ∀ g : Int × Int → Option Value, (∀ q, ptOk q → q ≠ (ya, yb) → g q = fcx old q) → g (ya, yb) = encZ (zA - zB) → ∀ q, ptOk q → g q = encZ (if (left q && !decide (q = (ya, yb))) = true then cntE es (fun x => decide (H0 x = (old : Int))) q.1 q.2 else cntE es (fun x => decide (H0 x = (old : Int))) q.1 q.2 - cntE es (fun x => decide (x ∈ L)) q.1 q.2) from fun g d3 a4 q hq => by
            by_cases e : q = (ya, yb)
            · subst e
              rw [a4, if_neg (by simp), HZ.out.1, HZ.out.2]
            · rw [d3 q hq e, j4.out q hq]
              simp [e])
          by_cases hz0 : zA - zB = 0
          · have k5 : (zA - zB == 0) = true := by simp; omega
            have q1 : decide (zA - zB = 0) = true := by simp; omega
            go_wp2_with fail
            have a0 := below_drew1 (Below.refl U.heap.size U)
            have HS9 := Aside0.mk (HS8.out.below a0)
            have p4 := Aside0.mk (j5.out.step (cls2 := a2) (Kept.of_below a0 _) fun _ _ _ e _ => e)
            have e2 := Aside0.mk (below_then b6.out b6.out.size a0)
            have a9 := Aside0.mk (b0.out.same (w1 := U.drew) rfl rfl)
            have a6 := Aside0.mk (a6.out.below a0)
            have b3 := Aside0.mk (b3.out.below a0)
            have e8 := later a0 hHeld.1
            have e9 := later a0 hHeld.2.1
            have g3 := later a0 hHeld.2.2.1
            have l1 : (Instr.lookup 87 (.map (some s.mC)) (.int .i64 (old : Int)) false).run Try.prog U.drew = .ok (.map (some mo)) U.drew := look_eq intKB a6.out HOi.out Try.underlying87 (zeroM _) (by rw [HFo.out]; rfl)
            clear a0 HS8 j5 b6 b0 hHeld
            refine start_ (n := 8) (S := fun w' => w'.cell? ⟨T, 8, none⟩ = some (.map (some s.mC)) ∧ w'.cell? ⟨E, 0, none⟩ = some (.int .i64 ya) ∧ w'.cell? ⟨E, 1, none⟩ = some (.int .i64 yb) ∧ (Instr.lookup 87 (.map (some s.mC)) (.int .i64 (old : Int)) false).run Try.prog w' = .ok (.map (some mo)) w') (ds := [7]) #[false, false, false, false, false, false, false, false] (by kernel_rfl) rfl rfl ⟨e8, e9, g3, l1⟩ (fun hHeld => ?_)
            clear e8 e9 g3 l1
            generalize U.drew = U2 at HS9 p4 e2 a9 a6 b3 hHeld ⊢
            obtain ⟨w8, j3, ⟨c8, d4, k7⟩, n6, x8⟩ := b3.out.del ptKB HQ.out.1 Try.underlying165 0
            have x7 := Aside0.mk k7
            have HGG := Aside0.mk n6
            have y2 := Aside0.mk d4
            have HRun := Aside0.mk j3
            clear j3 k7 n6 x8 d4
            refine pure_ (i := 0) (N := some 100) (v := ?_) (a' := ?_) #[true, false, false, false, false, false, false, false] rfl rfl (by kernel_rfl) (fun _ _ _ h => h) (Or.inl ⟨by rfl, ?_⟩) ?_ ?_
            rotate_left
            · intro w'
              go_simp
              with_reducible rfl
            rotate_left
            · simp only [Act.put, List.setIfInBounds_toArray, List.set_cons_zero, List.set_cons_succ, i64_w, i32_w]
              rfl
            refine pure_ (i := 1) (N := some 101) (v := ?_) (a' := ?_) #[true, true, false, false, false, false, false, false] rfl rfl (by kernel_rfl) (fun _ _ _ h => h) (Or.inl ⟨by rfl, ?_⟩) ?_ ?_
            rotate_left
            · intro w'
              go_simp
              with_reducible rfl
            rotate_left
            · simp only [Act.put, List.setIfInBounds_toArray, List.set_cons_zero, List.set_cons_succ, i64_w, i32_w]
              rfl
            refine pure_ (i := 2) (N := some 102) (v := ?_) (a' := ?_) #[true, true, true, false, false, false, false, false] rfl rfl (by kernel_rfl) (fun _ _ _ h => h) (Or.inl ⟨by rfl, ?_⟩) ?_ ?_
            rotate_left
            · intro w'
              go_simp
              with_reducible rfl
            rotate_left
            · simp only [Act.put, List.setIfInBounds_toArray, List.set_cons_zero, List.set_cons_succ, i64_w, i32_w]
              rfl
            refine pure_ (i := 4) (N := some 104) (v := ?_) (a' := ?_) #[true, true, true, false, true, false, false, false] rfl rfl (by kernel_rfl) (fun _ _ _ h => h) (Or.inl ⟨by rfl, ?_⟩) ?_ ?_
            rotate_left
            · intro w'
              go_simp
              with_reducible rfl
            rotate_left
            · simp only [Act.put, List.setIfInBounds_toArray, List.set_cons_zero, List.set_cons_succ, i64_w, i32_w]
              rfl
            refine take_ (i := 3) (N := some 103) (v := ?_) (a' := ?_) #[true, true, true, true, true, false, false, false] rfl rfl (by kernel_rfl) (fun _ _ _ h => h) (Or.inl ⟨by rfl, ?_⟩) hHeld ?_ ?_
            rotate_left
            · rintro w' ⟨s0, s1, s2, s3⟩
              go_simp
              with_reducible rfl
            rotate_left
            · simp only [Act.put, List.setIfInBounds_toArray, List.set_cons_zero, List.set_cons_succ, i64_w, i32_w]
              rfl
            refine take_ (i := 5) (N := some 105) (v := ?_) (a' := ?_) #[true, true, true, true, true, true, false, false] rfl rfl (by kernel_rfl) (fun _ _ _ h => h) (Or.inl ⟨by rfl, ?_⟩) hHeld ?_ ?_
            rotate_left
            · rintro w' ⟨s0, s1, s2, s3⟩
              go_simp
              with_reducible rfl
            rotate_left
            · simp only [Act.put, List.setIfInBounds_toArray, List.set_cons_zero, List.set_cons_succ, i64_w, i32_w]
              rfl
            refine take_ (i := 6) (N := some 106) (v := ?_) (a' := ?_) #[true, true, true, true, true, true, true, false] rfl rfl (by kernel_rfl) (fun _ _ _ h => h) (Or.inl ⟨by rfl, ?_⟩) hHeld ?_ ?_
            rotate_left
            · rintro w' ⟨s0, s1, s2, s3⟩
              go_simp
              with_reducible rfl
            rotate_left
            · simp only [Act.put, List.setIfInBounds_toArray, List.set_cons_zero, List.set_cons_succ, i64_w, i32_w]
              rfl
            refine last_ (i := 7) (N := none) #[true, true, true, true, true, true, true, true] rfl rfl (by kernel_rfl) (by decide) (fun K hK => ?_)
            refine step_delete (by rfl) (.tmp 105) (.tmp 106) 165 167 rfl rfl rfl HRun.out ?_
            refine hK.out _ _ ?_
            clear hK K
            refine done_ (by kernel_rfl) ?_
            have HS10 := Aside0.mk (HS9.out.setC (i := old) HMo.out.2.1 (w1 := w8) (by rw [← HMo.out.1]; exact x7.out) (by rw [← HMo.out.1]; exact HGG.out))
            have z7 := Aside0.mk (p4.out.step (w2 := w8) (cls2 := a2) (kept_grown HGG.out fun k e => by cases e; exact .inl (by rw [HCm.out]; rfl)) fun _ _ _ e _ => e)
            have l3 := Aside0.mk (e2.out.grown HGG.out e2.out.size (fun k e => by cases e; rw [HMo.out.1]; exact (HS9.out (.cmp old) HMo.out.2.1).2.2))
            have d6 := Aside0.mk (a9.out.same (w1 := w8) (HGG.out.block M a9.out.mlt fun e => hMm (by cases e; rfl)) (HGG.out.block r a9.out.lt_ fun e => hrm (by cases e; rfl)))
            go_wp2
            go_roundw
            case rel =>
              refine ⟨_, ⟨_, d6⟩, _, _, HS10, ⟨fun i hi => ?_⟩, ⟨fun qa qb hq => ?_⟩, ⟨?_⟩⟩
              · show (if i = old then _ else if i = old then _ else fcx i) = _ ∧ (if i = old then _ else if i = old then _ else ccx i) = _
                rw [if_neg hi, if_neg hi, if_neg hi, if_neg hi]
                exact HOt.out i hi
              · show (if old = old then delM (putM (fcx old) (ya, yb) (.int .i64 (zA - zB))) (ya, yb) else _) (qa, qb) = _
                rw [if_pos rfl]
                refine HVal.out _ (fun q hq hne => by unfold delM putM; rw [if_neg hne, if_neg hne]) ?_ (qa, qb) hq
                unfold delM encZ
                rw [if_pos rfl, if_pos hz0]
              · show (if old = old then c8 else _) ≤ _
                rw [if_pos rfl]
                exact Nat.le_trans y2.out HCc.out
            case measure => rw [d6.out.left_eq, HGr.out.left_eq]; exact HQ.out.2.2.2.1
          · have k5 : (zA - zB == 0) = false := by simp; omega
            have q1 : decide (zA - zB = 0) = false := by simp; omega
            go_wp2
            go_roundw
            case rel =>
              refine ⟨_, _, _, _, b0, HS8, ⟨fun i hi => ?_⟩, ⟨?_⟩, ⟨?_⟩, j5, b6⟩
              · show (if i = old then _ else fcx i) = _ ∧ (if i = old then _ else ccx i) = _
                rw [if_neg hi, if_neg hi]
                exact HOt.out i hi
              · show ∀ q, ptOk q → (if old = old then putM (fcx old) (ya, yb) (.int .i64 (zA - zB)) else fcx old) q = _
                rw [if_pos rfl]
                refine HVal.out _ (fun q hq hne => by unfold putM; rw [if_neg hne]) ?_
                unfold putM encZ
                rw [if_pos rfl, if_neg hz0]
              · show (if old = old then ccx old else ccx old) ≤ _
                rw [if_pos rfl]
                exact HCc.out
            case measure => rw [b0.out.left_eq, HGr.out.left_eq]; exact HQ.out.2.2.2.1
        · intro n5 g6
          obtain ⟨s4, d5⟩ : ∃ s4 : Sg, s4 = { s2 with fc := fcx, cc := ccx } := ⟨_, rfl⟩
          rw [← d5] at HS4
          have hHn : ∀ x, Nd n x → ∀ i : Nat, (Go.Proofs.Ytmcbkmfpmcbdpaa.H.HP p x = (i : Int)) ↔ (if x ∈ L then (fr : Int) else H0 x) = (i : Int) := fun x hx i => by
            rw [j9.out.1 x hx]
            have h1 : x ∈ L ↔ gi p.block x = (b : Int) := by rw [HL.out, HP.out.bm _ (nd_iff.2 hbn)]; exact ⟨fun h => h.2, fun h => ⟨hx, h⟩⟩
            by_cases h2 : x ∈ L
            · rw [if_pos h2, if_pos (h1.1 h2)]
            · rw [if_neg h2, if_neg fun h => h2 (h1.2 h)]
          have HSc := Aside0.mk (show StdC es s4 (fr + 1) (Go.Proofs.Ytmcbkmfpmcbdpaa.H.HP p) from by
            rw [d5]
            refine ⟨by show s2.cm.length = _; rw [a5.out]; show (s.cm ++ [M]).length = _; rw [List.length_append, HC.out.ln]; rfl, b1.out.2.2, fun i hi q hq => ?_, fun i hi => ?_⟩
            · show fcx i q = _
              by_cases ei : i = old
              · subst ei
                rw [j4.out q hq, if_neg (by rw [g6 _ _ hq]; simp), cntE_sub es (fun x => decide (H0 x = (i : Int))) (fun x => decide (x ∈ L)) (fun e _ hx => by
                  have hx := of_decide_eq_true hx
                  rw [HL.out] at hx
                  exact decide_eq_true (HLo.out _ hx))]
                refine congrArg encZ (cntE_congr (fun e he => ?_) _ _)
                have h2 := hHn e.f2 (HEs.out e he).2.2 i
                by_cases hm : e.f2 ∈ L
                · rw [if_pos hm] at h2
                  have h3 : ¬ Go.Proofs.Ytmcbkmfpmcbdpaa.H.HP p e.f2 = (i : Int) := fun h => by have := h2.1 h; omega
                  simp [hm, h3]
                · rw [if_neg hm] at h2
                  by_cases h4 : H0 e.f2 = (i : Int)
                  · have h5 := h2.2 h4
                    simp [hm, h4, h5]
                  · have h5 : ¬ Go.Proofs.Ytmcbkmfpmcbdpaa.H.HP p e.f2 = (i : Int) := fun h => h4 (h2.1 h)
                    simp [hm, h4, h5]
              · rw [(HOt.out i ei).1, a5.out]
                show (if i = fr then f else s.fc i) q = _
                by_cases ef : i = fr
                · subst ef
                  rw [if_pos rfl, i1.out q hq]
                  refine congrArg encZ (cntE_congr (fun e he => ?_) _ _)
                  have h2 := hHn e.f2 (HEs.out e he).2.2 i
                  by_cases hm : e.f2 ∈ L
                  · rw [if_pos hm] at h2
                    have h3 := h2.2 rfl
                    simp [hm, h3]
                  · rw [if_neg hm] at h2
                    have h3 : ¬ Go.Proofs.Ytmcbkmfpmcbdpaa.H.HP p e.f2 = (i : Int) := fun h => by have := h2.1 h; have := j9.out.2.1 e.f2 (HEs.out e he).2.2; omega
                    simp [hm, h3]
                · rw [if_neg ef, HC.out.fc i (by omega) q hq]
                  refine congrArg encZ (cntE_congr (fun e he => ?_) _ _)
                  have h2 := hHn e.f2 (HEs.out e he).2.2 i
                  by_cases hm : e.f2 ∈ L
                  · rw [if_pos hm] at h2
                    have h3 : ¬ Go.Proofs.Ytmcbkmfpmcbdpaa.H.HP p e.f2 = (i : Int) := fun h => by have := h2.1 h; omega
                    have h4 : ¬ H0 e.f2 = (i : Int) := fun h => by
                      have h5 := HLo.out e.f2 (by rw [← HL.out]; exact hm)
                      omega
                    simp [h3, h4]
                  · rw [if_neg hm] at h2
                    by_cases h4 : H0 e.f2 = (i : Int)
                    · have h5 := h2.2 h4
                      simp [h4, h5]
                    · have h5 : ¬ Go.Proofs.Ytmcbkmfpmcbdpaa.H.HP p e.f2 = (i : Int) := fun h => h4 (h2.1 h)
                      simp [h4, h5]
            · show ccx i ≤ _
              by_cases ei : i = old
              · rw [ei]; exact HCc.out
              · rw [(HOt.out i ei).2, a5.out]
                show (if i = fr then c else s.cc i) ≤ _
                by_cases ef : i = fr
                · rw [if_pos ef]; exact HCl.out.2.1
                · rw [if_neg ef]; exact HC.out.cc i (by omega))
          have HSi := Aside0.mk (show StdI n es s4 from by rw [d5, a5.out]; exact ⟨HI.out.len, HI.out.ins⟩)
          have HSd := Aside0.mk (show Std n (.slice A1 nl c1) v2 s4 p from by rw [d5, a5.out]; exact ⟨HD.out.tc, HD.out.block, HD.out.heap, HD.out.blocks, HD.out.heaps, HD.out.bs, HD.out.bl, HD.out.hs, HD.out.hl⟩)
          have HSw := Aside0.mk (show StdW s4 wt from by rw [d5, a5.out]; exact HW.out)
          have y6 := Aside0.mk (show s4.cm.getD fr 0 = M from by rw [d5]; show s2.cm.getD fr 0 = M; rw [a5.out]; show (s.cm ++ [M]).getD fr 0 = M; rw [gD_snoc, if_pos HC.out.ln.symm])
          have t1 := HS4.out.cell 1 (.slice A1 nl c1) (by rw [HSd.out.tc]; rfl)
          clear d5 hHn g6 n5 HGr HOt j4 HCc
          go_wp2
          clear t1
          obtain ⟨Hp, hHp⟩ : ∃ Hp : Int → Int, Hp = Go.Proofs.Ytmcbkmfpmcbdpaa.H.HP p := ⟨_, rfl⟩
          rw [← hHp] at HSc
          have HHp := Aside0.mk hHp
          have p0 := Aside0.mk (show RefJ n es (gi p.block) H0 (gi p.block) Hp (fr : Int) (old : Int) 0 from by rw [hHp]; exact j9.out.2.2)
          clear hHp
          go_loopw [113] (fun i wr => ∃ (k : Nat) (s' : Sg) (cl' : Nat → Cl) (p' : PSt) (wt' : Int → Bool), k ≤ nl ∧ i = .int .i64 k ∧ Aside0 (SP w0.heap.size T wr cl' s') ∧ Aside0 (Std n (.slice A1 nl c1) v2 s' p') ∧ Aside0 (PW n p') ∧ Aside0 (StdW s' wt') ∧ Aside0 (Wt p' wt') ∧ Aside0 (Same0 s4 s') ∧
            Aside0 (RefJ n es (gi p.block) H0 (gi p'.block) Hp (fr : Int) (old : Int) k) ∧ Aside0 ((∀ x, Nd n x → Go.Proofs.Ytmcbkmfpmcbdpaa.H.HP p' x = Hp x) ∧ p'.heaps.length = p.heaps.length) ∧ Aside0 (Fr w wr cls cl' fun _ => False) ∧ Aside0 (Below w0.heap.size w0 wr)) (fun i _ => nl - (intOf i).toNat)
          case atStart => exact ⟨0, s4, a2, p, wt, Nat.zero_le _, rfl, HS4, HSd, HP, HSw, HWt, ⟨Same0.refl _⟩, p0, ⟨fun x _ => by rw [HHp.out], rfl⟩, i2, g8⟩
          case round =>
            clear HS4 HSd HSw p0 i2 g8
            obtain ⟨k, s', cl', p', wt', hk, rfl, HS, HD, HPw, HW', HWt', HSm, HRj, HPh, HK, HBb⟩ := hrel
            by_cases hlt : k < nl
            ·
              obtain ⟨m1, m2, m3, m4, m5, m6, m7, m8, m9, q4⟩ := HSm.out
              have u1 : s'.cm.getD fr 0 = M := by rw [m7]; exact y6.out
              have hfrl : fr < s'.cm.length := by rw [m7, HSc.out.ln]; omega
              have holl : old < s'.cm.length := by rw [m7, HSc.out.ln]; omega
              have hgM : G2 wr M (s4.fc fr) (s4.cc fr) := by have h := (HS.out (.cmp fr) hfrl).2.1; rw [u1, m8, m9] at h; exact h
              have HGM := Aside0.mk hgM
              have hki : i64in (k : Int) := by unfold i64in; omega
              have HKi := Aside0.mk hki
              have hmm := @run_makeMap Try.prog
              have HMs := Aside0.mk (And.intro m5 (And.intro m7 m8))
              clear hgM hki m1 m2 m3 m4 m5 m6 m7 m8 m9 q4 u1
              go_wp2_with (at_range; refine wpList_grange _ ptKB rfl _ 165 rfl 3 Try.underlying165 M (s4.cc fr) (s4.fc fr) rfl (HGM.out.below (below_alloc (below_alloc (Below.refl _ _) _) _)) ?_; intro w6 hgr hg hsz)
              go_frame
              clear hmm
              have h8 : ((wr.alloc (Obj.map #[] 0)).alloc (Obj.map #[] 0)).heap.size = wr.heap.size + 1 + 1 := by simp
              rw [h8] at hgr
              obtain ⟨r2, i7⟩ : ∃ r2, r2 = wr.heap.size + 1 + 1 := ⟨_, rfl⟩
              rw [← i7] at hgr
              try rw [h8]
              try rw [← i7]
              clear h8
              obtain ⟨X1, e6⟩ : ∃ X1, X1 = wr.heap.size := ⟨_, rfl⟩
              have w4 : r2 = X1 + 2 := by rw [i7, e6]
              have hbl : Below wr.heap.size wr w6 := (below_alloc (below_alloc (Below.refl _ _) _) _).grown hg (by simp; omega) (fun q e => by cases e)
              have d3 : G1 w6 X1 (fun _ => none) 0 := by
                rw [e6]
                exact ((GM.made _ _ _ _ wr).alloc_ _).grown (by simp) hg
              have a4 : G1 w6 (X1 + 1) (fun _ => none) 0 := by
                have h := (GM.made Try.prog 3 ik i64in (wr.alloc (Obj.map #[] 0))).grown (by simp) hg
                rwa [show (wr.alloc (Obj.map #[] 0)).heap.size = X1 + 1 by rw [e6]; simp] at h
              obtain ⟨W1, k0⟩ : ∃ W1, W1 = wr := ⟨_, rfl⟩
              rw [← e6]
              have a1 := Aside0.mk hbl
              have a3 := Aside0.mk hgr
              have d9 := Aside0.mk d3
              have d0 := Aside0.mk a4
              have HXs := Aside0.mk (And.intro e6 w4)
              clear hgr hg hsz i7 e6 w4 hbl d3 a4 k0 W1
              obtain ⟨wb, hwb⟩ : ∃ wb, wb = wr := ⟨_, rfl⟩
              subst hwb
              obtain ⟨BB, hBB⟩ : ∃ BB : Int × Int → Int, BB = fun q => cntE es (fun x => decide (Hp x = (fr : Int))) q.1 q.2 := ⟨_, rfl⟩
              obtain ⟨AA, hAA⟩ : ∃ AA : Int × Int → Int, AA = fun q => cntE es (fun x => decide (Hp x = (old : Int))) q.1 q.2 := ⟨_, rfl⟩
              have HfB := Aside0.mk (show ∀ q, ptOk q → s4.fc fr q = encZ (BB q) from fun q hq => by rw [hBB]; exact HSc.out.fc fr (by omega) q hq)
              have HfA := Aside0.mk (show ∀ q, ptOk q → s4.fc old q = encZ (AA q) from fun q hq => by rw [hAA]; exact HSc.out.fc old (by omega) q hq)
              have HBB := Aside0.mk (And.intro hBB hAA)
              clear hBB hAA
              go_loopw [] (fun wr => ∃ (left : Int × Int → Bool) (cnt : Nat) (f1 : Int → Option Value) (d1 : Nat) (f2 : Int → Option Value) (d2 : Nat), Aside0 (GR Try.prog 167 ptL ptOk wr M r2 (s4.fc fr) left cnt) ∧ Aside0 (G1 wr X1 f1 d1) ∧ Aside0 (G1 wr (X1 + 1) f2 d2) ∧
                Aside0 (∀ a, i64in a → (f1 a).isSome = (decide (BB (a, (k : Int)) ≠ 0) && !left (a, (k : Int)))) ∧ Aside0 (∀ a, i64in a → (f2 a).isSome = (decide (BB (a, (k : Int)) ≠ 0) && !left (a, (k : Int)) && decide (AA (a, (k : Int)) = 0))) ∧ Aside0 (Below wb.heap.size wb wr)) (fun wr => wr.rangeLeft M r2)
              case atStart =>
                have hst : ∀ a, i64in a → ((s4.fc fr) (a, (k : Int))).isSome = decide (BB (a, (k : Int)) ≠ 0) := fun a ha => by
                  rw [HfB.out _ ⟨ha, HKi.out⟩]
                  unfold encZ
                  split
                  · rename_i e; simp [e]
                  · rename_i e; simp [e]
                refine ⟨_, _, _, _, _, _, a3, d9, d0, ⟨fun a ha => ?_⟩, ⟨fun a ha => ?_⟩, a1⟩
                · rw [hst a ha]; simp
                · rw [hst a ha]; simp
              case round =>
                clear a3 d9 d0 a1
                obtain ⟨left, cnt, f1, d1, f2, d2, a3, d9, d0, g7, HF2x, a1⟩ := hrel
                go_wp2_with (at_next; refine wpList_gnext _ ptKB rfl _ rfl M r2 (s4.fc fr) left cnt rfl a3.out ?_ ?_)
                rotate_left
                · intro ya yb v w7 x3 hy hly hfy d7 b8 a4 hsz hen
                  have hXs := HXs.out
                  have hBy : BB (ya, yb) ≠ 0 := by
                    have h := HfB.out _ hy
                    rw [hfy] at h
                    exact encZ_some.1 (by rw [← h]; rfl)
                  have b2 := Aside0.mk (a1.out.grown a4 a1.out.size (fun q e => by cases e; omega))
                  have b7 := Aside0.mk d7
                  have f6 := Aside0.mk (d9.out.grown (fun e => by cases e; omega) a4)
                  have i9 := Aside0.mk (d0.out.grown (fun e => by cases e; omega) a4)
                  have HQ := Aside0.mk (And.intro hy (And.intro hBy (And.intro hly b8)))
                  have o7 : (Instr.entry (.pointer (some ⟨r2, 0, none⟩))).run Try.prog w7 = .ok (.tuple #[.agg #[.int .i64 ya, .int .i64 yb], v]) w7 := hen
                  clear hen d7 a4 hsz hBy hy hly hfy b8 hXs d9 d0
                  by_cases hyk : yb = (k : Int)
                  · subst hyk
                    have k5 : ((k : Int) != (k : Int)) = false := by simp
                    have hya : i64in ya := HQ.out.1.1
                    have HYa := Aside0.mk hya
                    have v4 : d1 ≤ n := by
                      have := f6.out.count_le intKB ((List.range n).map fun z : Nat => (z : Int)) fun a ha hs => by
                        rw [g7.out a ha] at hs
                        simp only [Bool.and_eq_true, decide_eq_true_eq] at hs
                        have h1 := hs.1
                        rw [HBB.out.1] at h1
                        obtain ⟨e, he, h2, _⟩ := cntE_pos.1 h1
                        have h3 : Nd n a := by have h4 : e.f0 = a := h2; rw [← h4]; exact (HEs.out e he).1
                        obtain ⟨z, rfl, hz⟩ := h3.nat
                        exact List.mem_map.2 ⟨z, List.mem_range.2 hz, rfl⟩
                      simpa using this
                    have u4 : d2 ≤ n := by
                      have := i9.out.count_le intKB ((List.range n).map fun z : Nat => (z : Int)) fun a ha hs => by
                        rw [HF2x.out a ha] at hs
                        simp only [Bool.and_eq_true, decide_eq_true_eq] at hs
                        have h1 := hs.1.1
                        rw [HBB.out.1] at h1
                        obtain ⟨e, he, h2, _⟩ := cntE_pos.1 h1
                        have h3 : Nd n a := by have h4 : e.f0 = a := h2; rw [← h4]; exact (HEs.out e he).1
                        obtain ⟨z, rfl, hz⟩ := h3.nat
                        exact List.mem_map.2 ⟨z, List.mem_range.2 hz, rfl⟩
                      simpa using this
                    have hbA := below_alloc (Below.refl w7.heap.size w7) (Obj.cells #[Value.int IntKind.i64 ya, Value.int IntKind.i64 (k : Int)] 167)
                    have e0 := (blk_cell (blk_new w7 (Obj.cells #[Value.int IntKind.i64 ya, Value.int IntKind.i64 (k : Int)] 167)) 0).trans rfl
                    have e1 := (blk_cell (blk_new w7 (Obj.cells #[Value.int IntKind.i64 ya, Value.int IntKind.i64 (k : Int)] 167)) 1).trans rfl
                    have n1 := Aside0.mk (And.intro e0 e1)
                    have b0 := Aside0.mk (b7.out.same (hbA.block M b7.out.mlt) (hbA.block r2 b7.out.lt_))
                    have i3 := Aside0.mk (f6.out.below hbA)
                    have j6 := Aside0.mk (i9.out.below hbA)
                    have b6 := Aside0.mk (below_then b2.out b2.out.size hbA)
                    have HDn := Aside0.mk (And.intro v4 u4)
                    have u3 := Aside0.mk (show X1 < w7.heap.size ∧ r2 < w7.heap.size ∧ M < X1 from ⟨f6.out.lt_, b7.out.lt_, by rw [HXs.out.1]; exact HGM.out.lt_⟩)
                    clear hya v4 u4 hbA e0 e1 b7 f6 i9 b2
                    go_wp2_with (refine wpList_gput _ intKB rfl _ _ _ 88 rfl 3 Try.underlying88 X1 d1 f1 rfl i3.out (by have := HDn.out.1; unfold maxLen; omega) ya HYa.out (.int .i64 1) rfl rfl ?_; intro w8 hgm hgg hsz; have f9 := Aside0.mk hgm; have HGg := Aside0.mk hgg; clear hgm hgg hsz)
                    have hX := HXs.out
                    have h7 := u3.out
                    have a9 := Aside0.mk (b0.out.same (w1 := w8) (HGg.out.block M b0.out.mlt (fun e => by cases e; omega)) (HGg.out.block r2 b0.out.lt_ (fun e => by cases e; omega)))
                    have f7 := Aside0.mk (j6.out.grown (fun e => by simp at e) HGg.out)
                    have e2 := Aside0.mk (b6.out.grown HGg.out b6.out.size (fun q e => by cases e; omega))
                    have e0 := cell_keep2 HGg.out (E := w7.heap.size) (i := 0) (by omega) n1.out.1
                    have e1 := cell_keep2 HGg.out (E := w7.heap.size) (i := 1) (by omega) n1.out.2
                    obtain ⟨E, hE⟩ : ∃ E, E = w7.heap.size := ⟨_, rfl⟩
                    rw [← hE] at e0 e1 ⊢
                    clear b0 i3 j6 b6 n1 hX h7 hE HGg
                    go_wp2_with fail
                    have a0 := below_drew1 (Below.refl w8.heap.size w8)
                    have HBd := Aside0.mk (below_then e2.out e2.out.size a0)
                    have a9 := Aside0.mk (a9.out.same (w1 := w8.drew) rfl rfl)
                    have f9 := Aside0.mk (f9.out.below a0)
                    have f7 := Aside0.mk (f7.out.below a0)
                    have j2 := HS.out.below HBd.out
                    have d4 := j2.cell 8 (.map (some s'.mC)) (by rw [HD.out.tc]; rfl)
                    have hfo : s'.fC (old : Int) = some (.map (some (s'.cm.getD old 0))) := by rw [HMs.out.1, HMs.out.2.1, HSc.out.fC _ HOi.out, if_pos (by simp; omega), Int.toNat_natCast]
                    have l1 : (Instr.lookup 87 (.map (some s'.mC)) (.int .i64 (old : Int)) false).run Try.prog w8.drew = .ok (.map (some (s'.cm.getD old 0))) w8.drew := look_eq intKB (j2 .mc).2.1 HOi.out Try.underlying87 (zeroM _) (by rw [hfo]; rfl)
                    have l2 : (Instr.lookup 165 (.map (some (s'.cm.getD old 0))) (.agg #[.int .i64 ya, .int .i64 (k : Int)]) false).run Try.prog w8.drew = .ok (.int .i64 (AA (ya, (k : Int)))) w8.drew := look_eq ptKB (j2 (.cmp old) holl).2.1 HQ.out.1 Try.underlying165 (zeroI _) (by rw [HMs.out.2.2, HfA.out _ HQ.out.1]; exact encZ_get _)
                    have e0d := later a0 e0
                    have e1d := later a0 e1
                    obtain ⟨i8, m0⟩ : ∃ i8, i8 = s'.cm.getD old 0 := ⟨_, rfl⟩
                    rw [← m0] at l1 l2
                    clear a0 j2 hfo m0 e0 e1 e2
                    refine start_ (n := 9) (S := fun w' => w'.cell? ⟨T, 8, none⟩ = some (.map (some s'.mC)) ∧ w'.cell? ⟨E, 0, none⟩ = some (.int .i64 ya) ∧ w'.cell? ⟨E, 1, none⟩ = some (.int .i64 (k : Int)) ∧ (Instr.lookup 87 (.map (some s'.mC)) (.int .i64 (old : Int)) false).run Try.prog w' = .ok (.map (some i8)) w' ∧ (Instr.lookup 165 (.map (some i8)) (.agg #[.int .i64 ya, .int .i64 (k : Int)]) false).run Try.prog w' = .ok (.int .i64 (AA (ya, (k : Int)))) w') (ds := []) #[false, false, false, false, false, false, false, false, false] (by kernel_rfl) rfl rfl ⟨d4, e0d, e1d, l1, l2⟩ (fun hHeld => ?_)
                    clear d4 e0d e1d l1 l2
                    generalize w8.drew = U at a9 f9 f7 HBd hHeld ⊢
                    refine pure_ (i := 0) (N := some 131) (v := ?_) (a' := ?_) #[true, false, false, false, false, false, false, false, false] rfl rfl (by kernel_rfl) (fun _ _ _ h => h) (Or.inl ⟨by rfl, ?_⟩) ?_ ?_
                    rotate_left
                    · intro w'
                      go_simp
                      with_reducible rfl
                    rotate_left
                    · simp only [Act.put, List.setIfInBounds_toArray, List.set_cons_zero, List.set_cons_succ, i64_w, i32_w]
                      rfl
                    refine pure_ (i := 1) (N := some 132) (v := ?_) (a' := ?_) #[true, true, false, false, false, false, false, false, false] rfl rfl (by kernel_rfl) (fun _ _ _ h => h) (Or.inl ⟨by rfl, ?_⟩) ?_ ?_
                    rotate_left
                    · intro w'
                      go_simp
                      with_reducible rfl
                    rotate_left
                    · simp only [Act.put, List.setIfInBounds_toArray, List.set_cons_zero, List.set_cons_succ, i64_w, i32_w]
                      rfl
                    refine pure_ (i := 2) (N := some 133) (v := ?_) (a' := ?_) #[true, true, true, false, false, false, false, false, false] rfl rfl (by kernel_rfl) (fun _ _ _ h => h) (Or.inl ⟨by rfl, ?_⟩) ?_ ?_
                    rotate_left
                    · intro w'
                      go_simp
                      with_reducible rfl
                    rotate_left
                    · simp only [Act.put, List.setIfInBounds_toArray, List.set_cons_zero, List.set_cons_succ, i64_w, i32_w]
                      rfl
                    refine pure_ (i := 4) (N := some 135) (v := ?_) (a' := ?_) #[true, true, true, false, true, false, false, false, false] rfl rfl (by kernel_rfl) (fun _ _ _ h => h) (Or.inl ⟨by rfl, ?_⟩) ?_ ?_
                    rotate_left
                    · intro w'
                      go_simp
                      with_reducible rfl
                    rotate_left
                    · simp only [Act.put, List.setIfInBounds_toArray, List.set_cons_zero, List.set_cons_succ, i64_w, i32_w]
                      rfl
                    refine take_ (i := 3) (N := some 134) (v := ?_) (a' := ?_) #[true, true, true, true, true, false, false, false, false] rfl rfl (by kernel_rfl) (fun _ _ _ h => h) (Or.inl ⟨by rfl, ?_⟩) hHeld ?_ ?_
                    rotate_left
                    · rintro w' ⟨s0, s1, s2, s3, s4⟩
                      go_simp
                      with_reducible rfl
                    rotate_left
                    · simp only [Act.put, List.setIfInBounds_toArray, List.set_cons_zero, List.set_cons_succ, i64_w, i32_w]
                      rfl
                    refine take_ (i := 5) (N := some 136) (v := ?_) (a' := ?_) #[true, true, true, true, true, true, false, false, false] rfl rfl (by kernel_rfl) (fun _ _ _ h => h) (Or.inl ⟨by rfl, ?_⟩) hHeld ?_ ?_
                    rotate_left
                    · rintro w' ⟨s0, s1, s2, s3, s4⟩
                      go_simp
                      with_reducible rfl
                    rotate_left
                    · simp only [Act.put, List.setIfInBounds_toArray, List.set_cons_zero, List.set_cons_succ, i64_w, i32_w]
                      rfl
                    refine take_ (i := 6) (N := some 137) (v := ?_) (a' := ?_) #[true, true, true, true, true, true, true, false, false] rfl rfl (by kernel_rfl) (fun _ _ _ h => h) (Or.inl ⟨by rfl, ?_⟩) hHeld ?_ ?_
                    rotate_left
                    · rintro w' ⟨s0, s1, s2, s3, s4⟩
                      go_simp
                      with_reducible rfl
                    rotate_left
                    · simp only [Act.put, List.setIfInBounds_toArray, List.set_cons_zero, List.set_cons_succ, i64_w, i32_w]
                      rfl
                    refine take_ (i := 7) (N := some 138) (v := ?_) (a' := ?_) #[true, true, true, true, true, true, true, true, false] rfl rfl (by kernel_rfl) (fun _ _ _ h => h) (Or.inl ⟨by rfl, ?_⟩) hHeld ?_ ?_
                    rotate_left
                    · rintro w' ⟨s0, s1, s2, s3, s4⟩
                      go_simp
                      with_reducible rfl
                    rotate_left
                    · simp only [Act.put, List.setIfInBounds_toArray, List.set_cons_zero, List.set_cons_succ, i64_w, i32_w]
                      rfl
                    refine pure_ (i := 8) (N := some 139) (v := ?_) (a' := ?_) #[true, true, true, true, true, true, true, true, true] rfl rfl (by kernel_rfl) (fun _ _ _ h => h) (Or.inl ⟨by rfl, ?_⟩) ?_ ?_
                    rotate_left
                    · intro w'
                      go_simp
                      with_reducible rfl
                    rotate_left
                    · simp only [Act.put, List.setIfInBounds_toArray, List.set_cons_zero, List.set_cons_succ, i64_w, i32_w]
                      rfl
                    refine done_ (by kernel_rfl) ?_
                    obtain ⟨zA, hzA⟩ : ∃ zA, zA = AA (ya, (k : Int)) := ⟨_, rfl⟩
                    rw [← hzA] at hHeld ⊢
                    have HZa := Aside0.mk hzA
                    clear hzA
                    have s8 := Aside0.mk (show ∀ a, i64in a → (putM f1 ya (.int .i64 1) a).isSome = (decide (BB (a, (k : Int)) ≠ 0) && !(left (a, (k : Int)) && !decide ((a, (k : Int)) = (ya, (k : Int))))) from fun a ha => by
                      unfold putM
                      by_cases e : a = ya
                      · rw [if_pos e, e]; simp [HQ.out.2.1]
                      · rw [if_neg e, g7.out a ha]; simp [e])
                    have e0 := hHeld.2.1
                    by_cases hz0 : zA = 0
                    · have p2 : (zA == 0) = true := by simpa using hz0
                      have o9 : decide (zA = 0) = true := by simpa using hz0
                      go_wp2_with (refine wpList_gput _ intKB rfl _ _ _ 88 rfl 3 Try.underlying88 (X1 + 1) d2 f2 rfl f7.out (by have := HDn.out.2; unfold maxLen; omega) ya HYa.out (.int .i64 1) rfl rfl ?_; intro w9 hgm hgg hsz; have HV2' := Aside0.mk hgm; have HGg := Aside0.mk hgg; clear hgm hgg hsz)
                      have hX := HXs.out
                      have h7 := u3.out
                      have d6 := Aside0.mk (a9.out.same (w1 := w9) (HGg.out.block M a9.out.mlt (fun e => by cases e; omega)) (HGg.out.block r2 a9.out.lt_ (fun e => by cases e; omega)))
                      have HV1' := Aside0.mk (f9.out.grown (fun e => by simp at e) HGg.out)
                      have l3 := Aside0.mk (HBd.out.grown HGg.out HBd.out.size (fun q e => by cases e; omega))
                      have o1 := Aside0.mk (show ∀ a, i64in a → (putM f2 ya (.int .i64 1) a).isSome = (decide (BB (a, (k : Int)) ≠ 0) && !(left (a, (k : Int)) && !decide ((a, (k : Int)) = (ya, (k : Int)))) && decide (AA (a, (k : Int)) = 0)) from fun a ha => by
                        unfold putM
                        by_cases e : a = ya
                        · rw [if_pos e, e]; simp [HQ.out.2.1, ← HZa.out, hz0]
                        · rw [if_neg e, HF2x.out a ha]; simp [e])
                      clear hX h7 p2 o9
                      go_wp2
                      go_roundw
                      case rel =>
                        exact ⟨_, _, _, _, _, _, _, _, _, _, _, _, _, _, _, _, _, _, _, _, _, _, _, _, ⟨_, _, _, _, _, _, d6, HV1', HV2', s8, o1, l3⟩, rfl⟩
                      case measure => rw [d6.out.left_eq, a3.out.left_eq]; exact HQ.out.2.2.2
                    · have p2 : (zA == 0) = false := by simpa using hz0
                      have o9 : decide (zA = 0) = false := by simpa using hz0
                      have o1 := Aside0.mk (show ∀ a, i64in a → (f2 a).isSome = (decide (BB (a, (k : Int)) ≠ 0) && !(left (a, (k : Int)) && !decide ((a, (k : Int)) = (ya, (k : Int)))) && decide (AA (a, (k : Int)) = 0)) from fun a ha => by
                        rw [HF2x.out a ha]
                        by_cases e : a = ya
                        · rw [e, ← HZa.out]; simp [hz0]
                        · simp [e])
                      go_wp2
                      go_roundw
                      case rel => exact ⟨_, _, _, _, _, _, a9, f9, f7, s8, o1, HBd⟩
                      case measure => rw [a9.out.left_eq, a3.out.left_eq]; exact HQ.out.2.2.2
                  · have k5 : (yb != (k : Int)) = true := by simpa using hyk
                    have q1 : decide (yb = (k : Int)) = false := by simpa using hyk
                    have HYk := Aside0.mk hyk
                    clear hyk
                    go_wp2
                    have hbA := below_alloc (Below.refl w7.heap.size w7) (Obj.cells #[Value.int IntKind.i64 ya, Value.int IntKind.i64 yb] 167)
                    have b0 := Aside0.mk (b7.out.same (hbA.block M b7.out.mlt) (hbA.block r2 b7.out.lt_))
                    have i3 := Aside0.mk (f6.out.below hbA)
                    have j6 := Aside0.mk (i9.out.below hbA)
                    have b6 := Aside0.mk (below_then b2.out b2.out.size hbA)
                    have hne : ∀ a : Int, (a, (k : Int)) ≠ (ya, yb) := fun a e => HYk.out (Prod.mk.inj e).2.symm
                    have HNe := Aside0.mk hne
                    clear hne hbA
                    go_roundw
                    case rel =>
                      refine ⟨_, _, _, _, _, _, b0, i3, j6, ⟨fun a ha => ?_⟩, ⟨fun a ha => ?_⟩, b6⟩
                      · rw [g7.out a ha]; simp [HNe.out a]
                      · rw [HF2x.out a ha]; simp [HNe.out a]
                    case measure => rw [b0.out.left_eq, a3.out.left_eq]; exact HQ.out.2.2.2
                · intro n5 g6
                  have hXi : ∀ a, decide (BB (a, (k : Int)) ≠ 0) = true ↔ Into es Hp a (k : Int) (fr : Int) := fun a => by
                    rw [decide_eq_true_eq, HBB.out.1]
                    show cntE es (fun x => decide (Hp x = (fr : Int))) a (k : Int) ≠ 0 ↔ _
                    rw [cntE_pos]
                    unfold Into
                    simp only [decide_eq_true_eq]
                  have hYi : ∀ a, decide (AA (a, (k : Int)) = 0) = true ↔ ¬ Into es Hp a (k : Int) (old : Int) := fun a => by
                    rw [decide_eq_true_eq, HBB.out.2]
                    show cntE es (fun x => decide (Hp x = (old : Int))) a (k : Int) = 0 ↔ _
                    have h := @cntE_pos es (fun x => decide (Hp x = (old : Int))) a (k : Int)
                    unfold Into
                    simp only [decide_eq_true_eq] at h
                    rw [← h, Classical.not_not]
                  have hNd : ∀ a, decide (BB (a, (k : Int)) ≠ 0) = true → Nd n a := fun a ha => by
                    obtain ⟨e, he, h2, _⟩ := (hXi a).1 ha
                    rw [← h2]
                    exact (HEs.out e he).1
                  have o4 : ∀ a, i64in a → left (a, (k : Int)) = false := fun a ha => g6 _ _ ⟨ha, HKi.out⟩
                  have r1 : ∀ a, i64in a → (f1 a).isSome = decide (BB (a, (k : Int)) ≠ 0) := fun a ha => by rw [g7.out a ha, o4 a ha]; simp
                  have t9 : ∀ a, i64in a → (f2 a).isSome = (decide (BB (a, (k : Int)) ≠ 0) && decide (AA (a, (k : Int)) = 0)) := fun a ha => by rw [HF2x.out a ha, o4 a ha]; simp
                  obtain ⟨g5, f3⟩ : ∃ g5 : Nat → Cl, g5 = fun q => if q = X1 then .far 200 else if q = X1 + 1 then .far 201 else cl' q := ⟨_, rfl⟩
                  have hXw := HXs.out.1
                  have hcA : g5 X1 = .far 200 := by rw [f3]; show (if X1 = X1 then _ else _) = _; rw [if_pos rfl]
                  have hcB : g5 (X1 + 1) = .far 201 := by rw [f3]; show (if X1 + 1 = X1 then _ else if X1 + 1 = X1 + 1 then _ else _) = _; rw [if_neg (by omega), if_pos rfl]
                  have hcO : ∀ q, q < wb.heap.size → g5 q = cl' q := fun q hq => by rw [f3]; show (if q = X1 then _ else if q = X1 + 1 then _ else _) = _; rw [if_neg (by omega), if_neg (by omega)]
                  have HS6 := Aside0.mk (HS.out.stay (Kept.of_below a1.out _) fun q hq _ => hcO q hq)
                  have e4 := Aside0.mk (HK.out.trans (Fr.same (D := fun _ => False) (Kept.of_below a1.out _) hcO) fun q hq => hq.elim)
                  have HBw := Aside0.mk (below_then HBb.out HBb.out.size a1.out)
                  have HCc := Aside0.mk (And.intro hcA hcB)
                  have HFf := Aside0.mk (And.intro r1 t9)
                  have HXY := Aside0.mk (And.intro hXi (And.intro hYi hNd))
                  clear f3 hXw hcA hcB hcO r1 t9 o4 g6 hXi hYi hNd n5
                  clear a3 g7 HF2x a1 HGM HMs HfB HfA HBB HBb HK
                  obtain ⟨XA, hXA⟩ : ∃ XA : Int → Bool, XA = fun a => decide (BB (a, (k : Int)) ≠ 0) := ⟨_, rfl⟩
                  obtain ⟨XB, hXB⟩ : ∃ XB : Int → Bool, XB = fun a => decide (BB (a, (k : Int)) ≠ 0) && decide (AA (a, (k : Int)) = 0) := ⟨_, rfl⟩
                  have HXA := Aside0.mk (And.intro hXA hXB)
                  have HFa := Aside0.mk (show ∀ a, i64in a → (f1 a).isSome = XA a from fun a ha => by rw [hXA]; exact HFf.out.1 a ha)
                  have HFb := Aside0.mk (show ∀ a, i64in a → (f2 a).isSome = XB a from fun a ha => by rw [hXB]; exact HFf.out.2 a ha)
                  have HNa := Aside0.mk (show ∀ a, XA a = true → Nd n a from fun a ha => HXY.out.2.2 a (by rw [hXA] at ha; exact ha))
                  have HNb := Aside0.mk (show ∀ a, XB a = true → Nd n a from fun a ha => HXY.out.2.2 a (by rw [hXB] at ha; exact (Bool.and_eq_true _ _ ▸ ha).1))
                  clear hXA hXB HFf
                  go_wp2_with (go_at_call 148
                               refine (split_any (X := XA) w0 wr HS6.out HD.out HPw.out HW'.out HWt'.out d9.out HCc.out.1 HFa.out HNa.out hn0 hn HBw.out).mono ?_
                               rintro e w5 ⟨rfl, s5, z8, p5, z9, p3, q6, q0, r3, o8, v9, x1, r0, s9, n9, x2⟩
                               have l6 := n9.blk (k := X1 + 1) d0.out.lt_ HCc.out.2 id
                               have u8 := Aside0.mk (d0.out.same l6.1)
                               have p9 := Aside0.mk l6.2
                               have HS5 := Aside0.mk p3
                               have u2 := Aside0.mk q6
                               have z0 := Aside0.mk q0
                               have r8 := Aside0.mk r3
                               have l5 := Aside0.mk o8
                               have a7 := Aside0.mk x2
                               have v3 := Aside0.mk (e4.out.trans n9 fun q hq => hq.elim)
                               have t4 := Aside0.mk (HSm.out.trans s9)
                               have o5 := Aside0.mk (And.intro x1 (And.intro r0 v9))
                               clear l6 p3 q6 q0 r3 o8 x2 n9 s9 x1 r0 v9 d9 d0 HS6 e4 HBw HCc HFa HNa)
                  go_wp2_with (go_at_call 148
                               refine (split_any (X := XB) w0 _ HS5.out u2.out z0.out r8.out l5.out u8.out p9.out HFb.out HNb.out hn0 hn a7.out).mono ?_
                               rintro e w6 ⟨rfl, s6, cl6', p6, y1, p8, q5, p7, u7, o6, t6, q2, r4, r7, s7, r5⟩
                               have HS6 := Aside0.mk p8
                               have z3 := Aside0.mk q5
                               have y4 := Aside0.mk p7
                               have y9 := Aside0.mk u7
                               have x6 := Aside0.mk o6
                               have a1 := Aside0.mk r5
                               have z1 := Aside0.mk (v3.out.trans s7 fun q hq => hq.elim)
                               have z2 := Aside0.mk (t4.out.trans r7)
                               have k9 := Aside0.mk (And.intro q2 (And.intro r4 t6))
                               clear p8 q5 p7 u7 o6 r5 s7 r7 q2 r4 t6 u8 p9 HS5 u2 r8 l5 a7 v3 t4 HFb HNb)
                  have y0 := Aside0.mk (show RefJ n es (gi p.block) H0 (gi p6.block) Hp (fr : Int) (old : Int) (k + 1) from HRj.out.label (B1 := gi p5.block) (fun x y hx hy => by
                    rw [o5.out.2.2 x y hx hy, HXA.out.1]
                    exact and_congr_right fun _ => iff_congr (HXY.out.1 x) (HXY.out.1 y)) fun x y hx hy => by
                    rw [k9.out.2.2 x y hx hy, HXA.out.2]
                    refine and_congr_right fun _ => iff_congr ?_ ?_
                    · show (decide (BB (x, (k : Int)) ≠ 0) && decide (AA (x, (k : Int)) = 0)) = true ↔ _
                      rw [Bool.and_eq_true]; exact and_congr (HXY.out.1 x) (HXY.out.2.1 x)
                    · show (decide (BB (y, (k : Int)) ≠ 0) && decide (AA (y, (k : Int)) = 0)) = true ↔ _
                      rw [Bool.and_eq_true]; exact and_congr (HXY.out.1 y) (HXY.out.2.1 y))
                  go_roundw
                  case rel =>
                    exact ⟨k + 1, s6, cl6', p6, y1, by omega, by go_num, HS6, z3, y4, y9, x6, z2, y0, ⟨fun x hx => by rw [k9.out.1 x hx, o5.out.1 x hx, HPh.out.1 x hx], by rw [k9.out.2.1, o5.out.2.1, HPh.out.2]⟩, z1, a1⟩
                  case measure => simp [intOf]; omega
            · have ek : k = nl := by omega
              subst ek
              go_wp2
              go_end0
              obtain ⟨m1, m2, m3, m4, m5, m6, m7, m8, m9, q4⟩ := HSm.out
              refine ⟨rfl, s', cl', p', wt', HS.out, HD.out, HPw.out, HW'.out, HWt'.out, ⟨by rw [m2]; exact HSi.out.len, fun i hi => by rw [m3]; exact HSi.out.ins i hi⟩, ?_, by rw [← HHp.out]; exact HRj.out, fun x hx => by rw [← HHp.out]; exact HPh.out.1 x hx, HPh.out.2, HK.out, HBb.out⟩
              rw [← HHp.out]
              exact ⟨by rw [m7]; exact HSc.out.ln, fun h hh => by rw [m5, m7]; exact HSc.out.fC h hh, fun i hi q hq => by rw [m8]; exact HSc.out.fc i hi q hq, fun i hi => by rw [m9]; exact HSc.out.cc i hi⟩
end Go.Proofs.Ytmcbkmfpmcbdpaa.H
set_option linter.unusedVariables false
set_option linter.unusedSimpArgs false
set_option linter.unusedSectionVars false
namespace Go.Proofs.Ytmcbkmfpmcbdpaa.H
open Go.RowKit Go.Proofs.Ytmcbkmfpmcbdpaa.Pr Go.Proofs.YtmcbkmfpmcbdpaaW.PrintWords Go.Proofs.Ytmcbkmfpmcbdpaa.Sem Go.Proofs.YtmcbkmfpmcbdpaaW.PrintLast
set_option maxHeartbeats 8000000 in
set_option maxRecDepth 100000 in
theorem run_any {T n : Nat} {v2 : Value} {s : Sg} {p : PSt} {wt : Int → Bool} {cls : Nat → Cl} {es : List Ed} {A1 : Option Addr} {nl c1 : Nat} (w0 w : World) (hR : RunS w0.heap.size T n es (.slice A1 nl c1) v2 w cls s p wt) (hn0 : 0 < n) (hn : n ≤ 2048) (hel : es.length ≤ 1000000) (hes : ∀ e ∈ es, Nd n e.f0 ∧ (0 ≤ e.f1 ∧ e.f1 < (nl : Int)) ∧ Nd n e.f2) (hnl : nl ≤ 64) (hB : Below w0.heap.size w0 w) :
  Calls Try.prog 117 #[.pointer (some ⟨T, 0, none⟩)] w fun e w' => e = .returned (.tuple #[]) ∧ ∃ s' cls' p' wt', RunS w0.heap.size T n es (.slice A1 nl c1) v2 w' cls' s' p' wt' ∧ (∀ x, wt' x = false) ∧ Below w0.heap.size w0 w' := by
 have HR := Aside0.mk hR
 have HB := Aside0.mk hB
 have HEs := Aside0.mk hes
 clear hR hB hes
 go_enter Try.func117, Try.ntmps117
 go_wp2
 go_loopw [] (fun wr => ∃ (s' : Sg) (cls' : Nat → Cl) (p' : PSt) (wt' : Int → Bool), Aside0 (RunS w0.heap.size T n es (.slice A1 nl c1) v2 wr cls' s' p' wt') ∧ Aside0 (Below w0.heap.size w0 wr)) (fun wr => n - slLen (wr.cell? ⟨T, 7, none⟩))
 case atStart => exact ⟨s, cls, p, wt, HR, HB⟩
 case round =>
  clear HR HB
  obtain ⟨s', cls', p', wt', HR, HB⟩ := hrel
  have t9 := HR.out.sp.cell 9 _ (by rw [HR.out.std.tc]; rfl)
  have hlen := ((HR.out.sp .mw).2.1).len Try.underlying88 3
  have b4 := len7 HR.out.sp HR.out.std HR.out.pw hn0
  have e4 := Aside0.mk b4
  clear b4
  by_cases h0 : s'.cW = 0
  ·have hw := (HR.out.some_ hn).1 h0
   have HW := Aside0.mk hw
   have hq : decide ((0 : Int) < (s'.cW : Int)) = false := by simp; omega
   have a2 : ¬ (0 : Int) < (s'.cW : Int) := by omega
   have a5 : ¬ 0 < s'.cW := by omega
   clear hw
   rw [h0] at hlen hq a2 a5
   go_wp2
   go_end0
   exact ⟨rfl, s', cls', p', wt', HR.out, HW.out, HB.out⟩
  ·have hex : ∃ x, wt' x = true := by
    refine Classical.byContradiction fun hh => h0 ((HR.out.some_ hn).2 fun x => ?_)
    cases hx : wt' x with
    | false => rfl
    | true => exact absurd ⟨x, hx⟩ hh
   have HX := Aside0.mk hex
   obtain ⟨cw, hcw⟩ : ∃ cw, cw = s'.cW := ⟨_, rfl⟩
   rw [← hcw] at hlen h0
   have hq : decide ((0 : Int) < (cw : Int)) = true := by simp; omega
   have a2 : (0 : Int) < (cw : Int) := by omega
   have a5 : 0 < cw := by omega
   clear hex hcw
   go_wp2_with fail
   clear hlen t9 hq a2 a5 h0
   refine (take_any w0 _ HR.out.sp HR.out.std HR.out.pw HR.out.stdW HR.out.wt_ HX.out hn HB.out).mono ?_
   rintro e w1 ⟨old, a, rfl, hol, ha, h2, s1, e8, e9, b6, b9, b2, a8, d9, e0, d0⟩
   obtain ⟨b, g1, g2, g3, g4, g5, g6, g7⟩ := take_ref HR.out.pw hol ha h2 HR.out.ref
   obtain ⟨m1, m2, m3, m4, m5, m6, m7, m8, m9, d8⟩ := d9
   have b0 : StdI n es s1 := ⟨by rw [m2]; exact HR.out.ins.len, fun i hi => by rw [m3]; exact HR.out.ins.ins i hi⟩
   have b8 := HR.out.cnt.congr (s' := s1) m5 m7 m8 m9 fun _ _ => rfl
   have HS1 := Aside0.mk b6
   have e3 := Aside0.mk b9
   have e6 := Aside0.mk b2
   have d4 := Aside0.mk a8
   have e7 := Aside0.mk d0
   have d5 := Aside0.mk g1
   have HG := Aside0.mk (And.intro g2 (And.intro g3 (And.intro g4 (And.intro g5 (And.intro g6 g7)))))
   have e1 := Aside0.mk b0
   have d6 := Aside0.mk b8
   have HOl := Aside0.mk hol
   clear hol ha h2 b6 b9 b2 a8 e0 d0 g1 g2 g3 g4 g5 g6 g7 m1 m2 m3 m4 m5 m6 m7 m8 m9 d8 b0 b8
   go_wp2_with fail
   refine (refine_any w0 _ HS1.out e3.out d5.out e1.out hn0 hn hel (fun e he => ⟨(HEs.out e he).1, ⟨(HEs.out e he).2.1.1, by have := (HEs.out e he).2.1.2; omega⟩, (HEs.out e he).2.2⟩) HG.out.1 HG.out.2.1 d6.out HOl.out HG.out.2.2.1 HG.out.2.2.2.1 HG.out.2.2.2.2.1 HG.out.2.2.2.2.2 rfl hnl e6.out d4.out e7.out).mono ?_
   rintro e w2 ⟨rfl, s2, d1, p2, d2, a4, a3, a0, b1, a6, b3, b7, d3, a7, a9, e2, b5⟩
   have a1 : p2.heaps.length = p'.heaps.length + 1 := by rw [a9]; simp [takeP]
   have hRun : RunS w0.heap.size T n es (.slice A1 nl c1) v2 w2 d1 s2 p2 d2 := by
    refine ⟨a4, a3, a0, b1, a6, b3, ?_, ?_⟩
    ·rw [a1]
     exact b7.congr rfl rfl rfl rfl fun e he => a7 _ (HEs.out e he).2.2
    ·exact (d3.end_ fun e he => ⟨(HEs.out e he).1, (HEs.out e he).2.1, (HEs.out e he).2.2⟩).congr a7 fun e he => (HEs.out e he).2.2
   have HRun := Aside0.mk hRun
   have d7 := Aside0.mk b5
   have HL := Aside0.mk (And.intro a1 (And.intro a0.nh_le a0.nb_le))
   have e5 := Aside0.mk (len7 a4 a3 a0 hn0)
   clear a4 a3 a0 b1 a6 b3 b7 d3 a7 a9 e2 b5 a1 hRun
   go_wp2
   go_roundw
   case rel => exact ⟨s2, d1, p2, d2, HRun, d7⟩
   case measure =>
    rw [e4.out, e5.out, HL.out.1]
    have := HL.out
    omega
end Go.Proofs.Ytmcbkmfpmcbdpaa.H
set_option linter.unusedVariables false
set_option linter.unusedSimpArgs false
set_option linter.unusedSectionVars false
namespace Go.Proofs.Ytmcbkmfpmcbdpaa.H
open Go.RowKit Go.Proofs.Ytmcbkmfpmcbdpaa.Pr Go.Proofs.YtmcbkmfpmcbdpaaW.PrintWords Go.Proofs.Ytmcbkmfpmcbdpaa.Sem Go.Proofs.YtmcbkmfpmcbdpaaW.PrintLast
structure DoneS (base T n : Nat) (es : List Ed) (w : World) (s : Sg) (p : PSt) : Prop where
  t4 : w.cell? ⟨T, 4, none⟩ = some s.vB
  t10 : w.cell? ⟨T, 10, none⟩ = some (.int .i64 ((p.blocks.length : Int) - 1))
  blk : Kd.R (Kd.int .i64) 3 w base (fun _ => True) s.vB p.block
  len : p.block.length = n
  in_ : ∀ x ∈ p.block, i64in x
  num : PL.numK p.block = refL n es
  cnt : (p.blocks.length : Int) = ((PL.fstK (classL n es)).length : Int)
theorem RunS.done {base T n : Nat} {es : List Ed} {v1 v2 : Value} {w : World} {cls : Nat → Cl} {s : Sg} {p : PSt} {wt : Int → Bool} (h : RunS base T n es v1 v2 w cls s p wt) (hw : ∀ x, wt x = false) (hes : ∀ e ∈ es, Nd n e.f0 ∧ Nd n e.f2) (hn : n ≤ 2048) : DoneS base T n es w s p := by
 have h1 := ref_end h.pw h.ref (h.none_ hw) hes
 have hnb := h.pw.nb_le
 refine ⟨h.sp.cell 4 _ (by rw [h.std.tc]; rfl), h.sp.cell 10 _ (by rw [h.std.tc]; rfl), ?_, h.pw.bl, fun x hx => ?_, h1.1, h1.2⟩
 ·have h2 : IR w base cls .blk s.vB s.block := h.sp .blk
  rw [h.std.block] at h2
  exact Kd.R_mono h2 fun _ _ => trivial
 ·obtain ⟨i, hi, rfl⟩ := List.getElem_of_mem hx
  have h2 := h.pw.br (i : Int) (nd_iff.2 (by rw [← h.pw.bl]; exact hi))
  unfold gi at h2
  simp [List.getD_eq_getElem?_getD, List.getElem?_eq_getElem hi] at h2
  unfold i64in
  have := h2.1
  have := h2.2
  omega
theorem DoneS.below {base T n : Nat} {es : List Ed} {w w1 : World} {s : Sg} {p : PSt} (h : DoneS base T n es w s p) (hb : Below w.heap.size w w1) : DoneS base T n es w1 s p := ⟨later hb h.t4, later hb h.t10, Kd.R_below h.blk hb, h.len, h.in_, h.num, h.cnt⟩
set_option maxHeartbeats 8000000 in
theorem done_yes (n : Nat) (ls : List ByteArray) (es : List Ed) (A1 A2 : Option Addr) (c1 c2 : Nat) (w : World) (hr1 : Kd.C Kd.string w A1 ls.length ls) (hr2 : Kd.C k80 w A2 es.length es) (hm : mayR n ls es = true) :
  Calls Try.prog 68 #[.agg #[.int .i64 n, .slice A1 ls.length c1, .slice A2 es.length c2]] w fun e w' => ∃ T s p, e = .returned (.tuple #[.pointer (some ⟨T, 0, none⟩), .int .i64 0]) ∧ DoneS w.heap.size T n es w' s p ∧ Below w.heap.size w w' := by
 have HB := Aside0.mk (Below.refl w.heap.size w)
 have HC : ∀ W, Below w.heap.size w W → Calls Try.prog 72 #[.agg #[.int .i64 n, .slice A1 ls.length c1, .slice A2 es.length c2]] W fun e w' => e = .returned (.int .i64 0) ∧ Below W.heap.size W w' := fun W hW =>
  check_yes n ls es A1 A2 c1 c2 W (Kd.C_below hr1 hW) (Kd.C_below hr2 hW) (by rw [may_same]; exact hm)
 have HC' := Lib.hid HC
 have HR1 := Aside0.mk hr1
 have HR2 := Aside0.mk hr2
 have HM := Aside0.mk hm
 have hn := n_le hm
 have hn0 : 0 < n := by omega
 have hn1 : n ≤ 2048 := by omega
 have hel := es_le hm
 have hll := ls_le hm
 have HEs := Aside0.mk (es_nd hm)
 clear HC hr1 hr2 hm hn
 go_enter Try.func68, Try.ntmps68
 go_wp2_with fail
 refine (HC'.out _ (below_alloc HB.out _)).mono ?_
 rintro e w1 ⟨rfl, hB⟩
 have hX : BoxL w1 w.heap.size n (.slice A1 ls.length c1) (.slice A2 es.length c2) := blk_below (blk_new w _) hB
 have HB1 := Aside0.mk (below_then (below_alloc HB.out _) (by simp) hB)
 have b0 := hX.c0
 have b1 := hX.c1
 have b2 := hX.c2
 clear hB hX HC'
 go_wp2_with fail
 clear b0 b1 b2
 refine (begin_any n ls es A1 A2 c1 c2 w _ (Kd.C_below HR1.out HB1.out) (Kd.C_below HR2.out HB1.out) HM.out HB1.out).mono ?_
 rintro e w2 ⟨T, s, cls, p, wt, rfl, hR, hB2⟩
 have HR := Aside0.mk hR
 have HB2 := Aside0.mk hB2
 clear hR hB2
 go_wp2_with fail
 refine (run_any w _ HR.out hn0 hn1 hel HEs.out hll HB2.out).mono ?_
 rintro e w3 ⟨rfl, s3, cls3, p3, wt3, hR3, hw3, hB3⟩
 have HD := Aside0.mk (hR3.done hw3 (fun e he => ⟨(HEs.out e he).1, (HEs.out e he).2.2⟩) hn1)
 have HB3 := Aside0.mk hB3
 clear hR3 hw3 hB3 HR HB2
 go_wp2
 go_ret2
 exact ⟨T, s3, p3, rfl, HD.out, HB3.out⟩
set_option maxHeartbeats 8000000 in
theorem done_no (n : Int) (ls : List ByteArray) (es : List Ed) (A1 A2 : Option Addr) (c1 c2 : Nat) (w : World) (hr1 : Kd.C Kd.string w A1 ls.length ls) (hr2 : Kd.C k80 w A2 es.length es) (hm : mayR n ls es = false) :
  Calls Try.prog 68 #[.agg #[.int .i64 n, .slice A1 ls.length c1, .slice A2 es.length c2]] w fun e w' => e = .returned (.tuple #[.pointer none, .int .i64 1]) ∧ Below w.heap.size w w' := by
 have HB := Aside0.mk (Below.refl w.heap.size w)
 have HC : ∀ W, Below w.heap.size w W → Calls Try.prog 72 #[.agg #[.int .i64 n, .slice A1 ls.length c1, .slice A2 es.length c2]] W fun e w' => e = .returned (.int .i64 1) ∧ Below W.heap.size W w' := fun W hW =>
  check_no n ls es A1 A2 c1 c2 W (Kd.C_below hr1 hW) (Kd.C_below hr2 hW) (by rw [may_same]; exact hm)
 have HC' := Lib.hid HC
 clear HC hr1 hr2 hm
 go_enter Try.func68, Try.ntmps68
 go_wp2_with fail
 refine (HC'.out _ (below_alloc HB.out _)).mono ?_
 rintro e w1 ⟨rfl, hB⟩
 have HB1 := Aside0.mk (below_then (below_alloc HB.out _) (by simp) hB)
 clear hB
 go_wp2
 go_ret2
 exact ⟨rfl, HB1.out⟩
set_option maxHeartbeats 8000000 in
theorem ref_any (n : Int) (ls : List ByteArray) (es : List Ed) (A1 A2 : Option Addr) (c1 c2 : Nat) (w : World) (hr1 : Kd.C Kd.string w A1 ls.length ls) (hr2 : Kd.C k80 w A2 es.length es) :
  Calls Try.prog 17 #[.agg #[.int .i64 n, .slice A1 ls.length c1, .slice A2 es.length c2]] w fun e w' => ∃ v, e = .returned (.tuple #[v, .int .i64 (errB (mayR n ls es))]) ∧ Kd.R (Kd.int .i64) 3 w' w.heap.size (fun _ => True) v (if mayR n ls es then refL n.toNat es else []) ∧ Below w.heap.size w w' := by
 have HB := Aside0.mk (Below.refl w.heap.size w)
 cases hm : mayR n ls es with
 | false =>
  have HC : ∀ W, Below w.heap.size w W → Calls Try.prog 68 #[.agg #[.int .i64 n, .slice A1 ls.length c1, .slice A2 es.length c2]] W fun e w' => e = .returned (.tuple #[.pointer none, .int .i64 1]) ∧ Below W.heap.size W w' := fun W hW =>
   done_no n ls es A1 A2 c1 c2 W (Kd.C_below hr1 hW) (Kd.C_below hr2 hW) hm
  have HC' := Lib.hid HC
  clear HC hr1 hr2 hm
  go_enter Try.func17, Try.ntmps17
  go_wp2_with fail
  refine (HC'.out _ (by first | exact HB.out | exact below_alloc HB.out _)).mono ?_
  rintro e w1 ⟨rfl, hB⟩
  have HB1 := Aside0.mk (show Below w.heap.size w w1 from by first | exact hB | exact below_then (below_alloc HB.out _) (by simp) hB)
  clear hB
  go_wp2
  go_ret2
  exact ⟨_, rfl, Kd.R_nil _ _ _ _ _, HB1.out⟩
 | true =>
  obtain ⟨m, rfl⟩ := Int.eq_ofNat_of_zero_le (show 0 ≤ n by have := n_le hm; omega)
  have HC : ∀ W, Below w.heap.size w W → Calls Try.prog 68 #[.agg #[.int .i64 m, .slice A1 ls.length c1, .slice A2 es.length c2]] W fun e w' => ∃ T s p, e = .returned (.tuple #[.pointer (some ⟨T, 0, none⟩), .int .i64 0]) ∧ DoneS W.heap.size T m es w' s p ∧ Below W.heap.size W w' := fun W hW =>
   done_yes m ls es A1 A2 c1 c2 W (Kd.C_below hr1 hW) (Kd.C_below hr2 hW) hm
  have HC' := Lib.hid HC
  have hmn := n_le hm
  clear HC hr1 hr2 hm
  go_enter Try.func17, Try.ntmps17
  go_wp2_with fail
  refine (HC'.out _ (by first | exact HB.out | exact below_alloc HB.out _)).mono ?_
  rintro e w1 ⟨T, s, p, rfl, hD, hB⟩
  have HB1 := Aside0.mk (show Below w.heap.size w w1 from by first | exact hB | exact below_then (below_alloc HB.out _) (by simp) hB)
  have t4 := hD.t4
  obtain ⟨A, c, hv⟩ := Kd.R_slice hD.blk
  have hR := hD.blk
  rw [hv] at t4 hR
  have HR := Aside0.mk (Kd.R_reads' hR).2.2
  have HI := Aside0.mk hD.in_
  have HN := Aside0.mk hD.num
  have HL := Aside0.mk hD.len
  clear hB hD hv hR HC'
  go_wp2_with fail
  refine (plain_any p.block A c _ HR.out HI.out (by rw [HL.out]; omega)).mono ?_
  rintro e w2 ⟨v, rfl, hR2, hB2⟩
  have HB2 := Aside0.mk (below_then HB1.out HB1.out.size hB2)
  have HR2 := Aside0.mk (Kd.R_lower hR2 HB1.out.size)
  clear hR2 hB2 t4
  go_wp2
  go_ret2
  refine ⟨_, rfl, ?_, HB2.out⟩
  have h := HR2.out
  rw [HN.out] at h
  exact Kd.R_mono h fun _ _ => trivial
end Go.Proofs.Ytmcbkmfpmcbdpaa.H
set_option linter.unusedVariables false
set_option linter.unusedSimpArgs false
namespace Go.Proofs.Ytmcbkmfpmcbdpaa.Pr
open Go.RowKit Go.Proofs.YtmcbkmfpmcbdpaaW.PrintWords Go.Proofs.YtmcbkmfpmcbdpaaW.PrintLast Go.Proofs.YtmcbkmfpmcbdpaaW.PrintMore
def Pra.f (a0_0 : Int) (l0_1 : List ByteArray) (l0_2 : List S80) : Option (List Int × Int) := some (if H.mayR a0_0 l0_1 l0_2 then (refL a0_0.toNat l0_2, 0) else ([], 1))
theorem Pra.calls (a0_0 : Int) (A0_1 : Option Addr) (c0_1 : Nat) (l0_1 : List ByteArray) (A0_2 : Option Addr) (c0_2 : Nat) (l0_2 : List S80) (r1 : List Int) (r2 : Int) (w : World) (hr0_1 : Kd.C Kd.string w A0_1 l0_1.length l0_1) (hc0_1 : l0_1.length ≤ c0_1) (hr0_2 : Kd.C k80 w A0_2 l0_2.length l0_2) (hc0_2 : l0_2.length ≤ c0_2) (h : Pra.f a0_0 l0_1 l0_2 = some (r1, r2)) :
  Calls Try.prog 17 #[.agg #[.int .i64 a0_0, .slice A0_1 l0_1.length c0_1, .slice A0_2 l0_2.length c0_2]] w fun e w' => ∃ v0_ : Value, e = .returned (.tuple #[v0_, .int .i64 r2]) ∧ Kd.R (Kd.int .i64) 3 w' w.heap.size (fun _ => True) v0_ r1 ∧ Below w.heap.size w w' := by
 have h0 := Option.some.inj h
 refine (H.ref_any a0_0 l0_1 l0_2 A0_1 A0_2 c0_1 c0_2 w hr0_1 hr0_2).mono fun e w' hp => ?_
 cases hm : H.mayR a0_0 l0_1 l0_2 with
 | true =>
  rw [hm] at hp h0
  obtain ⟨rfl, rfl⟩ := Prod.mk.inj h0
  exact hp
 | false =>
  rw [hm] at hp h0
  obtain ⟨rfl, rfl⟩ := Prod.mk.inj h0
  exact hp
end Go.Proofs.Ytmcbkmfpmcbdpaa.Pr
set_option linter.unusedVariables false
set_option linter.unusedSimpArgs false
namespace Go.Proofs.Ytmcbkmfpmcbdpaa.Pr
open Go.RowKit Go.Proofs.YtmcbkmfpmcbdpaaW.PrintWords Go.Proofs.YtmcbkmfpmcbdpaaW.PrintLast Go.Proofs.YtmcbkmfpmcbdpaaW.PrintMore
def Pxb.f (a0_0 : Int) (l0_1 : List ByteArray) (l0_2 : List S80) : Option ((List S71) × Int) := some (if H.mayR a0_0 l0_1 l0_2 then (H.greatL a0_0.toNat l0_2, 0) else ([], 1))
theorem Pxb.calls (a0_0 : Int) (A0_1 : Option Addr) (c0_1 : Nat) (l0_1 : List ByteArray) (A0_2 : Option Addr) (c0_2 : Nat) (l0_2 : List S80) (r1 : List S71) (r2 : Int) (w : World) (hr0_1 : Kd.C Kd.string w A0_1 l0_1.length l0_1) (hc0_1 : l0_1.length ≤ c0_1) (hr0_2 : Kd.C k80 w A0_2 l0_2.length l0_2) (hc0_2 : l0_2.length ≤ c0_2) (h : Pxb.f a0_0 l0_1 l0_2 = some (r1, r2)) :
  Calls Try.prog 30 #[.agg #[.int .i64 a0_0, .slice A0_1 l0_1.length c0_1, .slice A0_2 l0_2.length c0_2]] w fun e w' => ∃ v0_ : Value, e = .returned (.tuple #[v0_, .int .i64 r2]) ∧ Kd.R k71 71 w' w.heap.size (fun _ => True) v0_ r1 ∧ Below w.heap.size w w' := by
 have h0 := Option.some.inj h
 refine (H.greatest_any a0_0 l0_1 l0_2 A0_1 A0_2 c0_1 c0_2 w hr0_1 hr0_2).mono fun e w' hp => ?_
 unfold H.GreatPost at hp
 cases hm : H.mayR a0_0 l0_1 l0_2 with
 | true =>
  rw [hm] at hp h0
  obtain ⟨rfl, rfl⟩ := Prod.mk.inj h0
  obtain ⟨v, h1, h2, h3⟩ := hp
  exact ⟨v, h1, h2, h3⟩
 | false =>
  rw [hm] at hp h0
  obtain ⟨rfl, rfl⟩ := Prod.mk.inj h0
  obtain ⟨v, h1, h2, h3⟩ := hp
  exact ⟨v, h1, h2, h3⟩
def Pxd.f (a0_0 : Int) (l0_1 : List ByteArray) (l0_2 : List S80) (l1 : List S71) : Option (Bool) := some (H.isB a0_0 l0_1 l0_2 l1)
theorem Pxd.calls (a0_0 : Int) (A0_1 : Option Addr) (c0_1 : Nat) (l0_1 : List ByteArray) (A0_2 : Option Addr) (c0_2 : Nat) (l0_2 : List S80) (A1 : Option Addr) (c1 : Nat) (l1 : List S71) (r : Bool) (w : World) (hr0_1 : Kd.C Kd.string w A0_1 l0_1.length l0_1) (hc0_1 : l0_1.length ≤ c0_1) (hr0_2 : Kd.C k80 w A0_2 l0_2.length l0_2) (hc0_2 : l0_2.length ≤ c0_2) (hr1 : Kd.C k71 w A1 l1.length l1) (hc1 : l1.length ≤ c1) (h : Pxd.f a0_0 l0_1 l0_2 l1 = some r) :
  Calls Try.prog 65 #[.agg #[.int .i64 a0_0, .slice A0_1 l0_1.length c0_1, .slice A0_2 l0_2.length c0_2], .slice A1 l1.length c1] w fun e w' => e = .returned (.bool r) ∧ Below w.heap.size w w' := by
 have e : H.isB a0_0 l0_1 l0_2 l1 = r := by simpa [Pxd.f] using h
 subst e
 exact H.is_any a0_0 l0_1 l0_2 l1 A0_1 A0_2 A1 c0_1 c0_2 c1 w hr0_1 hr0_2 hr1
def Pxa.f (a0_0 : Int) (l0_1 : List ByteArray) (l0_2 : List S80) (l1 : List S71) : Option (Bool) := some (H.simulatesB a0_0 l0_1 l0_2 l1)
theorem Pxa.calls (a0_0 : Int) (A0_1 : Option Addr) (c0_1 : Nat) (l0_1 : List ByteArray) (A0_2 : Option Addr) (c0_2 : Nat) (l0_2 : List S80) (A1 : Option Addr) (c1 : Nat) (l1 : List S71) (r : Bool) (w : World) (hr0_1 : Kd.C Kd.string w A0_1 l0_1.length l0_1) (hc0_1 : l0_1.length ≤ c0_1) (hr0_2 : Kd.C k80 w A0_2 l0_2.length l0_2) (hc0_2 : l0_2.length ≤ c0_2) (hr1 : Kd.C k71 w A1 l1.length l1) (hc1 : l1.length ≤ c1) (h : Pxa.f a0_0 l0_1 l0_2 l1 = some r) :
  Calls Try.prog 81 #[.agg #[.int .i64 a0_0, .slice A0_1 l0_1.length c0_1, .slice A0_2 l0_2.length c0_2], .slice A1 l1.length c1] w fun e w' => e = .returned (.bool r) ∧ Below w.heap.size w w' := by
 have e : H.simulatesB a0_0 l0_1 l0_2 l1 = r := by simpa [Pxa.f] using h
 subst e
 exact H.simulates_any a0_0 l0_1 l0_2 l1 A0_1 A0_2 A1 c0_1 c0_2 c1 w hr0_1 hr0_2 hr1
end Go.Proofs.Ytmcbkmfpmcbdpaa.Pr
namespace Go.Proofs.Ytmcbkmfpmcbdpaa.Pr
open Go.RowKit Go.Proofs.YtmcbkmfpmcbdpaaW.PrintWords Go.Proofs.YtmcbkmfpmcbdpaaW.PrintLast Go.Proofs.YtmcbkmfpmcbdpaaW.PrintMore
attribute [local go_sem] max2_int min2_int max_two min_two max_three min_three max_four min_four
set_option linter.unusedVariables false
set_option linter.unusedSimpArgs false
theorem eqA71 (d : Nat) (w : World) (x0 y0 : Int) (x1 y1 : Int) :
  (Op.equalIn (d + 2) 71 (.agg #[.int .i64 x0, .int .i64 x1]) (.agg #[.int .i64 y0, .int .i64 y1])).run Try.prog w = .ok (x0 == y0 && (x1 == y1)) w := by
 have hs : (sizeOf 3).run Go.Proofs.Try.prog w = .ok 1 w := by kernel_rfl
 have hu : (underlying 71).run Go.Proofs.Try.prog w = .ok (.array 2 3) w := by kernel_rfl
 have hu3 : (underlying 3).run Go.Proofs.Try.prog w = .ok (.int .i64) w := by kernel_rfl
 have p0 : ∀ a0 a1 : Int, (part 3 #[.int .i64 a0, .int .i64 a1] 0).run Go.Proofs.Try.prog w = .ok (.int .i64 a0) w := fun a0 a1 => by kernel_rfl
 have p1 : ∀ a0 a1 : Int, (part 3 #[.int .i64 a0, .int .i64 a1] 1).run Go.Proofs.Try.prog w = .ok (.int .i64 a1) w := fun a0 a1 => by kernel_rfl
 have e3 : ∀ x y : Int, (Op.equalIn (d + 1) 3 (.int .i64 x) (.int .i64 y)).run Go.Proofs.Try.prog w = .ok (x == y) w := by
  intro x y
  unfold Op.equalIn
  simp [hu3, Result.andThen]
 unfold Op.equalIn
 simp only [Sem.run_bind, hu, Result.andThen_ok, hs]
 simp [Std.Legacy.Range.forIn_eq_forIn_range', List.range', p0, p1, e3, Result.andThen]
 by_cases h0 : x0 = y0 <;> by_cases h1 : x1 = y1 <;> simp [h0, h1, p0, p1, e3, Result.andThen]
mutual
def Pr26a.l0 : Nat → Int → Int → List ByteArray → List (S80) → Option (Bool)
 | 0, _, _, _, _ => none
 | k + 1, x3, x102000, x102001, x102002 => if x3 < (x102001.length : Int) then (Pr26a.j1 k x3 (decide (x3 < 70)) x102000 x102001 x102002) else (Pr26a.j1 k x3 false x102000 x102001 x102002)
def Pr26a.j1 : Nat → Int → Bool → Int → List ByteArray → List (S80) → Option (Bool)
 | 0, _, _, _, _, _ => none
 | k + 1, x3, x12, x102000, x102001, x102002 => if x12 = true then (if 0 ≤ x3 then (if x3 < (x102001.length : Int) then (if ((rdOf ByteArray.empty x102001 x3).size : Int) > 300 then (some false) else (Pr26a.l0 k (wrap64 (x3 + 1)) x102000 x102001 x102002)) else (none)) else (none)) else (if (x102001.length : Int) < 70 then (if (x102002.length : Int) ≤ 200 then (if x102000 ≤ 60 then (some true) else (some (decide (x102000 > 2048)))) else (some false)) else (some false))
end
def Pr26a.f (k : Nat) (a0_0 : Int) (l0_1 : List ByteArray) (l0_2 : List (S80)) : Option (Bool) := Pr26a.l0 k 0 a0_0 l0_1 l0_2
theorem Pr26a.mono_l : ∀ k, (∀ y0 y1 y2 y3, LeO (Pr26a.l0 k y0 y1 y2 y3) (Pr26a.l0 (k + 1) y0 y1 y2 y3)) ∧ (∀ y0 y1 y2 y3 y4, LeO (Pr26a.j1 k y0 y1 y2 y3 y4) (Pr26a.j1 (k + 1) y0 y1 y2 y3 y4))
 | 0 => ⟨fun _ _ _ _ r h => by simp [Pr26a.l0] at h, fun _ _ _ _ _ r h => by simp [Pr26a.j1] at h⟩
 | k + 1 => by
  obtain ⟨ih0, ih1⟩ := Pr26a.mono_l k
  refine ⟨?_, ?_⟩
  ·intro y0 y1 y2 y3
   unfold Pr26a.l0
   repeat' first
   | (with_reducible exact ih0 _ _ _ _)
   | (with_reducible exact ih1 _ _ _ _ _)
   | (with_reducible exact LeO.refl _)
   | (with_reducible exact LeO.none _)
   | (with_reducible refine LeO.ite ?_ ?_)
   | (with_reducible refine LeO.bind ?_ (fun _ => ?_))
   | exact ih0 _ _ _ _
   | exact ih1 _ _ _ _ _
   | exact LeO.none _
   | refine LeO.ite ?_ ?_
   | refine LeO.bind ?_ (fun _ => ?_)
  ·intro y0 y1 y2 y3 y4
   unfold Pr26a.j1
   repeat' first
   | (with_reducible exact ih0 _ _ _ _)
   | (with_reducible exact ih1 _ _ _ _ _)
   | (with_reducible exact LeO.refl _)
   | (with_reducible exact LeO.none _)
   | (with_reducible refine LeO.ite ?_ ?_)
   | (with_reducible refine LeO.bind ?_ (fun _ => ?_))
   | exact ih0 _ _ _ _
   | exact ih1 _ _ _ _ _
   | exact LeO.none _
   | refine LeO.ite ?_ ?_
   | refine LeO.bind ?_ (fun _ => ?_)
theorem Pr26a.mono : ∀ a0 a1 a2 k, LeO (Pr26a.f k a0 a1 a2) (Pr26a.f (k + 1) a0 a1 a2) := by
 intro a0 a1 a2 k
 obtain ⟨ih0, ih1⟩ := Pr26a.mono_l k
 unfold Pr26a.f
 repeat' first
   | (with_reducible exact ih0 _ _ _ _)
   | (with_reducible exact ih1 _ _ _ _ _)
   | (with_reducible exact LeO.refl _)
   | (with_reducible exact LeO.none _)
   | (with_reducible refine LeO.ite ?_ ?_)
   | (with_reducible refine LeO.bind ?_ (fun _ => ?_))
   | exact ih0 _ _ _ _
   | exact ih1 _ _ _ _ _
   | exact LeO.none _
   | refine LeO.ite ?_ ?_
   | refine LeO.bind ?_ (fun _ => ?_)
set_option maxHeartbeats 8000000 in
set_option maxRecDepth 100000 in
theorem Pr26a.calls (k : Nat) (a0_0 : Int) (A0_1 : Option Addr) (c0_1 : Nat) (l0_1 : List ByteArray) (A0_2 : Option Addr) (c0_2 : Nat) (l0_2 : List (S80)) (r : Bool) (w : World) (hr0_1 : Kd.C Kd.string w A0_1 l0_1.length l0_1) (hc0_1 : l0_1.length ≤ c0_1) (hr0_2 : Kd.C k80 w A0_2 l0_2.length l0_2) (hc0_2 : l0_2.length ≤ c0_2) (h : Pr26a.f k a0_0 l0_1 l0_2 = some r) :
  Calls Try.prog 66 #[.agg #[.int .i64 a0_0, .slice A0_1 l0_1.length c0_1, .slice A0_2 l0_2.length c0_2]] w fun e w' => e = .returned (.bool r) ∧ Below w.heap.size w w' := by
 have i4 := Try.underlying25
 have b1 := Aside0.mk hr0_1
 have i0 := Aside0.mk hc0_1
 clear hr0_1 hc0_1
 have i2 := Aside0.mk hr0_2
 have i1 := Aside0.mk hc0_2
 clear hr0_2 hc0_2
 have HB := Aside0.mk (Below.refl w.heap.size w)
 have H : (Pr26a.l0 k 0 a0_0 l0_1 l0_2) = some r := h
 clear h
 have H' := Aside0.mk H
 clear H
 go_enter Try.func66, Try.ntmps66
 go_wp2_with (first | ((with_reducible refine gate_dst (N := 1) rfl ?_); (try (refine gate_guard (by rfl) ?_; dsimp only)); refine box_event ?hg (N := 1) ?hd (cs := #[.int .i64 a0_0, .slice A0_1 l0_1.length c0_1, .slice A0_2 l0_2.length c0_2]) (t := 25) ?hr ?_; (case hd => rfl); (case hg => rfl); (case hr => first | (go_simp; done) | (go_simp; rfl)); intro a1 hg w2 hbox hb; have d8 := Aside0.mk (below_step (wz HB.out) hb); have e1 := Aside0.mk (hbox); have d9 := Aside0.mk ((by rw [hg]; exact (below_size (wz HB.out)) : w.heap.size ≤ a1)); have d7 := Aside0.mk ((by rw [hg]; exact (below_size (wz HB.out)) : w.heap.size ≤ a1)); clear HB; have HB := d8; have a0 := e1; have h9 := d9; have i3 := d7; clear d8 e1 d9 d7; clear hb hbox hg))
 go_loopg [3] k (fun kq v3 w' => ∃ (a2 : Int), v3 = .int .i64 a2 ∧ Aside0 (Pr26a.l0 kq a2 a0_0 l0_1 l0_2 = some r) ∧ Aside0 (kq ≤ k) ∧ Aside0 (w'.heap[a1]? = some (.cells #[.int .i64 a0_0, (.slice A0_1 l0_1.length c0_1), (.slice A0_2 l0_2.length c0_2)] 25 (0, 0))) ∧ Aside0 (Below w.heap.size w w'))
 case atStart => exact ⟨(0), (by first | rfl | (simp; done) | (simp [*]; done)), H', ⟨Nat.le_refl _⟩, ⟨bz a0.out⟩, ⟨wz HB.out⟩⟩
 case round =>
  clear H'
  try clear p2
  obtain ⟨a2, rfl, HA, b2, a0, HB⟩ := hrel
  cases gk with
  | zero => exact absurd HA.out (by simp [Pr26a.l0])
  | succ k1 =>
   have H := HA.out
   clear HA
   simp only [Pr26a.l0] at H
   have b9 := Aside0.mk H
   clear H
   go_upto_region 2 with (fail)
   go_cut [12] (fun h8 wc => ∃ (kq : Nat) (a6 : Bool), h8 = .bool a6 ∧ Aside0 (Pr26a.j1 kq a2 a6 a0_0 l0_1 l0_2 = some r) ∧ Aside0 (kq ≤ k1) ∧ Aside0 (wc.heap[a1]? = some (.cells #[.int .i64 a0_0, (.slice A0_1 l0_1.length c0_1), (.slice A0_2 l0_2.length c0_2)] 25 (0, 0))) ∧ Aside0 (Below w.heap.size w wc))
   case first =>
    have H := b9.out
    clear b9
    by_cases c4 : a2 < (l0_1.length : Int)
    ·rw [if_pos c4] at H
     have c4b0 : decide (a2 < (l0_1.length : Int)) = true := decide_eq_true c4
     clear c4
     (first | rw [c4b0] | (simp only [i64_w, i32_w]; rw [c4b0]) | skip)
     have H' := Aside0.mk H
     clear H
     have d2 : wr.cell? ⟨a1, 0, none⟩ = some (.int .i64 a0_0) := (blk_cell a0.out 0).trans rfl
     have b8 : wr.cell? ⟨a1, 1, none⟩ = some (.slice A0_1 l0_1.length c0_1) := (blk_cell a0.out 1).trans rfl
     have d3 : wr.cell? ⟨a1, 2, none⟩ = some (.slice A0_2 l0_2.length c0_2) := (blk_cell a0.out 2).trans rfl
     have b5 := blk_frozen a0.out 0
     have b6 := blk_frozen a0.out 1
     have d4 := blk_frozen a0.out 2
     go_wp2
     go_meet
     case rel => exact ⟨_, (decide (a2 < 70)), (by first | rfl | (simp; done) | (simp [*]; done)), H', ⟨by have := b2.out; first | omega | exact Nat.le_refl _⟩, ⟨bz a0.out⟩, ⟨wz HB.out⟩⟩
    ·rw [if_neg c4] at H
     have c4b0 : decide (a2 < (l0_1.length : Int)) = false := decide_eq_false c4
     clear c4
     (first | rw [c4b0] | (simp only [i64_w, i32_w]; rw [c4b0]) | skip)
     have H' := Aside0.mk H
     clear H
     have d0 : wr.cell? ⟨a1, 0, none⟩ = some (.int .i64 a0_0) := (blk_cell a0.out 0).trans rfl
     have b4 : wr.cell? ⟨a1, 1, none⟩ = some (.slice A0_1 l0_1.length c0_1) := (blk_cell a0.out 1).trans rfl
     have d1 : wr.cell? ⟨a1, 2, none⟩ = some (.slice A0_2 l0_2.length c0_2) := (blk_cell a0.out 2).trans rfl
     have d5 := blk_frozen a0.out 0
     have b3 := blk_frozen a0.out 1
     have b7 := blk_frozen a0.out 2
     go_wp2
     go_meet
     case rel => exact ⟨_, (false), (by first | rfl | (simp; done) | (simp [*]; done)), H', ⟨by have := b2.out; first | omega | exact Nat.le_refl _⟩, ⟨bz a0.out⟩, ⟨wz HB.out⟩⟩
   case rest =>
    clear b9
    try clear p2
    try clear c4
    try clear c4b0
    try clear c6
    try clear d2
    try clear b8
    try clear d3
    try clear d0
    try clear b4
    try clear d1
    try clear b5
    try clear b6
    try clear d4
    try clear d5
    try clear b3
    try clear b7
    try clear p2
    obtain ⟨kq, a6, rfl, HA, e0, a0, HB⟩ := hcut
    cases kq with
    | zero => exact absurd HA.out (by simp [Pr26a.j1])
    | succ kj2 =>
     have H := HA.out
     clear HA
     simp only [Pr26a.j1] at H
     by_cases c7 : a6 = true
     ·subst c7
      have H1 : (if 0 ≤ a2 then (if a2 < (l0_1.length : Int) then (if ((rdOf ByteArray.empty l0_1 a2).size : Int) > 300 then (some false) else (Pr26a.l0 kj2 (wrap64 (a2 + 1)) a0_0 l0_1 l0_2)) else (none)) else (none)) = some r := by rw [if_pos rfl] at H; exact H
      clear H
      have H := H1
      clear H1
      by_cases c8 : 0 ≤ a2
      ·rw [if_pos c8] at H
       have c8b0 : decide (0 ≤ a2) = true := decide_eq_true c8
       clear c8
       by_cases c9 : a2 < (l0_1.length : Int)
       ·rw [if_pos c9] at H
        have c9b0 : decide (a2 < (l0_1.length : Int)) = true := decide_eq_true c9
        clear c9
        by_cases c10 : ((rdOf ByteArray.empty l0_1 a2).size : Int) > 300
        ·rw [if_pos c10] at H
         have c10b0 : decide (300 < ((rdOf ByteArray.empty l0_1 a2).size : Int)) = true := decide_eq_true c10
         have c10b1 : decide (300 < (rdOf ByteArray.empty l0_1 a2).size) = true := decide_eq_true (by omega)
         clear c10
         obtain rfl := Option.some.inj H
         have h7 : wc.cell? ⟨a1, 0, none⟩ = some (.int .i64 a0_0) := (blk_cell a0.out 0).trans rfl
         have h3 : wc.cell? ⟨a1, 1, none⟩ = some (.slice A0_1 l0_1.length c0_1) := (blk_cell a0.out 1).trans rfl
         have g2 : wc.cell? ⟨a1, 2, none⟩ = some (.slice A0_2 l0_2.length c0_2) := (blk_cell a0.out 2).trans rfl
         have f9 := blk_frozen a0.out 0
         have f4 := blk_frozen a0.out 1
         have g7 := blk_frozen a0.out 2
         have a4 : 0 ≤ (a2 : Int) := of_decide_eq_true (by first | (with_reducible assumption) | assumption)
         have a5 : a2 < (l0_1.length : Int) := of_decide_eq_true (by first | (with_reducible assumption) | assumption)
         obtain ⟨d6, b0, a3⟩ := Kd.at_string b1.out a2 a4 a5
         cases b0
         replace a3 := (HB.out.cell (World.block_lt_of_cell? w _ a3)).trans a3
         replace a4 := eq_true a4
         replace a5 := eq_true a5
         go_wp2
         go_ret
         exact ⟨by first | rfl | (simp [errW_none, errW_some] <;> rfl) | (simp [*, errW_none, errW_some] <;> rfl), wz HB.out⟩
        ·rw [if_neg c10] at H
         have c10b0 : decide (300 < ((rdOf ByteArray.empty l0_1 a2).size : Int)) = false := decide_eq_false c10
         have c10b1 : decide (300 < (rdOf ByteArray.empty l0_1 a2).size) = false := decide_eq_false (by omega)
         clear c10
         have H' := Aside0.mk H
         clear H
         have f8 : wc.cell? ⟨a1, 0, none⟩ = some (.int .i64 a0_0) := (blk_cell a0.out 0).trans rfl
         have f5 : wc.cell? ⟨a1, 1, none⟩ = some (.slice A0_1 l0_1.length c0_1) := (blk_cell a0.out 1).trans rfl
         have g0 : wc.cell? ⟨a1, 2, none⟩ = some (.slice A0_2 l0_2.length c0_2) := (blk_cell a0.out 2).trans rfl
         have g1 := blk_frozen a0.out 0
         have e9 := blk_frozen a0.out 1
         have e8 := blk_frozen a0.out 2
         have a4 : 0 ≤ (a2 : Int) := of_decide_eq_true (by first | (with_reducible assumption) | assumption)
         have a5 : a2 < (l0_1.length : Int) := of_decide_eq_true (by first | (with_reducible assumption) | assumption)
         obtain ⟨d6, b0, a3⟩ := Kd.at_string b1.out a2 a4 a5
         cases b0
         replace a3 := (HB.out.cell (World.block_lt_of_cell? w _ a3)).trans a3
         replace a4 := eq_true a4
         replace a5 := eq_true a5
         go_wp2
         go_roundg kj2
         case measure => have := b2.out; have := e0.out; omega
         case rel => exact ⟨(wrap64 (a2 + 1)), (by first | rfl | (simp; done) | (simp [*]; done)), H', ⟨by have := b2.out; have := e0.out; omega⟩, ⟨bz a0.out⟩, ⟨wz HB.out⟩⟩
       ·rw [if_neg c9] at H
        exact absurd H (by simp)
      ·rw [if_neg c8] at H
       exact absurd H (by simp)
     ·replace c7 := Bool.eq_false_iff.mpr c7
      subst c7
      have H1 : (if (l0_1.length : Int) < 70 then (if (l0_2.length : Int) ≤ 200 then (if a0_0 ≤ 60 then (some true) else (some (decide (a0_0 > 2048)))) else (some false)) else (some false)) = some r := by rw [if_neg (show ¬ (false = true) by decide)] at H; exact H
      clear H
      have H := H1
      clear H1
      by_cases a9 : (l0_1.length : Int) < 70
      ·rw [if_pos a9] at H
       have c13b0 : decide ((l0_1.length : Int) < 70) = true := decide_eq_true a9
       have c13b1 : decide (l0_1.length < 70) = true := decide_eq_true (by omega)
       clear a9
       by_cases a8 : (l0_2.length : Int) ≤ 200
       ·rw [if_pos a8] at H
        have c14b0 : decide ((l0_2.length : Int) ≤ 200) = true := decide_eq_true a8
        have c14b1 : decide (l0_2.length ≤ 200) = true := decide_eq_true (by omega)
        clear a8
        by_cases a7 : a0_0 ≤ 60
        ·rw [if_pos a7] at H
         have c15b0 : decide (a0_0 ≤ 60) = true := decide_eq_true a7
         clear a7
         obtain rfl := Option.some.inj H
         have e6 : wc.cell? ⟨a1, 0, none⟩ = some (.int .i64 a0_0) := (blk_cell a0.out 0).trans rfl
         have g6 : wc.cell? ⟨a1, 1, none⟩ = some (.slice A0_1 l0_1.length c0_1) := (blk_cell a0.out 1).trans rfl
         have h2 : wc.cell? ⟨a1, 2, none⟩ = some (.slice A0_2 l0_2.length c0_2) := (blk_cell a0.out 2).trans rfl
         have f6 := blk_frozen a0.out 0
         have g3 := blk_frozen a0.out 1
         have e3 := blk_frozen a0.out 2
         go_wp2
         go_ret
         exact ⟨by first | rfl | (simp [errW_none, errW_some] <;> rfl) | (simp [*, errW_none, errW_some] <;> rfl), wz HB.out⟩
        ·rw [if_neg a7] at H
         have c15b0 : decide (a0_0 ≤ 60) = false := decide_eq_false a7
         clear a7
         obtain rfl := Option.some.inj H
         have e2 : wc.cell? ⟨a1, 0, none⟩ = some (.int .i64 a0_0) := (blk_cell a0.out 0).trans rfl
         have f3 : wc.cell? ⟨a1, 1, none⟩ = some (.slice A0_1 l0_1.length c0_1) := (blk_cell a0.out 1).trans rfl
         have h4 : wc.cell? ⟨a1, 2, none⟩ = some (.slice A0_2 l0_2.length c0_2) := (blk_cell a0.out 2).trans rfl
         have g4 := blk_frozen a0.out 0
         have g9 := blk_frozen a0.out 1
         have g8 := blk_frozen a0.out 2
         go_wp2
         go_ret
         exact ⟨by first | rfl | (simp [errW_none, errW_some] <;> rfl) | (simp [*, errW_none, errW_some] <;> rfl), wz HB.out⟩
       ·rw [if_neg a8] at H
        have c14b0 : decide ((l0_2.length : Int) ≤ 200) = false := decide_eq_false a8
        have c14b1 : decide (l0_2.length ≤ 200) = false := decide_eq_false (by omega)
        clear a8
        obtain rfl := Option.some.inj H
        have f2 : wc.cell? ⟨a1, 0, none⟩ = some (.int .i64 a0_0) := (blk_cell a0.out 0).trans rfl
        have f0 : wc.cell? ⟨a1, 1, none⟩ = some (.slice A0_1 l0_1.length c0_1) := (blk_cell a0.out 1).trans rfl
        have h6 : wc.cell? ⟨a1, 2, none⟩ = some (.slice A0_2 l0_2.length c0_2) := (blk_cell a0.out 2).trans rfl
        have e4 := blk_frozen a0.out 0
        have f1 := blk_frozen a0.out 1
        have h0 := blk_frozen a0.out 2
        go_wp2
        go_ret
        exact ⟨by first | rfl | (simp [errW_none, errW_some] <;> rfl) | (simp [*, errW_none, errW_some] <;> rfl), wz HB.out⟩
      ·rw [if_neg a9] at H
       have c13b0 : decide ((l0_1.length : Int) < 70) = false := decide_eq_false a9
       have c13b1 : decide (l0_1.length < 70) = false := decide_eq_false (by omega)
       clear a9
       obtain rfl := Option.some.inj H
       have f7 : wc.cell? ⟨a1, 0, none⟩ = some (.int .i64 a0_0) := (blk_cell a0.out 0).trans rfl
       have g5 : wc.cell? ⟨a1, 1, none⟩ = some (.slice A0_1 l0_1.length c0_1) := (blk_cell a0.out 1).trans rfl
       have e5 : wc.cell? ⟨a1, 2, none⟩ = some (.slice A0_2 l0_2.length c0_2) := (blk_cell a0.out 2).trans rfl
       have e7 := blk_frozen a0.out 0
       have h5 := blk_frozen a0.out 1
       have h1 := blk_frozen a0.out 2
       go_wp2
       go_ret
       exact ⟨by first | rfl | (simp [errW_none, errW_some] <;> rfl) | (simp [*, errW_none, errW_some] <;> rfl), wz HB.out⟩
def Pl33a.f (k : Nat) (a0_0 : Int) (l0_1 : List ByteArray) (l0_2 : List (S80)) : Option (Bool) := (Pr26a.f k a0_0 l0_1 l0_2).bind fun t104 => (if t104 = true then (if a0_0 ≤ 16 then (if (l0_2.length : Int) ≤ 60 then (some (decide ((l0_1.length : Int) ≤ 8))) else (some false)) else (if a0_0 > 2048 then (if (l0_2.length : Int) ≤ 60 then (some (decide ((l0_1.length : Int) ≤ 8))) else (some false)) else (some false))) else (some false))
theorem Pl33a.mono : ∀ a0 a1 a2 k, LeO (Pl33a.f k a0 a1 a2) (Pl33a.f (k + 1) a0 a1 a2) := by
 intro a0 a1 a2 k
 unfold Pl33a.f
 repeat' first
   | (with_reducible exact Pr26a.mono _ _ _ _)
   | (with_reducible exact LeO.refl _)
   | (with_reducible exact LeO.none _)
   | (with_reducible refine LeO.ite ?_ ?_)
   | (with_reducible refine LeO.bind ?_ (fun _ => ?_))
   | exact Pr26a.mono _ _ _ _
   | exact LeO.none _
   | refine LeO.ite ?_ ?_
   | refine LeO.bind ?_ (fun _ => ?_)
set_option maxHeartbeats 8000000 in
set_option maxRecDepth 100000 in
theorem Pl33a.calls (k : Nat) (a0_0 : Int) (A0_1 : Option Addr) (c0_1 : Nat) (l0_1 : List ByteArray) (A0_2 : Option Addr) (c0_2 : Nat) (l0_2 : List (S80)) (r : Bool) (w : World) (hr0_1 : Kd.C Kd.string w A0_1 l0_1.length l0_1) (hc0_1 : l0_1.length ≤ c0_1) (hr0_2 : Kd.C k80 w A0_2 l0_2.length l0_2) (hc0_2 : l0_2.length ≤ c0_2) (h : Pl33a.f k a0_0 l0_1 l0_2 = some r) :
  Calls Try.prog 15 #[.agg #[.int .i64 a0_0, .slice A0_1 l0_1.length c0_1, .slice A0_2 l0_2.length c0_2]] w fun e w' => e = .returned (.bool r) ∧ Below w.heap.size w w' := by
 have k9 := Try.underlying25
 have a6 := Aside0.mk hr0_1
 have a9 := Aside0.mk hc0_1
 clear hr0_1 hc0_1
 have a8 := Aside0.mk hr0_2
 have a7 := Aside0.mk hc0_2
 clear hr0_2 hc0_2
 have HB := Aside0.mk (Below.refl w.heap.size w)
 have H : ((Pr26a.f k a0_0 l0_1 l0_2).bind fun b8 => (if b8 = true then (if a0_0 ≤ 16 then (if (l0_2.length : Int) ≤ 60 then (some (decide ((l0_1.length : Int) ≤ 8))) else (some false)) else (if a0_0 > 2048 then (if (l0_2.length : Int) ≤ 60 then (some (decide ((l0_1.length : Int) ≤ 8))) else (some false)) else (some false))) else (some false))) = some r := h
 clear h
 replace H := Option.bind_eq_some_iff.mp H
 obtain ⟨b8, d9, H⟩ := H
 replace H : (if b8 = true then (if a0_0 ≤ 16 then (if (l0_2.length : Int) ≤ 60 then (some (decide ((l0_1.length : Int) ≤ 8))) else (some false)) else (if a0_0 > 2048 then (if (l0_2.length : Int) ≤ 60 then (some (decide ((l0_1.length : Int) ≤ 8))) else (some false)) else (some false))) else (some false)) = some r := H
 have A2 := Aside0.mk d9
 clear d9
 by_cases c3 : b8 = true
 ·subst c3
  have H1 : (if a0_0 ≤ 16 then (if (l0_2.length : Int) ≤ 60 then (some (decide ((l0_1.length : Int) ≤ 8))) else (some false)) else (if a0_0 > 2048 then (if (l0_2.length : Int) ≤ 60 then (some (decide ((l0_1.length : Int) ≤ 8))) else (some false)) else (some false))) = some r := by rw [if_pos rfl] at H; exact H
  clear H
  have H := H1
  clear H1
  by_cases c4 : a0_0 ≤ 16
  ·rw [if_pos c4] at H
   have c4b0 : decide (a0_0 ≤ 16) = true := decide_eq_true c4
   clear c4
   by_cases c5 : (l0_2.length : Int) ≤ 60
   ·rw [if_pos c5] at H
    have c5b0 : decide ((l0_2.length : Int) ≤ 60) = true := decide_eq_true c5
    have c5b1 : decide (l0_2.length ≤ 60) = true := decide_eq_true (by omega)
    clear c5
    obtain rfl := Option.some.inj H
    go_enter Try.func15, Try.ntmps15
    go_wp2_with (first | ((with_reducible refine gate_dst (N := 1) rfl ?_); (try (refine gate_guard (by rfl) ?_; dsimp only)); refine box_event ?hg (N := 1) ?hd (cs := #[.int .i64 a0_0, .slice A0_1 l0_1.length c0_1, .slice A0_2 l0_2.length c0_2]) (t := 25) ?hr ?_; (case hd => rfl); (case hg => rfl); (case hr => first | (go_simp; done) | (go_simp; rfl)); intro a1 hg w6 hbox hb; have a2 := Aside0.mk (below_step (wz HB.out) hb); have a3 := Aside0.mk (hbox); have a5 := Aside0.mk ((by rw [hg]; exact (below_size (wz HB.out)) : w.heap.size ≤ a1)); have a4 := Aside0.mk ((by rw [hg]; exact (below_size (wz HB.out)) : w.heap.size ≤ a1)); clear HB; have HB := a2; have a0 := a3; have b4 := a5; have b5 := a4; clear a2 a3 a5 a4; clear hb hbox hg; have k8 : w6.cell? ⟨a1, 0, none⟩ = some (.int .i64 a0_0) := (blk_cell a0.out 0).trans rfl; have j7 : w6.cell? ⟨a1, 1, none⟩ = some (.slice A0_1 l0_1.length c0_1) := (blk_cell a0.out 1).trans rfl; have k3 : w6.cell? ⟨a1, 2, none⟩ = some (.slice A0_2 l0_2.length c0_2) := (blk_cell a0.out 2).trans rfl; have j9 := blk_frozen a0.out 0; have k5 := blk_frozen a0.out 1; have k0 := blk_frozen a0.out 2) | ((with_reducible refine gate_callee (f := 66) rfl ?_); refine goesL_ (some 4) rfl rfl Try.func66 (by kernel_rfl) rfl #[.agg #[.int .i64 a0_0, .slice A0_1 l0_1.length c0_1, .slice A0_2 l0_2.length c0_2]] rfl (by (try simp only [List.map_toArray, List.map_cons, List.map_nil]); first | done | rfl | (simp only [List.length_drop, List.length_take]; rfl)) ?_; (with_reducible refine (Pr26a.calls k a0_0 _ _ l0_1 _ _ l0_2 true _ ?b1 ?b2 ?b3 ?b0 A2.out).mono ?_); (case b1 => exact cz a6.out HB.out); (case b2 => exact a9.out); (case b3 => exact cz a8.out HB.out); (case b0 => exact a7.out); rintro e w8 ⟨rfl, hb⟩; refine ⟨_, rfl, ?_⟩; have a2 := Aside0.mk (blk_below (bz a0.out) hb); have a3 := Aside0.mk (below_step (wz HB.out) hb); clear a0; clear HB; have a0 := a2; have HB := a3; clear a2 a3; (try clear hb); (try clear b9); (try clear hk); (try clear hi); have j8 : w8.cell? ⟨a1, 0, none⟩ = some (.int .i64 a0_0) := (blk_cell a0.out 0).trans rfl; have k7 : w8.cell? ⟨a1, 1, none⟩ = some (.slice A0_1 l0_1.length c0_1) := (blk_cell a0.out 1).trans rfl; have k6 : w8.cell? ⟨a1, 2, none⟩ = some (.slice A0_2 l0_2.length c0_2) := (blk_cell a0.out 2).trans rfl; have k1 := blk_frozen a0.out 0; have k4 := blk_frozen a0.out 1; have k2 := blk_frozen a0.out 2))
    go_ret
    exact ⟨by first | rfl | (simp [errW_none, errW_some] <;> rfl) | (simp [*, errW_none, errW_some] <;> rfl), wz HB.out⟩
   ·rw [if_neg c5] at H
    have c5b0 : decide ((l0_2.length : Int) ≤ 60) = false := decide_eq_false c5
    have c5b1 : decide (l0_2.length ≤ 60) = false := decide_eq_false (by omega)
    clear c5
    obtain rfl := Option.some.inj H
    go_enter Try.func15, Try.ntmps15
    go_wp2_with (first | ((with_reducible refine gate_dst (N := 1) rfl ?_); (try (refine gate_guard (by rfl) ?_; dsimp only)); refine box_event ?hg (N := 1) ?hd (cs := #[.int .i64 a0_0, .slice A0_1 l0_1.length c0_1, .slice A0_2 l0_2.length c0_2]) (t := 25) ?hr ?_; (case hd => rfl); (case hg => rfl); (case hr => first | (go_simp; done) | (go_simp; rfl)); intro a1 hg d3 hbox hb; have a2 := Aside0.mk (below_step (wz HB.out) hb); have a3 := Aside0.mk (hbox); have a5 := Aside0.mk ((by rw [hg]; exact (below_size (wz HB.out)) : w.heap.size ≤ a1)); have a4 := Aside0.mk ((by rw [hg]; exact (below_size (wz HB.out)) : w.heap.size ≤ a1)); clear HB; have HB := a2; have a0 := a3; have b4 := a5; have b5 := a4; clear a2 a3 a5 a4; clear hb hbox hg; have j6 : d3.cell? ⟨a1, 0, none⟩ = some (.int .i64 a0_0) := (blk_cell a0.out 0).trans rfl; have h9 : d3.cell? ⟨a1, 1, none⟩ = some (.slice A0_1 l0_1.length c0_1) := (blk_cell a0.out 1).trans rfl; have f5 : d3.cell? ⟨a1, 2, none⟩ = some (.slice A0_2 l0_2.length c0_2) := (blk_cell a0.out 2).trans rfl; have f4 := blk_frozen a0.out 0; have g7 := blk_frozen a0.out 1; have h6 := blk_frozen a0.out 2) | ((with_reducible refine gate_callee (f := 66) rfl ?_); refine goesL_ (some 4) rfl rfl Try.func66 (by kernel_rfl) rfl #[.agg #[.int .i64 a0_0, .slice A0_1 l0_1.length c0_1, .slice A0_2 l0_2.length c0_2]] rfl (by (try simp only [List.map_toArray, List.map_cons, List.map_nil]); first | done | rfl | (simp only [List.length_drop, List.length_take]; rfl)) ?_; (with_reducible refine (Pr26a.calls k a0_0 _ _ l0_1 _ _ l0_2 true _ ?b1 ?b2 ?b3 ?b0 A2.out).mono ?_); (case b1 => exact cz a6.out HB.out); (case b2 => exact a9.out); (case b3 => exact cz a8.out HB.out); (case b0 => exact a7.out); rintro e d0 ⟨rfl, hb⟩; refine ⟨_, rfl, ?_⟩; have a2 := Aside0.mk (blk_below (bz a0.out) hb); have a3 := Aside0.mk (below_step (wz HB.out) hb); clear a0; clear HB; have a0 := a2; have HB := a3; clear a2 a3; (try clear hb); (try clear b9); (try clear hk); (try clear hi); have e5 : d0.cell? ⟨a1, 0, none⟩ = some (.int .i64 a0_0) := (blk_cell a0.out 0).trans rfl; have g0 : d0.cell? ⟨a1, 1, none⟩ = some (.slice A0_1 l0_1.length c0_1) := (blk_cell a0.out 1).trans rfl; have g4 : d0.cell? ⟨a1, 2, none⟩ = some (.slice A0_2 l0_2.length c0_2) := (blk_cell a0.out 2).trans rfl; have i7 := blk_frozen a0.out 0; have f3 := blk_frozen a0.out 1; have e3 := blk_frozen a0.out 2))
    go_ret
    exact ⟨by first | rfl | (simp [errW_none, errW_some] <;> rfl) | (simp [*, errW_none, errW_some] <;> rfl), wz HB.out⟩
  ·rw [if_neg c4] at H
   have c4b0 : decide (a0_0 ≤ 16) = false := decide_eq_false c4
   clear c4
   by_cases b7 : a0_0 > 2048
   ·rw [if_pos b7] at H
    have c14b0 : decide (2048 < a0_0) = true := decide_eq_true b7
    clear b7
    by_cases b6 : (l0_2.length : Int) ≤ 60
    ·rw [if_pos b6] at H
     have c15b0 : decide ((l0_2.length : Int) ≤ 60) = true := decide_eq_true b6
     have c15b1 : decide (l0_2.length ≤ 60) = true := decide_eq_true (by omega)
     clear b6
     obtain rfl := Option.some.inj H
     go_enter Try.func15, Try.ntmps15
     go_wp2_with (first | ((with_reducible refine gate_dst (N := 1) rfl ?_); (try (refine gate_guard (by rfl) ?_; dsimp only)); refine box_event ?hg (N := 1) ?hd (cs := #[.int .i64 a0_0, .slice A0_1 l0_1.length c0_1, .slice A0_2 l0_2.length c0_2]) (t := 25) ?hr ?_; (case hd => rfl); (case hg => rfl); (case hr => first | (go_simp; done) | (go_simp; rfl)); intro a1 hg d8 hbox hb; have a2 := Aside0.mk (below_step (wz HB.out) hb); have a3 := Aside0.mk (hbox); have a5 := Aside0.mk ((by rw [hg]; exact (below_size (wz HB.out)) : w.heap.size ≤ a1)); have a4 := Aside0.mk ((by rw [hg]; exact (below_size (wz HB.out)) : w.heap.size ≤ a1)); clear HB; have HB := a2; have a0 := a3; have b4 := a5; have b5 := a4; clear a2 a3 a5 a4; clear hb hbox hg; have g9 : d8.cell? ⟨a1, 0, none⟩ = some (.int .i64 a0_0) := (blk_cell a0.out 0).trans rfl; have e9 : d8.cell? ⟨a1, 1, none⟩ = some (.slice A0_1 l0_1.length c0_1) := (blk_cell a0.out 1).trans rfl; have f6 : d8.cell? ⟨a1, 2, none⟩ = some (.slice A0_2 l0_2.length c0_2) := (blk_cell a0.out 2).trans rfl; have j2 := blk_frozen a0.out 0; have j3 := blk_frozen a0.out 1; have g5 := blk_frozen a0.out 2) | ((with_reducible refine gate_callee (f := 66) rfl ?_); refine goesL_ (some 4) rfl rfl Try.func66 (by kernel_rfl) rfl #[.agg #[.int .i64 a0_0, .slice A0_1 l0_1.length c0_1, .slice A0_2 l0_2.length c0_2]] rfl (by (try simp only [List.map_toArray, List.map_cons, List.map_nil]); first | done | rfl | (simp only [List.length_drop, List.length_take]; rfl)) ?_; (with_reducible refine (Pr26a.calls k a0_0 _ _ l0_1 _ _ l0_2 true _ ?b1 ?b2 ?b3 ?b0 A2.out).mono ?_); (case b1 => exact cz a6.out HB.out); (case b2 => exact a9.out); (case b3 => exact cz a8.out HB.out); (case b0 => exact a7.out); rintro e d4 ⟨rfl, hb⟩; refine ⟨_, rfl, ?_⟩; have a2 := Aside0.mk (blk_below (bz a0.out) hb); have a3 := Aside0.mk (below_step (wz HB.out) hb); clear a0; clear HB; have a0 := a2; have HB := a3; clear a2 a3; (try clear hb); (try clear b9); (try clear hk); (try clear hi); have h3 : d4.cell? ⟨a1, 0, none⟩ = some (.int .i64 a0_0) := (blk_cell a0.out 0).trans rfl; have h5 : d4.cell? ⟨a1, 1, none⟩ = some (.slice A0_1 l0_1.length c0_1) := (blk_cell a0.out 1).trans rfl; have i2 : d4.cell? ⟨a1, 2, none⟩ = some (.slice A0_2 l0_2.length c0_2) := (blk_cell a0.out 2).trans rfl; have e2 := blk_frozen a0.out 0; have j5 := blk_frozen a0.out 1; have h7 := blk_frozen a0.out 2))
     go_ret
     exact ⟨by first | rfl | (simp [errW_none, errW_some] <;> rfl) | (simp [*, errW_none, errW_some] <;> rfl), wz HB.out⟩
    ·rw [if_neg b6] at H
     have c15b0 : decide ((l0_2.length : Int) ≤ 60) = false := decide_eq_false b6
     have c15b1 : decide (l0_2.length ≤ 60) = false := decide_eq_false (by omega)
     clear b6
     obtain rfl := Option.some.inj H
     go_enter Try.func15, Try.ntmps15
     go_wp2_with (first | ((with_reducible refine gate_dst (N := 1) rfl ?_); (try (refine gate_guard (by rfl) ?_; dsimp only)); refine box_event ?hg (N := 1) ?hd (cs := #[.int .i64 a0_0, .slice A0_1 l0_1.length c0_1, .slice A0_2 l0_2.length c0_2]) (t := 25) ?hr ?_; (case hd => rfl); (case hg => rfl); (case hr => first | (go_simp; done) | (go_simp; rfl)); intro a1 hg d7 hbox hb; have a2 := Aside0.mk (below_step (wz HB.out) hb); have a3 := Aside0.mk (hbox); have a5 := Aside0.mk ((by rw [hg]; exact (below_size (wz HB.out)) : w.heap.size ≤ a1)); have a4 := Aside0.mk ((by rw [hg]; exact (below_size (wz HB.out)) : w.heap.size ≤ a1)); clear HB; have HB := a2; have a0 := a3; have b4 := a5; have b5 := a4; clear a2 a3 a5 a4; clear hb hbox hg; have i9 : d7.cell? ⟨a1, 0, none⟩ = some (.int .i64 a0_0) := (blk_cell a0.out 0).trans rfl; have f8 : d7.cell? ⟨a1, 1, none⟩ = some (.slice A0_1 l0_1.length c0_1) := (blk_cell a0.out 1).trans rfl; have h0 : d7.cell? ⟨a1, 2, none⟩ = some (.slice A0_2 l0_2.length c0_2) := (blk_cell a0.out 2).trans rfl; have g2 := blk_frozen a0.out 0; have j4 := blk_frozen a0.out 1; have f0 := blk_frozen a0.out 2) | ((with_reducible refine gate_callee (f := 66) rfl ?_); refine goesL_ (some 4) rfl rfl Try.func66 (by kernel_rfl) rfl #[.agg #[.int .i64 a0_0, .slice A0_1 l0_1.length c0_1, .slice A0_2 l0_2.length c0_2]] rfl (by (try simp only [List.map_toArray, List.map_cons, List.map_nil]); first | done | rfl | (simp only [List.length_drop, List.length_take]; rfl)) ?_; (with_reducible refine (Pr26a.calls k a0_0 _ _ l0_1 _ _ l0_2 true _ ?b1 ?b2 ?b3 ?b0 A2.out).mono ?_); (case b1 => exact cz a6.out HB.out); (case b2 => exact a9.out); (case b3 => exact cz a8.out HB.out); (case b0 => exact a7.out); rintro e d6 ⟨rfl, hb⟩; refine ⟨_, rfl, ?_⟩; have a2 := Aside0.mk (blk_below (bz a0.out) hb); have a3 := Aside0.mk (below_step (wz HB.out) hb); clear a0; clear HB; have a0 := a2; have HB := a3; clear a2 a3; (try clear hb); (try clear b9); (try clear hk); (try clear hi); have h4 : d6.cell? ⟨a1, 0, none⟩ = some (.int .i64 a0_0) := (blk_cell a0.out 0).trans rfl; have e6 : d6.cell? ⟨a1, 1, none⟩ = some (.slice A0_1 l0_1.length c0_1) := (blk_cell a0.out 1).trans rfl; have i3 : d6.cell? ⟨a1, 2, none⟩ = some (.slice A0_2 l0_2.length c0_2) := (blk_cell a0.out 2).trans rfl; have i1 := blk_frozen a0.out 0; have i5 := blk_frozen a0.out 1; have g8 := blk_frozen a0.out 2))
     go_ret
     exact ⟨by first | rfl | (simp [errW_none, errW_some] <;> rfl) | (simp [*, errW_none, errW_some] <;> rfl), wz HB.out⟩
   ·rw [if_neg b7] at H
    have c14b0 : decide (2048 < a0_0) = false := decide_eq_false b7
    clear b7
    obtain rfl := Option.some.inj H
    go_enter Try.func15, Try.ntmps15
    go_wp2_with (first | ((with_reducible refine gate_dst (N := 1) rfl ?_); (try (refine gate_guard (by rfl) ?_; dsimp only)); refine box_event ?hg (N := 1) ?hd (cs := #[.int .i64 a0_0, .slice A0_1 l0_1.length c0_1, .slice A0_2 l0_2.length c0_2]) (t := 25) ?hr ?_; (case hd => rfl); (case hg => rfl); (case hr => first | (go_simp; done) | (go_simp; rfl)); intro a1 hg d5 hbox hb; have a2 := Aside0.mk (below_step (wz HB.out) hb); have a3 := Aside0.mk (hbox); have a5 := Aside0.mk ((by rw [hg]; exact (below_size (wz HB.out)) : w.heap.size ≤ a1)); have a4 := Aside0.mk ((by rw [hg]; exact (below_size (wz HB.out)) : w.heap.size ≤ a1)); clear HB; have HB := a2; have a0 := a3; have b4 := a5; have b5 := a4; clear a2 a3 a5 a4; clear hb hbox hg; have e7 : d5.cell? ⟨a1, 0, none⟩ = some (.int .i64 a0_0) := (blk_cell a0.out 0).trans rfl; have e1 : d5.cell? ⟨a1, 1, none⟩ = some (.slice A0_1 l0_1.length c0_1) := (blk_cell a0.out 1).trans rfl; have g3 : d5.cell? ⟨a1, 2, none⟩ = some (.slice A0_2 l0_2.length c0_2) := (blk_cell a0.out 2).trans rfl; have i4 := blk_frozen a0.out 0; have g6 := blk_frozen a0.out 1; have h2 := blk_frozen a0.out 2) | ((with_reducible refine gate_callee (f := 66) rfl ?_); refine goesL_ (some 4) rfl rfl Try.func66 (by kernel_rfl) rfl #[.agg #[.int .i64 a0_0, .slice A0_1 l0_1.length c0_1, .slice A0_2 l0_2.length c0_2]] rfl (by (try simp only [List.map_toArray, List.map_cons, List.map_nil]); first | done | rfl | (simp only [List.length_drop, List.length_take]; rfl)) ?_; (with_reducible refine (Pr26a.calls k a0_0 _ _ l0_1 _ _ l0_2 true _ ?b1 ?b2 ?b3 ?b0 A2.out).mono ?_); (case b1 => exact cz a6.out HB.out); (case b2 => exact a9.out); (case b3 => exact cz a8.out HB.out); (case b0 => exact a7.out); rintro e d2 ⟨rfl, hb⟩; refine ⟨_, rfl, ?_⟩; have a2 := Aside0.mk (blk_below (bz a0.out) hb); have a3 := Aside0.mk (below_step (wz HB.out) hb); clear a0; clear HB; have a0 := a2; have HB := a3; clear a2 a3; (try clear hb); (try clear b9); (try clear hk); (try clear hi); have i8 : d2.cell? ⟨a1, 0, none⟩ = some (.int .i64 a0_0) := (blk_cell a0.out 0).trans rfl; have e4 : d2.cell? ⟨a1, 1, none⟩ = some (.slice A0_1 l0_1.length c0_1) := (blk_cell a0.out 1).trans rfl; have f2 : d2.cell? ⟨a1, 2, none⟩ = some (.slice A0_2 l0_2.length c0_2) := (blk_cell a0.out 2).trans rfl; have e8 := blk_frozen a0.out 0; have g1 := blk_frozen a0.out 1; have h8 := blk_frozen a0.out 2))
    go_ret
    exact ⟨by first | rfl | (simp [errW_none, errW_some] <;> rfl) | (simp [*, errW_none, errW_some] <;> rfl), wz HB.out⟩
 ·replace c3 := Bool.eq_false_iff.mpr c3
  subst c3
  have H1 : (some false) = some r := by rw [if_neg (show ¬ (false = true) by decide)] at H; exact H
  clear H
  have H := H1
  clear H1
  obtain rfl := Option.some.inj H
  go_enter Try.func15, Try.ntmps15
  go_wp2_with (first | ((with_reducible refine gate_dst (N := 1) rfl ?_); (try (refine gate_guard (by rfl) ?_; dsimp only)); refine box_event ?hg (N := 1) ?hd (cs := #[.int .i64 a0_0, .slice A0_1 l0_1.length c0_1, .slice A0_2 l0_2.length c0_2]) (t := 25) ?hr ?_; (case hd => rfl); (case hg => rfl); (case hr => first | (go_simp; done) | (go_simp; rfl)); intro a1 hg d1 hbox hb; have a2 := Aside0.mk (below_step (wz HB.out) hb); have a3 := Aside0.mk (hbox); have a5 := Aside0.mk ((by rw [hg]; exact (below_size (wz HB.out)) : w.heap.size ≤ a1)); have a4 := Aside0.mk ((by rw [hg]; exact (below_size (wz HB.out)) : w.heap.size ≤ a1)); clear HB; have HB := a2; have a0 := a3; have b4 := a5; have b5 := a4; clear a2 a3 a5 a4; clear hb hbox hg; have h1 : d1.cell? ⟨a1, 0, none⟩ = some (.int .i64 a0_0) := (blk_cell a0.out 0).trans rfl; have f7 : d1.cell? ⟨a1, 1, none⟩ = some (.slice A0_1 l0_1.length c0_1) := (blk_cell a0.out 1).trans rfl; have e0 : d1.cell? ⟨a1, 2, none⟩ = some (.slice A0_2 l0_2.length c0_2) := (blk_cell a0.out 2).trans rfl; have i0 := blk_frozen a0.out 0; have f9 := blk_frozen a0.out 1; have f1 := blk_frozen a0.out 2) | ((with_reducible refine gate_callee (f := 66) rfl ?_); refine goesL_ (some 4) rfl rfl Try.func66 (by kernel_rfl) rfl #[.agg #[.int .i64 a0_0, .slice A0_1 l0_1.length c0_1, .slice A0_2 l0_2.length c0_2]] rfl (by (try simp only [List.map_toArray, List.map_cons, List.map_nil]); first | done | rfl | (simp only [List.length_drop, List.length_take]; rfl)) ?_; (with_reducible refine (Pr26a.calls k a0_0 _ _ l0_1 _ _ l0_2 false _ ?b1 ?b2 ?b3 ?b0 A2.out).mono ?_); (case b1 => exact cz a6.out HB.out); (case b2 => exact a9.out); (case b3 => exact cz a8.out HB.out); (case b0 => exact a7.out); rintro e l2 ⟨rfl, hb⟩; refine ⟨_, rfl, ?_⟩; have a2 := Aside0.mk (blk_below (bz a0.out) hb); have a3 := Aside0.mk (below_step (wz HB.out) hb); clear a0; clear HB; have a0 := a2; have HB := a3; clear a2 a3; (try clear hb); (try clear b9); (try clear hk); (try clear hi)))
  go_ret
  exact ⟨by first | rfl | (simp [errW_none, errW_some] <;> rfl) | (simp [*, errW_none, errW_some] <;> rfl), wz HB.out⟩
end Go.Proofs.Ytmcbkmfpmcbdpaa.Pr
set_option linter.unusedVariables false
set_option linter.unusedSimpArgs false
namespace Go.Proofs.Ytmcbkmfpmcbdpaa.Sem
open Go.Proofs.Ytmcbkmfpmcbdpaa.Pr
def hop (t : List Bool) (e : Ed) : List Bool := if t.getD e.f0.toNat false && !t.getD e.f2.toNat false then t.set e.f2.toNat true else t
def Shut (es : List Ed) (t : List Bool) : Prop := ∀ e ∈ es, t.getD e.f0.toNat false = true → t.getD e.f2.toNat false = true
end Go.Proofs.Ytmcbkmfpmcbdpaa.Sem
set_option linter.unusedVariables false
set_option linter.unusedSimpArgs false
namespace Go.Proofs.Ytmcbkmfpmcbdpaa.H
open Go.RowKit Go.Proofs.Ytmcbkmfpmcbdpaa.Pr Go.Proofs.YtmcbkmfpmcbdpaaW.PrintWords Go.Proofs.Ytmcbkmfpmcbdpaa.Sem Go.Lib Go.Sort
section
variable {α : Type} [Inhabited α] (enc : α → List Value) (k : Nat) (hk : ∀ x, (enc x).length = k)
include hk
end
instance : DecidableEq Ed := fun a b => decidable_of_iff (cmpE a b = 0) (cmpE_zero a b)
end Go.Proofs.Ytmcbkmfpmcbdpaa.H
namespace Go.Proofs.Ytmcbkmfpmcbdpaa.Pr
open Go.RowKit Go.Proofs.YtmcbkmfpmcbdpaaW.PrintWords Go.Proofs.YtmcbkmfpmcbdpaaW.PrintLast Go.Proofs.YtmcbkmfpmcbdpaaW.PrintMore
attribute [local go_sem] max2_int min2_int max_two min_two max_three min_three max_four min_four
set_option linter.unusedVariables false
set_option linter.unusedSimpArgs false
attribute [local go_sem high] eqA71
def Pr35a.l0 : Nat → List (S71) → List (S71) → Int → Option (Bool)
 | 0, _, _, _ => none
 | k + 1, x0, x1, x5 => if x5 < (x0.length : Int) then (if 0 ≤ x5 then (if x5 < (x1.length : Int) then (if (!(((rd_T71 x0 x5).f0) == ((rd_T71 x1 x5).f0)) || (!(((rd_T71 x0 x5).f1) == ((rd_T71 x1 x5).f1)))) = true then (some false) else (Pr35a.l0 k x0 x1 (wrap64 (x5 + 1)))) else (none)) else (none)) else (some true)
def Pr35a.f (k : Nat) (l0 : List (S71)) (l1 : List (S71)) : Option (Bool) := if (l0.length : Int) = (l1.length : Int) then (Pr35a.l0 k l0 l1 0) else (some false)
theorem Pr35a.mono_l : ∀ k, (∀ y0 y1 y2, LeO (Pr35a.l0 k y0 y1 y2) (Pr35a.l0 (k + 1) y0 y1 y2))
 | 0 => fun _ _ _ r h => by simp [Pr35a.l0] at h
 | k + 1 => by
  have ih0 := Pr35a.mono_l k
  ·intro y0 y1 y2
   unfold Pr35a.l0
   repeat' first
   | (with_reducible exact ih0 _ _ _)
   | (with_reducible exact LeO.refl _)
   | (with_reducible exact LeO.none _)
   | (with_reducible refine LeO.ite ?_ ?_)
   | (with_reducible refine LeO.bind ?_ (fun _ => ?_))
   | exact ih0 _ _ _
   | exact LeO.none _
   | refine LeO.ite ?_ ?_
   | refine LeO.bind ?_ (fun _ => ?_)
theorem Pr35a.mono : ∀ a0 a1 k, LeO (Pr35a.f k a0 a1) (Pr35a.f (k + 1) a0 a1) := by
 intro a0 a1 k
 have ih0 := Pr35a.mono_l k
 unfold Pr35a.f
 repeat' first
   | (with_reducible exact ih0 _ _ _)
   | (with_reducible exact LeO.refl _)
   | (with_reducible exact LeO.none _)
   | (with_reducible refine LeO.ite ?_ ?_)
   | (with_reducible refine LeO.bind ?_ (fun _ => ?_))
   | exact ih0 _ _ _
   | exact LeO.none _
   | refine LeO.ite ?_ ?_
   | refine LeO.bind ?_ (fun _ => ?_)
set_option maxHeartbeats 8000000 in
set_option maxRecDepth 100000 in
theorem Pr35a.calls (k : Nat) (A0 : Option Addr) (c0 : Nat) (l0 : List (S71)) (A1 : Option Addr) (c1 : Nat) (l1 : List (S71)) (r : Bool) (w : World) (hr0 : Kd.C k71 w A0 l0.length l0) (hc0 : l0.length ≤ c0) (hr1 : Kd.C k71 w A1 l1.length l1) (hc1 : l1.length ≤ c1) (h : Pr35a.f k l0 l1 = some r) :
  Calls Try.prog 82 #[.slice A0 l0.length c0, .slice A1 l1.length c1] w fun e w' => e = .returned (.bool r) ∧ Drawn0 w w' := by
 have b6 := Try.underlying71
 have b4 := Aside0.mk hr0
 have b8 := Aside0.mk hc0
 clear hr0 hc0
 have b3 := Aside0.mk hr1
 have b7 := Aside0.mk hc1
 clear hr1 hc1
 have H : (if (l0.length : Int) = (l1.length : Int) then (Pr35a.l0 k l0 l1 0) else (some false)) = some r := h
 clear h
 by_cases c3 : (l0.length : Int) = (l1.length : Int)
 ·rw [if_pos c3] at H
  have c3b0 : ((l0.length : Int) == (l1.length : Int)) = true := beq_iff_eq.mpr c3
  have c3b1 : ((l0.length : Int) != (l1.length : Int)) = false := bne_eq_false_iff_eq.mpr c3
  have c3b2 : (l0.length == l1.length) = true := by first | simpa using c3 | (simp at c3 ⊢; omega)
  clear c3
  have H' := Aside0.mk H
  clear H
  go_enter Try.func82, Try.ntmps82
  go_wp2
  repeat (go_quiet (fail); try go_wp2)
  go_loopg [5] k (fun kq v5 w' => ∃ (a0 : Int), v5 = .int .i64 a0 ∧ Aside0 (Pr35a.l0 kq l0 l1 a0 = some r) ∧ Aside0 (kq ≤ k) ∧ Drawn0 w w')
  case atStart => exact ⟨(0), (by first | rfl | (simp; done) | (simp [*]; done)), H', ⟨Nat.le_refl _⟩, by repeat (first | exact Drawn0.refl _ | apply Drawn0.step)⟩
  case round =>
   clear H'
   try clear c1
   try clear p2
   try clear c3
   try clear c3b0
   try clear c3b1
   try clear c3b2
   obtain ⟨a0, rfl, HA, b5, ⟨m1, rfl⟩⟩ := hrel
   cases gk with
   | zero => exact absurd HA.out (by simp [Pr35a.l0])
   | succ k1 =>
    have H := HA.out
    clear HA
    simp only [Pr35a.l0] at H
    by_cases c4 : a0 < (l0.length : Int)
    ·rw [if_pos c4] at H
     have c4b0 : decide (a0 < (l0.length : Int)) = true := decide_eq_true c4
     clear c4
     by_cases c5 : 0 ≤ a0
     ·rw [if_pos c5] at H
      have c5b0 : decide (0 ≤ a0) = true := decide_eq_true c5
      clear c5
      by_cases c6 : a0 < (l1.length : Int)
      ·rw [if_pos c6] at H
       have c6b0 : decide (a0 < (l1.length : Int)) = true := decide_eq_true c6
       clear c6
       by_cases c7 : (!(((rd_T71 l0 a0).f0) == ((rd_T71 l1 a0).f0)) || (!(((rd_T71 l0 a0).f1) == ((rd_T71 l1 a0).f1)))) = true
       ·rw [if_pos c7] at H
        have c7b0 : (!(((rd_T71 l0 a0).f0) == ((rd_T71 l1 a0).f0)) || (!(((rd_T71 l0 a0).f1) == ((rd_T71 l1 a0).f1)))) = true := c7
        clear c7
        obtain rfl := Option.some.inj H
        have a2 : 0 ≤ (a0 : Int) := of_decide_eq_true (by first | (with_reducible assumption) | assumption)
        have a3 : a0 < (l0.length : Int) := of_decide_eq_true (by first | (with_reducible assumption) | assumption)
        obtain ⟨b2, a5, a7, b0⟩ := at_T71 b4.out a0 a2 a3
        cases a5
        replace a2 := eq_true a2
        replace a3 := eq_true a3
        have a1 : 0 ≤ (a0 : Int) := of_decide_eq_true (by first | (with_reducible assumption) | assumption)
        have a4 : a0 < (l1.length : Int) := of_decide_eq_true (by first | (with_reducible assumption) | assumption)
        obtain ⟨b1, a6, a9, a8⟩ := at_T71 b3.out a0 a1 a4
        cases a6
        replace a1 := eq_true a1
        replace a4 := eq_true a4
        go_wp2
        repeat (go_quiet (fail); try go_wp2)
        go_ret
        exact ⟨by first | rfl | (simp; done) | (simp [*]; done), by repeat (first | exact Drawn0.refl _ | apply Drawn0.step)⟩
       ·rw [if_neg c7] at H
        have c7b0 : (!(((rd_T71 l0 a0).f0) == ((rd_T71 l1 a0).f0)) || (!(((rd_T71 l0 a0).f1) == ((rd_T71 l1 a0).f1)))) = false := by simpa using c7
        clear c7
        have H' := Aside0.mk H
        clear H
        have a2 : 0 ≤ (a0 : Int) := of_decide_eq_true (by first | (with_reducible assumption) | assumption)
        have a3 : a0 < (l0.length : Int) := of_decide_eq_true (by first | (with_reducible assumption) | assumption)
        obtain ⟨b2, a5, a7, b0⟩ := at_T71 b4.out a0 a2 a3
        cases a5
        replace a2 := eq_true a2
        replace a3 := eq_true a3
        have a1 : 0 ≤ (a0 : Int) := of_decide_eq_true (by first | (with_reducible assumption) | assumption)
        have a4 : a0 < (l1.length : Int) := of_decide_eq_true (by first | (with_reducible assumption) | assumption)
        obtain ⟨b1, a6, a9, a8⟩ := at_T71 b3.out a0 a1 a4
        cases a6
        replace a1 := eq_true a1
        replace a4 := eq_true a4
        go_wp2
        repeat (go_quiet (fail); try go_wp2)
        go_roundg k1
        case measure => have := b5.out; omega
        case rel => exact ⟨(wrap64 (a0 + 1)), (by first | rfl | (simp; done) | (simp [*]; done)), H', ⟨by have := b5.out; omega⟩, by repeat (first | exact Drawn0.refl _ | apply Drawn0.step)⟩
      ·rw [if_neg c6] at H
       exact absurd H (by simp)
     ·rw [if_neg c5] at H
      exact absurd H (by simp)
    ·rw [if_neg c4] at H
     have c4b0 : decide (a0 < (l0.length : Int)) = false := decide_eq_false c4
     clear c4
     obtain rfl := Option.some.inj H
     go_wp2
     repeat (go_quiet (fail); try go_wp2)
     go_ret
     exact ⟨by first | rfl | (simp; done) | (simp [*]; done), by repeat (first | exact Drawn0.refl _ | apply Drawn0.step)⟩
 ·rw [if_neg c3] at H
  have c3b0 : ((l0.length : Int) == (l1.length : Int)) = false := beq_eq_false_iff_ne.mpr c3
  have c3b1 : ((l0.length : Int) != (l1.length : Int)) = true := bne_iff_ne.mpr c3
  have c3b2 : (l0.length == l1.length) = false := by first | simpa using c3 | (simp at c3 ⊢; omega)
  obtain rfl := Option.some.inj H
  go_enter Try.func82, Try.ntmps82
  go_wp2
  repeat (go_quiet (fail); try go_wp2)
  go_ret
  exact ⟨by first | rfl | (simp; done) | (simp [*]; done), by repeat (first | exact Drawn0.refl _ | apply Drawn0.step)⟩
attribute [local go_sem high] eqA71
def slices_Index_2_int_2_int.l0 : Nat → List (S71) → Int → Int → Int → Int → Option (Int)
 | 0, _, _, _, _, _ => none
 | k + 1, x0, x7, x8, x175000, x175001 => if x8 < x7 then (if 0 ≤ x8 then (if x8 < (x0.length : Int) then (if (x175000 == ((rd_T71 x0 x8).f0) && (x175001 == ((rd_T71 x0 x8).f1))) = true then (some x8) else (slices_Index_2_int_2_int.l0 k x0 x7 (wrap64 (x8 + 1)) x175000 x175001)) else (none)) else (none)) else (some (-1))
def slices_Index_2_int_2_int.f (k : Nat) (l0 : List (S71)) (a1_0 : Int) (a1_1 : Int) : Option (Int) := slices_Index_2_int_2_int.l0 k l0 (l0.length : Int) 0 a1_0 a1_1
theorem slices_Index_2_int_2_int.mono_l : ∀ k, (∀ y0 y1 y2 y3 y4, LeO (slices_Index_2_int_2_int.l0 k y0 y1 y2 y3 y4) (slices_Index_2_int_2_int.l0 (k + 1) y0 y1 y2 y3 y4))
 | 0 => fun _ _ _ _ _ r h => by simp [slices_Index_2_int_2_int.l0] at h
 | k + 1 => by
  have ih0 := slices_Index_2_int_2_int.mono_l k
  ·intro y0 y1 y2 y3 y4
   unfold slices_Index_2_int_2_int.l0
   repeat' first
   | (with_reducible exact ih0 _ _ _ _ _)
   | (with_reducible exact LeO.refl _)
   | (with_reducible exact LeO.none _)
   | (with_reducible refine LeO.ite ?_ ?_)
   | (with_reducible refine LeO.bind ?_ (fun _ => ?_))
   | exact ih0 _ _ _ _ _
   | exact LeO.none _
   | refine LeO.ite ?_ ?_
   | refine LeO.bind ?_ (fun _ => ?_)
theorem slices_Index_2_int_2_int.mono : ∀ a0 a1 a2 k, LeO (slices_Index_2_int_2_int.f k a0 a1 a2) (slices_Index_2_int_2_int.f (k + 1) a0 a1 a2) := by
 intro a0 a1 a2 k
 have ih0 := slices_Index_2_int_2_int.mono_l k
 unfold slices_Index_2_int_2_int.f
 repeat' first
   | (with_reducible exact ih0 _ _ _ _ _)
   | (with_reducible exact LeO.refl _)
   | (with_reducible exact LeO.none _)
   | (with_reducible refine LeO.ite ?_ ?_)
   | (with_reducible refine LeO.bind ?_ (fun _ => ?_))
   | exact ih0 _ _ _ _ _
   | exact LeO.none _
   | refine LeO.ite ?_ ?_
   | refine LeO.bind ?_ (fun _ => ?_)
set_option maxHeartbeats 8000000 in
set_option maxRecDepth 100000 in
theorem slices_Index_2_int_2_int.calls (k : Nat) (A0 : Option Addr) (c0 : Nat) (l0 : List (S71)) (a1_0 : Int) (a1_1 : Int) (r : Int) (w : World) (hr0 : Kd.C k71 w A0 l0.length l0) (hc0 : l0.length ≤ c0) (h : slices_Index_2_int_2_int.f k l0 a1_0 a1_1 = some r) :
  Calls Try.prog 159 #[.slice A0 l0.length c0, .agg #[.int .i64 a1_0, .int .i64 a1_1]] w fun e w' => e = .returned (.int .i64 r) ∧ Below w.heap.size w w' := by
 have d5 := Try.underlying71
 have b5 := Aside0.mk hr0
 have d6 := Aside0.mk hc0
 clear hr0 hc0
 have HB := Aside0.mk (Below.refl w.heap.size w)
 have H : (slices_Index_2_int_2_int.l0 k l0 (l0.length : Int) 0 a1_0 a1_1) = some r := h
 clear h
 have H' := Aside0.mk H
 clear H
 go_enter Try.func159, Try.ntmps159
 go_wp2_with (first | ((with_reducible refine gate_dst (N := 3) rfl ?_); refine box_event ?hg (N := 3) ?hd (cs := #[.int .i64 a1_0, .int .i64 a1_1]) (t := 71) ?hr ?_; (case hd => rfl); (case hg => rfl); (case hr => first | (go_simp; done) | (go_simp; rfl)); intro a2 hg w3 hbox hb; have a8 := Aside0.mk (below_step (wz HB.out) hb); have b0 := Aside0.mk (hbox); have a9 := Aside0.mk ((by rw [hg]; exact (below_size (wz HB.out)) : w.heap.size ≤ a2)); have a7 := Aside0.mk ((by rw [hg]; exact (below_size (wz HB.out)) : w.heap.size ≤ a2)); clear HB; have HB := a8; have a1 := b0; have b3 := a9; have b2 := a7; clear a8 b0 a9 a7; clear hb hbox hg))
 repeat (go_quiet (first | ((with_reducible refine gate_dst (N := 3) rfl ?_); refine box_event ?hg (N := 3) ?hd (cs := #[.int .i64 a1_0, .int .i64 a1_1]) (t := 71) ?hr ?_; (case hd => rfl); (case hg => rfl); (case hr => first | (go_simp; done) | (go_simp; rfl)); intro a2 hg w3 hbox hb; have a8 := Aside0.mk (below_step (wz HB.out) hb); have b0 := Aside0.mk (hbox); have a9 := Aside0.mk ((by rw [hg]; exact (below_size (wz HB.out)) : w.heap.size ≤ a2)); have a7 := Aside0.mk ((by rw [hg]; exact (below_size (wz HB.out)) : w.heap.size ≤ a2)); clear HB; have HB := a8; have a1 := b0; have b3 := a9; have b2 := a7; clear a8 b0 a9 a7; clear hb hbox hg)); try go_wp2_with (first | ((with_reducible refine gate_dst (N := 3) rfl ?_); refine box_event ?hg (N := 3) ?hd (cs := #[.int .i64 a1_0, .int .i64 a1_1]) (t := 71) ?hr ?_; (case hd => rfl); (case hg => rfl); (case hr => first | (go_simp; done) | (go_simp; rfl)); intro a2 hg w3 hbox hb; have a8 := Aside0.mk (below_step (wz HB.out) hb); have b0 := Aside0.mk (hbox); have a9 := Aside0.mk ((by rw [hg]; exact (below_size (wz HB.out)) : w.heap.size ≤ a2)); have a7 := Aside0.mk ((by rw [hg]; exact (below_size (wz HB.out)) : w.heap.size ≤ a2)); clear HB; have HB := a8; have a1 := b0; have b3 := a9; have b2 := a7; clear a8 b0 a9 a7; clear hb hbox hg)))
 go_loopg [8] k (fun kq v8 w' => ∃ (a0 : Int), v8 = .int .i64 a0 ∧ Aside0 (slices_Index_2_int_2_int.l0 kq l0 (l0.length : Int) a0 a1_0 a1_1 = some r) ∧ Aside0 (kq ≤ k) ∧ Aside0 (w'.heap[a2]? = some (.cells #[.int .i64 a1_0, .int .i64 a1_1] 71 (0, 0))) ∧ Aside0 (Below w.heap.size w w'))
 case atStart => exact ⟨(0), (by first | rfl | (simp; done) | (simp [*]; done)), H', ⟨Nat.le_refl _⟩, ⟨bz a1.out⟩, ⟨wz HB.out⟩⟩
 case round =>
  clear H'
  try clear c1
  try clear p2
  obtain ⟨a0, rfl, HA, b6, a1, HB⟩ := hrel
  cases gk with
  | zero => exact absurd HA.out (by simp [slices_Index_2_int_2_int.l0])
  | succ k1 =>
   have H := HA.out
   clear HA
   simp only [slices_Index_2_int_2_int.l0] at H
   by_cases c4 : a0 < (l0.length : Int)
   ·rw [if_pos c4] at H
    have c4b0 : decide (a0 < (l0.length : Int)) = true := decide_eq_true c4
    clear c4
    by_cases c5 : 0 ≤ a0
    ·rw [if_pos c5] at H
     have c5b0 : decide (0 ≤ a0) = true := decide_eq_true c5
     clear c5
     by_cases c6 : a0 < (l0.length : Int)
     ·rw [if_pos c6] at H
      have c6b0 : decide (a0 < (l0.length : Int)) = true := decide_eq_true c6
      clear c6
      by_cases c7 : (a1_0 == ((rd_T71 l0 a0).f0) && (a1_1 == ((rd_T71 l0 a0).f1))) = true
      ·rw [if_pos c7] at H
       have c7b0 : (a1_0 == ((rd_T71 l0 a0).f0) && (a1_1 == ((rd_T71 l0 a0).f1))) = true := c7
       (try (have c7b1 : decide (a1_0 = ((rd_T71 l0 a0).f0) && (a1_1 == ((rd_T71 l0 a0).f1))) = true := by simpa using c7))
       (try (have c7b2 : (a1_0 == ((rd_T71 l0 a0).f0) && (a1_1 == ((rd_T71 l0 a0).f1))) = true := by simpa using c7))
       clear c7
       obtain rfl := Option.some.inj H
       have b7 : wr.cell? ⟨a2, 0, none⟩ = some (.int .i64 a1_0) := (blk_cell a1.out 0).trans rfl
       have b9 : wr.cell? ⟨a2, 1, none⟩ = some (.int .i64 a1_1) := (blk_cell a1.out 1).trans rfl
       have d3 := blk_frozen a1.out 0
       have d4 := blk_frozen a1.out 1
       have a6 : 0 ≤ (a0 : Int) := of_decide_eq_true (by first | (with_reducible assumption) | assumption)
       have a5 : a0 < (l0.length : Int) := of_decide_eq_true (by first | (with_reducible assumption) | assumption)
       obtain ⟨b4, b1, a4, a3⟩ := at_T71 b5.out a0 a6 a5
       cases b1
       replace a4 := (HB.out.cell (World.block_lt_of_cell? w _ a4)).trans a4
       replace a3 := (HB.out.cell (World.block_lt_of_cell? w _ a3)).trans a3
       replace a6 := eq_true a6
       replace a5 := eq_true a5
       go_wp2
       repeat (go_quiet (fail); try go_wp2)
       go_ret
       exact ⟨by first | rfl | (simp [errW_none, errW_some] <;> rfl) | (simp [*, errW_none, errW_some] <;> rfl), wz HB.out⟩
      ·rw [if_neg c7] at H
       have c7b0 : (a1_0 == ((rd_T71 l0 a0).f0) && (a1_1 == ((rd_T71 l0 a0).f1))) = false := by simpa using c7
       (try (have c7b1 : decide (a1_0 = ((rd_T71 l0 a0).f0) && (a1_1 == ((rd_T71 l0 a0).f1))) = false := by simpa using c7))
       (try (have c7b2 : (a1_0 == ((rd_T71 l0 a0).f0) && (a1_1 == ((rd_T71 l0 a0).f1))) = false := by simpa using c7))
       (try (have c7b3 : ¬ (a1_0 = ((rd_T71 l0 a0).f0) && (a1_1 == ((rd_T71 l0 a0).f1))) := by simpa using c7))
       clear c7
       have H' := Aside0.mk H
       clear H
       have b8 : wr.cell? ⟨a2, 0, none⟩ = some (.int .i64 a1_0) := (blk_cell a1.out 0).trans rfl
       have d1 : wr.cell? ⟨a2, 1, none⟩ = some (.int .i64 a1_1) := (blk_cell a1.out 1).trans rfl
       have d0 := blk_frozen a1.out 0
       have d2 := blk_frozen a1.out 1
       have a6 : 0 ≤ (a0 : Int) := of_decide_eq_true (by first | (with_reducible assumption) | assumption)
       have a5 : a0 < (l0.length : Int) := of_decide_eq_true (by first | (with_reducible assumption) | assumption)
       obtain ⟨b4, b1, a4, a3⟩ := at_T71 b5.out a0 a6 a5
       cases b1
       replace a4 := (HB.out.cell (World.block_lt_of_cell? w _ a4)).trans a4
       replace a3 := (HB.out.cell (World.block_lt_of_cell? w _ a3)).trans a3
       replace a6 := eq_true a6
       replace a5 := eq_true a5
       go_wp2
       repeat (go_quiet (fail); try go_wp2)
       go_roundg k1
       case measure => have := b6.out; omega
       case rel => exact ⟨(wrap64 (a0 + 1)), (by first | rfl | (simp; done) | (simp [*]; done)), H', ⟨by have := b6.out; omega⟩, ⟨bz a1.out⟩, ⟨wz HB.out⟩⟩
     ·rw [if_neg c6] at H
      exact absurd H (by simp)
    ·rw [if_neg c5] at H
     exact absurd H (by simp)
   ·rw [if_neg c4] at H
    have c4b0 : decide (a0 < (l0.length : Int)) = false := decide_eq_false c4
    clear c4
    obtain rfl := Option.some.inj H
    go_wp2
    repeat (go_quiet (fail); try go_wp2)
    go_ret
    exact ⟨by first | rfl | (simp [errW_none, errW_some] <;> rfl) | (simp [*, errW_none, errW_some] <;> rfl), wz HB.out⟩
def slices_Contains_2_int_2_int.f (k : Nat) (l0 : List (S71)) (a1_0 : Int) (a1_1 : Int) : Option (Bool) := (slices_Index_2_int_2_int.f k l0 a1_0 a1_1).bind fun t177 => (some (decide (t177 ≥ 0)))
theorem slices_Contains_2_int_2_int.mono : ∀ a0 a1 a2 k, LeO (slices_Contains_2_int_2_int.f k a0 a1 a2) (slices_Contains_2_int_2_int.f (k + 1) a0 a1 a2) := by
 intro a0 a1 a2 k
 unfold slices_Contains_2_int_2_int.f
 repeat' first
   | (with_reducible exact slices_Index_2_int_2_int.mono _ _ _ _)
   | (with_reducible exact LeO.refl _)
   | (with_reducible exact LeO.none _)
   | (with_reducible refine LeO.ite ?_ ?_)
   | (with_reducible refine LeO.bind ?_ (fun _ => ?_))
   | exact slices_Index_2_int_2_int.mono _ _ _ _
   | exact LeO.none _
   | refine LeO.ite ?_ ?_
   | refine LeO.bind ?_ (fun _ => ?_)
set_option maxHeartbeats 8000000 in
set_option maxRecDepth 100000 in
theorem slices_Contains_2_int_2_int.calls (k : Nat) (A0 : Option Addr) (c0 : Nat) (l0 : List (S71)) (a1_0 : Int) (a1_1 : Int) (r : Bool) (w : World) (hr0 : Kd.C k71 w A0 l0.length l0) (hc0 : l0.length ≤ c0) (h : slices_Contains_2_int_2_int.f k l0 a1_0 a1_1 = some r) :
  Calls Try.prog 128 #[.slice A0 l0.length c0, .agg #[.int .i64 a1_0, .int .i64 a1_1]] w fun e w' => e = .returned (.bool r) ∧ Below w.heap.size w w' := by
 have hu71 := Try.underlying71
 have HR0 := Aside0.mk hr0
 have HC0 := Aside0.mk hc0
 clear hr0 hc0
 have HB := Aside0.mk (Below.refl w.heap.size w)
 have H : ((slices_Index_2_int_2_int.f k l0 a1_0 a1_1).bind fun t177 => (some (decide (t177 ≥ 0)))) = some r := h
 clear h
 replace H := Option.bind_eq_some_iff.mp H
 obtain ⟨t177, A30, H⟩ := H
 replace H : (some (decide (t177 ≥ 0))) = some r := H
 have A3 := Aside0.mk A30
 clear A30
 obtain rfl := Option.some.inj H
 go_enter Try.func128, Try.ntmps128
 go_wp2_with (first | ((with_reducible refine gate_dst (N := 3) rfl ?_); refine box_event ?hg (N := 3) ?hd (cs := #[.int .i64 a1_0, .int .i64 a1_1]) (t := 71) ?hr ?_; (case hd => rfl); (case hg => rfl); (case hr => first | (go_simp; done) | (go_simp; rfl)); intro gb176 hg w4 hbox hb; have n0_ := Aside0.mk (below_step (wz HB.out) hb); have n1_ := Aside0.mk (hbox); have n2_ := Aside0.mk ((by rw [hg]; exact (below_size (wz HB.out)) : w.heap.size ≤ gb176)); have n3_ := Aside0.mk ((by rw [hg]; exact (below_size (wz HB.out)) : w.heap.size ≤ gb176)); clear HB; have HB := n0_; have BK176 := n1_; have GW176 := n2_; have GE176 := n3_; clear n0_ n1_ n2_ n3_; clear hb hbox hg; have hcz5_0 : w4.cell? ⟨gb176, 0, none⟩ = some (.int .i64 a1_0) := (blk_cell BK176.out 0).trans rfl; have hcz5_1 : w4.cell? ⟨gb176, 1, none⟩ = some (.int .i64 a1_1) := (blk_cell BK176.out 1).trans rfl; have hfz5_0 := blk_frozen BK176.out 0; have hfz5_1 := blk_frozen BK176.out 1) | ((with_reducible refine gate_callee (f := 159) rfl ?_); refine goesL_ (some 7) rfl rfl Try.func159 (by kernel_rfl) rfl #[.slice A0 l0.length c0, .agg #[.int .i64 a1_0, .int .i64 a1_1]] rfl (by (try simp only [List.map_toArray, List.map_cons, List.map_nil]); first | done | rfl | (simp only [List.length_drop, List.length_take]; rfl)) ?_; (with_reducible refine (slices_Index_2_int_2_int.calls k _ _ l0 a1_0 a1_1 t177 _ ?side1 ?side2 A3.out).mono ?_); (case side1 => exact cz HR0.out HB.out); (case side2 => exact HC0.out); rintro e w6 ⟨rfl, hb⟩; refine ⟨_, rfl, ?_⟩; have n0_ := Aside0.mk (blk_below (bz BK176.out) hb); have n1_ := Aside0.mk (below_step (wz HB.out) hb); clear BK176; clear HB; have BK176 := n0_; have HB := n1_; clear n0_ n1_; (try clear hb); (try clear hb2); (try clear hk); (try clear hi)))
 go_ret
 exact ⟨by first | rfl | (simp [errW_none, errW_some] <;> rfl) | (simp [*, errW_none, errW_some] <;> rfl), wz HB.out⟩
def Pxc.f (k : Nat) (a0_0 : Int) (l0_1 : List ByteArray) (l0_2 : List (S80)) (a1 : Int) (a2 : Int) : Option (Bool) := (Pxb.f a0_0 l0_1 l0_2).bind fun bt179 => ((slices_Contains_2_int_2_int.f k bt179.1 a1 a2).bind fun t183 => (some t183))
theorem Pxc.mono : ∀ a0 a1 a2 a3 a4 k, LeO (Pxc.f k a0 a1 a2 a3 a4) (Pxc.f (k + 1) a0 a1 a2 a3 a4) := by
 intro a0 a1 a2 a3 a4 k
 unfold Pxc.f
 repeat' first
   | (with_reducible exact slices_Contains_2_int_2_int.mono _ _ _ _)
   | (with_reducible exact LeO.refl _)
   | (with_reducible exact LeO.none _)
   | (with_reducible refine LeO.ite ?_ ?_)
   | (with_reducible refine LeO.bind ?_ (fun _ => ?_))
   | exact slices_Contains_2_int_2_int.mono _ _ _ _
   | exact LeO.none _
   | refine LeO.ite ?_ ?_
   | refine LeO.bind ?_ (fun _ => ?_)
set_option maxHeartbeats 8000000 in
set_option maxRecDepth 100000 in
theorem Pxc.calls (k : Nat) (a0_0 : Int) (A0_1 : Option Addr) (c0_1 : Nat) (l0_1 : List ByteArray) (A0_2 : Option Addr) (c0_2 : Nat) (l0_2 : List (S80)) (a1 : Int) (a2 : Int) (r : Bool) (w : World) (hr0_1 : Kd.C Kd.string w A0_1 l0_1.length l0_1) (hc0_1 : l0_1.length ≤ c0_1) (hr0_2 : Kd.C k80 w A0_2 l0_2.length l0_2) (hc0_2 : l0_2.length ≤ c0_2) (h : Pxc.f k a0_0 l0_1 l0_2 a1 a2 = some r) :
  Calls Try.prog 83 #[.agg #[.int .i64 a0_0, .slice A0_1 l0_1.length c0_1, .slice A0_2 l0_2.length c0_2], .int .i64 a1, .int .i64 a2] w fun e w' => e = .returned (.bool r) ∧ Below w.heap.size w w' := by
 have e6 := Try.underlying25
 have e7 := Try.underlying71
 have b3 := Aside0.mk hr0_1
 have b4 := Aside0.mk hc0_1
 clear hr0_1 hc0_1
 have b6 := Aside0.mk hr0_2
 have b5 := Aside0.mk hc0_2
 clear hr0_2 hc0_2
 have HB := Aside0.mk (Below.refl w.heap.size w)
 have H : ((Pxb.f a0_0 l0_1 l0_2).bind fun b0 => ((slices_Contains_2_int_2_int.f k b0.1 a1 a2).bind fun a5 => (some a5))) = some r := h
 clear h
 replace H := Option.bind_eq_some_iff.mp H
 obtain ⟨⟨a9, d1⟩, b9, H⟩ := H
 replace H : ((slices_Contains_2_int_2_int.f k a9 a1 a2).bind fun a5 => (some a5)) = some r := H
 have A4 := Aside0.mk b9
 clear b9
 replace H := Option.bind_eq_some_iff.mp H
 obtain ⟨a5, b8, H⟩ := H
 replace H : (some a5) = some r := H
 have A5 := Aside0.mk b8
 clear b8
 obtain rfl := Option.some.inj H
 go_enter Try.func83, Try.ntmps83
 go_wp2_with (first | ((with_reducible refine gate_dst (N := 3) rfl ?_); refine box_event ?hg (N := 3) ?hd (cs := #[.int .i64 a0_0, .slice A0_1 l0_1.length c0_1, .slice A0_2 l0_2.length c0_2]) (t := 25) ?hr ?_; (case hd => rfl); (case hg => rfl); (case hr => first | (go_simp; done) | (go_simp; rfl)); intro a4 hg w6 hbox hb; have a6 := Aside0.mk (below_step (wz HB.out) hb); have a8 := Aside0.mk (hbox); have a7 := Aside0.mk ((by rw [hg]; exact (below_size (wz HB.out)) : w.heap.size ≤ a4)); have b7 := Aside0.mk ((by rw [hg]; exact (below_size (wz HB.out)) : w.heap.size ≤ a4)); clear HB; have HB := a6; have a0 := a8; have e4 := a7; have e5 := b7; clear a6 a8 a7 b7; clear hb hbox hg; have d8 : w6.cell? ⟨a4, 0, none⟩ = some (.int .i64 a0_0) := (blk_cell a0.out 0).trans rfl; have d3 : w6.cell? ⟨a4, 1, none⟩ = some (.slice A0_1 l0_1.length c0_1) := (blk_cell a0.out 1).trans rfl; have d5 : w6.cell? ⟨a4, 2, none⟩ = some (.slice A0_2 l0_2.length c0_2) := (blk_cell a0.out 2).trans rfl; have d9 := blk_frozen a0.out 0; have e1 := blk_frozen a0.out 1; have e0 := blk_frozen a0.out 2) | ((with_reducible refine gate_callee (f := 30) rfl ?_); refine goesL_ (some 11) rfl rfl Try.func30 (by kernel_rfl) rfl #[.agg #[.int .i64 a0_0, .slice A0_1 l0_1.length c0_1, .slice A0_2 l0_2.length c0_2]] rfl (by (try simp only [List.map_toArray, List.map_cons, List.map_nil]); first | done | rfl | (simp only [List.length_drop, List.length_take]; rfl)) ?_; (with_reducible refine (Pxb.calls a0_0 _ _ l0_1 _ _ l0_2 a9 d1 _ ?b2 ?b1 ?e2 ?e3 A4.out).mono ?_); (case b2 => exact cz b3.out HB.out); (case b1 => exact b4.out); (case e2 => exact cz b6.out HB.out); (case e3 => exact b5.out); rintro e w8 ⟨e8, rfl, d0, hb⟩; refine ⟨_, rfl, ?_⟩; have a6 := Aside0.mk (Kd.R_lower d0 (below_size (wz HB.out))); have a8 := Aside0.mk (blk_below (bz a0.out) hb); have a7 := Aside0.mk (below_step (wz HB.out) hb); clear a0; clear HB; have a3 := a6; have a0 := a8; have HB := a7; clear a6 a8 a7; (try clear hb); (try clear d6); (try clear hk); (try clear hi); (try clear d0); obtain ⟨d2, d7, d4⟩ := Kd.R_slice a3.out; subst d4) | ((with_reducible refine gate_callee (f := 128) rfl ?_); refine goesL_ (some 18) rfl rfl Try.func128 (by kernel_rfl) rfl #[.slice d2 a9.length d7, .agg #[.int .i64 a1, .int .i64 a2]] rfl (by (try simp only [List.map_toArray, List.map_cons, List.map_nil]); first | done | rfl | (simp only [List.length_drop, List.length_take]; rfl)) ?_; (with_reducible refine (slices_Contains_2_int_2_int.calls k _ _ a9 a1 a2 a5 _ ?b2 ?b1 A5.out).mono ?_); (case b2 => repeat (first | exact (Kd.R_reads' a3.out).2.2 | (with_reducible refine Kd.C_alloc ?_ _) | (with_reducible refine Kd.C_drewN ?_ _) | (with_reducible refine Kd.C_drew ?_))); (case b1 => exact (Kd.R_reads' a3.out).2.1); rintro e e9 ⟨rfl, hb⟩; refine ⟨_, rfl, ?_⟩; have a6 := Aside0.mk (Kd.R_below (rz a3.out) hb); have a8 := Aside0.mk (blk_below (bz a0.out) hb); have a7 := Aside0.mk (below_step (wz HB.out) hb); clear a3; clear a0; clear HB; have a3 := a6; have a0 := a8; have HB := a7; clear a6 a8 a7; (try clear hb); (try clear d6); (try clear hk); (try clear hi)))
 go_ret
 exact ⟨by first | rfl | (simp [errW_none, errW_some] <;> rfl) | (simp [*, errW_none, errW_some] <;> rfl), wz HB.out⟩
def Pl35b.f (k : Nat)  : Option (Bool) := (some (([(⟨#[97]⟩ : ByteArray)] : List ByteArray) : List ByteArray)).bind fun y184 => ((some (([(⟨1, 0, 1⟩ : S80)] : List (S80)) : List (S80))).bind fun y187 => ((Pxb.f 2 y184 y187).bind fun bt191 => ((Pxa.f 2 y184 y187 (([(⟨0, 1⟩ : S71)] : List (S71)))).bind fun t198 => (if t198 = true then ((Pxd.f 2 y184 y187 (([(⟨0, 1⟩ : S71)] : List (S71)))).bind fun t202 => (if t202 = true then (some false) else ((Pxd.f 2 y184 y187 ([] : List (S71))).bind fun t203 => (if t203 = true then (if bt191.2 = 0 then ((Pr35a.f k bt191.1 (([(⟨0, 0⟩ : S71), (⟨1, 1⟩ : S71)] : List (S71)))).bind fun t207 => (if t207 = true then ((Pxc.f k 2 y184 y187 1 1).bind fun t208 => (if t208 = true then ((Pxc.f k 2 y184 y187 0 1).bind fun t209 => (some (!t209))) else (some false))) else (some false))) else (some false)) else (some false))))) else (some false)))))
theorem Pl35b.mono : ∀ k, LeO (Pl35b.f k ) (Pl35b.f (k + 1) ) := by
 intro  k
 unfold Pl35b.f
 repeat' first
   | (with_reducible exact Pxc.mono _ _ _ _ _ _)
   | (with_reducible exact Pr35a.mono _ _ _)
   | (with_reducible exact LeO.refl _)
   | (with_reducible exact LeO.none _)
   | (with_reducible refine LeO.ite ?_ ?_)
   | (with_reducible refine LeO.bind ?_ (fun _ => ?_))
   | exact Pxc.mono _ _ _ _ _ _
   | exact Pr35a.mono _ _ _
   | exact LeO.none _
   | refine LeO.ite ?_ ?_
   | refine LeO.bind ?_ (fun _ => ?_)
set_option maxHeartbeats 8000000 in
set_option maxRecDepth 100000 in
theorem Pl35b.calls (k : Nat)  (r : Bool) (w : World) (h : Pl35b.f k  = some r) (hr_ : Aside0 (r = true)) :
  Calls Try.prog 29 #[] w fun e w' => e = .returned (.bool r) ∧ Below w.heap.size w w' := by
 have o3 := Try.underlying80
 have p0 := Try.underlying25
 have o8 := Try.underlying71
 have HB := Aside0.mk (Below.refl w.heap.size w)
 have H : ((some (([(⟨#[97]⟩ : ByteArray)] : List ByteArray) : List ByteArray)).bind fun a2 => ((some (([(⟨1, 0, 1⟩ : S80)] : List (S80)) : List (S80))).bind fun a1 => ((Pxb.f 2 a2 a1).bind fun e0 => ((Pxa.f 2 a2 a1 (([(⟨0, 1⟩ : S71)] : List (S71)))).bind fun d7 => (if d7 = true then ((Pxd.f 2 a2 a1 (([(⟨0, 1⟩ : S71)] : List (S71)))).bind fun b9 => (if b9 = true then (some false) else ((Pxd.f 2 a2 a1 ([] : List (S71))).bind fun b5 => (if b5 = true then (if e0.2 = 0 then ((Pr35a.f k e0.1 (([(⟨0, 0⟩ : S71), (⟨1, 1⟩ : S71)] : List (S71)))).bind fun b0 => (if b0 = true then ((Pxc.f k 2 a2 a1 1 1).bind fun a9 => (if a9 = true then ((Pxc.f k 2 a2 a1 0 1).bind fun a7 => (some (!a7))) else (some false))) else (some false))) else (some false)) else (some false))))) else (some false)))))) = some r := h
 clear h
 obtain ⟨a2, f0⟩ : ∃ y_ : List ByteArray, y_ = (([(⟨#[97]⟩ : ByteArray)] : List ByteArray)) := ⟨_, rfl⟩
 replace H : ((some (([(⟨1, 0, 1⟩ : S80)] : List (S80)) : List (S80))).bind fun a1 => ((Pxb.f 2 a2 a1).bind fun e0 => ((Pxa.f 2 a2 a1 (([(⟨0, 1⟩ : S71)] : List (S71)))).bind fun d7 => (if d7 = true then ((Pxd.f 2 a2 a1 (([(⟨0, 1⟩ : S71)] : List (S71)))).bind fun b9 => (if b9 = true then (some false) else ((Pxd.f 2 a2 a1 ([] : List (S71))).bind fun b5 => (if b5 = true then (if e0.2 = 0 then ((Pr35a.f k e0.1 (([(⟨0, 0⟩ : S71), (⟨1, 1⟩ : S71)] : List (S71)))).bind fun b0 => (if b0 = true then ((Pxc.f k 2 a2 a1 1 1).bind fun a9 => (if a9 = true then ((Pxc.f k 2 a2 a1 0 1).bind fun a7 => (some (!a7))) else (some false))) else (some false))) else (some false)) else (some false))))) else (some false))))) = some r := by first | (rw [f0]; with_reducible exact H) | (have d1 := (Option.bind_some _ _).symm.trans H; rw [f0]; with_reducible exact d1) | (have d1 := (Option.bind_some _ _).symm.trans H; with_reducible exact d1) | with_reducible exact H | (rw [f0]; exact H) | exact H
 have g7 := Aside0.mk f0
 clear f0
 obtain ⟨a1, e9⟩ : ∃ y_ : List (S80), y_ = (([(⟨1, 0, 1⟩ : S80)] : List (S80))) := ⟨_, rfl⟩
 replace H : ((Pxb.f 2 a2 a1).bind fun e0 => ((Pxa.f 2 a2 a1 (([(⟨0, 1⟩ : S71)] : List (S71)))).bind fun d7 => (if d7 = true then ((Pxd.f 2 a2 a1 (([(⟨0, 1⟩ : S71)] : List (S71)))).bind fun b9 => (if b9 = true then (some false) else ((Pxd.f 2 a2 a1 ([] : List (S71))).bind fun b5 => (if b5 = true then (if e0.2 = 0 then ((Pr35a.f k e0.1 (([(⟨0, 0⟩ : S71), (⟨1, 1⟩ : S71)] : List (S71)))).bind fun b0 => (if b0 = true then ((Pxc.f k 2 a2 a1 1 1).bind fun a9 => (if a9 = true then ((Pxc.f k 2 a2 a1 0 1).bind fun a7 => (some (!a7))) else (some false))) else (some false))) else (some false)) else (some false))))) else (some false)))) = some r := by first | (rw [e9]; with_reducible exact H) | (have d1 := (Option.bind_some _ _).symm.trans H; rw [e9]; with_reducible exact d1) | (have d1 := (Option.bind_some _ _).symm.trans H; with_reducible exact d1) | with_reducible exact H | (rw [e9]; exact H) | exact H
 have g6 := Aside0.mk e9
 clear e9
 replace H := Option.bind_eq_some_iff.mp H
 obtain ⟨⟨d6, d0⟩, i4, H⟩ := H
 replace H : ((Pxa.f 2 a2 a1 (([(⟨0, 1⟩ : S71)] : List (S71)))).bind fun d7 => (if d7 = true then ((Pxd.f 2 a2 a1 (([(⟨0, 1⟩ : S71)] : List (S71)))).bind fun b9 => (if b9 = true then (some false) else ((Pxd.f 2 a2 a1 ([] : List (S71))).bind fun b5 => (if b5 = true then (if d0 = 0 then ((Pr35a.f k d6 (([(⟨0, 0⟩ : S71), (⟨1, 1⟩ : S71)] : List (S71)))).bind fun b0 => (if b0 = true then ((Pxc.f k 2 a2 a1 1 1).bind fun a9 => (if a9 = true then ((Pxc.f k 2 a2 a1 0 1).bind fun a7 => (some (!a7))) else (some false))) else (some false))) else (some false)) else (some false))))) else (some false))) = some r := H
 have A1 := Aside0.mk i4
 clear i4
 obtain ⟨f8, f1⟩ : ∃ y_ : List (S71), y_ = (([(⟨0, 1⟩ : S71)] : List (S71))) := ⟨_, rfl⟩
 replace H : ((Pxa.f 2 a2 a1 f8).bind fun d7 => (if d7 = true then ((Pxd.f 2 a2 a1 (([(⟨0, 1⟩ : S71)] : List (S71)))).bind fun b9 => (if b9 = true then (some false) else ((Pxd.f 2 a2 a1 ([] : List (S71))).bind fun b5 => (if b5 = true then (if d0 = 0 then ((Pr35a.f k d6 (([(⟨0, 0⟩ : S71), (⟨1, 1⟩ : S71)] : List (S71)))).bind fun b0 => (if b0 = true then ((Pxc.f k 2 a2 a1 1 1).bind fun a9 => (if a9 = true then ((Pxc.f k 2 a2 a1 0 1).bind fun a7 => (some (!a7))) else (some false))) else (some false))) else (some false)) else (some false))))) else (some false))) = some r := by first | (rw [f1]; with_reducible exact H) | (have d1 := (Option.bind_some _ _).symm.trans H; rw [f1]; with_reducible exact d1) | (have d1 := (Option.bind_some _ _).symm.trans H; with_reducible exact d1) | with_reducible exact H | (rw [f1]; exact H) | exact H
 have g1 := Aside0.mk f1
 clear f1
 replace H := Option.bind_eq_some_iff.mp H
 obtain ⟨d7, i3, H⟩ := H
 replace H : (if d7 = true then ((Pxd.f 2 a2 a1 (([(⟨0, 1⟩ : S71)] : List (S71)))).bind fun b9 => (if b9 = true then (some false) else ((Pxd.f 2 a2 a1 ([] : List (S71))).bind fun b5 => (if b5 = true then (if d0 = 0 then ((Pr35a.f k d6 (([(⟨0, 0⟩ : S71), (⟨1, 1⟩ : S71)] : List (S71)))).bind fun b0 => (if b0 = true then ((Pxc.f k 2 a2 a1 1 1).bind fun a9 => (if a9 = true then ((Pxc.f k 2 a2 a1 0 1).bind fun a7 => (some (!a7))) else (some false))) else (some false))) else (some false)) else (some false))))) else (some false)) = some r := H
 have A2 := Aside0.mk i3
 clear i3
 by_cases c3 : d7 = true
 ·subst c3
  have H1 : ((Pxd.f 2 a2 a1 (([(⟨0, 1⟩ : S71)] : List (S71)))).bind fun b9 => (if b9 = true then (some false) else ((Pxd.f 2 a2 a1 ([] : List (S71))).bind fun b5 => (if b5 = true then (if d0 = 0 then ((Pr35a.f k d6 (([(⟨0, 0⟩ : S71), (⟨1, 1⟩ : S71)] : List (S71)))).bind fun b0 => (if b0 = true then ((Pxc.f k 2 a2 a1 1 1).bind fun a9 => (if a9 = true then ((Pxc.f k 2 a2 a1 0 1).bind fun a7 => (some (!a7))) else (some false))) else (some false))) else (some false)) else (some false))))) = some r := by rw [if_pos rfl] at H; exact H
  clear H
  have H := H1
  clear H1
  obtain ⟨h9, e7⟩ : ∃ y_ : List (S71), y_ = (([(⟨0, 1⟩ : S71)] : List (S71))) := ⟨_, rfl⟩
  replace H : ((Pxd.f 2 a2 a1 h9).bind fun b9 => (if b9 = true then (some false) else ((Pxd.f 2 a2 a1 ([] : List (S71))).bind fun b5 => (if b5 = true then (if d0 = 0 then ((Pr35a.f k d6 (([(⟨0, 0⟩ : S71), (⟨1, 1⟩ : S71)] : List (S71)))).bind fun b0 => (if b0 = true then ((Pxc.f k 2 a2 a1 1 1).bind fun a9 => (if a9 = true then ((Pxc.f k 2 a2 a1 0 1).bind fun a7 => (some (!a7))) else (some false))) else (some false))) else (some false)) else (some false))))) = some r := by first | (rw [e7]; with_reducible exact H) | (have d1 := (Option.bind_some _ _).symm.trans H; rw [e7]; with_reducible exact d1) | (have d1 := (Option.bind_some _ _).symm.trans H; with_reducible exact d1) | with_reducible exact H | (rw [e7]; exact H) | exact H
  have g8 := Aside0.mk e7
  clear e7
  replace H := Option.bind_eq_some_iff.mp H
  obtain ⟨b9, i2, H⟩ := H
  replace H : (if b9 = true then (some false) else ((Pxd.f 2 a2 a1 ([] : List (S71))).bind fun b5 => (if b5 = true then (if d0 = 0 then ((Pr35a.f k d6 (([(⟨0, 0⟩ : S71), (⟨1, 1⟩ : S71)] : List (S71)))).bind fun b0 => (if b0 = true then ((Pxc.f k 2 a2 a1 1 1).bind fun a9 => (if a9 = true then ((Pxc.f k 2 a2 a1 0 1).bind fun a7 => (some (!a7))) else (some false))) else (some false))) else (some false)) else (some false)))) = some r := H
  have A4 := Aside0.mk i2
  clear i2
  by_cases c5 : b9 = true
  ·subst c5
   have H1 : (some false) = some r := by rw [if_pos rfl] at H; exact H
   clear H
   have H := H1
   clear H1
   obtain rfl := Option.some.inj H
   exact absurd hr_.out (by decide)
  ·replace c5 := Bool.eq_false_iff.mpr c5
   subst c5
   have H1 : ((Pxd.f 2 a2 a1 ([] : List (S71))).bind fun b5 => (if b5 = true then (if d0 = 0 then ((Pr35a.f k d6 (([(⟨0, 0⟩ : S71), (⟨1, 1⟩ : S71)] : List (S71)))).bind fun b0 => (if b0 = true then ((Pxc.f k 2 a2 a1 1 1).bind fun a9 => (if a9 = true then ((Pxc.f k 2 a2 a1 0 1).bind fun a7 => (some (!a7))) else (some false))) else (some false))) else (some false)) else (some false))) = some r := by rw [if_neg (show ¬ (false = true) by decide)] at H; exact H
   clear H
   have H := H1
   clear H1
   replace H := Option.bind_eq_some_iff.mp H
   obtain ⟨b5, h5, H⟩ := H
   replace H : (if b5 = true then (if d0 = 0 then ((Pr35a.f k d6 (([(⟨0, 0⟩ : S71), (⟨1, 1⟩ : S71)] : List (S71)))).bind fun b0 => (if b0 = true then ((Pxc.f k 2 a2 a1 1 1).bind fun a9 => (if a9 = true then ((Pxc.f k 2 a2 a1 0 1).bind fun a7 => (some (!a7))) else (some false))) else (some false))) else (some false)) else (some false)) = some r := H
   have n5 := Aside0.mk h5
   clear h5
   by_cases g4 : b5 = true
   ·subst g4
    have H1 : (if d0 = 0 then ((Pr35a.f k d6 (([(⟨0, 0⟩ : S71), (⟨1, 1⟩ : S71)] : List (S71)))).bind fun b0 => (if b0 = true then ((Pxc.f k 2 a2 a1 1 1).bind fun a9 => (if a9 = true then ((Pxc.f k 2 a2 a1 0 1).bind fun a7 => (some (!a7))) else (some false))) else (some false))) else (some false)) = some r := by rw [if_pos rfl] at H; exact H
    clear H
    have H := H1
    clear H1
    by_cases f5 : d0 = 0
    ·rw [if_pos f5] at H
     have c27b0 : (d0 == 0) = true := beq_iff_eq.mpr f5
     have c27b1 : (d0 != 0) = false := bne_eq_false_iff_eq.mpr f5
     clear f5
     obtain ⟨h3, e8⟩ : ∃ y_ : List (S71), y_ = (([(⟨0, 0⟩ : S71), (⟨1, 1⟩ : S71)] : List (S71))) := ⟨_, rfl⟩
     replace H : ((Pr35a.f k d6 h3).bind fun b0 => (if b0 = true then ((Pxc.f k 2 a2 a1 1 1).bind fun a9 => (if a9 = true then ((Pxc.f k 2 a2 a1 0 1).bind fun a7 => (some (!a7))) else (some false))) else (some false))) = some r := by first | (rw [e8]; with_reducible exact H) | (have d1 := (Option.bind_some _ _).symm.trans H; rw [e8]; with_reducible exact d1) | (have d1 := (Option.bind_some _ _).symm.trans H; with_reducible exact d1) | with_reducible exact H | (rw [e8]; exact H) | exact H
     have g3 := Aside0.mk e8
     clear e8
     replace H := Option.bind_eq_some_iff.mp H
     obtain ⟨b0, h1, H⟩ := H
     replace H : (if b0 = true then ((Pxc.f k 2 a2 a1 1 1).bind fun a9 => (if a9 = true then ((Pxc.f k 2 a2 a1 0 1).bind fun a7 => (some (!a7))) else (some false))) else (some false)) = some r := H
     have n4 := Aside0.mk h1
     clear h1
     by_cases g0 : b0 = true
     ·subst g0
      have H1 : ((Pxc.f k 2 a2 a1 1 1).bind fun a9 => (if a9 = true then ((Pxc.f k 2 a2 a1 0 1).bind fun a7 => (some (!a7))) else (some false))) = some r := by rw [if_pos rfl] at H; exact H
      clear H
      have H := H1
      clear H1
      replace H := Option.bind_eq_some_iff.mp H
      obtain ⟨a9, h6, H⟩ := H
      replace H : (if a9 = true then ((Pxc.f k 2 a2 a1 0 1).bind fun a7 => (some (!a7))) else (some false)) = some r := H
      have n6 := Aside0.mk h6
      clear h6
      by_cases f9 : a9 = true
      ·subst f9
       have H1 : ((Pxc.f k 2 a2 a1 0 1).bind fun a7 => (some (!a7))) = some r := by rw [if_pos rfl] at H; exact H
       clear H
       have H := H1
       clear H1
       replace H := Option.bind_eq_some_iff.mp H
       obtain ⟨a7, h2, H⟩ := H
       replace H : (some (!a7)) = some r := H
       have n7 := Aside0.mk h2
       clear h2
       obtain rfl := Option.some.inj H
       go_enter Try.func29, Try.ntmps29
       go_wp2_with (first | ((with_reducible refine gate_dst (N := 4) rfl ?_); (try (refine gate_guard (by rfl) ?_; dsimp only)); refine Kd.R_lit Kd.string _ 9 ?hg (N := 4) ?hd (xs := ([(⟨#[97]⟩ : ByteArray)] : List ByteArray)) (inner := [.string (⟨#[97]⟩ : ByteArray)]) (ok := fun _ => True) (okp := fun _ => True) ?hr ?hp (fun _ hk => hk) trivial (Below.refl _ _) (Nat.le_refl _) (by simp) ?_; (case hd => rfl); (case hg => rfl); (case hr => first | (go_simp; done) | (go_simp; rfl)); (case hp => exact (Reps.one (show Kd.M Kd.string _ _ _ (⟨#[97]⟩ : ByteArray) [.string (⟨#[97]⟩ : ByteArray)] from rfl) (Reps.none _ _))); intro o4 p5 f6 hb hg_ hnew_; clear hg_ hnew_; (first | rw [← g7.out] at f6 | (simp only [Int.reduceToNat] at f6; rw [← g7.out] at f6)); have b1 := Aside0.mk (Kd.R_lower f6 (below_size (wz HB.out))); have b2 := Aside0.mk (below_step (wz HB.out) hb); clear HB; have a3 := b1; have HB := b2; clear b1 b2; clear hb f6) | ((with_reducible refine gate_dst (N := 6) rfl ?_); (try (refine gate_guard (by rfl) ?_; dsimp only)); refine Kd.R_lit k80 _ 80 ?hg (N := 6) ?hd (xs := ([(⟨1, 0, 1⟩ : S80)] : List (S80))) (inner := [.int .i64 1, .int .i64 0, .int .i64 1]) (ok := fun _ => True) (okp := fun _ => True) ?hr ?hp (fun _ hk => hk) trivial (Below.refl _ _) (Nat.le_refl _) (by simp) ?_; (case hd => rfl); (case hg => rfl); (case hr => first | (go_simp; done) | (go_simp; rfl)); (case hp => exact (Reps.c3 (show Kd.M k80 _ _ _ (⟨1, 0, 1⟩ : S80) [.int .i64 1, .int .i64 0, .int .i64 1] from (k80_mkM _ _ _ (⟨1, 0, 1⟩ : S80) )) (Reps.none _ _))); intro o2 p7 f4 hb hg_ hnew_; clear hg_ hnew_; (first | rw [← g6.out] at f4 | (simp only [Int.reduceToNat] at f4; rw [← g6.out] at f4)); have b1 := Aside0.mk (Kd.R_below (rz a3.out) hb); have b2 := Aside0.mk (Kd.R_lower f4 (below_size (wz HB.out))); have b4 := Aside0.mk (below_step (wz HB.out) hb); clear a3; clear HB; have a3 := b1; have a4 := b2; have HB := b4; clear b1 b2 b4; clear hb f4; obtain ⟨d8, d3, j2⟩ := Kd.R_slice a4.out; subst j2; obtain ⟨d4, d2, j4⟩ := Kd.R_slice a3.out; subst j4) | ((with_reducible refine gate_dst (N := 1) rfl ?_); (try (refine gate_guard (by rfl) ?_; dsimp only)); refine box_event ?hg (N := 1) ?hd (cs := #[.int .i64 0, .slice none 0 0, .slice none 0 0]) (t := 25) ?hr ?_; (case hd => rfl); (case hg => rfl); (case hr => first | (go_simp; done) | (go_simp; rfl)); intro a5 hg h8 hbox hb; have b1 := Aside0.mk (Kd.R_below (rz a3.out) hb); have b2 := Aside0.mk (Kd.R_below (rz a4.out) hb); have b4 := Aside0.mk (below_step (wz HB.out) hb); have b7 := Aside0.mk (hbox); have b6 := Aside0.mk ((by rw [hg]; exact (below_size (wz HB.out)) : w.heap.size ≤ a5)); have b8 := Aside0.mk ((by rw [hg]; exact (below_size (wz HB.out)) : w.heap.size ≤ a5)); clear a3; clear a4; clear HB; have a3 := b1; have a4 := b2; have HB := b4; have a0 := b7; have n9 := b6; have n8 := b8; clear b1 b2 b4 b7 b6 b8; clear hb hbox hg; have n1 : h8.cell? ⟨a5, 0, none⟩ = some (.int .i64 0) := (blk_cell a0.out 0).trans rfl; have l5 : h8.cell? ⟨a5, 1, none⟩ = some (.slice none 0 0) := (blk_cell a0.out 1).trans rfl; have k3 : h8.cell? ⟨a5, 2, none⟩ = some (.slice none 0 0) := (blk_cell a0.out 2).trans rfl; have k2 := blk_frozen a0.out 0; have k7 := blk_frozen a0.out 1; have m9 := blk_frozen a0.out 2) | ((with_reducible refine gate_callee (f := 30) rfl ?_); refine goesL_ (some 10) rfl rfl Try.func30 (by kernel_rfl) rfl #[.agg #[.int .i64 2, .slice d4 a2.length d2, .slice d8 a1.length d3]] rfl (by (try simp only [List.map_toArray, List.map_cons, List.map_nil]); first | done | rfl | (simp only [List.length_drop, List.length_take]; rfl)) ?_; (with_reducible refine (Pxb.calls 2 _ _ a2 _ _ a1 d6 d0 _ ?e3 ?e4 ?e5 ?e2 A1.out).mono ?_); (case e3 => refine (Kd.R_reads' (e := 9) (base := w.heap.size) (ok := fun k_ => True) (n := a2.length) (c := d2) ?_).2.2; exact (rz (Kd.R_mono (Kd.R_far (p := ⟨a5, 2, none⟩) (Kd.R_far (p := ⟨a5, 1, none⟩) (Kd.R_far (p := ⟨a5, 0, none⟩) (Kd.R_types a3.out a0.out (by decide)) (fun _ hk => hk.2) (.int .i64 2)) (fun _ hk => hk.2) (.slice d4 a2.length d2)) (fun _ hk => hk.2) (.slice d8 a1.length d3)) (fun _ h_ => h_.1)))); (case e4 => exact (Kd.R_reads' a3.out).2.1); (case e5 => refine (Kd.R_reads' (e := 80) (base := w.heap.size) (ok := fun k_ => True) (n := a1.length) (c := d3) ?_).2.2; exact (rz (Kd.R_mono (Kd.R_far (p := ⟨a5, 2, none⟩) (Kd.R_far (p := ⟨a5, 1, none⟩) (Kd.R_far (p := ⟨a5, 0, none⟩) (Kd.R_types a4.out a0.out (by decide)) (fun _ hk => hk.2) (.int .i64 2)) (fun _ hk => hk.2) (.slice d4 a2.length d2)) (fun _ hk => hk.2) (.slice d8 a1.length d3)) (fun _ h_ => h_.1)))); (case e2 => exact (Kd.R_reads' a4.out).2.1); rintro e g9 ⟨o7, rfl, i1, hb⟩; refine ⟨_, rfl, ?_⟩; have b1 := Aside0.mk (Kd.R_below (rz (Kd.R_mono (Kd.R_far (p := ⟨a5, 2, none⟩) (Kd.R_far (p := ⟨a5, 1, none⟩) (Kd.R_far (p := ⟨a5, 0, none⟩) (Kd.R_types a3.out a0.out (by decide)) (fun _ hk => hk.2) (.int .i64 2)) (fun _ hk => hk.2) (.slice d4 a2.length d2)) (fun _ hk => hk.2) (.slice d8 a1.length d3)) (fun _ h_ => h_.1))) hb); have b2 := Aside0.mk (Kd.R_below (rz (Kd.R_mono (Kd.R_far (p := ⟨a5, 2, none⟩) (Kd.R_far (p := ⟨a5, 1, none⟩) (Kd.R_far (p := ⟨a5, 0, none⟩) (Kd.R_types a4.out a0.out (by decide)) (fun _ hk => hk.2) (.int .i64 2)) (fun _ hk => hk.2) (.slice d4 a2.length d2)) (fun _ hk => hk.2) (.slice d8 a1.length d3)) (fun _ h_ => h_.1))) hb); have b4 := Aside0.mk (Kd.R_lower i1 (below_size (wz HB.out))); have b7 := Aside0.mk (blk_below (g := a5) (o := .cells #[.int .i64 2, .slice d4 a2.length d2, .slice d8 a1.length d3] 25 (0, 0)) (by (with_reducible repeat (first | refine blk_drewN ?_ _ | refine blk_drew ?_ | refine blk_alloc ?_ _)); refine blk_put (cs := #[.int .i64 2, .slice d4 a2.length d2, .slice none 0 0]) ?_ 2 _ rfl; (with_reducible repeat (first | refine blk_drewN ?_ _ | refine blk_drew ?_ | refine blk_alloc ?_ _)); refine blk_put (cs := #[.int .i64 2, .slice none 0 0, .slice none 0 0]) ?_ 1 _ rfl; (with_reducible repeat (first | refine blk_drewN ?_ _ | refine blk_drew ?_ | refine blk_alloc ?_ _)); refine blk_put (cs := #[.int .i64 0, .slice none 0 0, .slice none 0 0]) ?_ 0 _ rfl; (with_reducible repeat (first | refine blk_drewN ?_ _ | refine blk_drew ?_ | refine blk_alloc ?_ _)); exact a0.out) hb); have b6 := Aside0.mk (below_step (wz HB.out) hb); clear a3; clear a4; clear a0; clear HB; have a3 := b1; have a4 := b2; have a6 := b4; have a0 := b7; have HB := b6; clear b1 b2 b4 b7 b6; (try clear hb); (try clear f7); (try clear hk); (try clear hi); (try clear i1); have n2 : g9.cell? ⟨a5, 0, none⟩ = some (.int .i64 2) := (blk_cell a0.out 0).trans rfl; have j8 : g9.cell? ⟨a5, 1, none⟩ = some (.slice d4 a2.length d2) := (blk_cell a0.out 1).trans rfl; have k0 : g9.cell? ⟨a5, 2, none⟩ = some (.slice d8 a1.length d3) := (blk_cell a0.out 2).trans rfl; have j9 := blk_frozen a0.out 0; have k5 := blk_frozen a0.out 1; have m2 := blk_frozen a0.out 2) | ((with_reducible refine gate_dst (N := 15) rfl ?_); (try (refine gate_guard (by rfl) ?_; dsimp only)); refine Kd.R_lit k71 _ 71 ?hg (N := 15) ?hd (xs := ([(⟨0, 1⟩ : S71)] : List (S71))) (inner := [.int .i64 0, .int .i64 1]) (ok := fun _ => True) (okp := fun _ => True) ?hr ?hp (fun _ hk => hk) trivial (Below.refl _ _) (Nat.le_refl _) (by simp) ?_; (case hd => rfl); (case hg => rfl); (case hr => first | (go_simp; done) | (go_simp; rfl)); (case hp => exact (Reps.c2 (show Kd.M k71 _ _ _ (⟨0, 1⟩ : S71) [.int .i64 0, .int .i64 1] from (k71_mkM _ _ _ (⟨0, 1⟩ : S71) )) (Reps.none _ _))); intro p4 p9 f2 hb hg_ hnew_; clear hg_ hnew_; (first | rw [← g1.out] at f2 | (simp only [Int.reduceToNat] at f2; rw [← g1.out] at f2)); have b1 := Aside0.mk (Kd.R_below (rz a3.out) hb); have b2 := Aside0.mk (Kd.R_below (rz a4.out) hb); have b4 := Aside0.mk (Kd.R_elder' (rz a6.out) (Kd.R_base f2) hb); have b7 := Aside0.mk (Kd.R_lower (Kd.R_new' f2 (Kd.R_lt (rz a6.out))) (below_size (wz HB.out))); have b6 := Aside0.mk (blk_below (bz a0.out) hb); have b8 := Aside0.mk (below_step (wz HB.out) hb); clear a3; clear a4; clear a6; clear a0; clear HB; have a3 := b1; have a4 := b2; have a6 := b4; have a8 := b7; have a0 := b6; have HB := b8; clear b1 b2 b4 b7 b6 b8; clear hb f2; obtain ⟨i9, j5, i8⟩ := Kd.R_slice a8.out; subst i8) | ((with_reducible refine gate_callee (f := 81) rfl ?_); refine goesL_ (some 16) rfl rfl Try.func81 (by kernel_rfl) rfl #[.agg #[.int .i64 2, .slice d4 a2.length d2, .slice d8 a1.length d3], .slice i9 f8.length j5] rfl (by (try simp only [List.map_toArray, List.map_cons, List.map_nil]); first | done | rfl | (simp only [List.length_drop, List.length_take]; rfl)) ?_; (with_reducible refine (Pxa.calls 2 _ _ a2 _ _ a1 _ _ f8 true _ ?e3 ?e4 ?e5 ?e2 ?g2 ?g5 A2.out).mono ?_); (case e3 => repeat (first | exact (Kd.R_reads' a3.out).2.2 | (with_reducible refine Kd.C_alloc ?_ _) | (with_reducible refine Kd.C_drewN ?_ _) | (with_reducible refine Kd.C_drew ?_))); (case e4 => exact (Kd.R_reads' a3.out).2.1); (case e5 => repeat (first | exact (Kd.R_reads' a4.out).2.2 | (with_reducible refine Kd.C_alloc ?_ _) | (with_reducible refine Kd.C_drewN ?_ _) | (with_reducible refine Kd.C_drew ?_))); (case e2 => exact (Kd.R_reads' a4.out).2.1); (case g2 => repeat (first | exact (Kd.R_reads' a8.out).2.2 | (with_reducible refine Kd.C_alloc ?_ _) | (with_reducible refine Kd.C_drewN ?_ _) | (with_reducible refine Kd.C_drew ?_))); (case g5 => exact (Kd.R_reads' a8.out).2.1); rintro e h4 ⟨rfl, hb⟩; refine ⟨_, rfl, ?_⟩; have b1 := Aside0.mk (Kd.R_below (rz a3.out) hb); have b2 := Aside0.mk (Kd.R_below (rz a4.out) hb); have b4 := Aside0.mk (Kd.R_below (rz a6.out) hb); have b7 := Aside0.mk (Kd.R_below (rz a8.out) hb); have b6 := Aside0.mk (blk_below (bz a0.out) hb); have b8 := Aside0.mk (below_step (wz HB.out) hb); clear a3; clear a4; clear a6; clear a8; clear a0; clear HB; have a3 := b1; have a4 := b2; have a6 := b4; have a8 := b7; have a0 := b6; have HB := b8; clear b1 b2 b4 b7 b6 b8; (try clear hb); (try clear f7); (try clear hk); (try clear hi); have k9 : h4.cell? ⟨a5, 0, none⟩ = some (.int .i64 2) := (blk_cell a0.out 0).trans rfl; have m4 : h4.cell? ⟨a5, 1, none⟩ = some (.slice d4 a2.length d2) := (blk_cell a0.out 1).trans rfl; have m6 : h4.cell? ⟨a5, 2, none⟩ = some (.slice d8 a1.length d3) := (blk_cell a0.out 2).trans rfl; have l6 := blk_frozen a0.out 0; have n0 := blk_frozen a0.out 1; have j6 := blk_frozen a0.out 2) | ((with_reducible refine gate_dst (N := 20) rfl ?_); (try (refine gate_guard (by rfl) ?_; dsimp only)); refine Kd.R_lit k71 _ 71 ?hg (N := 20) ?hd (xs := ([(⟨0, 1⟩ : S71)] : List (S71))) (inner := [.int .i64 0, .int .i64 1]) (ok := fun _ => True) (okp := fun _ => True) ?hr ?hp (fun _ hk => hk) trivial (Below.refl _ _) (Nat.le_refl _) (by simp) ?_; (case hd => rfl); (case hg => rfl); (case hr => first | (go_simp; done) | (go_simp; rfl)); (case hp => exact (Reps.c2 (show Kd.M k71 _ _ _ (⟨0, 1⟩ : S71) [.int .i64 0, .int .i64 1] from (k71_mkM _ _ _ (⟨0, 1⟩ : S71) )) (Reps.none _ _))); intro o6 p8 e6 hb hg_ hnew_; clear hg_ hnew_; (first | rw [← g8.out] at e6 | (simp only [Int.reduceToNat] at e6; rw [← g8.out] at e6)); have b1 := Aside0.mk (Kd.R_below (rz a3.out) hb); have b2 := Aside0.mk (Kd.R_below (rz a4.out) hb); have b4 := Aside0.mk (Kd.R_elder' (rz a6.out) (Kd.R_base e6) hb); have b7 := Aside0.mk (Kd.R_elder' (rz a8.out) (Kd.R_base e6) hb); have b6 := Aside0.mk (Kd.R_lower (Kd.R_new' (Kd.R_new' e6 (Kd.R_lt (rz a6.out))) (Kd.R_lt (rz a8.out))) (below_size (wz HB.out))); have b8 := Aside0.mk (blk_below (bz a0.out) hb); have d5 := Aside0.mk (below_step (wz HB.out) hb); clear a3; clear a4; clear a6; clear a8; clear a0; clear HB; have a3 := b1; have a4 := b2; have a6 := b4; have a8 := b7; have b3 := b6; have a0 := b8; have HB := d5; clear b1 b2 b4 b7 b6 b8 d5; clear hb e6; obtain ⟨p1, p2, i7⟩ := Kd.R_slice b3.out; subst i7) | (go_at_call 65; (with_reducible refine (Pxd.calls 2 _ _ a2 _ _ a1 _ _ h9 false _ ?e3 ?e4 ?e5 ?e2 ?g2 ?g5 A4.out).mono ?_); (case e3 => repeat (first | exact (Kd.R_reads' a3.out).2.2 | (with_reducible refine Kd.C_alloc ?_ _) | (with_reducible refine Kd.C_drewN ?_ _) | (with_reducible refine Kd.C_drew ?_))); (case e4 => exact (Kd.R_reads' a3.out).2.1); (case e5 => repeat (first | exact (Kd.R_reads' a4.out).2.2 | (with_reducible refine Kd.C_alloc ?_ _) | (with_reducible refine Kd.C_drewN ?_ _) | (with_reducible refine Kd.C_drew ?_))); (case e2 => exact (Kd.R_reads' a4.out).2.1); (case g2 => repeat (first | exact (Kd.R_reads' b3.out).2.2 | (with_reducible refine Kd.C_alloc ?_ _) | (with_reducible refine Kd.C_drewN ?_ _) | (with_reducible refine Kd.C_drew ?_))); (case g5 => exact (Kd.R_reads' b3.out).2.1); rintro e h7 ⟨rfl, hb⟩; have b1 := Aside0.mk (Kd.R_below (rz a3.out) hb); have b2 := Aside0.mk (Kd.R_below (rz a4.out) hb); have b4 := Aside0.mk (Kd.R_below (rz a6.out) hb); have b7 := Aside0.mk (Kd.R_below (rz a8.out) hb); have b6 := Aside0.mk (Kd.R_below (rz b3.out) hb); have b8 := Aside0.mk (blk_below (bz a0.out) hb); have d5 := Aside0.mk (below_step (wz HB.out) hb); clear a3; clear a4; clear a6; clear a8; clear b3; clear a0; clear HB; have a3 := b1; have a4 := b2; have a6 := b4; have a8 := b7; have b3 := b6; have a0 := b8; have HB := d5; clear b1 b2 b4 b7 b6 b8 d5; (try clear hb); (try clear f7); (try clear hk); (try clear hi); have l9 : h7.cell? ⟨a5, 0, none⟩ = some (.int .i64 2) := (blk_cell a0.out 0).trans rfl; have m7 : h7.cell? ⟨a5, 1, none⟩ = some (.slice d4 a2.length d2) := (blk_cell a0.out 1).trans rfl; have k6 : h7.cell? ⟨a5, 2, none⟩ = some (.slice d8 a1.length d3) := (blk_cell a0.out 2).trans rfl; have l8 := blk_frozen a0.out 0; have k8 := blk_frozen a0.out 1; have n3 := blk_frozen a0.out 2) | (go_at_call 65; (refine (Pxd.calls 2 _ _ a2 _ _ a1 _ _ ([] : List (S71)) true _ ?e3 ?e4 ?e5 ?e2 ?g2 ?g5 n5.out).mono ?_); (case e3 => repeat (first | exact (Kd.R_reads' a3.out).2.2 | (with_reducible refine Kd.C_alloc ?_ _) | (with_reducible refine Kd.C_drewN ?_ _) | (with_reducible refine Kd.C_drew ?_))); (case e4 => exact (Kd.R_reads' a3.out).2.1); (case e5 => repeat (first | exact (Kd.R_reads' a4.out).2.2 | (with_reducible refine Kd.C_alloc ?_ _) | (with_reducible refine Kd.C_drewN ?_ _) | (with_reducible refine Kd.C_drew ?_))); (case e2 => exact (Kd.R_reads' a4.out).2.1); (case g2 => exact Kd.C_nil _ _); (case g5 => exact Nat.le_refl _); rintro e p6 ⟨rfl, hb⟩; have b1 := Aside0.mk (Kd.R_below (rz a3.out) hb); have b2 := Aside0.mk (Kd.R_below (rz a4.out) hb); have b4 := Aside0.mk (Kd.R_below (rz a6.out) hb); have b7 := Aside0.mk (Kd.R_below (rz a8.out) hb); have b6 := Aside0.mk (Kd.R_below (rz b3.out) hb); have b8 := Aside0.mk (blk_below (bz a0.out) hb); have d5 := Aside0.mk (below_step (wz HB.out) hb); clear a3; clear a4; clear a6; clear a8; clear b3; clear a0; clear HB; have a3 := b1; have a4 := b2; have a6 := b4; have a8 := b7; have b3 := b6; have a0 := b8; have HB := d5; clear b1 b2 b4 b7 b6 b8 d5; (try clear hb); (try clear f7); (try clear hk); (try clear hi)) | ((with_reducible refine gate_dst (N := 36) rfl ?_); (try (refine gate_guard (by rfl) ?_; dsimp only)); refine Kd.R_lit k71 _ 71 ?hg (N := 36) ?hd (xs := ([(⟨0, 0⟩ : S71), (⟨1, 1⟩ : S71)] : List (S71))) (inner := [.int .i64 0, .int .i64 0, .int .i64 1, .int .i64 1]) (ok := fun _ => True) (okp := fun _ => True) ?hr ?hp (fun _ hk => hk) trivial (Below.refl _ _) (Nat.le_refl _) (by simp) ?_; (case hd => rfl); (case hg => rfl); (case hr => first | (go_simp; done) | (go_simp; rfl)); (case hp => exact (Reps.c2 (show Kd.M k71 _ _ _ (⟨0, 0⟩ : S71) [.int .i64 0, .int .i64 0] from (k71_mkM _ _ _ (⟨0, 0⟩ : S71) )) (Reps.c2 (show Kd.M k71 _ _ _ (⟨1, 1⟩ : S71) [.int .i64 1, .int .i64 1] from (k71_mkM _ _ _ (⟨1, 1⟩ : S71) )) (Reps.none _ _)))); intro p3 h0 e1 hb hg_ hnew_; clear hg_ hnew_; (first | rw [← g3.out] at e1 | (simp only [Int.reduceToNat] at e1; rw [← g3.out] at e1)); have b1 := Aside0.mk (Kd.R_below (rz a3.out) hb); have b2 := Aside0.mk (Kd.R_below (rz a4.out) hb); have b4 := Aside0.mk (Kd.R_elder' (rz a6.out) (Kd.R_base e1) hb); have b7 := Aside0.mk (Kd.R_elder' (rz a8.out) (Kd.R_base e1) hb); have b6 := Aside0.mk (Kd.R_elder' (rz b3.out) (Kd.R_base e1) hb); have b8 := Aside0.mk (Kd.R_lower (Kd.R_new' (Kd.R_new' (Kd.R_new' e1 (Kd.R_lt (rz a6.out))) (Kd.R_lt (rz a8.out))) (Kd.R_lt (rz b3.out))) (below_size (wz HB.out))); have d5 := Aside0.mk (blk_below (bz a0.out) hb); have f3 := Aside0.mk (below_step (wz HB.out) hb); clear a3; clear a4; clear a6; clear a8; clear b3; clear a0; clear HB; have a3 := b1; have a4 := b2; have a6 := b4; have a8 := b7; have b3 := b6; have d9 := b8; have a0 := d5; have HB := f3; clear b1 b2 b4 b7 b6 b8 d5 f3; clear hb e1; obtain ⟨o5, o1, i5⟩ := Kd.R_slice a6.out; subst i5; obtain ⟨o0, o9, j3⟩ := Kd.R_slice d9.out; subst j3) | (go_at_call 82; (with_reducible refine (Pr35a.calls k _ _ d6 _ _ h3 true _ ?e3 ?e4 ?e5 ?e2 n4.out).mono ?_); (case e3 => repeat (first | exact (Kd.R_reads' a6.out).2.2 | (with_reducible refine Kd.C_alloc ?_ _) | (with_reducible refine Kd.C_drewN ?_ _) | (with_reducible refine Kd.C_drew ?_))); (case e4 => exact (Kd.R_reads' a6.out).2.1); (case e5 => repeat (first | exact (Kd.R_reads' d9.out).2.2 | (with_reducible refine Kd.C_alloc ?_ _) | (with_reducible refine Kd.C_drewN ?_ _) | (with_reducible refine Kd.C_drew ?_))); (case e2 => exact (Kd.R_reads' d9.out).2.1); rintro e w' ⟨rfl, ⟨nd, rfl⟩⟩; have m3 : h0.cell? ⟨a5, 0, none⟩ = some (.int .i64 2) := (blk_cell a0.out 0).trans rfl; have l4 : h0.cell? ⟨a5, 1, none⟩ = some (.slice d4 a2.length d2) := (blk_cell a0.out 1).trans rfl; have m8 : h0.cell? ⟨a5, 2, none⟩ = some (.slice d8 a1.length d3) := (blk_cell a0.out 2).trans rfl; have m5 := blk_frozen a0.out 0; have l2 := blk_frozen a0.out 1; have l3 := blk_frozen a0.out 2) | (go_at_call 83; (with_reducible refine (Pxc.calls k 2 _ _ a2 _ _ a1 1 1 true _ ?e3 ?e4 ?e5 ?e2 n6.out).mono ?_); (case e3 => repeat (first | exact (Kd.R_reads' a3.out).2.2 | (with_reducible refine Kd.C_alloc ?_ _) | (with_reducible refine Kd.C_drewN ?_ _) | (with_reducible refine Kd.C_drew ?_))); (case e4 => exact (Kd.R_reads' a3.out).2.1); (case e5 => repeat (first | exact (Kd.R_reads' a4.out).2.2 | (with_reducible refine Kd.C_alloc ?_ _) | (with_reducible refine Kd.C_drewN ?_ _) | (with_reducible refine Kd.C_drew ?_))); (case e2 => exact (Kd.R_reads' a4.out).2.1); rintro e i0 ⟨rfl, hb⟩; have b1 := Aside0.mk (Kd.R_below (rz a3.out) hb); have b2 := Aside0.mk (Kd.R_below (rz a4.out) hb); have b4 := Aside0.mk (Kd.R_below (rz a6.out) hb); have b7 := Aside0.mk (Kd.R_below (rz a8.out) hb); have b6 := Aside0.mk (Kd.R_below (rz b3.out) hb); have b8 := Aside0.mk (Kd.R_below (rz d9.out) hb); have d5 := Aside0.mk (blk_below (bz a0.out) hb); have f3 := Aside0.mk (below_step (wz HB.out) hb); clear a3; clear a4; clear a6; clear a8; clear b3; clear d9; clear a0; clear HB; have a3 := b1; have a4 := b2; have a6 := b4; have a8 := b7; have b3 := b6; have d9 := b8; have a0 := d5; have HB := f3; clear b1 b2 b4 b7 b6 b8 d5 f3; (try clear hb); (try clear f7); (try clear hk); (try clear hi); have j7 : i0.cell? ⟨a5, 0, none⟩ = some (.int .i64 2) := (blk_cell a0.out 0).trans rfl; have m1 : i0.cell? ⟨a5, 1, none⟩ = some (.slice d4 a2.length d2) := (blk_cell a0.out 1).trans rfl; have k4 : i0.cell? ⟨a5, 2, none⟩ = some (.slice d8 a1.length d3) := (blk_cell a0.out 2).trans rfl; have m0 := blk_frozen a0.out 0; have k1 := blk_frozen a0.out 1; have l7 := blk_frozen a0.out 2) | (go_at_call 83; (with_reducible refine (Pxc.calls k 2 _ _ a2 _ _ a1 0 1 a7 _ ?e3 ?e4 ?e5 ?e2 n7.out).mono ?_); (case e3 => repeat (first | exact (Kd.R_reads' a3.out).2.2 | (with_reducible refine Kd.C_alloc ?_ _) | (with_reducible refine Kd.C_drewN ?_ _) | (with_reducible refine Kd.C_drew ?_))); (case e4 => exact (Kd.R_reads' a3.out).2.1); (case e5 => repeat (first | exact (Kd.R_reads' a4.out).2.2 | (with_reducible refine Kd.C_alloc ?_ _) | (with_reducible refine Kd.C_drewN ?_ _) | (with_reducible refine Kd.C_drew ?_))); (case e2 => exact (Kd.R_reads' a4.out).2.1); rintro e q0 ⟨rfl, hb⟩; have b1 := Aside0.mk (Kd.R_below (rz a3.out) hb); have b2 := Aside0.mk (Kd.R_below (rz a4.out) hb); have b4 := Aside0.mk (Kd.R_below (rz a6.out) hb); have b7 := Aside0.mk (Kd.R_below (rz a8.out) hb); have b6 := Aside0.mk (Kd.R_below (rz b3.out) hb); have b8 := Aside0.mk (Kd.R_below (rz d9.out) hb); have d5 := Aside0.mk (blk_below (bz a0.out) hb); have f3 := Aside0.mk (below_step (wz HB.out) hb); clear a3; clear a4; clear a6; clear a8; clear b3; clear d9; clear a0; clear HB; have a3 := b1; have a4 := b2; have a6 := b4; have a8 := b7; have b3 := b6; have d9 := b8; have a0 := d5; have HB := f3; clear b1 b2 b4 b7 b6 b8 d5 f3; (try clear hb); (try clear f7); (try clear hk); (try clear hi)))
       go_ret
       exact ⟨by first | rfl | (simp [errW_none, errW_some] <;> rfl) | (simp [*, errW_none, errW_some] <;> rfl), wz HB.out⟩
      ·replace f9 := Bool.eq_false_iff.mpr f9
       subst f9
       have H1 : (some false) = some r := by rw [if_neg (show ¬ (false = true) by decide)] at H; exact H
       clear H
       have H := H1
       clear H1
       obtain rfl := Option.some.inj H
       exact absurd hr_.out (by decide)
     ·replace g0 := Bool.eq_false_iff.mpr g0
      subst g0
      have H1 : (some false) = some r := by rw [if_neg (show ¬ (false = true) by decide)] at H; exact H
      clear H
      have H := H1
      clear H1
      obtain rfl := Option.some.inj H
      exact absurd hr_.out (by decide)
    ·rw [if_neg f5] at H
     have c27b0 : (d0 == 0) = false := beq_eq_false_iff_ne.mpr f5
     have c27b1 : (d0 != 0) = true := bne_iff_ne.mpr f5
     obtain rfl := Option.some.inj H
     exact absurd hr_.out (by decide)
   ·replace g4 := Bool.eq_false_iff.mpr g4
    subst g4
    have H1 : (some false) = some r := by rw [if_neg (show ¬ (false = true) by decide)] at H; exact H
    clear H
    have H := H1
    clear H1
    obtain rfl := Option.some.inj H
    exact absurd hr_.out (by decide)
 ·replace c3 := Bool.eq_false_iff.mpr c3
  subst c3
  have H1 : (some false) = some r := by rw [if_neg (show ¬ (false = true) by decide)] at H; exact H
  clear H
  have H := H1
  clear H1
  obtain rfl := Option.some.inj H
  exact absurd hr_.out (by decide)
attribute [local go_sem high] eqA71
def Pr35b.l0 : Nat → List (S71) → Int → Int → Int → Option (Bool)
 | 0, _, _, _, _ => none
 | k + 1, x0, x1, x2, x7 => if x7 < (x0.length : Int) then (if 0 ≤ x7 then (if (((rd_T71 x0 x7).f0) == x1 && (((rd_T71 x0 x7).f1) == x2)) = true then (some true) else (Pr35b.l0 k x0 x1 x2 (wrap64 (x7 + 1)))) else (none)) else (some false)
def Pr35b.f (k : Nat) (l0 : List (S71)) (a1 : Int) (a2 : Int) : Option (Bool) := Pr35b.l0 k l0 a1 a2 0
theorem Pr35b.mono_l : ∀ k, (∀ y0 y1 y2 y3, LeO (Pr35b.l0 k y0 y1 y2 y3) (Pr35b.l0 (k + 1) y0 y1 y2 y3))
 | 0 => fun _ _ _ _ r h => by simp [Pr35b.l0] at h
 | k + 1 => by
  have ih0 := Pr35b.mono_l k
  ·intro y0 y1 y2 y3
   unfold Pr35b.l0
   repeat' first
   | (with_reducible exact ih0 _ _ _ _)
   | (with_reducible exact LeO.refl _)
   | (with_reducible exact LeO.none _)
   | (with_reducible refine LeO.ite ?_ ?_)
   | (with_reducible refine LeO.bind ?_ (fun _ => ?_))
   | exact ih0 _ _ _ _
   | exact LeO.none _
   | refine LeO.ite ?_ ?_
   | refine LeO.bind ?_ (fun _ => ?_)
theorem Pr35b.mono : ∀ a0 a1 a2 k, LeO (Pr35b.f k a0 a1 a2) (Pr35b.f (k + 1) a0 a1 a2) := by
 intro a0 a1 a2 k
 have ih0 := Pr35b.mono_l k
 unfold Pr35b.f
 repeat' first
   | (with_reducible exact ih0 _ _ _ _)
   | (with_reducible exact LeO.refl _)
   | (with_reducible exact LeO.none _)
   | (with_reducible refine LeO.ite ?_ ?_)
   | (with_reducible refine LeO.bind ?_ (fun _ => ?_))
   | exact ih0 _ _ _ _
   | exact LeO.none _
   | refine LeO.ite ?_ ?_
   | refine LeO.bind ?_ (fun _ => ?_)
set_option maxHeartbeats 8000000 in
set_option maxRecDepth 100000 in
theorem Pr35b.calls (k : Nat) (A0 : Option Addr) (c0 : Nat) (l0 : List (S71)) (a1 : Int) (a2 : Int) (r : Bool) (w : World) (hr0 : Kd.C k71 w A0 l0.length l0) (hc0 : l0.length ≤ c0) (h : Pr35b.f k l0 a1 a2 = some r) :
  Calls Try.prog 31 #[.slice A0 l0.length c0, .int .i64 a1, .int .i64 a2] w fun e w' => e = .returned (.bool r) ∧ Drawn0 w w' := by
 have b1 := Try.underlying71
 have a9 := Aside0.mk hr0
 have b2 := Aside0.mk hc0
 clear hr0 hc0
 have H : (Pr35b.l0 k l0 a1 a2 0) = some r := h
 clear h
 have H' := Aside0.mk H
 clear H
 go_enter Try.func31, Try.ntmps31
 go_wp2
 go_loopg [7] k (fun kq v7 w' => ∃ (a0 : Int), v7 = .int .i64 a0 ∧ Aside0 (Pr35b.l0 kq l0 a1 a2 a0 = some r) ∧ Aside0 (kq ≤ k) ∧ Drawn0 w w')
 case atStart => exact ⟨(0), (by first | rfl | (simp; done) | (simp [*]; done)), H', ⟨Nat.le_refl _⟩, by repeat (first | exact Drawn0.refl _ | apply Drawn0.step)⟩
 case round =>
  clear H'
  try clear p2
  try clear c3
  obtain ⟨a0, rfl, HA, b0, ⟨m1, rfl⟩⟩ := hrel
  cases gk with
  | zero => exact absurd HA.out (by simp [Pr35b.l0])
  | succ k1 =>
   have H := HA.out
   clear HA
   simp only [Pr35b.l0] at H
   by_cases c4 : a0 < (l0.length : Int)
   ·rw [if_pos c4] at H
    have c4b0 : decide (a0 < (l0.length : Int)) = true := decide_eq_true c4
    clear c4
    by_cases c5 : 0 ≤ a0
    ·rw [if_pos c5] at H
     have c5b0 : decide (0 ≤ a0) = true := decide_eq_true c5
     clear c5
     by_cases c6 : (((rd_T71 l0 a0).f0) == a1 && (((rd_T71 l0 a0).f1) == a2)) = true
     ·rw [if_pos c6] at H
      have c6b0 : (((rd_T71 l0 a0).f0) == a1 && (((rd_T71 l0 a0).f1) == a2)) = true := c6
      (try (have c6b1 : decide (((rd_T71 l0 a0).f0) = a1 && (((rd_T71 l0 a0).f1) == a2)) = true := by simpa using c6))
      (try (have c6b2 : (((rd_T71 l0 a0).f0) == a1 && (((rd_T71 l0 a0).f1) == a2)) = true := by simpa using c6))
      clear c6
      obtain rfl := Option.some.inj H
      have a3 : 0 ≤ (a0 : Int) := of_decide_eq_true (by first | (with_reducible assumption) | assumption)
      have a4 : a0 < (l0.length : Int) := of_decide_eq_true (by first | (with_reducible assumption) | assumption)
      obtain ⟨a8, a5, a6, a7⟩ := at_T71 a9.out a0 a3 a4
      cases a5
      replace a3 := eq_true a3
      replace a4 := eq_true a4
      go_wp2
      go_ret
      exact ⟨by first | rfl | (simp; done) | (simp [*]; done), by repeat (first | exact Drawn0.refl _ | apply Drawn0.step)⟩
     ·rw [if_neg c6] at H
      have c6b0 : (((rd_T71 l0 a0).f0) == a1 && (((rd_T71 l0 a0).f1) == a2)) = false := by simpa using c6
      (try (have c6b1 : decide (((rd_T71 l0 a0).f0) = a1 && (((rd_T71 l0 a0).f1) == a2)) = false := by simpa using c6))
      (try (have c6b2 : (((rd_T71 l0 a0).f0) == a1 && (((rd_T71 l0 a0).f1) == a2)) = false := by simpa using c6))
      (try (have c6b3 : ¬ (((rd_T71 l0 a0).f0) = a1 && (((rd_T71 l0 a0).f1) == a2)) := by simpa using c6))
      clear c6
      have H' := Aside0.mk H
      clear H
      have a3 : 0 ≤ (a0 : Int) := of_decide_eq_true (by first | (with_reducible assumption) | assumption)
      have a4 : a0 < (l0.length : Int) := of_decide_eq_true (by first | (with_reducible assumption) | assumption)
      obtain ⟨a8, a5, a6, a7⟩ := at_T71 a9.out a0 a3 a4
      cases a5
      replace a3 := eq_true a3
      replace a4 := eq_true a4
      go_wp2
      go_roundg k1
      case measure => have := b0.out; omega
      case rel => exact ⟨(wrap64 (a0 + 1)), (by first | rfl | (simp; done) | (simp [*]; done)), H', ⟨by have := b0.out; omega⟩, by repeat (first | exact Drawn0.refl _ | apply Drawn0.step)⟩
    ·rw [if_neg c5] at H
     exact absurd H (by simp)
   ·rw [if_neg c4] at H
    have c4b0 : decide (a0 < (l0.length : Int)) = false := decide_eq_false c4
    clear c4
    obtain rfl := Option.some.inj H
    go_wp2
    go_ret
    exact ⟨by first | rfl | (simp; done) | (simp [*]; done), by repeat (first | exact Drawn0.refl _ | apply Drawn0.step)⟩
end Go.Proofs.Ytmcbkmfpmcbdpaa.Pr
namespace Go.Proofs.Ytmcbkmfpmcbdpaa.Pr
open Go.RowKit Go.Proofs.YtmcbkmfpmcbdpaaW.PrintWords Go.Proofs.YtmcbkmfpmcbdpaaW.PrintLast Go.Proofs.YtmcbkmfpmcbdpaaW.PrintMore
attribute [local go_sem] max2_int min2_int max_two min_two max_three min_three max_four min_four
set_option linter.unusedVariables false
set_option linter.unusedSimpArgs false
mutual
def Pl35a.j0 : Nat → List Int → Int → List (S71) → Int → Bool → Int → List ByteArray → List (S80) → Option (Bool)
 | 0, _, _, _, _, _, _, _, _ => none
 | k + 1, x3, x4, x5, x6, x29, x212000, x212001, x212002 => if x29 = true then (if x4 = x6 then ((Pl35b.f k).bind fun t222 => (some t222)) else (some false)) else (if (x3.length : Int) = x212000 then (Pl35a.l0 k x3 x5 0 x212000 x212001 x212002) else (some false))
def Pl35a.l0 : Nat → List Int → List (S71) → Int → Int → List ByteArray → List (S80) → Option (Bool)
 | 0, _, _, _, _, _, _ => none
 | k + 1, x3, x5, x7, x212000, x212001, x212002 => if x7 < x212000 then (Pl35a.l1 k x3 x5 x7 0 x212000 x212001 x212002) else ((Pl35b.f k).bind fun t223 => (some t223))
def Pl35a.l1 : Nat → List Int → List (S71) → Int → Int → Int → List ByteArray → List (S80) → Option (Bool)
 | 0, _, _, _, _, _, _, _ => none
 | k + 1, x3, x5, x7, x8, x212000, x212001, x212002 => if x8 < x212000 then (if 0 ≤ x7 then (if x7 < (x3.length : Int) then (if 0 ≤ x8 then (if x8 < (x3.length : Int) then ((Pr35b.f k x5 x7 x8).bind fun t226 => (if (((rd x3 x7) == (rd x3 x8)) != t226) = true then (some false) else (Pl35a.l1 k x3 x5 x7 (wrap64 (x8 + 1)) x212000 x212001 x212002))) else (none)) else (none)) else (none)) else (none)) else (Pl35a.l0 k x3 x5 (wrap64 (x7 + 1)) x212000 x212001 x212002)
end
def Pl35a.f (k : Nat) (a0_0 : Int) (l0_1 : List ByteArray) (l0_2 : List (S80)) : Option (Bool) := (Pl33a.f k a0_0 l0_1 l0_2).bind fun t212 => (if t212 = true then ((Pra.f a0_0 l0_1 l0_2).bind fun bt214 => ((Pxb.f a0_0 l0_1 l0_2).bind fun bt218 => (if bt214.2 = bt218.2 then (Pl35a.j0 k bt214.1 bt214.2 bt218.1 bt218.2 (bt214.2 != 0) a0_0 l0_1 l0_2) else (Pl35a.j0 k bt214.1 bt214.2 bt218.1 bt218.2 true a0_0 l0_1 l0_2)))) else ((Pl35b.f k).bind fun t213 => (some t213)))
theorem Pl35a.mono_l : ∀ k, (∀ y0 y1 y2 y3 y4 y5 y6 y7, LeO (Pl35a.j0 k y0 y1 y2 y3 y4 y5 y6 y7) (Pl35a.j0 (k + 1) y0 y1 y2 y3 y4 y5 y6 y7)) ∧ (∀ y0 y1 y2 y3 y4 y5, LeO (Pl35a.l0 k y0 y1 y2 y3 y4 y5) (Pl35a.l0 (k + 1) y0 y1 y2 y3 y4 y5)) ∧ (∀ y0 y1 y2 y3 y4 y5 y6, LeO (Pl35a.l1 k y0 y1 y2 y3 y4 y5 y6) (Pl35a.l1 (k + 1) y0 y1 y2 y3 y4 y5 y6))
 | 0 => ⟨fun _ _ _ _ _ _ _ _ r h => by simp [Pl35a.j0] at h, fun _ _ _ _ _ _ r h => by simp [Pl35a.l0] at h, fun _ _ _ _ _ _ _ r h => by simp [Pl35a.l1] at h⟩
 | k + 1 => by
  obtain ⟨ih0, ih1, ih2⟩ := Pl35a.mono_l k
  refine ⟨?_, ?_, ?_⟩
  ·intro y0 y1 y2 y3 y4 y5 y6 y7
   unfold Pl35a.j0
   repeat' first
   | (with_reducible exact ih0 _ _ _ _ _ _ _ _)
   | (with_reducible exact ih1 _ _ _ _ _ _)
   | (with_reducible exact ih2 _ _ _ _ _ _ _)
   | (with_reducible exact Pl33a.mono _ _ _ _)
   | (with_reducible exact Pl35b.mono _)
   | (with_reducible exact Pr35b.mono _ _ _ _)
   | (with_reducible exact LeO.refl _)
   | (with_reducible exact LeO.none _)
   | (with_reducible refine LeO.ite ?_ ?_)
   | (with_reducible refine LeO.bind ?_ (fun _ => ?_))
   | exact ih0 _ _ _ _ _ _ _ _
   | exact ih1 _ _ _ _ _ _
   | exact ih2 _ _ _ _ _ _ _
   | exact Pl33a.mono _ _ _ _
   | exact Pl35b.mono _
   | exact Pr35b.mono _ _ _ _
   | exact LeO.none _
   | refine LeO.ite ?_ ?_
   | refine LeO.bind ?_ (fun _ => ?_)
  ·intro y0 y1 y2 y3 y4 y5
   unfold Pl35a.l0
   repeat' first
   | (with_reducible exact ih0 _ _ _ _ _ _ _ _)
   | (with_reducible exact ih1 _ _ _ _ _ _)
   | (with_reducible exact ih2 _ _ _ _ _ _ _)
   | (with_reducible exact Pl33a.mono _ _ _ _)
   | (with_reducible exact Pl35b.mono _)
   | (with_reducible exact Pr35b.mono _ _ _ _)
   | (with_reducible exact LeO.refl _)
   | (with_reducible exact LeO.none _)
   | (with_reducible refine LeO.ite ?_ ?_)
   | (with_reducible refine LeO.bind ?_ (fun _ => ?_))
   | exact ih0 _ _ _ _ _ _ _ _
   | exact ih1 _ _ _ _ _ _
   | exact ih2 _ _ _ _ _ _ _
   | exact Pl33a.mono _ _ _ _
   | exact Pl35b.mono _
   | exact Pr35b.mono _ _ _ _
   | exact LeO.none _
   | refine LeO.ite ?_ ?_
   | refine LeO.bind ?_ (fun _ => ?_)
  ·intro y0 y1 y2 y3 y4 y5 y6
   unfold Pl35a.l1
   repeat' first
   | (with_reducible exact ih0 _ _ _ _ _ _ _ _)
   | (with_reducible exact ih1 _ _ _ _ _ _)
   | (with_reducible exact ih2 _ _ _ _ _ _ _)
   | (with_reducible exact Pl33a.mono _ _ _ _)
   | (with_reducible exact Pl35b.mono _)
   | (with_reducible exact Pr35b.mono _ _ _ _)
   | (with_reducible exact LeO.refl _)
   | (with_reducible exact LeO.none _)
   | (with_reducible refine LeO.ite ?_ ?_)
   | (with_reducible refine LeO.bind ?_ (fun _ => ?_))
   | exact ih0 _ _ _ _ _ _ _ _
   | exact ih1 _ _ _ _ _ _
   | exact ih2 _ _ _ _ _ _ _
   | exact Pl33a.mono _ _ _ _
   | exact Pl35b.mono _
   | exact Pr35b.mono _ _ _ _
   | exact LeO.none _
   | refine LeO.ite ?_ ?_
   | refine LeO.bind ?_ (fun _ => ?_)
theorem Pl35a.mono : ∀ a0 a1 a2 k, LeO (Pl35a.f k a0 a1 a2) (Pl35a.f (k + 1) a0 a1 a2) := by
 intro a0 a1 a2 k
 obtain ⟨ih0, ih1, ih2⟩ := Pl35a.mono_l k
 unfold Pl35a.f
 repeat' first
   | (with_reducible exact ih0 _ _ _ _ _ _ _ _)
   | (with_reducible exact ih1 _ _ _ _ _ _)
   | (with_reducible exact ih2 _ _ _ _ _ _ _)
   | (with_reducible exact Pl33a.mono _ _ _ _)
   | (with_reducible exact Pl35b.mono _)
   | (with_reducible exact Pr35b.mono _ _ _ _)
   | (with_reducible exact LeO.refl _)
   | (with_reducible exact LeO.none _)
   | (with_reducible refine LeO.ite ?_ ?_)
   | (with_reducible refine LeO.bind ?_ (fun _ => ?_))
   | exact ih0 _ _ _ _ _ _ _ _
   | exact ih1 _ _ _ _ _ _
   | exact ih2 _ _ _ _ _ _ _
   | exact Pl33a.mono _ _ _ _
   | exact Pl35b.mono _
   | exact Pr35b.mono _ _ _ _
   | exact LeO.none _
   | refine LeO.ite ?_ ?_
   | refine LeO.bind ?_ (fun _ => ?_)
set_option maxHeartbeats 8000000 in
set_option maxRecDepth 100000 in
theorem Pl35a.calls (k : Nat) (a0_0 : Int) (A0_1 : Option Addr) (c0_1 : Nat) (l0_1 : List ByteArray) (A0_2 : Option Addr) (c0_2 : Nat) (l0_2 : List (S80)) (r : Bool) (w : World) (hr0_1 : Kd.C Kd.string w A0_1 l0_1.length l0_1) (hc0_1 : l0_1.length ≤ c0_1) (hr0_2 : Kd.C k80 w A0_2 l0_2.length l0_2) (hc0_2 : l0_2.length ≤ c0_2) (h : Pl35a.f k a0_0 l0_1 l0_2 = some r) (hr_ : Aside0 (r = true)) :
  Calls Try.prog 5 #[.agg #[.int .i64 a0_0, .slice A0_1 l0_1.length c0_1, .slice A0_2 l0_2.length c0_2]] w fun e w' => e = .returned (.bool r) ∧ Below w.heap.size w w' := by
 have p9 := Try.underlying25
 have b9 := Aside0.mk hr0_1
 have d2 := Aside0.mk hc0_1
 clear hr0_1 hc0_1
 have d1 := Aside0.mk hr0_2
 have d0 := Aside0.mk hc0_2
 clear hr0_2 hc0_2
 have HB := Aside0.mk (Below.refl w.heap.size w)
 have H : ((Pl33a.f k a0_0 l0_1 l0_2).bind fun i5 => (if i5 = true then ((Pra.f a0_0 l0_1 l0_2).bind fun b2 => ((Pxb.f a0_0 l0_1 l0_2).bind fun a8 => (if b2.2 = a8.2 then (Pl35a.j0 k b2.1 b2.2 a8.1 a8.2 (b2.2 != 0) a0_0 l0_1 l0_2) else (Pl35a.j0 k b2.1 b2.2 a8.1 a8.2 true a0_0 l0_1 l0_2)))) else ((Pl35b.f k).bind fun d8 => (some d8)))) = some r := h
 clear h
 replace H := Option.bind_eq_some_iff.mp H
 obtain ⟨i5, m9, H⟩ := H
 replace H : (if i5 = true then ((Pra.f a0_0 l0_1 l0_2).bind fun b2 => ((Pxb.f a0_0 l0_1 l0_2).bind fun a8 => (if b2.2 = a8.2 then (Pl35a.j0 k b2.1 b2.2 a8.1 a8.2 (b2.2 != 0) a0_0 l0_1 l0_2) else (Pl35a.j0 k b2.1 b2.2 a8.1 a8.2 true a0_0 l0_1 l0_2)))) else ((Pl35b.f k).bind fun d8 => (some d8))) = some r := H
 have A2 := Aside0.mk m9
 clear m9
 by_cases c3 : i5 = true
 ·subst c3
  have H1 : ((Pra.f a0_0 l0_1 l0_2).bind fun b2 => ((Pxb.f a0_0 l0_1 l0_2).bind fun a8 => (if b2.2 = a8.2 then (Pl35a.j0 k b2.1 b2.2 a8.1 a8.2 (b2.2 != 0) a0_0 l0_1 l0_2) else (Pl35a.j0 k b2.1 b2.2 a8.1 a8.2 true a0_0 l0_1 l0_2)))) = some r := by rw [if_pos rfl] at H; exact H
  clear H
  have H := H1
  clear H1
  replace H := Option.bind_eq_some_iff.mp H
  obtain ⟨⟨a4, b3⟩, m6, H⟩ := H
  replace H : ((Pxb.f a0_0 l0_1 l0_2).bind fun a8 => (if b3 = a8.2 then (Pl35a.j0 k a4 b3 a8.1 a8.2 (b3 != 0) a0_0 l0_1 l0_2) else (Pl35a.j0 k a4 b3 a8.1 a8.2 true a0_0 l0_1 l0_2))) = some r := H
  have A4 := Aside0.mk m6
  clear m6
  replace H := Option.bind_eq_some_iff.mp H
  obtain ⟨⟨b8, b4⟩, m8, H⟩ := H
  replace H : (if b3 = b4 then (Pl35a.j0 k a4 b3 b8 b4 (b3 != 0) a0_0 l0_1 l0_2) else (Pl35a.j0 k a4 b3 b8 b4 true a0_0 l0_1 l0_2)) = some r := H
  have A5 := Aside0.mk m8
  clear m8
  have l8 := Aside0.mk H
  clear H
  go_enter Try.func5, Try.ntmps5
  go_upto_region 5 with (first | ((with_reducible refine gate_dst (N := 1) rfl ?_); refine box_event ?hg (N := 1) ?hd (cs := #[.int .i64 a0_0, .slice A0_1 l0_1.length c0_1, .slice A0_2 l0_2.length c0_2]) (t := 25) ?hr ?_; (case hd => rfl); (case hg => rfl); (case hr => first | (go_simp; done) | (go_simp; rfl)); intro a1 hg w7 hbox hb; have a2 := Aside0.mk (below_step (wz HB.out) hb); have a3 := Aside0.mk (hbox); have a5 := Aside0.mk ((by rw [hg]; exact (below_size (wz HB.out)) : w.heap.size ≤ a1)); have a6 := Aside0.mk ((by rw [hg]; exact (below_size (wz HB.out)) : w.heap.size ≤ a1)); clear HB; have HB := a2; have a0 := a3; have g4 := a5; have g2 := a6; clear a2 a3 a5 a6; clear hb hbox hg; have f1 : w7.cell? ⟨a1, 0, none⟩ = some (.int .i64 a0_0) := (blk_cell a0.out 0).trans rfl; have f2 : w7.cell? ⟨a1, 1, none⟩ = some (.slice A0_1 l0_1.length c0_1) := (blk_cell a0.out 1).trans rfl; have f8 : w7.cell? ⟨a1, 2, none⟩ = some (.slice A0_2 l0_2.length c0_2) := (blk_cell a0.out 2).trans rfl; have f3 := blk_frozen a0.out 0; have f9 := blk_frozen a0.out 1; have f4 := blk_frozen a0.out 2) | (go_at_call 15; (with_reducible refine (Pl33a.calls k a0_0 _ _ l0_1 _ _ l0_2 true _ ?b5 ?b6 ?d5 ?d4 A2.out).mono ?_); (case b5 => exact cz b9.out HB.out); (case b6 => exact d2.out); (case d5 => exact cz d1.out HB.out); (case d4 => exact d0.out); rintro e w9 ⟨rfl, hb⟩; have a2 := Aside0.mk (blk_below (bz a0.out) hb); have a3 := Aside0.mk (below_step (wz HB.out) hb); clear a0; clear HB; have a0 := a2; have HB := a3; clear a2 a3; (try clear hb); (try clear d3); (try clear hk); (try clear hi); have e5 : w9.cell? ⟨a1, 0, none⟩ = some (.int .i64 a0_0) := (blk_cell a0.out 0).trans rfl; have e8 : w9.cell? ⟨a1, 1, none⟩ = some (.slice A0_1 l0_1.length c0_1) := (blk_cell a0.out 1).trans rfl; have d9 : w9.cell? ⟨a1, 2, none⟩ = some (.slice A0_2 l0_2.length c0_2) := (blk_cell a0.out 2).trans rfl; have e2 := blk_frozen a0.out 0; have e9 := blk_frozen a0.out 1; have e0 := blk_frozen a0.out 2) | (go_at_call 17; (with_reducible refine (Pra.calls a0_0 _ _ l0_1 _ _ l0_2 a4 b3 _ ?b5 ?b6 ?d5 ?d4 A4.out).mono ?_); (case b5 => exact cz b9.out HB.out); (case b6 => exact d2.out); (case d5 => exact cz d1.out HB.out); (case d4 => exact d0.out); rintro e f5 ⟨j3, rfl, d6, hb⟩; have a2 := Aside0.mk (Kd.R_lower d6 (below_size (wz HB.out))); have a3 := Aside0.mk (blk_below (bz a0.out) hb); have a5 := Aside0.mk (below_step (wz HB.out) hb); clear a0; clear HB; have b7 := a2; have a0 := a3; have HB := a5; clear a2 a3 a5; (try clear hb); (try clear d3); (try clear hk); (try clear hi); (try clear d6); have e1 : f5.cell? ⟨a1, 0, none⟩ = some (.int .i64 a0_0) := (blk_cell a0.out 0).trans rfl; have e7 : f5.cell? ⟨a1, 1, none⟩ = some (.slice A0_1 l0_1.length c0_1) := (blk_cell a0.out 1).trans rfl; have e4 : f5.cell? ⟨a1, 2, none⟩ = some (.slice A0_2 l0_2.length c0_2) := (blk_cell a0.out 2).trans rfl; have f0 := blk_frozen a0.out 0; have e6 := blk_frozen a0.out 1; have e3 := blk_frozen a0.out 2) | (go_at_call 30; (with_reducible refine (Pxb.calls a0_0 _ _ l0_1 _ _ l0_2 b8 b4 _ ?b5 ?b6 ?d5 ?d4 A5.out).mono ?_); (case b5 => exact cz b9.out HB.out); (case b6 => exact d2.out); (case d5 => exact cz d1.out HB.out); (case d4 => exact d0.out); rintro e m4 ⟨g9, rfl, d6, hb⟩; have a2 := Aside0.mk (Kd.R_below (rz b7.out) hb); have a3 := Aside0.mk (Kd.R_lower d6 (below_size (wz HB.out))); have a5 := Aside0.mk (blk_below (bz a0.out) hb); have a6 := Aside0.mk (below_step (wz HB.out) hb); clear b7; clear a0; clear HB; have b7 := a2; have g7 := a3; have a0 := a5; have HB := a6; clear a2 a3 a5 a6; (try clear hb); (try clear d3); (try clear hk); (try clear hi); (try clear d6)))
  repeat (go_quiet (first | ((with_reducible refine gate_dst (N := 1) rfl ?_); refine box_event ?hg (N := 1) ?hd (cs := #[.int .i64 a0_0, .slice A0_1 l0_1.length c0_1, .slice A0_2 l0_2.length c0_2]) (t := 25) ?hr ?_; (case hd => rfl); (case hg => rfl); (case hr => first | (go_simp; done) | (go_simp; rfl)); intro a1 hg w7 hbox hb; have a2 := Aside0.mk (below_step (wz HB.out) hb); have a3 := Aside0.mk (hbox); have a5 := Aside0.mk ((by rw [hg]; exact (below_size (wz HB.out)) : w.heap.size ≤ a1)); have a6 := Aside0.mk ((by rw [hg]; exact (below_size (wz HB.out)) : w.heap.size ≤ a1)); clear HB; have HB := a2; have a0 := a3; have g4 := a5; have g2 := a6; clear a2 a3 a5 a6; clear hb hbox hg; have f1 : w7.cell? ⟨a1, 0, none⟩ = some (.int .i64 a0_0) := (blk_cell a0.out 0).trans rfl; have f2 : w7.cell? ⟨a1, 1, none⟩ = some (.slice A0_1 l0_1.length c0_1) := (blk_cell a0.out 1).trans rfl; have f8 : w7.cell? ⟨a1, 2, none⟩ = some (.slice A0_2 l0_2.length c0_2) := (blk_cell a0.out 2).trans rfl; have f3 := blk_frozen a0.out 0; have f9 := blk_frozen a0.out 1; have f4 := blk_frozen a0.out 2) | (go_at_call 15; (with_reducible refine (Pl33a.calls k a0_0 _ _ l0_1 _ _ l0_2 true _ ?b5 ?b6 ?d5 ?d4 A2.out).mono ?_); (case b5 => exact cz b9.out HB.out); (case b6 => exact d2.out); (case d5 => exact cz d1.out HB.out); (case d4 => exact d0.out); rintro e w9 ⟨rfl, hb⟩; have a2 := Aside0.mk (blk_below (bz a0.out) hb); have a3 := Aside0.mk (below_step (wz HB.out) hb); clear a0; clear HB; have a0 := a2; have HB := a3; clear a2 a3; (try clear hb); (try clear d3); (try clear hk); (try clear hi); have e5 : w9.cell? ⟨a1, 0, none⟩ = some (.int .i64 a0_0) := (blk_cell a0.out 0).trans rfl; have e8 : w9.cell? ⟨a1, 1, none⟩ = some (.slice A0_1 l0_1.length c0_1) := (blk_cell a0.out 1).trans rfl; have d9 : w9.cell? ⟨a1, 2, none⟩ = some (.slice A0_2 l0_2.length c0_2) := (blk_cell a0.out 2).trans rfl; have e2 := blk_frozen a0.out 0; have e9 := blk_frozen a0.out 1; have e0 := blk_frozen a0.out 2) | (go_at_call 17; (with_reducible refine (Pra.calls a0_0 _ _ l0_1 _ _ l0_2 a4 b3 _ ?b5 ?b6 ?d5 ?d4 A4.out).mono ?_); (case b5 => exact cz b9.out HB.out); (case b6 => exact d2.out); (case d5 => exact cz d1.out HB.out); (case d4 => exact d0.out); rintro e f5 ⟨j3, rfl, d6, hb⟩; have a2 := Aside0.mk (Kd.R_lower d6 (below_size (wz HB.out))); have a3 := Aside0.mk (blk_below (bz a0.out) hb); have a5 := Aside0.mk (below_step (wz HB.out) hb); clear a0; clear HB; have b7 := a2; have a0 := a3; have HB := a5; clear a2 a3 a5; (try clear hb); (try clear d3); (try clear hk); (try clear hi); (try clear d6); have e1 : f5.cell? ⟨a1, 0, none⟩ = some (.int .i64 a0_0) := (blk_cell a0.out 0).trans rfl; have e7 : f5.cell? ⟨a1, 1, none⟩ = some (.slice A0_1 l0_1.length c0_1) := (blk_cell a0.out 1).trans rfl; have e4 : f5.cell? ⟨a1, 2, none⟩ = some (.slice A0_2 l0_2.length c0_2) := (blk_cell a0.out 2).trans rfl; have f0 := blk_frozen a0.out 0; have e6 := blk_frozen a0.out 1; have e3 := blk_frozen a0.out 2) | (go_at_call 30; (with_reducible refine (Pxb.calls a0_0 _ _ l0_1 _ _ l0_2 b8 b4 _ ?b5 ?b6 ?d5 ?d4 A5.out).mono ?_); (case b5 => exact cz b9.out HB.out); (case b6 => exact d2.out); (case d5 => exact cz d1.out HB.out); (case d4 => exact d0.out); rintro e m4 ⟨g9, rfl, d6, hb⟩; have a2 := Aside0.mk (Kd.R_below (rz b7.out) hb); have a3 := Aside0.mk (Kd.R_lower d6 (below_size (wz HB.out))); have a5 := Aside0.mk (blk_below (bz a0.out) hb); have a6 := Aside0.mk (below_step (wz HB.out) hb); clear b7; clear a0; clear HB; have b7 := a2; have g7 := a3; have a0 := a5; have HB := a6; clear a2 a3 a5 a6; (try clear hb); (try clear d3); (try clear hk); (try clear hi); (try clear d6))); go_upto_region 5 with (first | ((with_reducible refine gate_dst (N := 1) rfl ?_); refine box_event ?hg (N := 1) ?hd (cs := #[.int .i64 a0_0, .slice A0_1 l0_1.length c0_1, .slice A0_2 l0_2.length c0_2]) (t := 25) ?hr ?_; (case hd => rfl); (case hg => rfl); (case hr => first | (go_simp; done) | (go_simp; rfl)); intro a1 hg w7 hbox hb; have a2 := Aside0.mk (below_step (wz HB.out) hb); have a3 := Aside0.mk (hbox); have a5 := Aside0.mk ((by rw [hg]; exact (below_size (wz HB.out)) : w.heap.size ≤ a1)); have a6 := Aside0.mk ((by rw [hg]; exact (below_size (wz HB.out)) : w.heap.size ≤ a1)); clear HB; have HB := a2; have a0 := a3; have g4 := a5; have g2 := a6; clear a2 a3 a5 a6; clear hb hbox hg; have f1 : w7.cell? ⟨a1, 0, none⟩ = some (.int .i64 a0_0) := (blk_cell a0.out 0).trans rfl; have f2 : w7.cell? ⟨a1, 1, none⟩ = some (.slice A0_1 l0_1.length c0_1) := (blk_cell a0.out 1).trans rfl; have f8 : w7.cell? ⟨a1, 2, none⟩ = some (.slice A0_2 l0_2.length c0_2) := (blk_cell a0.out 2).trans rfl; have f3 := blk_frozen a0.out 0; have f9 := blk_frozen a0.out 1; have f4 := blk_frozen a0.out 2) | (go_at_call 15; (with_reducible refine (Pl33a.calls k a0_0 _ _ l0_1 _ _ l0_2 true _ ?b5 ?b6 ?d5 ?d4 A2.out).mono ?_); (case b5 => exact cz b9.out HB.out); (case b6 => exact d2.out); (case d5 => exact cz d1.out HB.out); (case d4 => exact d0.out); rintro e w9 ⟨rfl, hb⟩; have a2 := Aside0.mk (blk_below (bz a0.out) hb); have a3 := Aside0.mk (below_step (wz HB.out) hb); clear a0; clear HB; have a0 := a2; have HB := a3; clear a2 a3; (try clear hb); (try clear d3); (try clear hk); (try clear hi); have e5 : w9.cell? ⟨a1, 0, none⟩ = some (.int .i64 a0_0) := (blk_cell a0.out 0).trans rfl; have e8 : w9.cell? ⟨a1, 1, none⟩ = some (.slice A0_1 l0_1.length c0_1) := (blk_cell a0.out 1).trans rfl; have d9 : w9.cell? ⟨a1, 2, none⟩ = some (.slice A0_2 l0_2.length c0_2) := (blk_cell a0.out 2).trans rfl; have e2 := blk_frozen a0.out 0; have e9 := blk_frozen a0.out 1; have e0 := blk_frozen a0.out 2) | (go_at_call 17; (with_reducible refine (Pra.calls a0_0 _ _ l0_1 _ _ l0_2 a4 b3 _ ?b5 ?b6 ?d5 ?d4 A4.out).mono ?_); (case b5 => exact cz b9.out HB.out); (case b6 => exact d2.out); (case d5 => exact cz d1.out HB.out); (case d4 => exact d0.out); rintro e f5 ⟨j3, rfl, d6, hb⟩; have a2 := Aside0.mk (Kd.R_lower d6 (below_size (wz HB.out))); have a3 := Aside0.mk (blk_below (bz a0.out) hb); have a5 := Aside0.mk (below_step (wz HB.out) hb); clear a0; clear HB; have b7 := a2; have a0 := a3; have HB := a5; clear a2 a3 a5; (try clear hb); (try clear d3); (try clear hk); (try clear hi); (try clear d6); have e1 : f5.cell? ⟨a1, 0, none⟩ = some (.int .i64 a0_0) := (blk_cell a0.out 0).trans rfl; have e7 : f5.cell? ⟨a1, 1, none⟩ = some (.slice A0_1 l0_1.length c0_1) := (blk_cell a0.out 1).trans rfl; have e4 : f5.cell? ⟨a1, 2, none⟩ = some (.slice A0_2 l0_2.length c0_2) := (blk_cell a0.out 2).trans rfl; have f0 := blk_frozen a0.out 0; have e6 := blk_frozen a0.out 1; have e3 := blk_frozen a0.out 2) | (go_at_call 30; (with_reducible refine (Pxb.calls a0_0 _ _ l0_1 _ _ l0_2 b8 b4 _ ?b5 ?b6 ?d5 ?d4 A5.out).mono ?_); (case b5 => exact cz b9.out HB.out); (case b6 => exact d2.out); (case d5 => exact cz d1.out HB.out); (case d4 => exact d0.out); rintro e m4 ⟨g9, rfl, d6, hb⟩; have a2 := Aside0.mk (Kd.R_below (rz b7.out) hb); have a3 := Aside0.mk (Kd.R_lower d6 (below_size (wz HB.out))); have a5 := Aside0.mk (blk_below (bz a0.out) hb); have a6 := Aside0.mk (below_step (wz HB.out) hb); clear b7; clear a0; clear HB; have b7 := a2; have g7 := a3; have a0 := a5; have HB := a6; clear a2 a3 a5 a6; (try clear hb); (try clear d3); (try clear hk); (try clear hi); (try clear d6))))
  (try simp only [Act.put, List.setIfInBounds_toArray, List.set_cons_zero, List.set_cons_succ])
  go_cut [29] (fun p7 wc => ∃ (kq : Nat) (g6 : Bool), p7 = .bool g6 ∧ Aside0 (Pl35a.j0 kq a4 b3 b8 b4 g6 a0_0 l0_1 l0_2 = some r) ∧ Aside0 (kq ≤ k) ∧ Aside0 (Kd.R (Kd.int .i64) 3 wc w.heap.size (fun _ => True) j3 a4) ∧ Aside0 (Kd.R k71 71 wc w.heap.size (fun _ => True) g9 b8) ∧ Aside0 (wc.heap[a1]? = some (.cells #[.int .i64 a0_0, (.slice A0_1 l0_1.length c0_1), (.slice A0_2 l0_2.length c0_2)] 25 (0, 0))) ∧ Aside0 (Below w.heap.size w wc))
  case first =>
   have H := l8.out
   clear l8
   by_cases g0 : b3 = b4
   ·rw [if_pos g0] at H
    have c14b0 : (b3 == b4) = true := beq_iff_eq.mpr g0
    have c14b1 : (b3 != b4) = false := bne_eq_false_iff_eq.mpr g0
    clear g0
    (first | rw [c14b0] | (simp only [i64_w, i32_w]; rw [c14b0]) | skip)
    have H' := Aside0.mk H
    clear H
    go_wp2
    repeat (go_quiet (fail); try go_wp2)
    go_meet
    case rel => exact ⟨_, ((b3 != 0)), (by first | rfl | (simp; done) | (simp [*]; done)), H', ⟨by first | omega | exact Nat.le_refl _⟩, ⟨rz b7.out⟩, ⟨rz g7.out⟩, ⟨bz a0.out⟩, ⟨wz HB.out⟩⟩
   ·rw [if_neg g0] at H
    have c14b0 : (b3 == b4) = false := beq_eq_false_iff_ne.mpr g0
    have c14b1 : (b3 != b4) = true := bne_iff_ne.mpr g0
    (first | rw [c14b0] | (simp only [i64_w, i32_w]; rw [c14b0]) | skip)
    have H' := Aside0.mk H
    clear H
    go_wp2
    repeat (go_quiet (fail); try go_wp2)
    go_meet
    case rel => exact ⟨_, (true), (by first | rfl | (simp; done) | (simp [*]; done)), H', ⟨by first | omega | exact Nat.le_refl _⟩, ⟨rz b7.out⟩, ⟨rz g7.out⟩, ⟨bz a0.out⟩, ⟨wz HB.out⟩⟩
  case rest =>
   clear l8
   try clear c1
   try clear p2
   try clear c3
   try clear c5
   try clear g0
   try clear c14b0
   try clear c14b1
   try clear e5
   try clear e8
   try clear d9
   try clear e1
   try clear e7
   try clear e4
   try clear f1
   try clear f2
   try clear f8
   try clear e2
   try clear e9
   try clear e0
   try clear f0
   try clear e6
   try clear e3
   try clear f3
   try clear f9
   try clear f4
   obtain ⟨kq, g6, rfl, HA, j9, b1, a7, a0, HB⟩ := hcut
   cases kq with
   | zero => exact absurd HA.out (by simp [Pl35a.j0])
   | succ kj5 =>
    have H := HA.out
    clear HA
    simp only [Pl35a.j0] at H
    by_cases h4 : g6 = true
    ·subst h4
     have H1 : (if b3 = b4 then ((Pl35b.f kj5).bind fun g5 => (some g5)) else (some false)) = some r := by rw [if_pos rfl] at H; exact H
     clear H
     have H := H1
     clear H1
     by_cases g3 : b3 = b4
     ·rw [if_pos g3] at H
      have c16b0 : (b3 == b4) = true := beq_iff_eq.mpr g3
      have c16b1 : (b3 != b4) = false := bne_eq_false_iff_eq.mpr g3
      clear g3
      replace H := Option.bind_eq_some_iff.mp H
      obtain ⟨g5, l9, H⟩ := H
      replace H : (some g5) = some r := H
      have l7 := Aside0.mk l9
      clear l9
      obtain rfl := Option.some.inj H
      go_wp2_with (first | (go_at_call 29; (with_reducible refine (Pl35b.calls kj5  g5 _ l7.out hr_).mono ?_); rintro e m7 ⟨rfl, hb⟩; have a2 := Aside0.mk (Kd.R_below (rz b1.out) hb); have a3 := Aside0.mk (Kd.R_below (rz a7.out) hb); have a5 := Aside0.mk (blk_below (bz a0.out) hb); have a6 := Aside0.mk (below_step (wz HB.out) hb); clear b1; clear a7; clear a0; clear HB; have b1 := a2; have a7 := a3; have a0 := a5; have HB := a6; clear a2 a3 a5 a6; (try clear hb); (try clear d3); (try clear hk); (try clear hi)))
      repeat (go_quiet (first | (go_at_call 29; (with_reducible refine (Pl35b.calls kj5  g5 _ l7.out hr_).mono ?_); rintro e m7 ⟨rfl, hb⟩; have a2 := Aside0.mk (Kd.R_below (rz b1.out) hb); have a3 := Aside0.mk (Kd.R_below (rz a7.out) hb); have a5 := Aside0.mk (blk_below (bz a0.out) hb); have a6 := Aside0.mk (below_step (wz HB.out) hb); clear b1; clear a7; clear a0; clear HB; have b1 := a2; have a7 := a3; have a0 := a5; have HB := a6; clear a2 a3 a5 a6; (try clear hb); (try clear d3); (try clear hk); (try clear hi))); try go_wp2_with (first | (go_at_call 29; (with_reducible refine (Pl35b.calls kj5  g5 _ l7.out hr_).mono ?_); rintro e m7 ⟨rfl, hb⟩; have a2 := Aside0.mk (Kd.R_below (rz b1.out) hb); have a3 := Aside0.mk (Kd.R_below (rz a7.out) hb); have a5 := Aside0.mk (blk_below (bz a0.out) hb); have a6 := Aside0.mk (below_step (wz HB.out) hb); clear b1; clear a7; clear a0; clear HB; have b1 := a2; have a7 := a3; have a0 := a5; have HB := a6; clear a2 a3 a5 a6; (try clear hb); (try clear d3); (try clear hk); (try clear hi))))
      go_ret
      exact ⟨by first | rfl | (simp [errW_none, errW_some] <;> rfl) | (simp [*, errW_none, errW_some] <;> rfl), wz HB.out⟩
     ·rw [if_neg g3] at H
      have c16b0 : (b3 == b4) = false := beq_eq_false_iff_ne.mpr g3
      have c16b1 : (b3 != b4) = true := bne_iff_ne.mpr g3
      obtain rfl := Option.some.inj H
      exact absurd hr_.out (by decide)
    ·replace h4 := Bool.eq_false_iff.mpr h4
     subst h4
     have H1 : (if (a4.length : Int) = a0_0 then (Pl35a.l0 kj5 a4 b8 0 a0_0 l0_1 l0_2) else (some false)) = some r := by rw [if_neg (show ¬ (false = true) by decide)] at H; exact H
     clear H
     have H := H1
     clear H1
     by_cases g1 : (a4.length : Int) = a0_0
     ·rw [if_pos g1] at H
      have c19b0 : ((a4.length : Int) == a0_0) = true := beq_iff_eq.mpr g1
      have c19b1 : ((a4.length : Int) != a0_0) = false := bne_eq_false_iff_eq.mpr g1
      clear g1
      have H' := Aside0.mk H
      clear H
      obtain ⟨m0, l4, n3⟩ := Kd.R_slice b1.out
      subst n3
      have i2 : wc.cell? ⟨a1, 0, none⟩ = some (.int .i64 a0_0) := (blk_cell a0.out 0).trans rfl
      have h3 : wc.cell? ⟨a1, 1, none⟩ = some (.slice A0_1 l0_1.length c0_1) := (blk_cell a0.out 1).trans rfl
      have h8 : wc.cell? ⟨a1, 2, none⟩ = some (.slice A0_2 l0_2.length c0_2) := (blk_cell a0.out 2).trans rfl
      have h5 := blk_frozen a0.out 0
      have i3 := blk_frozen a0.out 1
      have h2 := blk_frozen a0.out 2
      go_wp2
      repeat (go_quiet (fail); try go_wp2)
      go_loopg [7] kj5 (fun kq v7 w' => ∃ (a9 : Int), v7 = .int .i64 a9 ∧ Aside0 (Pl35a.l0 kq a4 b8 a9 a0_0 l0_1 l0_2 = some r) ∧ Aside0 (kq ≤ kj5) ∧ Aside0 (Kd.R (Kd.int .i64) 3 w' w.heap.size (fun _ => True) (.slice m0 a4.length l4) a4) ∧ Aside0 (Kd.R k71 71 w' w.heap.size (fun _ => True) g9 b8) ∧ Aside0 (w'.heap[a1]? = some (.cells #[.int .i64 a0_0, (.slice A0_1 l0_1.length c0_1), (.slice A0_2 l0_2.length c0_2)] 25 (0, 0))) ∧ Aside0 (Below w.heap.size w w'))
      case atStart => exact ⟨(0), (by first | rfl | (simp; done) | (simp [*]; done)), H', ⟨Nat.le_refl _⟩, ⟨rz b1.out⟩, ⟨rz a7.out⟩, ⟨bz a0.out⟩, ⟨wz HB.out⟩⟩
      case round =>
       clear H'
       try clear c1
       try clear p2
       try clear c3
       try clear c5
       try clear g0
       try clear c14b0
       try clear c14b1
       try clear h4
       try clear g3
       try clear c16b0
       try clear c16b1
       try clear g1
       try clear c19b0
       try clear c19b1
       try clear e5
       try clear e8
       try clear d9
       try clear e1
       try clear e7
       try clear e4
       try clear i2
       try clear h3
       try clear h8
       try clear f1
       try clear f2
       try clear f8
       try clear e2
       try clear e9
       try clear e0
       try clear f0
       try clear e6
       try clear e3
       try clear h5
       try clear i3
       try clear h2
       try clear f3
       try clear f9
       try clear f4
       try clear p2
       obtain ⟨a9, rfl, HA, j7, b1, a7, a0, HB⟩ := hrel
       cases gk with
       | zero => exact absurd HA.out (by simp [Pl35a.l0])
       | succ k2 =>
        have H := HA.out
        clear HA
        simp only [Pl35a.l0] at H
        by_cases g8 : a9 < a0_0
        ·rw [if_pos g8] at H
         have c22b0 : decide (a9 < a0_0) = true := decide_eq_true g8
         clear g8
         have H' := Aside0.mk H
         clear H
         have k5 : wr.cell? ⟨a1, 0, none⟩ = some (.int .i64 a0_0) := (blk_cell a0.out 0).trans rfl
         have k1 : wr.cell? ⟨a1, 1, none⟩ = some (.slice A0_1 l0_1.length c0_1) := (blk_cell a0.out 1).trans rfl
         have k7 : wr.cell? ⟨a1, 2, none⟩ = some (.slice A0_2 l0_2.length c0_2) := (blk_cell a0.out 2).trans rfl
         have k6 := blk_frozen a0.out 0
         have k8 := blk_frozen a0.out 1
         have k4 := blk_frozen a0.out 2
         go_wp2
         repeat (go_quiet (fail); try go_wp2)
         go_loopg [8] k2 (fun kq v8 w' => ∃ (b0 : Int), v8 = .int .i64 b0 ∧ Aside0 (Pl35a.l1 kq a4 b8 a9 b0 a0_0 l0_1 l0_2 = some r) ∧ Aside0 (kq ≤ k2) ∧ Aside0 (Kd.R (Kd.int .i64) 3 w' w.heap.size (fun _ => True) (.slice m0 a4.length l4) a4) ∧ Aside0 (Kd.R k71 71 w' w.heap.size (fun _ => True) g9 b8) ∧ Aside0 (w'.heap[a1]? = some (.cells #[.int .i64 a0_0, (.slice A0_1 l0_1.length c0_1), (.slice A0_2 l0_2.length c0_2)] 25 (0, 0))) ∧ Aside0 (Below w.heap.size w w'))
         case atStart => exact ⟨(0), (by first | rfl | (simp; done) | (simp [*]; done)), H', ⟨Nat.le_refl _⟩, ⟨rz b1.out⟩, ⟨rz a7.out⟩, ⟨bz a0.out⟩, ⟨wz HB.out⟩⟩
         case round =>
          clear H'
          try clear c1
          try clear c2
          try clear p2
          try clear c3
          try clear c5
          try clear g0
          try clear c14b0
          try clear c14b1
          try clear h4
          try clear g3
          try clear c16b0
          try clear c16b1
          try clear g1
          try clear c19b0
          try clear c19b1
          try clear g8
          try clear c22b0
          try clear e5
          try clear e8
          try clear d9
          try clear e1
          try clear e7
          try clear e4
          try clear i2
          try clear h3
          try clear h8
          try clear k5
          try clear k1
          try clear k7
          try clear f1
          try clear f2
          try clear f8
          try clear e2
          try clear e9
          try clear e0
          try clear f0
          try clear e6
          try clear e3
          try clear h5
          try clear i3
          try clear h2
          try clear k6
          try clear k8
          try clear k4
          try clear f3
          try clear f9
          try clear f4
          try clear p2
          obtain ⟨b0, rfl, HA, j5, b1, a7, a0, HB⟩ := hrel
          cases gk with
          | zero => exact absurd HA.out (by simp [Pl35a.l1])
          | succ k3 =>
           have H := HA.out
           clear HA
           simp only [Pl35a.l1] at H
           by_cases h7 : b0 < a0_0
           ·rw [if_pos h7] at H
            have c24b0 : decide (b0 < a0_0) = true := decide_eq_true h7
            clear h7
            by_cases k0 : 0 ≤ a9
            ·rw [if_pos k0] at H
             have c25b0 : decide (0 ≤ a9) = true := decide_eq_true k0
             clear k0
             by_cases j8 : a9 < (a4.length : Int)
             ·rw [if_pos j8] at H
              have c26b0 : decide (a9 < (a4.length : Int)) = true := decide_eq_true j8
              clear j8
              by_cases j6 : 0 ≤ b0
              ·rw [if_pos j6] at H
               have c27b0 : decide (0 ≤ b0) = true := decide_eq_true j6
               clear j6
               by_cases j4 : b0 < (a4.length : Int)
               ·rw [if_pos j4] at H
                have c28b0 : decide (b0 < (a4.length : Int)) = true := decide_eq_true j4
                clear j4
                replace H := Option.bind_eq_some_iff.mp H
                obtain ⟨d7, l5, H⟩ := H
                replace H : (if (((rd a4 a9) == (rd a4 b0)) != d7) = true then (some false) else (Pl35a.l1 k3 a4 b8 a9 (wrap64 (b0 + 1)) a0_0 l0_1 l0_2)) = some r := H
                have l6 := Aside0.mk l5
                clear l5
                by_cases f7 : (((rd a4 a9) == (rd a4 b0)) != d7) = true
                ·rw [if_pos f7] at H
                 have c30b0 : (((rd a4 a9) == (rd a4 b0)) != d7) = true := f7
                 (try (have c30b1 : decide (((rd a4 a9) == (rd a4 b0)) = d7) = false := by simpa using f7))
                 (try (have c30b2 : (((rd a4 a9) == (rd a4 b0)) == d7) = false := by simpa using f7))
                 (try (have c30b3 : ¬ (((rd a4 a9) == (rd a4 b0)) = d7) := by simpa using f7))
                 clear f7
                 obtain rfl := Option.some.inj H
                 exact absurd hr_.out (by decide)
                ·rw [if_neg f7] at H
                 have c30b0 : (((rd a4 a9) == (rd a4 b0)) != d7) = false := by simpa using f7
                 (try (have c30b1 : decide (((rd a4 a9) == (rd a4 b0)) = d7) = true := by simpa using f7))
                 (try (have c30b2 : (((rd a4 a9) == (rd a4 b0)) == d7) = true := by simpa using f7))
                 clear f7
                 have H' := Aside0.mk H
                 clear H
                 have n7 : wr.cell? ⟨a1, 0, none⟩ = some (.int .i64 a0_0) := (blk_cell a0.out 0).trans rfl
                 have p4 : wr.cell? ⟨a1, 1, none⟩ = some (.slice A0_1 l0_1.length c0_1) := (blk_cell a0.out 1).trans rfl
                 have p6 : wr.cell? ⟨a1, 2, none⟩ = some (.slice A0_2 l0_2.length c0_2) := (blk_cell a0.out 2).trans rfl
                 have o6 := blk_frozen a0.out 0
                 have o0 := blk_frozen a0.out 1
                 have n8 := blk_frozen a0.out 2
                 have i7 : 0 ≤ (a9 : Int) := of_decide_eq_true (by first | (with_reducible assumption) | assumption)
                 have j2 : a9 < (a4.length : Int) := of_decide_eq_true (by first | (with_reducible assumption) | assumption)
                 obtain ⟨m2, n2, p3⟩ := Kd.at_int (Kd.R_reads' b1.out).2.2 a9 i7 j2
                 cases n2
                 replace i7 := eq_true i7
                 replace j2 := eq_true j2
                 have i8 : 0 ≤ (b0 : Int) := of_decide_eq_true (by first | (with_reducible assumption) | assumption)
                 have i9 : b0 < (a4.length : Int) := of_decide_eq_true (by first | (with_reducible assumption) | assumption)
                 obtain ⟨m3, n4, n6⟩ := Kd.at_int (Kd.R_reads' b1.out).2.2 b0 i8 i9
                 obtain rfl : m2 = m3 := (by injection n4)
                 replace i8 := eq_true i8
                 replace i9 := eq_true i9
                 obtain ⟨q0, p8, n5⟩ := Kd.R_slice a7.out
                 subst n5
                 go_wp2_with (first | (go_at_call 31; (with_reducible refine (Pr35b.calls k3 _ _ b8 a9 b0 d7 _ ?b5 ?b6 l6.out).mono ?_); (case b5 => repeat (first | exact (Kd.R_reads' a7.out).2.2 | (with_reducible refine Kd.C_alloc ?_ _) | (with_reducible refine Kd.C_drewN ?_ _) | (with_reducible refine Kd.C_drew ?_))); (case b6 => exact (Kd.R_reads' a7.out).2.1); rintro e w' ⟨rfl, ⟨nd, rfl⟩⟩; (try first | exact ⟨rfl, _, World.drewN_drewN _ _ _⟩ | exact ⟨rfl, _, Eq.trans (World.drewN_drewN _ _ _) (congrArg (World.drewN _) (Nat.add_assoc _ _ _))⟩)))
                 repeat (go_quiet (first | (go_at_call 31; (with_reducible refine (Pr35b.calls k3 _ _ b8 a9 b0 d7 _ ?b5 ?b6 l6.out).mono ?_); (case b5 => repeat (first | exact (Kd.R_reads' a7.out).2.2 | (with_reducible refine Kd.C_alloc ?_ _) | (with_reducible refine Kd.C_drewN ?_ _) | (with_reducible refine Kd.C_drew ?_))); (case b6 => exact (Kd.R_reads' a7.out).2.1); rintro e w' ⟨rfl, ⟨nd, rfl⟩⟩; (try first | exact ⟨rfl, _, World.drewN_drewN _ _ _⟩ | exact ⟨rfl, _, Eq.trans (World.drewN_drewN _ _ _) (congrArg (World.drewN _) (Nat.add_assoc _ _ _))⟩))); try go_wp2_with (first | (go_at_call 31; (with_reducible refine (Pr35b.calls k3 _ _ b8 a9 b0 d7 _ ?b5 ?b6 l6.out).mono ?_); (case b5 => repeat (first | exact (Kd.R_reads' a7.out).2.2 | (with_reducible refine Kd.C_alloc ?_ _) | (with_reducible refine Kd.C_drewN ?_ _) | (with_reducible refine Kd.C_drew ?_))); (case b6 => exact (Kd.R_reads' a7.out).2.1); rintro e w' ⟨rfl, ⟨nd, rfl⟩⟩; (try first | exact ⟨rfl, _, World.drewN_drewN _ _ _⟩ | exact ⟨rfl, _, Eq.trans (World.drewN_drewN _ _ _) (congrArg (World.drewN _) (Nat.add_assoc _ _ _))⟩))))
                 go_roundg k3
                 case measure => have := j9.out; have := j7.out; have := j5.out; omega
                 case rel => exact ⟨(wrap64 (b0 + 1)), (by first | rfl | (simp; done) | (simp [*]; done)), H', ⟨by have := j9.out; have := j7.out; have := j5.out; omega⟩, ⟨rz b1.out⟩, ⟨rz a7.out⟩, ⟨bz a0.out⟩, ⟨wz HB.out⟩⟩
               ·rw [if_neg j4] at H
                exact absurd H (by simp)
              ·rw [if_neg j6] at H
               exact absurd H (by simp)
             ·rw [if_neg j8] at H
              exact absurd H (by simp)
            ·rw [if_neg k0] at H
             exact absurd H (by simp)
           ·rw [if_neg h7] at H
            have c24b0 : decide (b0 < a0_0) = false := decide_eq_false h7
            clear h7
            have H' := Aside0.mk H
            clear H
            have n9 : wr.cell? ⟨a1, 0, none⟩ = some (.int .i64 a0_0) := (blk_cell a0.out 0).trans rfl
            have o1 : wr.cell? ⟨a1, 1, none⟩ = some (.slice A0_1 l0_1.length c0_1) := (blk_cell a0.out 1).trans rfl
            have o3 : wr.cell? ⟨a1, 2, none⟩ = some (.slice A0_2 l0_2.length c0_2) := (blk_cell a0.out 2).trans rfl
            have o5 := blk_frozen a0.out 0
            have o8 := blk_frozen a0.out 1
            have p1 := blk_frozen a0.out 2
            go_wp2
            repeat (go_quiet (fail); try go_wp2)
            go_roundg k3
            case measure => have := j9.out; have := j7.out; have := j5.out; omega
            case rel => exact ⟨(wrap64 (a9 + 1)), (by first | rfl | (simp; done) | (simp [*]; done)), H', ⟨by have := j9.out; have := j7.out; have := j5.out; omega⟩, ⟨rz b1.out⟩, ⟨rz a7.out⟩, ⟨bz a0.out⟩, ⟨wz HB.out⟩⟩
        ·rw [if_neg g8] at H
         have c22b0 : decide (a9 < a0_0) = false := decide_eq_false g8
         clear g8
         replace H := Option.bind_eq_some_iff.mp H
         obtain ⟨i4, l2, H⟩ := H
         replace H : (some i4) = some r := H
         have l3 := Aside0.mk l2
         clear l2
         obtain rfl := Option.some.inj H
         have o7 : wr.cell? ⟨a1, 0, none⟩ = some (.int .i64 a0_0) := (blk_cell a0.out 0).trans rfl
         have p0 : wr.cell? ⟨a1, 1, none⟩ = some (.slice A0_1 l0_1.length c0_1) := (blk_cell a0.out 1).trans rfl
         have o9 : wr.cell? ⟨a1, 2, none⟩ = some (.slice A0_2 l0_2.length c0_2) := (blk_cell a0.out 2).trans rfl
         have o4 := blk_frozen a0.out 0
         have o2 := blk_frozen a0.out 1
         have p5 := blk_frozen a0.out 2
         go_wp2_with (first | (go_at_call 29; (with_reducible refine (Pl35b.calls k2  i4 _ l3.out hr_).mono ?_); rintro e n1 ⟨rfl, hb⟩; have a2 := Aside0.mk (Kd.R_below (rz b1.out) hb); have a3 := Aside0.mk (Kd.R_below (rz a7.out) hb); have a5 := Aside0.mk (blk_below (bz a0.out) hb); have a6 := Aside0.mk (below_step (wz HB.out) hb); clear b1; clear a7; clear a0; clear HB; have b1 := a2; have a7 := a3; have a0 := a5; have HB := a6; clear a2 a3 a5 a6; (try clear hb); (try clear d3); (try clear hk); (try clear hi)))
         repeat (go_quiet (first | (go_at_call 29; (with_reducible refine (Pl35b.calls k2  i4 _ l3.out hr_).mono ?_); rintro e n1 ⟨rfl, hb⟩; have a2 := Aside0.mk (Kd.R_below (rz b1.out) hb); have a3 := Aside0.mk (Kd.R_below (rz a7.out) hb); have a5 := Aside0.mk (blk_below (bz a0.out) hb); have a6 := Aside0.mk (below_step (wz HB.out) hb); clear b1; clear a7; clear a0; clear HB; have b1 := a2; have a7 := a3; have a0 := a5; have HB := a6; clear a2 a3 a5 a6; (try clear hb); (try clear d3); (try clear hk); (try clear hi))); try go_wp2_with (first | (go_at_call 29; (with_reducible refine (Pl35b.calls k2  i4 _ l3.out hr_).mono ?_); rintro e n1 ⟨rfl, hb⟩; have a2 := Aside0.mk (Kd.R_below (rz b1.out) hb); have a3 := Aside0.mk (Kd.R_below (rz a7.out) hb); have a5 := Aside0.mk (blk_below (bz a0.out) hb); have a6 := Aside0.mk (below_step (wz HB.out) hb); clear b1; clear a7; clear a0; clear HB; have b1 := a2; have a7 := a3; have a0 := a5; have HB := a6; clear a2 a3 a5 a6; (try clear hb); (try clear d3); (try clear hk); (try clear hi))))
         go_ret
         exact ⟨by first | rfl | (simp [errW_none, errW_some] <;> rfl) | (simp [*, errW_none, errW_some] <;> rfl), wz HB.out⟩
     ·rw [if_neg g1] at H
      have c19b0 : ((a4.length : Int) == a0_0) = false := beq_eq_false_iff_ne.mpr g1
      have c19b1 : ((a4.length : Int) != a0_0) = true := bne_iff_ne.mpr g1
      obtain rfl := Option.some.inj H
      exact absurd hr_.out (by decide)
 ·replace c3 := Bool.eq_false_iff.mpr c3
  subst c3
  have H1 : ((Pl35b.f k).bind fun d8 => (some d8)) = some r := by rw [if_neg (show ¬ (false = true) by decide)] at H; exact H
  clear H
  have H := H1
  clear H1
  replace H := Option.bind_eq_some_iff.mp H
  obtain ⟨d8, m1, H⟩ := H
  replace H : (some d8) = some r := H
  have k9 := Aside0.mk m1
  clear m1
  obtain rfl := Option.some.inj H
  go_enter Try.func5, Try.ntmps5
  go_wp2_with (first | ((with_reducible refine gate_dst (N := 1) rfl ?_); refine box_event ?hg (N := 1) ?hd (cs := #[.int .i64 a0_0, .slice A0_1 l0_1.length c0_1, .slice A0_2 l0_2.length c0_2]) (t := 25) ?hr ?_; (case hd => rfl); (case hg => rfl); (case hr => first | (go_simp; done) | (go_simp; rfl)); intro a1 hg f6 hbox hb; have a2 := Aside0.mk (below_step (wz HB.out) hb); have a3 := Aside0.mk (hbox); have a5 := Aside0.mk ((by rw [hg]; exact (below_size (wz HB.out)) : w.heap.size ≤ a1)); have a6 := Aside0.mk ((by rw [hg]; exact (below_size (wz HB.out)) : w.heap.size ≤ a1)); clear HB; have HB := a2; have a0 := a3; have g4 := a5; have g2 := a6; clear a2 a3 a5 a6; clear hb hbox hg; have i1 : f6.cell? ⟨a1, 0, none⟩ = some (.int .i64 a0_0) := (blk_cell a0.out 0).trans rfl; have i0 : f6.cell? ⟨a1, 1, none⟩ = some (.slice A0_1 l0_1.length c0_1) := (blk_cell a0.out 1).trans rfl; have h0 : f6.cell? ⟨a1, 2, none⟩ = some (.slice A0_2 l0_2.length c0_2) := (blk_cell a0.out 2).trans rfl; have h6 := blk_frozen a0.out 0; have h1 := blk_frozen a0.out 1; have h9 := blk_frozen a0.out 2) | (go_at_call 15; (with_reducible refine (Pl33a.calls k a0_0 _ _ l0_1 _ _ l0_2 false _ ?b5 ?b6 ?d5 ?d4 A2.out).mono ?_); (case b5 => exact cz b9.out HB.out); (case b6 => exact d2.out); (case d5 => exact cz d1.out HB.out); (case d4 => exact d0.out); rintro e m5 ⟨rfl, hb⟩; have a2 := Aside0.mk (blk_below (bz a0.out) hb); have a3 := Aside0.mk (below_step (wz HB.out) hb); clear a0; clear HB; have a0 := a2; have HB := a3; clear a2 a3; (try clear hb); (try clear d3); (try clear hk); (try clear hi)) | (go_at_call 29; (with_reducible refine (Pl35b.calls k  d8 _ k9.out hr_).mono ?_); rintro e n0 ⟨rfl, hb⟩; have a2 := Aside0.mk (blk_below (bz a0.out) hb); have a3 := Aside0.mk (below_step (wz HB.out) hb); clear a0; clear HB; have a0 := a2; have HB := a3; clear a2 a3; (try clear hb); (try clear d3); (try clear hk); (try clear hi)))
  repeat (go_quiet (first | ((with_reducible refine gate_dst (N := 1) rfl ?_); refine box_event ?hg (N := 1) ?hd (cs := #[.int .i64 a0_0, .slice A0_1 l0_1.length c0_1, .slice A0_2 l0_2.length c0_2]) (t := 25) ?hr ?_; (case hd => rfl); (case hg => rfl); (case hr => first | (go_simp; done) | (go_simp; rfl)); intro a1 hg f6 hbox hb; have a2 := Aside0.mk (below_step (wz HB.out) hb); have a3 := Aside0.mk (hbox); have a5 := Aside0.mk ((by rw [hg]; exact (below_size (wz HB.out)) : w.heap.size ≤ a1)); have a6 := Aside0.mk ((by rw [hg]; exact (below_size (wz HB.out)) : w.heap.size ≤ a1)); clear HB; have HB := a2; have a0 := a3; have g4 := a5; have g2 := a6; clear a2 a3 a5 a6; clear hb hbox hg; have i1 : f6.cell? ⟨a1, 0, none⟩ = some (.int .i64 a0_0) := (blk_cell a0.out 0).trans rfl; have i0 : f6.cell? ⟨a1, 1, none⟩ = some (.slice A0_1 l0_1.length c0_1) := (blk_cell a0.out 1).trans rfl; have h0 : f6.cell? ⟨a1, 2, none⟩ = some (.slice A0_2 l0_2.length c0_2) := (blk_cell a0.out 2).trans rfl; have h6 := blk_frozen a0.out 0; have h1 := blk_frozen a0.out 1; have h9 := blk_frozen a0.out 2) | (go_at_call 15; (with_reducible refine (Pl33a.calls k a0_0 _ _ l0_1 _ _ l0_2 false _ ?b5 ?b6 ?d5 ?d4 A2.out).mono ?_); (case b5 => exact cz b9.out HB.out); (case b6 => exact d2.out); (case d5 => exact cz d1.out HB.out); (case d4 => exact d0.out); rintro e m5 ⟨rfl, hb⟩; have a2 := Aside0.mk (blk_below (bz a0.out) hb); have a3 := Aside0.mk (below_step (wz HB.out) hb); clear a0; clear HB; have a0 := a2; have HB := a3; clear a2 a3; (try clear hb); (try clear d3); (try clear hk); (try clear hi)) | (go_at_call 29; (with_reducible refine (Pl35b.calls k  d8 _ k9.out hr_).mono ?_); rintro e n0 ⟨rfl, hb⟩; have a2 := Aside0.mk (blk_below (bz a0.out) hb); have a3 := Aside0.mk (below_step (wz HB.out) hb); clear a0; clear HB; have a0 := a2; have HB := a3; clear a2 a3; (try clear hb); (try clear d3); (try clear hk); (try clear hi))); try go_wp2_with (first | ((with_reducible refine gate_dst (N := 1) rfl ?_); refine box_event ?hg (N := 1) ?hd (cs := #[.int .i64 a0_0, .slice A0_1 l0_1.length c0_1, .slice A0_2 l0_2.length c0_2]) (t := 25) ?hr ?_; (case hd => rfl); (case hg => rfl); (case hr => first | (go_simp; done) | (go_simp; rfl)); intro a1 hg f6 hbox hb; have a2 := Aside0.mk (below_step (wz HB.out) hb); have a3 := Aside0.mk (hbox); have a5 := Aside0.mk ((by rw [hg]; exact (below_size (wz HB.out)) : w.heap.size ≤ a1)); have a6 := Aside0.mk ((by rw [hg]; exact (below_size (wz HB.out)) : w.heap.size ≤ a1)); clear HB; have HB := a2; have a0 := a3; have g4 := a5; have g2 := a6; clear a2 a3 a5 a6; clear hb hbox hg; have i1 : f6.cell? ⟨a1, 0, none⟩ = some (.int .i64 a0_0) := (blk_cell a0.out 0).trans rfl; have i0 : f6.cell? ⟨a1, 1, none⟩ = some (.slice A0_1 l0_1.length c0_1) := (blk_cell a0.out 1).trans rfl; have h0 : f6.cell? ⟨a1, 2, none⟩ = some (.slice A0_2 l0_2.length c0_2) := (blk_cell a0.out 2).trans rfl; have h6 := blk_frozen a0.out 0; have h1 := blk_frozen a0.out 1; have h9 := blk_frozen a0.out 2) | (go_at_call 15; (with_reducible refine (Pl33a.calls k a0_0 _ _ l0_1 _ _ l0_2 false _ ?b5 ?b6 ?d5 ?d4 A2.out).mono ?_); (case b5 => exact cz b9.out HB.out); (case b6 => exact d2.out); (case d5 => exact cz d1.out HB.out); (case d4 => exact d0.out); rintro e m5 ⟨rfl, hb⟩; have a2 := Aside0.mk (blk_below (bz a0.out) hb); have a3 := Aside0.mk (below_step (wz HB.out) hb); clear a0; clear HB; have a0 := a2; have HB := a3; clear a2 a3; (try clear hb); (try clear d3); (try clear hk); (try clear hi)) | (go_at_call 29; (with_reducible refine (Pl35b.calls k  d8 _ k9.out hr_).mono ?_); rintro e n0 ⟨rfl, hb⟩; have a2 := Aside0.mk (blk_below (bz a0.out) hb); have a3 := Aside0.mk (below_step (wz HB.out) hb); clear a0; clear HB; have a0 := a2; have HB := a3; clear a2 a3; (try clear hb); (try clear d3); (try clear hk); (try clear hi))))
  go_ret
  exact ⟨by first | rfl | (simp [errW_none, errW_some] <;> rfl) | (simp [*, errW_none, errW_some] <;> rfl), wz HB.out⟩
end Go.Proofs.Ytmcbkmfpmcbdpaa.Pr
set_option linter.unusedVariables false
set_option linter.unusedSimpArgs false
namespace Go.Proofs.Ytmcbkmfpmcbdpaa.H
open Go.RowKit Go.Proofs.Ytmcbkmfpmcbdpaa.Pr Go.Proofs.YtmcbkmfpmcbdpaaW.PrintWords Go.Proofs.Ytmcbkmfpmcbdpaa.Sem
theorem Ev.pos {α : Type} {c : Prop} [Decidable c] {a b : Nat → Option α} {r : α} (h : c) (e : Ev a r) : Ev (fun k => if c then a k else b k) r := by
 simp only [if_pos h]
 exact e
theorem Ev.neg {α : Type} {c : Prop} [Decidable c] {a b : Nat → Option α} {r : α} (h : ¬ c) (e : Ev b r) : Ev (fun k => if c then a k else b k) r := by
 simp only [if_neg h]
 exact e
theorem Ev.some_ {α : Type} {a : Nat → Option α} {r : α} (h : ∀ k, a k = some r) : Ev a r := ⟨0, fun k _ => h k⟩
theorem Ev.bindS {α β : Type} {g : Option α} {f : Nat → α → Option β} {a : α} {r : β} (h : g = some a) (k : Ev (fun n => f n a) r) : Ev (fun n => g.bind (f n)) r := by
 subst h
 simpa using k
theorem Ev.last {α : Type} {g : Nat → Option α} {r : α} (h : Ev g r) : Ev (fun n => (g n).bind fun t => some t) r := by
 obtain ⟨K, h⟩ := h
 exact ⟨K, fun k hk => by simp [h k hk]⟩
theorem w1 {i : Int} (h0 : 0 ≤ i) (h1 : i < 4611686018427387904) : wrap64 (i + 1) = i + 1 := by unfold wrap64; omega
theorem w1n {k : Nat} (h1 : (k : Int) < 4611686018427387904) : wrap64 ((k : Int) + 1) = ((k + 1 : Nat) : Int) := by unfold wrap64; omega
theorem take_snocD {α : Type} (d : α) {xs : List α} {k : Nat} (hk : k < xs.length) : xs.take (k + 1) = xs.take k ++ [xs.getD k d] := take_snoc d hk
end Go.Proofs.Ytmcbkmfpmcbdpaa.H
set_option linter.unusedVariables false
set_option linter.unusedSimpArgs false
namespace Go.Proofs.Ytmcbkmfpmcbdpaa.H
open Go.RowKit Go.Proofs.Ytmcbkmfpmcbdpaa.Pr Go.Proofs.YtmcbkmfpmcbdpaaW.PrintWords Go.Proofs.Ytmcbkmfpmcbdpaa.Sem
def SmallL (n : Int) (ls : List ByteArray) (es : List Ed) : Prop := (n ≤ 16 ∨ 2048 < n) ∧ es.length ≤ 60 ∧ ls.length ≤ 8
theorem ite_ev {α : Type} (c : Prop) [Decidable c] {a b : Nat → Option α} (h1 : c → ∃ r, Ev a r) (h2 : ¬ c → ∃ r, Ev b r) : ∃ r, Ev (fun k => if c then a k else b k) r := by
 by_cases h : c
 ·obtain ⟨r, e⟩ := h1 h
  exact ⟨r, Ev.pos h e⟩
 ·obtain ⟨r, e⟩ := h2 h
  exact ⟨r, Ev.neg h e⟩
theorem light26_end (n : Int) (ls : List ByteArray) (es : List Ed) (i : Int) : ∃ b, Ev (fun k => Pr26a.j1 k i false n ls es) b := by
 obtain ⟨b, h⟩ : ∃ b, Ev (fun _ : Nat => if (ls.length : Int) < 70 then (if (es.length : Int) ≤ 200 then (if n ≤ 60 then some true else some (decide (n > 2048))) else some false) else some false) b := by
  refine ite_ev _ (fun _ => ite_ev _ (fun _ => ite_ev _ (fun _ => ⟨_, Ev.now _⟩) fun _ => ⟨_, Ev.now _⟩) fun _ => ⟨_, Ev.now _⟩) fun _ => ⟨_, Ev.now _⟩
 exact ⟨b, Ev.step (fun k => Pr26a.j1.eq_2 ..) (Ev.neg (by simp) h)⟩
theorem light26_ev (n : Int) (ls : List ByteArray) (es : List Ed) : ∀ d i : Nat, i + d = 70 → ∃ b, Ev (fun k => Pr26a.l0 k (i : Int) n ls es) b
 | 0, i, h => by
  obtain ⟨b, e⟩ := light26_end n ls es (i : Int)
  refine ⟨b, Ev.step (fun k => Pr26a.l0.eq_2 ..) ?_⟩
  rw [decide_eq_false (show ¬ (i : Int) < 70 by omega)]
  simp only [ite_self]
  exact e
 | d + 1, i, h => by
  by_cases hl : (i : Int) < (ls.length : Int)
  ·by_cases hs : ((rdOf ByteArray.empty ls (i : Int)).size : Int) > 300
   ·refine ⟨false, Ev.step (fun k => Pr26a.l0.eq_2 ..) (Ev.pos hl ?_)⟩
    rw [decide_eq_true (show (i : Int) < 70 by omega)]
    exact Ev.step (fun k => Pr26a.j1.eq_2 ..) (Ev.pos rfl (Ev.pos (by omega) (Ev.pos hl (Ev.pos hs (Ev.now _)))))
   ·obtain ⟨b, e⟩ := light26_ev n ls es d (i + 1) (by omega)
    refine ⟨b, Ev.step (fun k => Pr26a.l0.eq_2 ..) (Ev.pos hl ?_)⟩
    rw [decide_eq_true (show (i : Int) < 70 by omega)]
    refine Ev.step (fun k => Pr26a.j1.eq_2 ..) (Ev.pos rfl (Ev.pos (by omega) (Ev.pos hl (Ev.neg hs ?_))))
    rw [w1n (by omega)]
    exact e
  ·obtain ⟨b, e⟩ := light26_end n ls es (i : Int)
   exact ⟨b, Ev.step (fun k => Pr26a.l0.eq_2 ..) (Ev.neg hl e)⟩
theorem light33_ev (n : Int) (ls : List ByteArray) (es : List Ed) : ∃ b, Ev (fun k => Pl33a.f k n ls es) b ∧ (b = true → SmallL n ls es) := by
 obtain ⟨b, e⟩ := light26_ev n ls es 70 0 rfl
 have e' : Ev (fun k => Pr26a.f k n ls es) b := e
 cases b with
 | false => exact ⟨false, Ev.bind e' (Ev.neg (by simp) (Ev.now _)), fun h => by cases h⟩
 | true =>
  by_cases h1 : n ≤ 16
  ·by_cases h2 : (es.length : Int) ≤ 60
   ·exact ⟨_, Ev.bind e' (Ev.pos rfl (Ev.pos h1 (Ev.pos h2 (Ev.now _)))), fun h => ⟨.inl h1, by omega, by have := of_decide_eq_true h; omega⟩⟩
   ·exact ⟨_, Ev.bind e' (Ev.pos rfl (Ev.pos h1 (Ev.neg h2 (Ev.now _)))), fun h => by cases h⟩
  ·by_cases h3 : n > 2048
   ·by_cases h2 : (es.length : Int) ≤ 60
    ·exact ⟨_, Ev.bind e' (Ev.pos rfl (Ev.neg h1 (Ev.pos h3 (Ev.pos h2 (Ev.now _))))), fun h => ⟨.inr h3, by omega, by have := of_decide_eq_true h; omega⟩⟩
    ·exact ⟨_, Ev.bind e' (Ev.pos rfl (Ev.neg h1 (Ev.pos h3 (Ev.neg h2 (Ev.now _))))), fun h => by cases h⟩
   ·exact ⟨_, Ev.bind e' (Ev.pos rfl (Ev.neg h1 (Ev.neg h3 (Ev.now _)))), fun h => by cases h⟩
end Go.Proofs.Ytmcbkmfpmcbdpaa.H
set_option linter.unusedVariables false
set_option linter.unusedSimpArgs false
namespace Go.Proofs.Ytmcbkmfpmcbdpaa.H
open Go.RowKit Go.Proofs.Ytmcbkmfpmcbdpaa.Pr Go.Proofs.YtmcbkmfpmcbdpaaW.PrintWords Go.Proofs.Ytmcbkmfpmcbdpaa.Sem
theorem any_take_snocR {α : Type} (d : α) (p : α → Bool) {xs : List α} {j : Nat} (h : j < xs.length) : (xs.take (j + 1)).any p = ((xs.take j).any p || p (xs.getD j d)) := by
 rw [take_snocD d h, List.any_append]
 simp
theorem rd31 (xs : List Pair) (i : Nat) : rd_T71 xs (i : Int) = xs.getD i z71 := rfl
theorem in35_ev (rel : List Pair) (a b : Int) (hl : rel.length ≤ 1000000000) : Ev (fun k => Pr35b.f k rel a b) (relS rel a b) := by
 have key : ∀ d i : Nat, i + d = rel.length → ((rel.take i).any fun p => decide (p.f0 = a) && decide (p.f1 = b)) = false → Ev (fun k => Pr35b.l0 k rel a b (i : Int)) (relS rel a b) := by
  intro d
  induction d with
  | zero =>
   intro i h hall
   rw [List.take_of_length_le (by omega)] at hall
   have hr : relS rel a b = false := hall
   rw [hr]
   exact Ev.step (fun k => Pr35b.l0.eq_2 ..) (Ev.neg (by omega) (Ev.now _))
  | succ d ih =>
   intro i h hall
   have hi : i < rel.length := by omega
   have ih' := ih (i + 1) (by omega)
   rw [any_take_snocR z71 _ hi, hall, Bool.false_or] at ih'
   refine Ev.step (fun k => Pr35b.l0.eq_2 ..) (Ev.pos (by omega) (Ev.pos (by omega) ?_))
   rw [rd31, w1n (by omega)]
   obtain ⟨x, hx⟩ : ∃ x, x = rel.getD i z71 := ⟨_, rfl⟩
   rw [← hx] at ih' ⊢
   by_cases h1 : x.f0 = a ∧ x.f1 = b
   ·have hr : relS rel a b = true := by
     unfold relS
     rw [List.any_eq_true]
     exact ⟨x, by rw [hx]; exact (by rw [List.getD_eq_getElem?_getD, List.getElem?_eq_getElem hi]; exact List.getElem_mem hi), by simp [h1.1, h1.2]⟩
    rw [hr]
    exact Ev.pos (by simp [h1.1, h1.2]) (Ev.now _)
   ·exact Ev.neg (by simpa using h1) (ih' (by simpa using h1))
 exact key rel.length 0 (by omega) (by simp)
theorem aw35 : Ev (fun k => Pl35b.f k) true := Ev.of Pl35b.mono (k := 20) (by kernel_rfl)
theorem es_ndR {n : Nat} {ls : List ByteArray} {es : List Ed} (hm : mayR n ls es = true) : ∀ e ∈ es, Nd n e.f0 ∧ Nd n e.f2 := fun e he => by
 obtain ⟨k, hk, rfl⟩ := List.getElem_of_mem he
 have := es_at hm hk
 rw [show es.getD k z80 = es[k] by simp [List.getD_eq_getElem?_getD, List.getElem?_eq_getElem hk]] at this
 exact this
theorem great_len (n : Nat) (es : List Ed) (hn : n ≤ 2048) : (greatL n es).length ≤ 1000000000 := by
 have h1 := (great_spec n es).1.length_le
 have h2 : (pairsTo n n).length ≤ 2048 * 2048 := by
  have h3 : (pairsTo n n).length = n * n := pairsTo_length n n
  rw [h3]
  exact Nat.mul_le_mul hn hn
 omega
theorem blocks_in {n : Nat} {ls : List ByteArray} {es : List Ed} (hm : mayR n ls es = true) (a : Nat) (ha : a < n) {r : Bool} (hend : Ev (fun k => Pl35a.l0 k (refL n es) (greatL n es) ((a + 1 : Nat) : Int) (n : Int) ls es) r) : ∀ d b : Nat, b + d = n → Ev (fun k => Pl35a.l1 k (refL n es) (greatL n es) (a : Int) (b : Int) (n : Int) ls es) r := by
 have hn := n_le hm
 have hl := refL_length n es
 intro d
 induction d with
 | zero =>
  intro b h
  refine Ev.step (fun k => Pl35a.l1.eq_2 ..) (Ev.neg (by omega) ?_)
  rw [w1n (by omega)]
  exact hend
 | succ d ih =>
  intro b h
  have hb : b < n := by omega
  refine Ev.step (fun k => Pl35a.l1.eq_2 ..) (Ev.pos (by omega) (Ev.pos (by omega) (Ev.pos (by rw [hl]; omega) (Ev.pos (by omega) (Ev.pos (by rw [hl]; omega) (Ev.bind (in35_ev _ _ _ (great_len n es (by omega))) (Ev.neg ?_ ?_)))))))
  ·have hs := refL_same (es_ndR hm) ha hb
   have e1 : rd (refL n es) (a : Int) = (refL n es).getD a 0 := rfl
   have e2 : rd (refL n es) (b : Int) = (refL n es).getD b 0 := rfl
   rw [e1, e2]
   have : ((refL n es).getD a 0 == (refL n es).getD b 0) = relS (greatL n es) (a : Int) (b : Int) := by
    rw [Bool.eq_iff_iff, beq_iff_eq]
    exact hs
   rw [this]
   simp
  ·rw [w1n (by omega)]
   exact ih (b + 1) (by omega)
theorem blocks_out {n : Nat} {ls : List ByteArray} {es : List Ed} (hm : mayR n ls es = true) : ∀ d a : Nat, a + d = n → Ev (fun k => Pl35a.l0 k (refL n es) (greatL n es) (a : Int) (n : Int) ls es) true := by
 have hn := n_le hm
 intro d
 induction d with
 | zero =>
  intro a h
  exact Ev.step (fun k => Pl35a.l0.eq_2 ..) (Ev.neg (by omega) (Ev.last aw35))
 | succ d ih =>
  intro a h
  exact Ev.step (fun k => Pl35a.l0.eq_2 ..) (Ev.pos (by omega) (blocks_in hm a (by omega) (ih (a + 1) (by omega)) n 0 (by omega)))
theorem bisimBlocks_true (n : Int) (ls : List ByteArray) (es : List Ed) : Ev (fun k => Pl35a.f k n ls es) true := by
 obtain ⟨b, hL, _⟩ := light33_ev n ls es
 refine Ev.bind hL ?_
 cases b with
 | false => exact Ev.neg (by simp) (Ev.last aw35)
 | true =>
  refine Ev.pos rfl ?_
  cases hm : mayR n ls es with
  | false =>
   refine Ev.bindS (a := ([], 1)) (by unfold Pra.f; rw [hm]; rfl) (Ev.bindS (a := ([], 1)) (by unfold Pxb.f; rw [hm]; rfl) (Ev.pos rfl ?_))
   exact Ev.step (fun k => Pl35a.j0.eq_2 ..) (Ev.pos (by decide) (Ev.pos rfl (Ev.last aw35)))
  | true =>
   obtain ⟨m, rfl⟩ := Int.eq_ofNat_of_zero_le (show 0 ≤ n by have := n_le hm; omega)
   refine Ev.bindS (a := (refL m es, 0)) (by unfold Pra.f; rw [hm]; rfl) (Ev.bindS (a := (greatL m es, 0)) (by unfold Pxb.f; rw [hm]; rfl) (Ev.pos rfl ?_))
   exact Ev.step (fun k => Pl35a.j0.eq_2 ..) (Ev.neg (by simp) (Ev.pos (by rw [refL_length]) (blocks_out hm m 0 (by omega))))
end Go.Proofs.Ytmcbkmfpmcbdpaa.H
