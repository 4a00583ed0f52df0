/-
  Parts of the proof of RefineOf (joined by wip/tools/bundle.py), part 4: plain words and walks of the functions that the law reaches.
-/
import Derived.Test.YtmcbkmfpmcbdpaaZRefineOf3
set_option linter.unusedVariables false
set_option linter.unusedSimpArgs false
set_option linter.unusedSectionVars false
namespace Go.Proofs.Ytmcbkmfpmcbdpaa.H
open Go.RowKit Go.Proofs.Ytmcbkmfpmcbdpaa.Pr Go.Proofs.YtmcbkmfpmcbdpaaW.PrintWords Go.Proofs.Ytmcbkmfpmcbdpaa.Sem Go.Proofs.YtmcbkmfpmcbdpaaW.PrintLast
set_option maxHeartbeats 16000000 in
set_option maxRecDepth 100000 in
theorem refine_any {T n : Nat} {v1 v2 : Value} {s : Sg} {p : PSt} {wt : Int → Bool} {cls : Nat → Cl} {es : List Ed} {old : Nat} (w0 w : World) (hS : SP w0.heap.size T w cls s) (hD : Std n v1 v2 s p) (hP : PW n p) (hI : StdI n es s) (hn0 : 0 < n) (hn : n ≤ 2048) (hel : es.length ≤ 1000000) (hes : ∀ e ∈ es, Nd n e.f0 ∧ (0 ≤ e.f1 ∧ e.f1 < 64) ∧ Nd n e.f2)
    {fr : Nat} {b : Nat} (hfr : fr < p.heaps.length) (hfb : gl p.heaps (fr : Int) = [(b : Int)]) {H0 : Int → Int} (hC : StdC es s fr H0) (hold : old < fr) (hLo : ∀ x ∈ gl p.blocks (b : Int), H0 x = (old : Int)) (hH : ∀ x, Nd n x → HP p x = if gi p.block x = (b : Int) then (fr : Int) else H0 x) (hH0 : ∀ x, Nd n x → H0 x < (fr : Int)) (hR : RefJ n es (gi p.block) H0 (gi p.block) (HP p) (fr : Int) (old : Int) 0)
    {A1 : Option Addr} {nl c1 : Nat} (hv1 : v1 = .slice A1 nl c1) (hnl : nl ≤ 64) (hW : StdW s wt) (hWt : Wt p wt) (hB : Below w0.heap.size w0 w) :
    Calls Try.prog 149 #[.pointer (some ⟨T, 0, none⟩), .int .i64 (fr : Int), .int .i64 (old : Int)] w fun e w' => e = .returned (.tuple #[]) ∧ ∃ s' cls' p' wt', SP w0.heap.size T w' cls' s' ∧ Std n v1 v2 s' p' ∧ PW n p' ∧ StdW s' wt' ∧ Wt p' wt' ∧ StdI n es s' ∧ StdC es s' (fr + 1) (HP p) ∧ RefJ n es (gi p.block) H0 (gi p'.block) (HP p) (fr : Int) (old : Int) nl ∧ (∀ x, Nd n x → HP p' x = HP p x) ∧ p'.heaps.length = p.heaps.length ∧ Fr w w' cls cls' (fun _ => False) ∧ Below w0.heap.size w0 w' := by
  have hmm := @run_makeMap Try.prog
  have hb : Nd p.blocks.length (b : Int) := ((hP.hm (fr : Int) (nd_iff.2 hfr) (b : Int)).1 (by rw [hfb]; simp)).1
  have hbn := nd_iff.1 hb
  have hnb := hP.nb_le
  have hnh := hP.nh_le
  have hhs : s.hs.length = p.heaps.length := by rw [hD.hs, hD.hl]
  obtain ⟨gS, cS, hvS, hcS⟩ := hS.slice (hS .hs) (by rw [hhs]; omega)
  rw [hhs] at hvS
  have hbs : s.bs.length = p.blocks.length := by rw [hD.bs, hD.bl]
  obtain ⟨gQ, cQ, hvQ, hcQ⟩ := hS.slice (hS .bs) (by rw [hbs]; omega)
  rw [hbs] at hvQ
  have t5 : w.cell? ⟨T, 5, none⟩ = some (.slice (some ⟨gQ, 0, none⟩) p.blocks.length cQ) := by rw [hS.cell 5 s.vBs (by rw [hD.tc]; rfl), hvQ]
  have t7 : w.cell? ⟨T, 7, none⟩ = some (.slice (some ⟨gS, 0, none⟩) p.heaps.length cS) := by rw [hS.cell 7 s.vHs (by rw [hD.tc]; rfl), hvS]
  have hRf : IR w w0.heap.size cls (.hro fr) (slV (s.hsl.getD fr nilL)) [(b : Int)] := by
    have h : IR w w0.heap.size cls (.hro fr) (slV (s.hsl.getD fr nilL)) (s.heaps.getD fr []) := hS (.hro fr) (by rw [hD.hl]; exact hfr)
    rw [hD.heaps] at h
    rw [← hfb]
    exact h
  obtain ⟨gF, cF, hvF, hcF⟩ := IR.slice hRf (by simp)
  have q7 : w.cell? ⟨gS, fr, none⟩ = some (.slice (some ⟨gF, 0, none⟩) 1 cF) := by rw [(hcS fr (by rw [hhs]; exact hfr)).1, hD.hs, hvF]; rfl
  have q8 : w.cell? ⟨gF, 0, none⟩ = some (.int .i64 (b : Int)) := (hcF 0 (by simp)).1
  obtain ⟨L, hL⟩ : ∃ L, L = gl p.blocks (b : Int) := ⟨_, rfl⟩
  have hRb : IR w w0.heap.size cls (.bro b) (slV (s.bsl.getD b nilL)) L := by
    have h : IR w w0.heap.size cls (.bro b) (slV (s.bsl.getD b nilL)) (s.blocks.getD b []) := hS (.bro b) (by rw [hD.bl]; exact hbn)
    rw [hD.blocks] at h
    rw [hL]
    exact h
  obtain ⟨AL, cL, hvL, _, hCL⟩ := Kd.R_reads hRb
  have q9 : w.cell? ⟨gQ, b, none⟩ = some (.slice AL L.length cL) := by rw [(hcQ b (by rw [hbs]; exact hbn)).1, hD.bs, hvL]
  have hLl : L.length ≤ n := by rw [hL]; exact hP.len_b hb
  have HS := Aside0.mk hS
  have HD := Aside0.mk hD
  have HP := Aside0.mk hP
  have HI := Aside0.mk hI
  have HC := Aside0.mk hC
  have o3 := Aside0.mk (And.intro hH (And.intro hH0 hR))
  have HW := Aside0.mk hW
  have HWt := Aside0.mk hWt
  subst hv1
  have HLo := Aside0.mk hLo
  have HEs := Aside0.mk hes
  have HB := Aside0.mk hB
  have HL := Aside0.mk hL
  have HT := Aside0.mk (And.intro t5 (And.intro t7 (And.intro q7 (And.intro q8 q9))))
  have HCL := Aside0.mk hCL
  have HFb := Aside0.mk hfb
  clear hS hD hP hI hC hLo hH hH0 hR hW hWt hes hB hL t5 t7 q7 q8 q9 hCL hvS hcS hvQ hcQ hRf hvF hcF hRb hvL hfb hb hhs hbs
  go_enter Try.func149, Try.ntmps149
  go_wp2_with fail
  have a0 := below_drew1 (below_alloc (Below.refl w.heap.size w) (Obj.map #[] 0))
  have j7 := Aside0.mk (show G2 (w.alloc (Obj.map #[] 0)).drew w.heap.size (fun _ => none) 0 from GM.made _ _ _ _ _)
  have a7 := Aside0.mk a0
  have t5 := later a0 HT.out.1
  have t7 := later a0 HT.out.2.1
  have q7 := later a0 HT.out.2.2.1
  have q8 := later a0 HT.out.2.2.2.1
  have q9 := later a0 HT.out.2.2.2.2
  have k1 : fr < p.heaps.length := hfr
  have k2 : b < p.blocks.length := hbn
  clear a0 hmm
  refine start_ (n := 18) (S := fun w' => w'.cell? ⟨T, 5, none⟩ = some (.slice (some ⟨gQ, 0, none⟩) p.blocks.length cQ) ∧ w'.cell? ⟨T, 7, none⟩ = some (.slice (some ⟨gS, 0, none⟩) p.heaps.length cS) ∧ w'.cell? ⟨gS, fr, none⟩ = some (.slice (some ⟨gF, 0, none⟩) 1 cF) ∧ w'.cell? ⟨gF, 0, none⟩ = some (.int .i64 (b : Int)) ∧ w'.cell? ⟨gQ, b, none⟩ = some (.slice AL L.length cL)) (ds := []) #[false, false, false, false, false, false, false, false, false, false, false, false, false, false, false, false, false, false] (by kernel_rfl) rfl rfl ⟨t5, t7, q7, q8, q9⟩ (fun hHeld => ?_)
  clear t5 t7 q7 q8 q9
  generalize (w.alloc (Obj.map #[] 0)).drew = V at j7 a7 hHeld ⊢
  have HH := Aside0.mk hHeld
  have HV := Aside0.mk (Below.refl V.heap.size V)
  refine pure_ (i := 1) (N := some 20) (v := ?_) (a' := ?_) #[false, true, false, false, false, false, false, false, false, false, false, false, false, false, false, false, false, false] rfl rfl (by kernel_rfl) (fun _ _ _ h => h) (Or.inl ⟨by rfl, ?_⟩) ?_ ?_
  rotate_left
  · intro w'
    go_simp
    with_reducible rfl
  rotate_left
  · simp only [Act.put, List.setIfInBounds_toArray, List.set_cons_zero, List.set_cons_succ, i64_w, i32_w]
    rfl
  refine pure_ (i := 2) (N := some 21) (v := ?_) (a' := ?_) #[false, true, true, false, false, false, false, false, false, false, false, false, false, false, false, false, false, false] rfl rfl (by kernel_rfl) (fun _ _ _ h => h) (Or.inl ⟨by rfl, ?_⟩) ?_ ?_
  rotate_left
  · intro w'
    go_simp
    with_reducible rfl
  rotate_left
  · simp only [Act.put, List.setIfInBounds_toArray, List.set_cons_zero, List.set_cons_succ, i64_w, i32_w]
    rfl
  refine pure_ (i := 3) (N := some 22) (v := ?_) (a' := ?_) #[false, true, true, true, false, false, false, false, false, false, false, false, false, false, false, false, false, false] rfl rfl (by kernel_rfl) (fun _ _ _ h => h) (Or.inl ⟨by rfl, ?_⟩) ?_ ?_
  rotate_left
  · intro w'
    go_simp
    with_reducible rfl
  rotate_left
  · simp only [Act.put, List.setIfInBounds_toArray, List.set_cons_zero, List.set_cons_succ, i64_w, i32_w]
    rfl
  refine pure_ (i := 5) (N := some 24) (v := ?_) (a' := ?_) #[false, true, true, true, false, true, false, false, false, false, false, false, false, false, false, false, false, false] rfl rfl (by kernel_rfl) (fun _ _ _ h => h) (Or.inl ⟨by rfl, ?_⟩) ?_ ?_
  rotate_left
  · intro w'
    go_simp
    with_reducible rfl
  rotate_left
  · simp only [Act.put, List.setIfInBounds_toArray, List.set_cons_zero, List.set_cons_succ, i64_w, i32_w]
    rfl
  refine pure_ (i := 6) (N := some 25) (v := ?_) (a' := ?_) #[false, true, true, true, false, true, true, false, false, false, false, false, false, false, false, false, false, false] rfl rfl (by kernel_rfl) (fun _ _ _ h => h) (Or.inl ⟨by rfl, ?_⟩) ?_ ?_
  rotate_left
  · intro w'
    go_simp
    with_reducible rfl
  rotate_left
  · simp only [Act.put, List.setIfInBounds_toArray, List.set_cons_zero, List.set_cons_succ, i64_w, i32_w]
    rfl
  refine pure_ (i := 7) (N := some 26) (v := ?_) (a' := ?_) #[false, true, true, true, false, true, true, true, false, false, false, false, false, false, false, false, false, false] rfl rfl (by kernel_rfl) (fun _ _ _ h => h) (Or.inl ⟨by rfl, ?_⟩) ?_ ?_
  rotate_left
  · intro w'
    go_simp
    with_reducible rfl
  rotate_left
  · simp only [Act.put, List.setIfInBounds_toArray, List.set_cons_zero, List.set_cons_succ, i64_w, i32_w]
    rfl
  refine pure_ (i := 9) (N := some 28) (v := ?_) (a' := ?_) #[false, true, true, true, false, true, true, true, false, true, false, false, false, false, false, false, false, false] rfl rfl (by kernel_rfl) (fun _ _ _ h => h) (Or.inl ⟨by rfl, ?_⟩) ?_ ?_
  rotate_left
  · intro w'
    go_simp
    with_reducible rfl
  rotate_left
  · simp only [Act.put, List.setIfInBounds_toArray, List.set_cons_zero, List.set_cons_succ, i64_w, i32_w]
    rfl
  refine take_ (i := 4) (N := some 23) (v := ?_) (a' := ?_) #[false, true, true, true, true, true, true, true, false, true, false, false, false, false, false, false, false, false] rfl rfl (by kernel_rfl) (fun _ _ _ h => h) (Or.inl ⟨by rfl, ?_⟩) hHeld ?_ ?_
  rotate_left
  · rintro w' ⟨s0, s1, s2, s3, s4⟩
    go_simp
    with_reducible rfl
  rotate_left
  · simp only [Act.put, List.setIfInBounds_toArray, List.set_cons_zero, List.set_cons_succ, i64_w, i32_w]
    rfl
  refine take_ (i := 8) (N := some 27) (v := ?_) (a' := ?_) #[false, true, true, true, true, true, true, true, true, true, false, false, false, false, false, false, false, false] rfl rfl (by kernel_rfl) (fun _ _ _ h => h) (Or.inl ⟨by rfl, ?_⟩) hHeld ?_ ?_
  rotate_left
  · rintro w' ⟨s0, s1, s2, s3, s4⟩
    go_simp
    with_reducible rfl
  rotate_left
  · simp only [Act.put, List.setIfInBounds_toArray, List.set_cons_zero, List.set_cons_succ, i64_w, i32_w]
    rfl
  refine pure_ (i := 10) (N := some 29) (v := ?_) (a' := ?_) #[false, true, true, true, true, true, true, true, true, true, true, false, false, false, false, false, false, false] rfl rfl (by kernel_rfl) (fun _ _ _ h => h) (Or.inl ⟨by rfl, ?_⟩) ?_ ?_
  rotate_left
  · intro w'
    go_simp
    with_reducible rfl
  rotate_left
  · simp only [Act.put, List.setIfInBounds_toArray, List.set_cons_zero, List.set_cons_succ, i64_w, i32_w]
    rfl
  refine take_ (i := 11) (N := some 30) (v := ?_) (a' := ?_) #[false, true, true, true, true, true, true, true, true, true, true, true, false, false, false, false, false, false] rfl rfl (by kernel_rfl) (fun _ _ _ h => h) (Or.inl ⟨by rfl, ?_⟩) hHeld ?_ ?_
  rotate_left
  · rintro w' ⟨s0, s1, s2, s3, s4⟩
    go_simp
    with_reducible rfl
  rotate_left
  · simp only [Act.put, List.setIfInBounds_toArray, List.set_cons_zero, List.set_cons_succ, i64_w, i32_w]
    rfl
  refine pure_ (i := 12) (N := some 31) (v := ?_) (a' := ?_) #[false, true, true, true, true, true, true, true, true, true, true, true, true, false, false, false, false, false] rfl rfl (by kernel_rfl) (fun _ _ _ h => h) (Or.inl ⟨by rfl, ?_⟩) ?_ ?_
  rotate_left
  · intro w'
    go_simp
    with_reducible rfl
  rotate_left
  · simp only [Act.put, List.setIfInBounds_toArray, List.set_cons_zero, List.set_cons_succ, i64_w, i32_w]
    rfl
  refine take_ (i := 13) (N := some 32) (v := ?_) (a' := ?_) #[false, true, true, true, true, true, true, true, true, true, true, true, true, true, false, false, false, false] rfl rfl (by kernel_rfl) (fun _ _ _ h => h) (Or.inl ⟨by rfl, ?_⟩) hHeld ?_ ?_
  rotate_left
  · rintro w' ⟨s0, s1, s2, s3, s4⟩
    go_simp
    with_reducible rfl
  rotate_left
  · simp only [Act.put, List.setIfInBounds_toArray, List.set_cons_zero, List.set_cons_succ, i64_w, i32_w]
    rfl
  refine pure_ (i := 14) (N := some 33) (v := ?_) (a' := ?_) #[false, true, true, true, true, true, true, true, true, true, true, true, true, true, true, false, false, false] rfl rfl (by kernel_rfl) (fun _ _ _ h => h) (Or.inl ⟨by rfl, ?_⟩) ?_ ?_
  rotate_left
  · intro w'
    go_simp
    with_reducible rfl
  rotate_left
  · simp only [Act.put, List.setIfInBounds_toArray, List.set_cons_zero, List.set_cons_succ, i64_w, i32_w]
    rfl
  refine take_ (i := 15) (N := some 34) (v := ?_) (a' := ?_) #[false, true, true, true, true, true, true, true, true, true, true, true, true, true, true, true, false, false] rfl rfl (by kernel_rfl) (fun _ _ _ h => h) (Or.inl ⟨by rfl, ?_⟩) hHeld ?_ ?_
  rotate_left
  · rintro w' ⟨s0, s1, s2, s3, s4⟩
    go_simp
    with_reducible rfl
  rotate_left
  · simp only [Act.put, List.setIfInBounds_toArray, List.set_cons_zero, List.set_cons_succ, i64_w, i32_w]
    rfl
  refine one_ (i := 0) (N := some 19) #[true, true, true, true, true, true, true, true, true, true, true, true, true, true, true, true, false, false] rfl rfl (by kernel_rfl) (by decide) (fun K hK => ?_)
  refine Kd.R_lit_step (Kd.int .i64) (w0 := V) V.heap.size 3 (by rfl) (N := 19) rfl (xs := ([] : List Int)) (inner := []) (okp := fun _ => False) (ok := fun _ => True) ?hr ⟨rfl, fun j p h => by simp at h⟩ (fun _ hk => hk.elim) trivial HV.out (Nat.le_refl _) (by simp) ?_
  (case hr => first | (go_simp; done) | (go_simp; rfl))
  intro v5 w5 ho hb hg hat
  obtain ⟨A5, c5, y3⟩ := Kd.R_slice ho
  subst y3
  have q1 := Aside0.mk ho
  have a8 := Aside0.mk hb
  clear ho hb hg hat
  refine hK.out _ _ ⟨later a8.out HH.out.1, later a8.out HH.out.2.1, later a8.out HH.out.2.2.1, later a8.out HH.out.2.2.2.1, later a8.out HH.out.2.2.2.2⟩ (fun hHeld => ?_)
  clear hK K
  refine norm_ (a' := ?_) ?_ ?_
  rotate_left
  · show Act.put _ (some 19) _ = _
    simp only [Act.put, List.setIfInBounds_toArray, List.set_cons_zero, List.set_cons_succ, i64_w, i32_w]
    rfl
  refine one_ (i := 16) (N := some 35) #[true, true, true, true, true, true, true, true, true, true, true, true, true, true, true, true, true, false] rfl rfl (by kernel_rfl) (by decide) (fun K hK => ?_)
  refine Kd.R_append_rows_step (Kd.int .i64) (Rr := (Kd.int .i64).K w5) (w0 := V) V.heap.size (by rfl) (.tmp 19) (.tmp 34) 28 3 (.int .i64 0) 8 rfl Try.underlying28 infoI rfl (by decide) (by omega) (.slice A5 ([] : List Int).length c5) [] L AL L.length cL (fun _ => True) (fun _ => False) rfl rfl q1.out (Kd.C_below (Kd.C_below HCL.out a7.out) a8.out) (fun _ _ h => h) (fun _ hk => hk.elim) (fun _ _ => trivial) a8.out a8.out.size (by simp; omega) ?_
  intro v6 w6 ho hb hg hat
  obtain ⟨A6, c6, v9⟩ := Kd.R_slice ho
  rw [List.nil_append] at ho v9
  subst v9
  have p4 := Aside0.mk ho
  have a1 := Aside0.mk hb
  clear ho hb hg hat
  refine hK.out _ _ ⟨later a1.out HH.out.1, later a1.out HH.out.2.1, later a1.out HH.out.2.2.1, later a1.out HH.out.2.2.2.1, later a1.out HH.out.2.2.2.2⟩ (fun hHeld => ?_)
  clear hK K
  refine norm_ (a' := ?_) ?_ ?_
  rotate_left
  · show Act.put _ (some 35) _ = _
    simp only [Act.put, List.setIfInBounds_toArray, List.set_cons_zero, List.set_cons_succ, i64_w, i32_w]
    rfl
  refine pure_ (i := 17) (N := some 7) (v := ?_) (a' := ?_) #[true, true, true, true, true, true, true, true, true, true, true, true, true, true, true, true, true, true] rfl rfl (by kernel_rfl) (fun _ _ _ h => h) (Or.inl ⟨by rfl, ?_⟩) ?_ ?_
  rotate_left
  · intro w'
    go_simp
    with_reducible rfl
  rotate_left
  · simp only [Act.put, List.setIfInBounds_toArray, List.set_cons_zero, List.set_cons_succ, i64_w, i32_w]
    rfl
  refine done_ (by kernel_rfl) ?_
  have a3 := Aside0.mk (show G2 w6 w.heap.size (fun _ => none) 0 from j7.out.below a1.out)
  have b2 := Aside0.mk (below_then a7.out a7.out.size a1.out)
  have HVs := Aside0.mk (show w.heap.size + 1 ≤ V.heap.size from by have := a7.out.size; have h2 := j7.out.lt_; omega)
  have g4 := Aside0.mk (Kd.R_lower p4.out HVs.out)
  obtain ⟨M, hM⟩ : ∃ M, M = w.heap.size := ⟨_, rfl⟩
  rw [← hM] at a3 g4 ⊢
  have HMe := Aside0.mk hM
  clear j7 a7 HH HV q1 a8 a1 p4 hM HT HCL
  go_wp2
  go_loopw [38] (fun i wr => ∃ (k : Nat) (f : Int × Int → Option Value) (c : Nat), k ≤ L.length ∧ i = .int .i64 k ∧ Aside0 (G2 wr M f c) ∧ Aside0 (∀ q, ptOk q → f q = encZ (cntL (intoL es (L.take k)) q)) ∧ Aside0 (Kd.R (Kd.int .i64) 3 wr (M + 1) (fun _ => True) (.slice A6 L.length c6) L) ∧ Aside0 (Below w.heap.size w wr)) (fun i _ => L.length - (intOf i).toNat)
  case atStart => exact ⟨0, _, _, Nat.zero_le _, rfl, a3, ⟨fun q hq => rfl⟩, g4, b2⟩
  case round =>
    clear a3 g4 b2 hHeld
    obtain ⟨k, f, c, hk, rfl, HG, HF, HN, HBr⟩ := hrel
    by_cases hlt : k < L.length
    · obtain ⟨ad, hA, hc⟩ := atI (Kd.R_reads' HN.out).2.2 k hlt
      obtain ⟨x, hx, hxn⟩ := (((HP.out.bm (b : Int) (nd_iff.2 hbn) (L.getD k 0)).1 (by rw [← HL.out, List.getD_eq_getElem?_getD, List.getElem?_eq_getElem hlt]; exact List.getElem_mem hlt)).1).nat
      rw [hx] at hc
      have HX := Aside0.mk hx
      subst hA
      have HSr := Aside0.mk (HS.out.below HBr.out)
      obtain ⟨gI, cI, hvI, hcI⟩ := slR (show XR wr w0.heap.size cls .tab s.vI s.is from HSr.out .tab) (by rw [HI.out.len]; exact hn0)
      rw [HI.out.len] at hvI
      have t3 : wr.cell? ⟨T, 3, none⟩ = some (.slice (some ⟨gI, 0, none⟩) n cI) := by rw [HSr.out.cell 3 s.vI (by rw [HD.out.tc]; rfl), hvI]
      obtain ⟨m, hm⟩ : ∃ m, m = es.filter fun e => decide (e.f2 = (x : Int)) := ⟨_, rfl⟩
      have hrow : ER wr w0.heap.size cls .tro (slV (s.is.getD x nilL)) m := by
        have h : ER wr w0.heap.size cls .tro (slV (s.is.getD x nilL)) (s.ins.getD x []) := HSr.out .tro x (by rw [HI.out.len]; exact hxn)
        rw [HI.out.ins x hxn, ← hm] at h
        exact h
      obtain ⟨Ax, cx, hvx, _, hCx⟩ := Kd.R_reads hrow
      have q3 : wr.cell? ⟨gI, x, none⟩ = some (.slice Ax m.length cx) := by rw [(hcI x (by rw [HI.out.len]; exact hxn)).1, hvx]
      have hml : m.length ≤ es.length := by rw [hm]; exact List.length_filter_le _ _
      have HM := Aside0.mk hm
      have HRx := Aside0.mk hrow
      have HVx := Aside0.mk hvx
      clear hx hvI hcI hm hrow hvx hCx
      go_wp2
      clear t3 q3 hc
      obtain ⟨W1, o7⟩ : ∃ W1, W1 = wr := ⟨_, rfl⟩
      subst o7
      go_loopw [50] (fun i wr => ∃ (j : Nat) (f : Int × Int → Option Value) (c : Nat), j ≤ m.length ∧ i = .int .i64 j ∧ Aside0 (G2 wr M f c) ∧ Aside0 (∀ q, ptOk q → f q = encZ (cntL (intoL es (L.take k) ++ m.take j) q)) ∧ Aside0 (Kd.R (Kd.int .i64) 3 wr (M + 1) (fun _ => True) (.slice (some ad) L.length c6) L) ∧ Aside0 (Below w.heap.size w wr)) (fun i _ => m.length - (intOf i).toNat)
      case atStart => exact ⟨0, _, _, Nat.zero_le _, rfl, HG, ⟨fun q hq => by rw [List.take_zero, List.append_nil]; exact HF.out q hq⟩, HN, HBr⟩
      case round =>
        clear HG HF HN
        obtain ⟨j, f, c, hj, rfl, HG, HF, HN, HBj⟩ := hrel
        by_cases b8 : j < m.length
        · have f3 : ER wr w0.heap.size cls .tro (slV (s.is.getD x nilL)) m := by
            have h : ER wr w0.heap.size cls .tro (slV (s.is.getD x nilL)) (s.ins.getD x []) := (HS.out.below HBj.out) .tro x (by rw [HI.out.len]; exact hxn)
            rw [HI.out.ins x hxn, ← HM.out] at h
            exact h
          rw [HVx.out] at f3
          obtain ⟨ae, y1, g0, g1, g2⟩ := atE (Kd.R_reads' f3).2.2 j b8
          subst y1
          obtain ⟨e, he⟩ : ∃ e, e = m.getD j z80 := ⟨_, rfl⟩
          have hee := HEs.out e (by
            have h : e ∈ m := by rw [he, List.getD_eq_getElem?_getD, List.getElem?_eq_getElem b8]; exact List.getElem_mem b8
            rw [HM.out] at h
            exact (List.mem_filter.1 h).1)
          have z1 : Aside0 (m.take (j + 1) = m.take j ++ [e]) := ⟨by rw [take_snoc z80 b8, ← he]⟩
          rw [← he] at g0 g1 g2
          have hok : ptOk (e.f0, e.f1) := by
            obtain ⟨h1, h2, h3⟩ := hee
            have := h1.1
            have := h1.2
            exact ⟨by show i64in e.f0; unfold i64in; omega, by show i64in e.f1; unfold i64in; omega⟩
          obtain ⟨z, hz⟩ : ∃ z, z = cntL (intoL es (L.take k) ++ m.take j) (e.f0, e.f1) := ⟨_, rfl⟩
          have hlen : (intoL es (L.take k) ++ m.take j).length ≤ 3000000000 := by
            rw [List.length_append]
            have h1 := intoL_len es (L.take k)
            have h2 : (L.take k).length * es.length ≤ 2048 * 1000000 := Nat.mul_le_mul (by rw [List.length_take]; omega) hel
            have h3 : (m.take j).length ≤ m.length := by rw [List.length_take]; omega
            omega
          have y4 := cntL_nn (intoL es (L.take k) ++ m.take j) (e.f0, e.f1)
          rw [← hz] at y4
          have hcn : c < maxLen := by have := cnt_le2 HG.out HF.out; unfold maxLen; omega
          have HOk := Aside0.mk hok
          have HZ := Aside0.mk hz
          have HCn := Aside0.mk hcn
          have hwz : wrap64 (z + 1) = z + 1 := by unfold wrap64; omega
          clear f3 he hee hok hz hcn
          go_wp2_with fail
          clear g0 g1 g2
          obtain ⟨E, hE⟩ : ∃ E, E = wr.heap.size := ⟨_, rfl⟩
          rw [← hE]
          have HME := Aside0.mk (show M < E by rw [hE]; exact HG.out.lt_)
          have b4 := below_drew1 (below_alloc (Below.refl wr.heap.size wr) (Obj.cells #[Value.int IntKind.i64 e.f0, Value.int IntKind.i64 e.f1, Value.int IntKind.i64 e.f2] 80))
          have e0 := (blk_cell (blk_new wr (Obj.cells #[Value.int IntKind.i64 e.f0, Value.int IntKind.i64 e.f1, Value.int IntKind.i64 e.f2] 80)) 0).trans rfl
          have e1 := (blk_cell (blk_new wr (Obj.cells #[Value.int IntKind.i64 e.f0, Value.int IntKind.i64 e.f1, Value.int IntKind.i64 e.f2] 80)) 1).trans rfl
          rw [← hE] at e0 e1
          have a5 := Aside0.mk (HG.out.below b4)
          have l6 := Aside0.mk (Kd.R_below HN.out b4)
          have a7 := Aside0.mk (below_then HBj.out HBj.out.size b4)
          clear b4 hE HG HN HBj
          generalize (wr.alloc (Obj.cells #[Value.int IntKind.i64 e.f0, Value.int IntKind.i64 e.f1, Value.int IntKind.i64 e.f2] 80)) = W at a5 l6 a7 e0 e1 ⊢
          have hlook := a5.out.get ptKB HOk.out Try.underlying165 (zeroI _)
          rw [HF.out _ HOk.out, encZ_get, ← HZ.out] at hlook
          have r5 : (Instr.lookup 165 (.map (some M)) (.agg #[.int .i64 e.f0, .int .i64 e.f1]) false).run Try.prog W.drew = .ok (.int .i64 z) W.drew := hlook
          clear hlook
          refine start_ (n := 11) (S := fun w' => w'.cell? ⟨E, 0, none⟩ = some (.int .i64 e.f0) ∧ w'.cell? ⟨E, 1, none⟩ = some (.int .i64 e.f1) ∧ (Instr.lookup 165 (.map (some M)) (.agg #[.int .i64 e.f0, .int .i64 e.f1]) false).run Try.prog w' = .ok (.int .i64 z) w') (ds := [10]) #[false, false, false, false, false, false, false, false, false, false, false] (by kernel_rfl) rfl rfl ⟨e0, e1, r5⟩ (fun hHeld => ?_)
          clear e0 e1 r5
          generalize W.drew = V at a5 l6 a7 hHeld ⊢
          obtain ⟨v0, st, w5, hrun, r3, x5, l5, o4⟩ := a5.out.entry ptKB pt_law HOk.out Try.underlying165 zeroI HCn.out
          have HRun := Aside0.mk hrun
          have b6 := Aside0.mk r3
          have HLk := Aside0.mk l5
          have HSt := Aside0.mk o4
          have HH := Aside0.mk hHeld
          clear hrun r3 x5 l5 o4
          refine pure_ (i := 0) (N := some 54) (v := ?_) (a' := ?_) #[true, false, false, false, false, false, false, false, false, false, false] rfl rfl (by kernel_rfl) (fun _ _ _ h => h) (Or.inl ⟨by rfl, ?_⟩) ?_ ?_
          rotate_left
          · intro w'
            go_simp
            with_reducible rfl
          rotate_left
          · simp only [Act.put, List.setIfInBounds_toArray, List.set_cons_zero, List.set_cons_succ, i64_w, i32_w]
            rfl
          refine pure_ (i := 1) (N := some 55) (v := ?_) (a' := ?_) #[true, true, false, false, false, false, false, false, false, false, false] rfl rfl (by kernel_rfl) (fun _ _ _ h => h) (Or.inl ⟨by rfl, ?_⟩) ?_ ?_
          rotate_left
          · intro w'
            go_simp
            with_reducible rfl
          rotate_left
          · simp only [Act.put, List.setIfInBounds_toArray, List.set_cons_zero, List.set_cons_succ, i64_w, i32_w]
            rfl
          refine pure_ (i := 3) (N := some 57) (v := ?_) (a' := ?_) #[true, true, false, true, false, false, false, false, false, false, false] rfl rfl (by kernel_rfl) (fun _ _ _ h => h) (Or.inl ⟨by rfl, ?_⟩) ?_ ?_
          rotate_left
          · intro w'
            go_simp
            with_reducible rfl
          rotate_left
          · simp only [Act.put, List.setIfInBounds_toArray, List.set_cons_zero, List.set_cons_succ, i64_w, i32_w]
            rfl
          refine take_ (i := 2) (N := some 56) (v := ?_) (a' := ?_) #[true, true, true, true, false, false, false, false, false, false, false] rfl rfl (by kernel_rfl) (fun _ _ _ h => h) (Or.inl ⟨by rfl, ?_⟩) hHeld ?_ ?_
          rotate_left
          · rintro w' ⟨s0, s1, s2⟩
            go_simp
            with_reducible rfl
          rotate_left
          · simp only [Act.put, List.setIfInBounds_toArray, List.set_cons_zero, List.set_cons_succ, i64_w, i32_w]
            rfl
          refine take_ (i := 4) (N := some 58) (v := ?_) (a' := ?_) #[true, true, true, true, true, false, false, false, false, false, false] rfl rfl (by kernel_rfl) (fun _ _ _ h => h) (Or.inl ⟨by rfl, ?_⟩) hHeld ?_ ?_
          rotate_left
          · rintro w' ⟨s0, s1, s2⟩
            go_simp
            with_reducible rfl
          rotate_left
          · simp only [Act.put, List.setIfInBounds_toArray, List.set_cons_zero, List.set_cons_succ, i64_w, i32_w]
            rfl
          refine pure_ (i := 5) (N := some 59) (v := ?_) (a' := ?_) #[true, true, true, true, true, true, false, false, false, false, false] rfl rfl (by kernel_rfl) (fun _ _ _ h => h) (Or.inl ⟨by rfl, ?_⟩) ?_ ?_
          rotate_left
          · intro w'
            go_simp
            with_reducible rfl
          rotate_left
          · simp only [Act.put, List.setIfInBounds_toArray, List.set_cons_zero, List.set_cons_succ, i64_w, i32_w]
            rfl
          refine take_ (i := 6) (N := some 60) (v := ?_) (a' := ?_) #[true, true, true, true, true, true, true, false, false, false, false] rfl rfl (by kernel_rfl) (fun _ _ _ h => h) (Or.inl ⟨by rfl, ?_⟩) hHeld ?_ ?_
          rotate_left
          · rintro w' ⟨s0, s1, s2⟩
            go_simp
            with_reducible rfl
          rotate_left
          · simp only [Act.put, List.setIfInBounds_toArray, List.set_cons_zero, List.set_cons_succ, i64_w, i32_w]
            rfl
          refine pure_ (i := 7) (N := some 61) (v := ?_) (a' := ?_) #[true, true, true, true, true, true, true, true, false, false, false] rfl rfl (by kernel_rfl) (fun _ _ _ h => h) (Or.inl ⟨by rfl, ?_⟩) ?_ ?_
          rotate_left
          · intro w'
            go_simp
            with_reducible rfl
          rotate_left
          · simp only [Act.put, List.setIfInBounds_toArray, List.set_cons_zero, List.set_cons_succ, i64_w, i32_w]
            rfl
          refine one_ (i := 8) (N := some 62) #[true, true, true, true, true, true, true, true, true, false, false] rfl rfl (by kernel_rfl) (by decide) (fun K hK => ?_)
          refine value_ (w1 := w5) (v := .tuple #[v0, goInt st]) (by rfl) rfl (run_gentry rfl rfl rfl HRun.out) ?_
          refine hK.out _ _ ⟨cell_keep b6.out HME.out HH.out.1, cell_keep b6.out HME.out HH.out.2.1, (by have h := HLk.out; rw [HF.out _ HOk.out, encZ_get, ← HZ.out] at h; exact h)⟩ (fun hHeld => ?_)
          clear hK K
          refine norm_ (a' := ?_) ?_ ?_
          rotate_left
          · show Act.put _ (some 62) _ = _
            simp only [Act.put, List.setIfInBounds_toArray, List.set_cons_zero, List.set_cons_succ, i64_w, i32_w]
            rfl
          refine pure_ (i := 9) (N := some 63) (v := ?_) (a' := ?_) #[true, true, true, true, true, true, true, true, true, true, false] rfl rfl (by kernel_rfl) (fun _ _ _ h => h) (Or.inl ⟨by rfl, ?_⟩) ?_ ?_
          rotate_left
          · intro w'
            go_simp
            with_reducible rfl
          rotate_left
          · simp only [Act.put, List.setIfInBounds_toArray, List.set_cons_zero, List.set_cons_succ, i64_w, i32_w]
            rfl
          refine last_ (i := 10) (N := none) #[true, true, true, true, true, true, true, true, true, true, true] rfl rfl (by kernel_rfl) (by decide) (fun K hK => ?_)
          obtain ⟨w6, j6, k8, j9, h9⟩ := HSt.out w5 (.int .i64 (z + 1)) rfl
          refine skip_ (w1 := w6) (by rfl) rfl (run_gstore rfl rfl rfl ?hv j6) ?_
          (case hv => go_simp)
          have a3 := Aside0.mk k8
          have HGG := Aside0.mk j9
          clear j6 k8 j9 h9
          refine hK.out _ _ ?_
          clear hK K
          refine done_ (by kernel_rfl) ?_
          go_wp2
          go_roundw
          case rel =>
            have hMle : w.heap.size ≤ M := by rw [HMe.out]; exact Nat.le_refl _
            have g4 := Kd.R_grown (Kd.R_grown (Kd.R_bound l6.out) b6.out fun q hq e => by cases e; have := hq.2.1; omega) HGG.out fun q hq e => by cases e; have := hq.2.1; omega
            refine ⟨j + 1, _, _, by omega, by go_num, a3, ⟨fun q hq => ?_⟩, ⟨Kd.R_mono g4 fun _ _ => trivial⟩, ⟨(a7.out.grown b6.out a7.out.size fun q e => by cases e; exact hMle).grown HGG.out (Nat.le_trans a7.out.size b6.out.size) fun q e => by cases e; exact hMle⟩⟩
            rw [z1.out, ← List.append_assoc, cntL_snoc]
            unfold putM
            by_cases hqe : q = (e.f0, e.f1)
            · rw [if_pos hqe, if_pos hqe, hqe, ← HZ.out]
              unfold encZ
              rw [if_neg (by omega)]
            · rw [if_neg hqe, if_neg hqe]
              exact HF.out q hq
          case measure => simp [intOf]; omega
        · have ej : j = m.length := by omega
          subst ej
          go_wp2
          go_roundw
          case rel =>
            refine ⟨k + 1, _, _, by omega, by go_num, HG, ⟨fun q hq => ?_⟩, HN, HBj⟩
            rw [HF.out q hq, List.take_length, take_snoc (0 : Int) hlt, HX.out, intoL_snoc, ← HM.out]
          case measure => simp [intOf]; omega
    · have ek : k = L.length := by omega
      subst ek
      rw [List.take_length] at HF
      clear hlt hk HN
      have HLn := Aside0.mk (show L.Nodup by rw [HL.out]; exact HP.out.bn _ (nd_iff.2 hbn))
      have i7 := Aside0.mk (show ∀ q, ptOk q → f q = encZ (cntE es (fun x => decide (x ∈ L)) q.1 q.2) from fun q hq => by rw [HF.out q hq, cntL_into es q L HLn.out])
      have hMw : w.heap.size ≤ M := by rw [HMe.out]; exact Nat.le_refl _
      have u9 : w0.heap.size ≤ w.heap.size := HB.out.size
      have hcb : c ≤ es.length := by
        have := HG.out.count_le ptKB (es.map fun e => (e.f0, e.f1)) fun q hq hs => by
          rw [i7.out q hq] at hs
          obtain ⟨e, he, h0, h1, _⟩ := cntE_pos.1 (encZ_some.1 hs)
          exact List.mem_map.2 ⟨e, he, Prod.ext h0 h1⟩
        simpa using this
      obtain ⟨d5, g9⟩ : ∃ d5 : Nat → Cl, d5 = fun k => if k = M then .far 100 else cls k := ⟨_, rfl⟩
      have k7 : ∀ k, k < w.heap.size → d5 k = cls k := fun k hk => by rw [g9]; show (if k = M then _ else _) = _; rw [if_neg (by omega)]
      have hcM : d5 M = .far 100 := by rw [g9]; show (if M = M then _ else _) = _; rw [if_pos rfl]
      have HS1 := Aside0.mk (HS.out.stay (cls' := d5) (Kept.of_below HBr.out _) fun k hk _ => k7 k hk)
      have q2 := Aside0.mk (Fr.same (D := fun _ => False) (Kept.of_below HBr.out _) k7)
      have a7 := Aside0.mk (below_then HB.out HB.out.size HBr.out)
      have HGc := Aside0.mk ((HS1.out .mc).2.1)
      have hcC : s.cC ≤ fr := by
        have := HGc.out.count_le intKB ((List.range fr).map fun k : Nat => (k : Int)) fun a ha hs => by
          rw [HC.out.fC a ha] at hs
          by_cases hq : (decide (0 ≤ a) && decide (a < (fr : Int))) = true
          · simp only [Bool.and_eq_true, decide_eq_true_eq] at hq
            exact List.mem_map.2 ⟨a.toNat, List.mem_range.2 (by omega), by omega⟩
          · rw [if_neg hq] at hs; cases hs
        simpa using this
      have hfi : i64in (fr : Int) := by unfold i64in; omega
      have t8 : wr.cell? ⟨T, 8, none⟩ = some (.map (some s.mC)) := HS1.out.cell 8 _ (by rw [HD.out.tc]; rfl)
      have HCl := Aside0.mk (And.intro hcM (And.intro hcb (And.intro hcC hfi)))
      have HMw := Aside0.mk (And.intro hMw u9)
      clear g9 k7 hcM hcb hcC hfi hMw u9 HF
      go_wp2_with (first
        | (refine wpList_gput _ intKB rfl _ _ _ 87 rfl 165 Try.underlying87 s.mC s.cC s.fC rfl HGc.out (by have := HCl.out.2.2.1; unfold maxLen; omega) (fr : Int) HCl.out.2.2.2 (.map (some M)) rfl rfl ?_
           intro w2 hgm hgg hsz
           have g6 := HS1.out.pushC (w1 := w2) HCl.out.1 (Nat.le_trans HMw.out.2 HMw.out.1) HG.out hgm hgg
           rw [HC.out.ln] at g6
           have g7 := Aside0.mk (q2.out.step (w2 := w2) (cls2 := fun k => if k = M then .cmp fr else d5 k) (kept_grown hgg fun k e => by cases e; exact .inl (by rw [(HS1.out .mc).1]; rfl)) (fun k hk j e _ => by
             show (if k = M then _ else _) = _
             rw [if_neg (by have := HMw.out.1; omega)]
             exact e))
           have i8 := Aside0.mk (a7.out.grown hgg a7.out.size (fun k e => by cases e; exact (HS1.out .mc).2.2))
           have b7 := Aside0.mk (HG.out.grown (fun e => by
             have h1 := (HS1.out .mc).1
             have h2 : s.mC = M := by cases e; rfl
             rw [h2, HCl.out.1] at h1
             cases h1) hgg)
           obtain ⟨s2, k9⟩ : ∃ s2 : Sg, s2 = { s with fC := putM s.fC (fr : Int) (.map (some M)), cC := if (s.fC (fr : Int)).isSome = true then s.cC else s.cC + 1, cm := s.cm ++ [M], fc := fun i => if i = fr then f else s.fc i, cc := fun i => if i = fr then c else s.cc i } := ⟨_, rfl⟩
           rw [← k9] at g6
           obtain ⟨d9, k4⟩ : ∃ d9 : Nat → Cl, d9 = fun k => if k = M then .cmp fr else d5 k := ⟨_, rfl⟩
           rw [← k4] at g6 g7
           have HS2 := Aside0.mk g6
           have a6 := Aside0.mk k9
           clear hgm hgg hsz g6 k9 k4)
        | (at_range; refine wpList_grange _ ptKB rfl _ 165 rfl 3 Try.underlying165 M c f rfl b7.out ?_; intro w3 hgr hg hsz))
      go_frame
      have HGr := Aside0.mk hgr
      have b9 : Below w2.heap.size w2 w3 := (Below.refl _ _).grown hg (Nat.le_refl _) (fun k e => by cases e)
      have HS3 := Aside0.mk (HS2.out.below b9)
      have l9 := Aside0.mk (g7.out.step (cls2 := d9) (Kept.of_below b9 _) fun _ _ _ e _ => e)
      have q6 := Aside0.mk (below_then i8.out i8.out.size b9)
      have hmo : s2.cm.getD old 0 = s.cm.getD old 0 := by rw [a6.out]; show (s.cm ++ [M]).getD old 0 = _; rw [gD_snoc, if_neg (by rw [HC.out.ln]; omega)]
      have holn : old < s2.cm.length := by rw [a6.out]; show old < (s.cm ++ [M]).length; rw [List.length_append, HC.out.ln]; simp; omega
      obtain ⟨mo, hmoe⟩ : ∃ mo, mo = s2.cm.getD old 0 := ⟨_, rfl⟩
      have HMo := Aside0.mk (And.intro hmoe (And.intro holn hmo))
      have HA := Aside0.mk (show ∀ q, ptOk q → s2.fc old q = encZ (cntE es (fun x => decide (H0 x = (old : Int))) q.1 q.2) from fun q hq => by
        rw [a6.out]
        show (if old = fr then f else s.fc old) q = _
        rw [if_neg (by omega)]
        exact HC.out.fc old hold q hq)
      have n4 := (HS2.out (.cmp old) holn).1
      have HCm := Aside0.mk (show d9 mo = .cmp old by rw [hmoe]; exact n4)
      have HAB := Aside0.mk (show ∀ s l, cntE es (fun x => decide (x ∈ L)) s l ≤ cntE es (fun x => decide (H0 x = (old : Int))) s l from fun s l => by
        have h := cntE_sub es (fun x => decide (H0 x = (old : Int))) (fun x => decide (x ∈ L)) (fun e _ hx => by
          have hx := of_decide_eq_true hx
          rw [HL.out] at hx
          exact decide_eq_true (HLo.out _ hx)) s l
        have h2 := (cntE_nn es (fun x => decide (H0 x = (old : Int)) && !decide (x ∈ L)) s l).1
        omega)
      have b1 := Aside0.mk (show s2.mC = s.mC ∧ d9 s.mC = .mc ∧ (∀ h, i64in h → s2.fC h = if decide (0 ≤ h) && decide (h < ((fr + 1 : Nat) : Int)) then some (.map (some (s2.cm.getD h.toNat 0))) else none) from by
        refine ⟨by rw [a6.out], by have := (HS2.out .mc).1; rw [a6.out] at this; exact this, fun h hh => ?_⟩
        rw [a6.out]
        show putM s.fC (fr : Int) (.map (some M)) h = if _ then some (.map (some ((s.cm ++ [M]).getD h.toNat 0))) else none
        unfold putM
        by_cases e : h = (fr : Int)
        · subst e
          rw [if_pos rfl, if_pos (by simp; omega), gD_snoc, if_pos (by rw [HC.out.ln]; simp)]
        · rw [if_neg e, HC.out.fC h hh]
          by_cases hq : (decide (0 ≤ h) && decide (h < (fr : Int))) = true
          · rw [if_pos hq]
            simp only [Bool.and_eq_true, decide_eq_true_eq] at hq
            rw [if_pos (by simp; omega), gD_snoc, if_neg (by rw [HC.out.ln]; omega)]
          · rw [if_neg hq, if_neg]
            intro y0
            apply hq
            simp only [Bool.and_eq_true, decide_eq_true_eq] at y0 ⊢
            omega)
      have hoi : i64in (old : Int) := by unfold i64in; omega
      have HOi := Aside0.mk hoi
      obtain ⟨r, hr⟩ : ∃ r, r = w2.heap.size := ⟨_, rfl⟩
      rw [← hr] at HGr ⊢
      have HRr := Aside0.mk (show w0.heap.size ≤ r ∧ w.heap.size ≤ r ∧ T < r ∧ M < r ∧ mo < r ∧ s.mC < r from by
        have h1 := i8.out.size
        have h2 := g7.out.kept.1
        have h3 := HS2.out.ownT
        have h4 := b7.out.lt_
        have h5 := (HS2.out (.cmp old) holn).2.1.lt_
        have h6 := (HS2.out .mc).2.1.lt_
        rw [b1.out.1] at h6
        rw [hr, hmoe]
        exact ⟨h1, h2, h3, h4, h5, h6⟩)
      obtain ⟨a2, h8⟩ : ∃ a2 : Nat → Cl, a2 = fun k => if k = r then .far 101 else d9 k := ⟨_, rfl⟩
      have h3 : ∀ k, k < r → a2 k = d9 k := fun k hk => by rw [h8]; show (if k = r then _ else _) = _; rw [if_neg (by omega)]
      have h3r : a2 r = .far 101 := by rw [h8]; show (if r = r then _ else _) = _; rw [if_pos rfl]
      have HS3 := Aside0.mk (HS2.out.stay (cls' := a2) (Kept.of_below b9 _) fun k hk _ => h3 k (by rw [hr]; exact hk))
      have l9 := Aside0.mk (g7.out.step (cls2 := a2) (Kept.of_below b9 _) fun k hk j e _ => by rw [h3 k (Nat.lt_of_lt_of_le hk HRr.out.2.1)]; exact e)
      have HCm := Aside0.mk (show a2 mo = .cmp old by rw [h3 mo HRr.out.2.2.2.2.1]; exact HCm.out)
      have b1 := Aside0.mk (show s2.mC = s.mC ∧ a2 s.mC = .mc ∧ _ from ⟨b1.out.1, by rw [h3 _ HRr.out.2.2.2.2.2]; exact b1.out.2.1, b1.out.2.2⟩)
      have HClM := Aside0.mk (show a2 M = .cmp fr ∧ a2 r = .far 101 ∧ a2 T = .tt from ⟨by rw [h3 M HRr.out.2.2.2.1]; have h := HS2.out (.cmp fr) (by rw [a6.out]; show fr < (s.cm ++ [M]).length; rw [List.length_append, HC.out.ln]; simp); have h := h.1; rw [a6.out] at h; rw [show ({ s with fC := putM s.fC (fr : Int) (.map (some M)), cC := _, cm := s.cm ++ [M], fc := _, cc := _ } : Sg).cm.getD fr 0 = M by show (s.cm ++ [M]).getD fr 0 = M; rw [gD_snoc, if_pos HC.out.ln.symm]] at h; exact h, h3r, by rw [h3 T HRr.out.2.2.1]; exact (HS2.out .tt).2.1⟩)
      clear h3 h3r h8 hgr hg hsz b9 hmo holn hmoe n4 hoi hr HS1 q2 a7 HS2 g7 i8 HGc HG HBr t8
      go_loopw [] (fun wr => ∃ (left : Int × Int → Bool) (cnt : Nat) (fcx : Nat → Int × Int → Option Value) (ccx : Nat → Nat),
        Aside0 (GR Try.prog 167 ptL ptOk wr M r f left cnt) ∧ Aside0 (SP w0.heap.size T wr a2 { s2 with fc := fcx, cc := ccx }) ∧ Aside0 (∀ i, i ≠ old → fcx i = s2.fc i ∧ ccx i = s2.cc i) ∧
        Aside0 (∀ q, ptOk q → fcx old q = encZ (if left q = true then cntE es (fun x => decide (H0 x = (old : Int))) q.1 q.2 else cntE es (fun x => decide (H0 x = (old : Int))) q.1 q.2 - cntE es (fun x => decide (x ∈ L)) q.1 q.2)) ∧ Aside0 (ccx old ≤ es.length) ∧ Aside0 (Fr w wr cls a2 fun _ => False) ∧ Aside0 (Below w0.heap.size w0 wr)) (fun wr => wr.rangeLeft M r)
      case atStart =>
        refine ⟨_, _, s2.fc, s2.cc, HGr, HS3, ⟨fun _ _ => ⟨rfl, rfl⟩⟩, ⟨fun q hq => ?_⟩, ⟨?_⟩, l9, q6⟩
        · rw [HA.out q hq]
          cases hs : (f q).isSome with
          | true => rw [if_pos rfl]
          | false =>
            rw [if_neg (by simp)]
            rw [i7.out q hq] at hs
            have hz : cntE es (fun x => decide (x ∈ L)) q.1 q.2 = 0 := by
              by_cases hz : cntE es (fun x => decide (x ∈ L)) q.1 q.2 = 0
              · exact hz
              · rw [encZ_some.2 hz] at hs; cases hs
            rw [hz, Int.sub_zero]
        · rw [a6.out]
          show (if old = fr then c else s.cc old) ≤ _
          rw [if_neg (by omega)]
          exact HC.out.cc old hold
      case round =>
        clear HGr HS3 l9 q6
        obtain ⟨left, cnt, fcx, ccx, HGr, HS4, HOt, j0, HCc, j4, g8⟩ := hrel
        go_wp2_with (at_next; refine wpList_gnext _ ptKB rfl _ rfl M r f left cnt rfl HGr.out ?_ ?_)
        rotate_left
        · intro ya yb v w5 x6 hy hly hfy e3 hlt a4 hsz hen
          obtain ⟨zA, hzA⟩ : ∃ zA, zA = cntE es (fun x => decide (H0 x = (old : Int))) ya yb := ⟨_, rfl⟩
          obtain ⟨zB, hzB⟩ : ∃ zB, zB = cntE es (fun x => decide (x ∈ L)) ya yb := ⟨_, rfl⟩
          have e7 := i7.out (ya, yb) hy
          rw [hfy] at e7
          have x2 : zB ≠ 0 := by
            have := encZ_some (z := cntE es (fun x => decide (x ∈ L)) ya yb)
            rw [hzB]
            exact this.1 (by rw [show encZ (cntE es (fun x => decide (x ∈ L)) ya yb) = some v from e7.symm]; rfl)
          obtain rfl : v = .int .i64 zB := by
            have h1 : some v = encZ zB := by rw [hzB]; exact e7
            unfold encZ at h1
            rw [if_neg x2] at h1
            exact Option.some.inj h1
          have hzle : zB ≤ zA := by rw [hzA, hzB]; exact HAB.out ya yb
          have z4 : 0 ≤ zB := by rw [hzB]; exact (cntE_nn _ _ _ _).1
          have z5 : zA ≤ es.length := by rw [hzA]; exact (cntE_nn _ _ _ _).2
          have n8 : (Instr.entry (.pointer (some ⟨r, 0, none⟩))).run Try.prog w5 = .ok (.tuple #[.agg #[.int .i64 ya, .int .i64 yb], .int .i64 zB]) w5 := hen
          have m0 : Kept _ w5 (fun k => k = r) := kept_grown a4 fun k e => by cases e; rfl
          have a8 := Aside0.mk (g8.out.grown a4 g8.out.size (fun k e => by cases e; exact HRr.out.1))
          have b6 := Aside0.mk e3
          clear hen e7
          have HS5 := Aside0.mk (HS4.out.stay (cls' := a2) (m0.mono fun k hk => by show (a2 k).own = false; rw [show k = r from hk, HClM.out.2.1]; rfl) fun _ _ _ => rfl)
          have r7 := Aside0.mk (j4.out.step (cls2 := a2) (m0.mono fun k hk => .inr (by rw [show k = r from hk]; exact HRr.out.2.1)) fun _ _ _ e _ => e)
          have hokq : ptOk (ya, yb) := hy
          have hva : fcx old (ya, yb) = encZ zA := by rw [j0.out _ hokq, if_pos hly, hzA]
          have HQ := Aside0.mk (And.intro hokq (And.intro hva (And.intro hly (And.intro hlt hfy))))
          have HZ := Aside0.mk (And.intro hzA hzB)
          clear m0 e3 hlt a4 hsz hly hfy hy hokq hva hzA hzB HS4 j4 g8
          go_wp2_with fail
          clear n8
          obtain ⟨E, hE⟩ : ∃ E, E = w5.heap.size := ⟨_, rfl⟩
          rw [← hE]
          have b4 := below_drew1 (below_alloc (Below.refl w5.heap.size w5) (Obj.cells #[Value.int IntKind.i64 ya, Value.int IntKind.i64 yb] 167))
          have e0 := (blk_cell (blk_new w5 (Obj.cells #[Value.int IntKind.i64 ya, Value.int IntKind.i64 yb] 167)) 0).trans rfl
          have e1 := (blk_cell (blk_new w5 (Obj.cells #[Value.int IntKind.i64 ya, Value.int IntKind.i64 yb] 167)) 1).trans rfl
          rw [← hE] at e0 e1
          have HrE := Aside0.mk (show r < E from by rw [hE]; exact b6.out.lt_)
          have HS6 := Aside0.mk (HS5.out.below b4)
          have d6 := Aside0.mk (r7.out.step (cls2 := a2) (Kept.of_below b4 _) fun _ _ _ e _ => e)
          have a1 := Aside0.mk (below_then a8.out a8.out.size b4)
          have a3 := Aside0.mk (b6.out.same (b4.block M b6.out.mlt) (b4.block r b6.out.lt_))
          clear b4 hE HS5 r7 a8 b6
          generalize (w5.alloc (Obj.cells #[Value.int IntKind.i64 ya, Value.int IntKind.i64 yb] 167)) = W at HS6 d6 a1 a3 e0 e1 ⊢
          have d3 := HS6.out.cell 8 (.map (some s.mC)) (by show s2.tc[8]? = _; rw [a6.out]; show s.tc[8]? = _; rw [HD.out.tc]; rfl)
          have d0 : G1 W.drew s.mC s2.fC s2.cC := by have h := (HS6.out .mc).2.1; rw [← b1.out.1]; exact h
          have a4 : G2 W.drew mo (fcx old) (ccx old) := by have h := (HS6.out (.cmp old) HMo.out.2.1).2.1; rw [HMo.out.1]; exact h
          have hfo : s2.fC (old : Int) = some (.map (some mo)) := by rw [b1.out.2.2 _ HOi.out, if_pos (by simp; omega), Int.toNat_natCast, ← HMo.out.1]
          have HFo := Aside0.mk hfo
          have l1 : (Instr.lookup 87 (.map (some s.mC)) (.int .i64 (old : Int)) false).run Try.prog W.drew = .ok (.map (some mo)) W.drew := look_eq intKB d0 HOi.out Try.underlying87 (zeroM _) (by rw [hfo]; rfl)
          have l2 : (Instr.lookup 165 (.map (some mo)) (.agg #[.int .i64 ya, .int .i64 yb]) false).run Try.prog W.drew = .ok (.int .i64 zA) W.drew := look_eq ptKB a4 HQ.out.1 Try.underlying165 (zeroI _) (by rw [HQ.out.2.1]; exact encZ_get _)
          have a5 := Aside0.mk d0
          have HG2' := Aside0.mk a4
          have HNm := Aside0.mk (show s.mC ≠ mo ∧ T ≠ mo ∧ E ≠ mo from ⟨fun e => (by have h := b1.out.2.1; rw [e, HCm.out] at h; cases h), fun e => (by have h := HClM.out.2.2; rw [e, HCm.out] at h; cases h), by have := HrE.out; have := HRr.out.2.2.2.2.1; omega⟩)
          have hwz : wrap64 (zA - zB) = zA - zB := by unfold wrap64; omega
          clear d0 a4 hfo
          refine start_ (n := 13) (S := fun w' => w'.cell? ⟨T, 8, none⟩ = some (.map (some s.mC)) ∧ w'.cell? ⟨E, 0, none⟩ = some (.int .i64 ya) ∧ w'.cell? ⟨E, 1, none⟩ = some (.int .i64 yb) ∧ (Instr.lookup 87 (.map (some s.mC)) (.int .i64 (old : Int)) false).run Try.prog w' = .ok (.map (some mo)) w' ∧ (Instr.lookup 165 (.map (some mo)) (.agg #[.int .i64 ya, .int .i64 yb]) false).run Try.prog w' = .ok (.int .i64 zA) w') (ds := [12]) #[false, false, false, false, false, false, false, false, false, false, false, false, false] (by kernel_rfl) rfl rfl ⟨d3, e0, e1, l1, l2⟩ (fun hHeld => ?_)
          clear d3 e0 e1 l1 l2
          generalize W.drew = V at HS6 d6 a1 a3 a5 HG2' hHeld ⊢
          obtain ⟨v0, st, w6, hrun, q5, h9, n5, n1⟩ := HG2'.out.entry ptKB pt_law HQ.out.1 Try.underlying165 zeroI (by have := HCc.out; unfold maxLen; omega)
          have HRun := Aside0.mk hrun
          have e5 := Aside0.mk q5
          have HLk := Aside0.mk n5
          have HSt := Aside0.mk n1
          have HH := Aside0.mk hHeld
          clear hrun q5 h9 n5 n1
          refine pure_ (i := 0) (N := some 79) (v := ?_) (a' := ?_) #[true, false, false, false, false, false, false, false, false, false, false, false, false] rfl rfl (by kernel_rfl) (fun _ _ _ h => h) (Or.inl ⟨by rfl, ?_⟩) ?_ ?_
          rotate_left
          · intro w'
            go_simp
            with_reducible rfl
          rotate_left
          · simp only [Act.put, List.setIfInBounds_toArray, List.set_cons_zero, List.set_cons_succ, i64_w, i32_w]
            rfl
          refine pure_ (i := 1) (N := some 80) (v := ?_) (a' := ?_) #[true, true, false, false, false, false, false, false, false, false, false, false, false] rfl rfl (by kernel_rfl) (fun _ _ _ h => h) (Or.inl ⟨by rfl, ?_⟩) ?_ ?_
          rotate_left
          · intro w'
            go_simp
            with_reducible rfl
          rotate_left
          · simp only [Act.put, List.setIfInBounds_toArray, List.set_cons_zero, List.set_cons_succ, i64_w, i32_w]
            rfl
          refine pure_ (i := 2) (N := some 81) (v := ?_) (a' := ?_) #[true, true, true, false, false, false, false, false, false, false, false, false, false] rfl rfl (by kernel_rfl) (fun _ _ _ h => h) (Or.inl ⟨by rfl, ?_⟩) ?_ ?_
          rotate_left
          · intro w'
            go_simp
            with_reducible rfl
          rotate_left
          · simp only [Act.put, List.setIfInBounds_toArray, List.set_cons_zero, List.set_cons_succ, i64_w, i32_w]
            rfl
          refine pure_ (i := 4) (N := some 83) (v := ?_) (a' := ?_) #[true, true, true, false, true, false, false, false, false, false, false, false, false] rfl rfl (by kernel_rfl) (fun _ _ _ h => h) (Or.inl ⟨by rfl, ?_⟩) ?_ ?_
          rotate_left
          · intro w'
            go_simp
            with_reducible rfl
          rotate_left
          · simp only [Act.put, List.setIfInBounds_toArray, List.set_cons_zero, List.set_cons_succ, i64_w, i32_w]
            rfl
          refine pure_ (i := 8) (N := some 87) (v := ?_) (a' := ?_) #[true, true, true, false, true, false, false, false, true, false, false, false, false] rfl rfl (by kernel_rfl) (fun _ _ _ h => h) (Or.inl ⟨by rfl, ?_⟩) ?_ ?_
          rotate_left
          · intro w'
            go_simp
            with_reducible rfl
          rotate_left
          · simp only [Act.put, List.setIfInBounds_toArray, List.set_cons_zero, List.set_cons_succ, i64_w, i32_w]
            rfl
          refine take_ (i := 3) (N := some 82) (v := ?_) (a' := ?_) #[true, true, true, true, true, false, false, false, true, false, false, false, false] rfl rfl (by kernel_rfl) (fun _ _ _ h => h) (Or.inl ⟨by rfl, ?_⟩) hHeld ?_ ?_
          rotate_left
          · rintro w' ⟨s0, s1, s2, s3, s4⟩
            go_simp
            with_reducible rfl
          rotate_left
          · simp only [Act.put, List.setIfInBounds_toArray, List.set_cons_zero, List.set_cons_succ, i64_w, i32_w]
            rfl
          refine take_ (i := 5) (N := some 84) (v := ?_) (a' := ?_) #[true, true, true, true, true, true, false, false, true, false, false, false, false] rfl rfl (by kernel_rfl) (fun _ _ _ h => h) (Or.inl ⟨by rfl, ?_⟩) hHeld ?_ ?_
          rotate_left
          · rintro w' ⟨s0, s1, s2, s3, s4⟩
            go_simp
            with_reducible rfl
          rotate_left
          · simp only [Act.put, List.setIfInBounds_toArray, List.set_cons_zero, List.set_cons_succ, i64_w, i32_w]
            rfl
          refine take_ (i := 6) (N := some 85) (v := ?_) (a' := ?_) #[true, true, true, true, true, true, true, false, true, false, false, false, false] rfl rfl (by kernel_rfl) (fun _ _ _ h => h) (Or.inl ⟨by rfl, ?_⟩) hHeld ?_ ?_
          rotate_left
          · rintro w' ⟨s0, s1, s2, s3, s4⟩
            go_simp
            with_reducible rfl
          rotate_left
          · simp only [Act.put, List.setIfInBounds_toArray, List.set_cons_zero, List.set_cons_succ, i64_w, i32_w]
            rfl
          refine take_ (i := 7) (N := some 86) (v := ?_) (a' := ?_) #[true, true, true, true, true, true, true, true, true, false, false, false, false] rfl rfl (by kernel_rfl) (fun _ _ _ h => h) (Or.inl ⟨by rfl, ?_⟩) hHeld ?_ ?_
          rotate_left
          · rintro w' ⟨s0, s1, s2, s3, s4⟩
            go_simp
            with_reducible rfl
          rotate_left
          · simp only [Act.put, List.setIfInBounds_toArray, List.set_cons_zero, List.set_cons_succ, i64_w, i32_w]
            rfl
          refine pure_ (i := 9) (N := some 88) (v := ?_) (a' := ?_) #[true, true, true, true, true, true, true, true, true, true, false, false, false] rfl rfl (by kernel_rfl) (fun _ _ _ h => h) (Or.inl ⟨by rfl, ?_⟩) ?_ ?_
          rotate_left
          · intro w'
            go_simp
            with_reducible rfl
          rotate_left
          · simp only [Act.put, List.setIfInBounds_toArray, List.set_cons_zero, List.set_cons_succ, i64_w, i32_w]
            rfl
          refine one_ (i := 10) (N := some 89) #[true, true, true, true, true, true, true, true, true, true, true, false, false] rfl rfl (by kernel_rfl) (by decide) (fun K hK => ?_)
          refine value_ (w1 := w6) (v := .tuple #[v0, goInt st]) (by rfl) rfl (run_gentry rfl rfl rfl HRun.out) ?_
          refine hK.out _ _ ⟨cell_keep2 e5.out HNm.out.2.1 HH.out.1, cell_keep2 e5.out HNm.out.2.2 HH.out.2.1, cell_keep2 e5.out HNm.out.2.2 HH.out.2.2.1, look_eq intKB (a5.out.grown (fun e => HNm.out.1 (by cases e; rfl)) e5.out) HOi.out Try.underlying87 (zeroM _) (by rw [HFo.out]; rfl), (by have h := HLk.out; rw [HQ.out.2.1, encZ_get] at h; exact h)⟩ (fun hHeld => ?_)
          clear hK K
          refine norm_ (a' := ?_) ?_ ?_
          rotate_left
          · show Act.put _ (some 89) _ = _
            simp only [Act.put, List.setIfInBounds_toArray, List.set_cons_zero, List.set_cons_succ, i64_w, i32_w]
            rfl
          refine pure_ (i := 11) (N := some 90) (v := ?_) (a' := ?_) #[true, true, true, true, true, true, true, true, true, true, true, true, false] rfl rfl (by kernel_rfl) (fun _ _ _ h => h) (Or.inl ⟨by rfl, ?_⟩) ?_ ?_
          rotate_left
          · intro w'
            go_simp
            with_reducible rfl
          rotate_left
          · simp only [Act.put, List.setIfInBounds_toArray, List.set_cons_zero, List.set_cons_succ, i64_w, i32_w]
            rfl
          refine last_ (i := 12) (N := none) #[true, true, true, true, true, true, true, true, true, true, true, true, true] rfl rfl (by kernel_rfl) (by decide) (fun K hK => ?_)
          obtain ⟨w7, i5, n2, n9, x3⟩ := HSt.out w6 (.int .i64 (zA - zB)) rfl
          refine skip_ (w1 := w7) (by rfl) rfl (run_gstore rfl rfl rfl ?hv i5) ?_
          (case hv => go_simp)
          have n0 := Aside0.mk n2
          have HGG := Aside0.mk n9
          clear i5 n2 n9 x3
          refine hK.out _ _ ?_
          clear hK K
          refine done_ (by kernel_rfl) ?_
          have hgv := e5.out.trans HGG.out
          have HHe := Aside0.mk (And.intro (cell_keep2 hgv HNm.out.2.1 HH.out.1) (And.intro (cell_keep2 hgv HNm.out.2.2 HH.out.2.1) (cell_keep2 hgv HNm.out.2.2 HH.out.2.2.1)))
          have hsome : (fcx old (ya, yb)).isSome = true := by rw [HQ.out.2.1]; exact encZ_some.2 (by omega)
          have n3 : G2 w7 mo (putM (fcx old) (ya, yb) (.int .i64 (zA - zB))) (ccx old) := by have h := n0.out; rw [if_pos hsome] at h; exact h
          have HS7 := Aside0.mk (HS6.out.setC (i := old) HMo.out.2.1 (w1 := w7) (by rw [← HMo.out.1]; exact n3) (by rw [← HMo.out.1]; exact hgv))
          have t2 := Aside0.mk (d6.out.step (w2 := w7) (cls2 := a2) (kept_grown hgv fun k e => by cases e; exact .inl (by rw [HCm.out]; rfl)) fun _ _ _ e _ => e)
          have b2 := Aside0.mk (a1.out.grown hgv a1.out.size (fun k e => by cases e; rw [HMo.out.1]; exact (HS6.out (.cmp old) HMo.out.2.1).2.2))
          have hMm : M ≠ mo := fun e => by have h := HClM.out.1; rw [e, HCm.out] at h; have := Cl.cmp.inj h; omega
          have hrm : r ≠ mo := by have := HRr.out.2.2.2.2.1; omega
          have b3 := Aside0.mk (a3.out.same (w1 := w7) (hgv.block M a3.out.mlt fun e => hMm (by cases e; rfl)) (hgv.block r a3.out.lt_ fun e => hrm (by cases e; rfl)))
          have a5 := Aside0.mk (a5.out.grown (fun e => HNm.out.1 (by cases e; rfl)) hgv)
          have b7 := Aside0.mk n3
          clear hgv hsome n3 HS6 d6 a1 a3 HG2' e5 HGG n0 HLk HSt HRun HH hHeld
          go_wp2_with fail
          have a0 := below_drew1 (Below.refl w7.heap.size w7)
          have HS8 := Aside0.mk (HS7.out.below a0)
          have i3 := Aside0.mk (t2.out.step (cls2 := a2) (Kept.of_below a0 _) fun _ _ _ e _ => e)
          have b5 := Aside0.mk (below_then b2.out b2.out.size a0)
          have b0 := Aside0.mk (b3.out.same (w1 := w7.drew) rfl rfl)
          have a5 := Aside0.mk (a5.out.below a0)
          have b7 := Aside0.mk (b7.out.below a0)
          have e8 := later a0 HHe.out.1
          have e9 := later a0 HHe.out.2.1
          have g3 := later a0 HHe.out.2.2
          have l1 : (Instr.lookup 87 (.map (some s.mC)) (.int .i64 (old : Int)) false).run Try.prog w7.drew = .ok (.map (some mo)) w7.drew := look_eq intKB a5.out HOi.out Try.underlying87 (zeroM _) (by rw [HFo.out]; rfl)
          have l2 : (Instr.lookup 165 (.map (some mo)) (.agg #[.int .i64 ya, .int .i64 yb]) false).run Try.prog w7.drew = .ok (.int .i64 (zA - zB)) w7.drew := look_eq ptKB b7.out HQ.out.1 Try.underlying165 (zeroI _) (by unfold putM; rw [if_pos rfl]; rfl)
          clear a0 HS7 t2 b2 b3
          refine start_ (n := 9) (S := fun w' => w'.cell? ⟨T, 8, none⟩ = some (.map (some s.mC)) ∧ w'.cell? ⟨E, 0, none⟩ = some (.int .i64 ya) ∧ w'.cell? ⟨E, 1, none⟩ = some (.int .i64 yb) ∧ (Instr.lookup 87 (.map (some s.mC)) (.int .i64 (old : Int)) false).run Try.prog w' = .ok (.map (some mo)) w' ∧ (Instr.lookup 165 (.map (some mo)) (.agg #[.int .i64 ya, .int .i64 yb]) false).run Try.prog w' = .ok (.int .i64 (zA - zB)) w') (ds := []) #[false, false, false, false, false, false, false, false, false] (by kernel_rfl) rfl rfl ⟨e8, e9, g3, l1, l2⟩ (fun hHeld => ?_)
          clear e8 e9 g3 l1 l2
          generalize w7.drew = U at HS8 i3 b5 b0 a5 b7 hHeld ⊢
          refine pure_ (i := 0) (N := some 91) (v := ?_) (a' := ?_) #[true, false, false, false, false, false, false, false, false] rfl rfl (by kernel_rfl) (fun _ _ _ h => h) (Or.inl ⟨by rfl, ?_⟩) ?_ ?_
          rotate_left
          · intro w'
            go_simp
            with_reducible rfl
          rotate_left
          · simp only [Act.put, List.setIfInBounds_toArray, List.set_cons_zero, List.set_cons_succ, i64_w, i32_w]
            rfl
          refine pure_ (i := 1) (N := some 92) (v := ?_) (a' := ?_) #[true, true, false, false, false, false, false, false, false] rfl rfl (by kernel_rfl) (fun _ _ _ h => h) (Or.inl ⟨by rfl, ?_⟩) ?_ ?_
          rotate_left
          · intro w'
            go_simp
            with_reducible rfl
          rotate_left
          · simp only [Act.put, List.setIfInBounds_toArray, List.set_cons_zero, List.set_cons_succ, i64_w, i32_w]
            rfl
          refine pure_ (i := 2) (N := some 93) (v := ?_) (a' := ?_) #[true, true, true, false, false, false, false, false, false] rfl rfl (by kernel_rfl) (fun _ _ _ h => h) (Or.inl ⟨by rfl, ?_⟩) ?_ ?_
          rotate_left
          · intro w'
            go_simp
            with_reducible rfl
          rotate_left
          · simp only [Act.put, List.setIfInBounds_toArray, List.set_cons_zero, List.set_cons_succ, i64_w, i32_w]
            rfl
          refine pure_ (i := 4) (N := some 95) (v := ?_) (a' := ?_) #[true, true, true, false, true, false, false, false, false] rfl rfl (by kernel_rfl) (fun _ _ _ h => h) (Or.inl ⟨by rfl, ?_⟩) ?_ ?_
          rotate_left
          · intro w'
            go_simp
            with_reducible rfl
          rotate_left
          · simp only [Act.put, List.setIfInBounds_toArray, List.set_cons_zero, List.set_cons_succ, i64_w, i32_w]
            rfl
          refine take_ (i := 3) (N := some 94) (v := ?_) (a' := ?_) #[true, true, true, true, true, false, false, false, false] rfl rfl (by kernel_rfl) (fun _ _ _ h => h) (Or.inl ⟨by rfl, ?_⟩) hHeld ?_ ?_
          rotate_left
          · rintro w' ⟨s0, s1, s2, s3, s4⟩
            go_simp
            with_reducible rfl
          rotate_left
          · simp only [Act.put, List.setIfInBounds_toArray, List.set_cons_zero, List.set_cons_succ, i64_w, i32_w]
            rfl
          refine take_ (i := 5) (N := some 96) (v := ?_) (a' := ?_) #[true, true, true, true, true, true, false, false, false] rfl rfl (by kernel_rfl) (fun _ _ _ h => h) (Or.inl ⟨by rfl, ?_⟩) hHeld ?_ ?_
          rotate_left
          · rintro w' ⟨s0, s1, s2, s3, s4⟩
            go_simp
            with_reducible rfl
          rotate_left
          · simp only [Act.put, List.setIfInBounds_toArray, List.set_cons_zero, List.set_cons_succ, i64_w, i32_w]
            rfl
          refine take_ (i := 6) (N := some 97) (v := ?_) (a' := ?_) #[true, true, true, true, true, true, true, false, false] rfl rfl (by kernel_rfl) (fun _ _ _ h => h) (Or.inl ⟨by rfl, ?_⟩) hHeld ?_ ?_
          rotate_left
          · rintro w' ⟨s0, s1, s2, s3, s4⟩
            go_simp
            with_reducible rfl
          rotate_left
          · simp only [Act.put, List.setIfInBounds_toArray, List.set_cons_zero, List.set_cons_succ, i64_w, i32_w]
            rfl
          refine take_ (i := 7) (N := some 98) (v := ?_) (a' := ?_) #[true, true, true, true, true, true, true, true, false] rfl rfl (by kernel_rfl) (fun _ _ _ h => h) (Or.inl ⟨by rfl, ?_⟩) hHeld ?_ ?_
          rotate_left
          · rintro w' ⟨s0, s1, s2, s3, s4⟩
            go_simp
            with_reducible rfl
          rotate_left
          · simp only [Act.put, List.setIfInBounds_toArray, List.set_cons_zero, List.set_cons_succ, i64_w, i32_w]
            rfl
          refine pure_ (i := 8) (N := some 99) (v := ?_) (a' := ?_) #[true, true, true, true, true, true, true, true, true] rfl rfl (by kernel_rfl) (fun _ _ _ h => h) (Or.inl ⟨by rfl, ?_⟩) ?_ ?_
          rotate_left
          · intro w'
            go_simp
            with_reducible rfl
          rotate_left
          · simp only [Act.put, List.setIfInBounds_toArray, List.set_cons_zero, List.set_cons_succ, i64_w, i32_w]
            rfl
          refine done_ (by kernel_rfl) ?_
          have HVal := Aside0.mk (show ∀ g : Int × Int → Option Value, (∀ q, ptOk q → q ≠ (ya, yb) → g q = fcx old q) → g (ya, yb) = encZ (zA - zB) → ∀ q, ptOk q → g q = encZ (if (left q && !decide (q = (ya, yb))) = true then cntE es (fun x => decide (H0 x = (old : Int))) q.1 q.2 else cntE es (fun x => decide (H0 x = (old : Int))) q.1 q.2 - cntE es (fun x => decide (x ∈ L)) q.1 q.2) from fun g d0 a4 q hq => by
            by_cases e : q = (ya, yb)
            · subst e
              rw [a4, if_neg (by simp), HZ.out.1, HZ.out.2]
            · rw [d0 q hq e, j0.out q hq]
              simp [e])
          by_cases hz0 : zA - zB = 0
          · have k0 : (zA - zB == 0) = true := by simp; omega
            have t6 : decide (zA - zB = 0) = true := by simp; omega
            go_wp2_with fail
            have a0 := below_drew1 (Below.refl U.heap.size U)
            have HS9 := Aside0.mk (HS8.out.below a0)
            have v3 := Aside0.mk (i3.out.step (cls2 := a2) (Kept.of_below a0 _) fun _ _ _ e _ => e)
            have e2 := Aside0.mk (below_then b5.out b5.out.size a0)
            have a9 := Aside0.mk (b0.out.same (w1 := U.drew) rfl rfl)
            have a5 := Aside0.mk (a5.out.below a0)
            have b7 := Aside0.mk (b7.out.below a0)
            have e8 := later a0 hHeld.1
            have e9 := later a0 hHeld.2.1
            have g3 := later a0 hHeld.2.2.1
            have l1 : (Instr.lookup 87 (.map (some s.mC)) (.int .i64 (old : Int)) false).run Try.prog U.drew = .ok (.map (some mo)) U.drew := look_eq intKB a5.out HOi.out Try.underlying87 (zeroM _) (by rw [HFo.out]; rfl)
            clear a0 HS8 i3 b5 b0 hHeld
            refine start_ (n := 8) (S := fun w' => w'.cell? ⟨T, 8, none⟩ = some (.map (some s.mC)) ∧ w'.cell? ⟨E, 0, none⟩ = some (.int .i64 ya) ∧ w'.cell? ⟨E, 1, none⟩ = some (.int .i64 yb) ∧ (Instr.lookup 87 (.map (some s.mC)) (.int .i64 (old : Int)) false).run Try.prog w' = .ok (.map (some mo)) w') (ds := [7]) #[false, false, false, false, false, false, false, false] (by kernel_rfl) rfl rfl ⟨e8, e9, g3, l1⟩ (fun hHeld => ?_)
            clear e8 e9 g3 l1
            generalize U.drew = U2 at HS9 v3 e2 a9 a5 b7 hHeld ⊢
            obtain ⟨w8, i2, ⟨c8, d3, n7⟩, l3, x8⟩ := b7.out.del ptKB HQ.out.1 Try.underlying165 0
            have x7 := Aside0.mk n7
            have HGG := Aside0.mk l3
            have y9 := Aside0.mk d3
            have HRun := Aside0.mk i2
            clear i2 n7 l3 x8 d3
            refine pure_ (i := 0) (N := some 100) (v := ?_) (a' := ?_) #[true, false, false, false, false, false, false, false] rfl rfl (by kernel_rfl) (fun _ _ _ h => h) (Or.inl ⟨by rfl, ?_⟩) ?_ ?_
            rotate_left
            · intro w'
              go_simp
              with_reducible rfl
            rotate_left
            · simp only [Act.put, List.setIfInBounds_toArray, List.set_cons_zero, List.set_cons_succ, i64_w, i32_w]
              rfl
            refine pure_ (i := 1) (N := some 101) (v := ?_) (a' := ?_) #[true, true, false, false, false, false, false, false] rfl rfl (by kernel_rfl) (fun _ _ _ h => h) (Or.inl ⟨by rfl, ?_⟩) ?_ ?_
            rotate_left
            · intro w'
              go_simp
              with_reducible rfl
            rotate_left
            · simp only [Act.put, List.setIfInBounds_toArray, List.set_cons_zero, List.set_cons_succ, i64_w, i32_w]
              rfl
            refine pure_ (i := 2) (N := some 102) (v := ?_) (a' := ?_) #[true, true, true, false, false, false, false, false] rfl rfl (by kernel_rfl) (fun _ _ _ h => h) (Or.inl ⟨by rfl, ?_⟩) ?_ ?_
            rotate_left
            · intro w'
              go_simp
              with_reducible rfl
            rotate_left
            · simp only [Act.put, List.setIfInBounds_toArray, List.set_cons_zero, List.set_cons_succ, i64_w, i32_w]
              rfl
            refine pure_ (i := 4) (N := some 104) (v := ?_) (a' := ?_) #[true, true, true, false, true, false, false, false] rfl rfl (by kernel_rfl) (fun _ _ _ h => h) (Or.inl ⟨by rfl, ?_⟩) ?_ ?_
            rotate_left
            · intro w'
              go_simp
              with_reducible rfl
            rotate_left
            · simp only [Act.put, List.setIfInBounds_toArray, List.set_cons_zero, List.set_cons_succ, i64_w, i32_w]
              rfl
            refine take_ (i := 3) (N := some 103) (v := ?_) (a' := ?_) #[true, true, true, true, true, false, false, false] rfl rfl (by kernel_rfl) (fun _ _ _ h => h) (Or.inl ⟨by rfl, ?_⟩) hHeld ?_ ?_
            rotate_left
            · rintro w' ⟨s0, s1, s2, s3⟩
              go_simp
              with_reducible rfl
            rotate_left
            · simp only [Act.put, List.setIfInBounds_toArray, List.set_cons_zero, List.set_cons_succ, i64_w, i32_w]
              rfl
            refine take_ (i := 5) (N := some 105) (v := ?_) (a' := ?_) #[true, true, true, true, true, true, false, false] rfl rfl (by kernel_rfl) (fun _ _ _ h => h) (Or.inl ⟨by rfl, ?_⟩) hHeld ?_ ?_
            rotate_left
            · rintro w' ⟨s0, s1, s2, s3⟩
              go_simp
              with_reducible rfl
            rotate_left
            · simp only [Act.put, List.setIfInBounds_toArray, List.set_cons_zero, List.set_cons_succ, i64_w, i32_w]
              rfl
            refine take_ (i := 6) (N := some 106) (v := ?_) (a' := ?_) #[true, true, true, true, true, true, true, false] rfl rfl (by kernel_rfl) (fun _ _ _ h => h) (Or.inl ⟨by rfl, ?_⟩) hHeld ?_ ?_
            rotate_left
            · rintro w' ⟨s0, s1, s2, s3⟩
              go_simp
              with_reducible rfl
            rotate_left
            · simp only [Act.put, List.setIfInBounds_toArray, List.set_cons_zero, List.set_cons_succ, i64_w, i32_w]
              rfl
            refine last_ (i := 7) (N := none) #[true, true, true, true, true, true, true, true] rfl rfl (by kernel_rfl) (by decide) (fun K hK => ?_)
            refine step_delete (by rfl) (.tmp 105) (.tmp 106) 165 167 rfl rfl rfl HRun.out ?_
            refine hK.out _ _ ?_
            clear hK K
            refine done_ (by kernel_rfl) ?_
            have HS10 := Aside0.mk (HS9.out.setC (i := old) HMo.out.2.1 (w1 := w8) (by rw [← HMo.out.1]; exact x7.out) (by rw [← HMo.out.1]; exact HGG.out))
            have z6 := Aside0.mk (v3.out.step (w2 := w8) (cls2 := a2) (kept_grown HGG.out fun k e => by cases e; exact .inl (by rw [HCm.out]; rfl)) fun _ _ _ e _ => e)
            have k6 := Aside0.mk (e2.out.grown HGG.out e2.out.size (fun k e => by cases e; rw [HMo.out.1]; exact (HS9.out (.cmp old) HMo.out.2.1).2.2))
            have d8 := Aside0.mk (a9.out.same (w1 := w8) (HGG.out.block M a9.out.mlt fun e => hMm (by cases e; rfl)) (HGG.out.block r a9.out.lt_ fun e => hrm (by cases e; rfl)))
            go_wp2
            go_roundw
            case rel =>
              refine ⟨_, ⟨_, d8⟩, _, _, HS10, ⟨fun i hi => ?_⟩, ⟨fun qa qb hq => ?_⟩, ⟨?_⟩⟩
              · show (if i = old then _ else if i = old then _ else fcx i) = _ ∧ (if i = old then _ else if i = old then _ else ccx i) = _
                rw [if_neg hi, if_neg hi, if_neg hi, if_neg hi]
                exact HOt.out i hi
              · show (if old = old then delM (putM (fcx old) (ya, yb) (.int .i64 (zA - zB))) (ya, yb) else _) (qa, qb) = _
                rw [if_pos rfl]
                refine HVal.out _ (fun q hq hne => by unfold delM putM; rw [if_neg hne, if_neg hne]) ?_ (qa, qb) hq
                unfold delM encZ
                rw [if_pos rfl, if_pos hz0]
              · show (if old = old then c8 else _) ≤ _
                rw [if_pos rfl]
                exact Nat.le_trans y9.out HCc.out
            case measure => rw [d8.out.left_eq, HGr.out.left_eq]; exact HQ.out.2.2.2.1
          · have k0 : (zA - zB == 0) = false := by simp; omega
            have t6 : decide (zA - zB = 0) = false := by simp; omega
            go_wp2
            go_roundw
            case rel =>
              refine ⟨_, _, _, _, b0, HS8, ⟨fun i hi => ?_⟩, ⟨?_⟩, ⟨?_⟩, i3, b5⟩
              · show (if i = old then _ else fcx i) = _ ∧ (if i = old then _ else ccx i) = _
                rw [if_neg hi, if_neg hi]
                exact HOt.out i hi
              · show ∀ q, ptOk q → (if old = old then putM (fcx old) (ya, yb) (.int .i64 (zA - zB)) else fcx old) q = _
                rw [if_pos rfl]
                refine HVal.out _ (fun q hq hne => by unfold putM; rw [if_neg hne]) ?_
                unfold putM encZ
                rw [if_pos rfl, if_neg hz0]
              · show (if old = old then ccx old else ccx old) ≤ _
                rw [if_pos rfl]
                exact HCc.out
            case measure => rw [b0.out.left_eq, HGr.out.left_eq]; exact HQ.out.2.2.2.1
        · intro o6 f5
          obtain ⟨s4, e4⟩ : ∃ s4 : Sg, s4 = { s2 with fc := fcx, cc := ccx } := ⟨_, rfl⟩
          rw [← e4] at HS4
          have hHn : ∀ x, Nd n x → ∀ i : Nat, (Go.Proofs.Ytmcbkmfpmcbdpaa.H.HP p x = (i : Int)) ↔ (if x ∈ L then (fr : Int) else H0 x) = (i : Int) := fun x hx i => by
            rw [o3.out.1 x hx]
            have h1 : x ∈ L ↔ gi p.block x = (b : Int) := by rw [HL.out, HP.out.bm _ (nd_iff.2 hbn)]; exact ⟨fun h => h.2, fun h => ⟨hx, h⟩⟩
            by_cases h2 : x ∈ L
            · rw [if_pos h2, if_pos (h1.1 h2)]
            · rw [if_neg h2, if_neg fun h => h2 (h1.2 h)]
          have HSc := Aside0.mk (show StdC es s4 (fr + 1) (Go.Proofs.Ytmcbkmfpmcbdpaa.H.HP p) from by
            rw [e4]
            refine ⟨by show s2.cm.length = _; rw [a6.out]; show (s.cm ++ [M]).length = _; rw [List.length_append, HC.out.ln]; rfl, b1.out.2.2, fun i hi q hq => ?_, fun i hi => ?_⟩
            · show fcx i q = _
              by_cases ei : i = old
              · subst ei
                rw [j0.out q hq, if_neg (by rw [f5 _ _ hq]; simp), cntE_sub es (fun x => decide (H0 x = (i : Int))) (fun x => decide (x ∈ L)) (fun e _ hx => by
                  have hx := of_decide_eq_true hx
                  rw [HL.out] at hx
                  exact decide_eq_true (HLo.out _ hx))]
                refine congrArg encZ (cntE_congr (fun e he => ?_) _ _)
                have h2 := hHn e.f2 (HEs.out e he).2.2 i
                by_cases hm : e.f2 ∈ L
                · rw [if_pos hm] at h2
                  have h3 : ¬ Go.Proofs.Ytmcbkmfpmcbdpaa.H.HP p e.f2 = (i : Int) := fun h => by have := h2.1 h; omega
                  simp [hm, h3]
                · rw [if_neg hm] at h2
                  by_cases h4 : H0 e.f2 = (i : Int)
                  · have h5 := h2.2 h4
                    simp [hm, h4, h5]
                  · have h5 : ¬ Go.Proofs.Ytmcbkmfpmcbdpaa.H.HP p e.f2 = (i : Int) := fun h => h4 (h2.1 h)
                    simp [hm, h4, h5]
              · rw [(HOt.out i ei).1, a6.out]
                show (if i = fr then f else s.fc i) q = _
                by_cases ef : i = fr
                · subst ef
                  rw [if_pos rfl, i7.out q hq]
                  refine congrArg encZ (cntE_congr (fun e he => ?_) _ _)
                  have h2 := hHn e.f2 (HEs.out e he).2.2 i
                  by_cases hm : e.f2 ∈ L
                  · rw [if_pos hm] at h2
                    have h3 := h2.2 rfl
                    simp [hm, h3]
                  · rw [if_neg hm] at h2
                    have h3 : ¬ Go.Proofs.Ytmcbkmfpmcbdpaa.H.HP p e.f2 = (i : Int) := fun h => by have := h2.1 h; have := o3.out.2.1 e.f2 (HEs.out e he).2.2; omega
                    simp [hm, h3]
                · rw [if_neg ef, HC.out.fc i (by omega) q hq]
                  refine congrArg encZ (cntE_congr (fun e he => ?_) _ _)
                  have h2 := hHn e.f2 (HEs.out e he).2.2 i
                  by_cases hm : e.f2 ∈ L
                  · rw [if_pos hm] at h2
                    have h3 : ¬ Go.Proofs.Ytmcbkmfpmcbdpaa.H.HP p e.f2 = (i : Int) := fun h => by have := h2.1 h; omega
                    have h4 : ¬ H0 e.f2 = (i : Int) := fun h => by
                      have h5 := HLo.out e.f2 (by rw [← HL.out]; exact hm)
                      omega
                    simp [h3, h4]
                  · rw [if_neg hm] at h2
                    by_cases h4 : H0 e.f2 = (i : Int)
                    · have h5 := h2.2 h4
                      simp [h4, h5]
                    · have h5 : ¬ Go.Proofs.Ytmcbkmfpmcbdpaa.H.HP p e.f2 = (i : Int) := fun h => h4 (h2.1 h)
                      simp [h4, h5]
            · show ccx i ≤ _
              by_cases ei : i = old
              · rw [ei]; exact HCc.out
              · rw [(HOt.out i ei).2, a6.out]
                show (if i = fr then c else s.cc i) ≤ _
                by_cases ef : i = fr
                · rw [if_pos ef]; exact HCl.out.2.1
                · rw [if_neg ef]; exact HC.out.cc i (by omega))
          have HSi := Aside0.mk (show StdI n es s4 from by rw [e4, a6.out]; exact ⟨HI.out.len, HI.out.ins⟩)
          have HSd := Aside0.mk (show Std n (.slice A1 nl c1) v2 s4 p from by rw [e4, a6.out]; exact ⟨HD.out.tc, HD.out.block, HD.out.heap, HD.out.blocks, HD.out.heaps, HD.out.bs, HD.out.bl, HD.out.hs, HD.out.hl⟩)
          have HSw := Aside0.mk (show StdW s4 wt from by rw [e4, a6.out]; exact HW.out)
          have y7 := Aside0.mk (show s4.cm.getD fr 0 = M from by rw [e4]; show s2.cm.getD fr 0 = M; rw [a6.out]; show (s.cm ++ [M]).getD fr 0 = M; rw [gD_snoc, if_pos HC.out.ln.symm])
          have t1 := HS4.out.cell 1 (.slice A1 nl c1) (by rw [HSd.out.tc]; rfl)
          clear e4 hHn f5 o6 HGr HOt j0 HCc
          go_wp2
          clear t1
          obtain ⟨Hp, hHp⟩ : ∃ Hp : Int → Int, Hp = Go.Proofs.Ytmcbkmfpmcbdpaa.H.HP p := ⟨_, rfl⟩
          rw [← hHp] at HSc
          have HHp := Aside0.mk hHp
          have p0 := Aside0.mk (show RefJ n es (gi p.block) H0 (gi p.block) Hp (fr : Int) (old : Int) 0 from by rw [hHp]; exact o3.out.2.2)
          clear hHp
          go_loopw [113] (fun i wr => ∃ (k : Nat) (s' : Sg) (cl' : Nat → Cl) (p' : PSt) (wt' : Int → Bool), k ≤ nl ∧ i = .int .i64 k ∧ Aside0 (SP w0.heap.size T wr cl' s') ∧ Aside0 (Std n (.slice A1 nl c1) v2 s' p') ∧ Aside0 (PW n p') ∧ Aside0 (StdW s' wt') ∧ Aside0 (Wt p' wt') ∧ Aside0 (Same0 s4 s') ∧
            Aside0 (RefJ n es (gi p.block) H0 (gi p'.block) Hp (fr : Int) (old : Int) k) ∧ Aside0 ((∀ x, Nd n x → Go.Proofs.Ytmcbkmfpmcbdpaa.H.HP p' x = Hp x) ∧ p'.heaps.length = p.heaps.length) ∧ Aside0 (Fr w wr cls cl' fun _ => False) ∧ Aside0 (Below w0.heap.size w0 wr)) (fun i _ => nl - (intOf i).toNat)
          case atStart => exact ⟨0, s4, a2, p, wt, Nat.zero_le _, rfl, HS4, HSd, HP, HSw, HWt, ⟨Same0.refl _⟩, p0, ⟨fun x _ => by rw [HHp.out], rfl⟩, j4, g8⟩
          case round =>
            clear HS4 HSd HSw p0 j4 g8
            obtain ⟨k, s', cl', p', wt', hk, rfl, HS, HD, HPw, HW', HWt', HSm, HRj, HPh, HK, HBb⟩ := hrel
            by_cases hlt : k < nl
            ·
              obtain ⟨m1, m2, m3, m4, m5, m6, m7, m8, m9, p8⟩ := HSm.out
              have v7 : s'.cm.getD fr 0 = M := by rw [m7]; exact y7.out
              have hfrl : fr < s'.cm.length := by rw [m7, HSc.out.ln]; omega
              have holl : old < s'.cm.length := by rw [m7, HSc.out.ln]; omega
              have hgM : G2 wr M (s4.fc fr) (s4.cc fr) := by have h := (HS.out (.cmp fr) hfrl).2.1; rw [v7, m8, m9] at h; exact h
              have HGM := Aside0.mk hgM
              have hki : i64in (k : Int) := by unfold i64in; omega
              have HKi := Aside0.mk hki
              have hmm := @run_makeMap Try.prog
              have HMs := Aside0.mk (And.intro m5 (And.intro m7 m8))
              clear hgM hki m1 m2 m3 m4 m5 m6 m7 m8 m9 p8 v7
              go_wp2_with (at_range; refine wpList_grange _ ptKB rfl _ 165 rfl 3 Try.underlying165 M (s4.cc fr) (s4.fc fr) rfl (HGM.out.below (below_alloc (below_alloc (Below.refl _ _) _) _)) ?_; intro w6 hgr hg hsz)
              go_frame
              clear hmm
              have i0 : ((wr.alloc (Obj.map #[] 0)).alloc (Obj.map #[] 0)).heap.size = wr.heap.size + 1 + 1 := by simp
              rw [i0] at hgr
              obtain ⟨r2, i1⟩ : ∃ r2, r2 = wr.heap.size + 1 + 1 := ⟨_, rfl⟩
              rw [← i1] at hgr
              try rw [i0]
              try rw [← i1]
              clear i0
              obtain ⟨X1, e6⟩ : ∃ X1, X1 = wr.heap.size := ⟨_, rfl⟩
              have q4 : r2 = X1 + 2 := by rw [i1, e6]
              have hbl : Below wr.heap.size wr w6 := (below_alloc (below_alloc (Below.refl _ _) _) _).grown hg (by simp; omega) (fun q e => by cases e)
              have d0 : G1 w6 X1 (fun _ => none) 0 := by
                rw [e6]
                exact ((GM.made _ _ _ _ wr).alloc_ _).grown (by simp) hg
              have a4 : G1 w6 (X1 + 1) (fun _ => none) 0 := by
                have h := (GM.made Try.prog 3 ik i64in (wr.alloc (Obj.map #[] 0))).grown (by simp) hg
                rwa [show (wr.alloc (Obj.map #[] 0)).heap.size = X1 + 1 by rw [e6]; simp] at h
              obtain ⟨W1, o7⟩ : ∃ W1, W1 = wr := ⟨_, rfl⟩
              rw [← e6]
              have a1 := Aside0.mk hbl
              have a3 := Aside0.mk hgr
              have d7 := Aside0.mk d0
              have d4 := Aside0.mk a4
              have HXs := Aside0.mk (And.intro e6 q4)
              clear hgr hg hsz i1 e6 q4 hbl d0 a4 o7 W1
              obtain ⟨wb, hwb⟩ : ∃ wb, wb = wr := ⟨_, rfl⟩
              subst hwb
              obtain ⟨BB, hBB⟩ : ∃ BB : Int × Int → Int, BB = fun q => cntE es (fun x => decide (Hp x = (fr : Int))) q.1 q.2 := ⟨_, rfl⟩
              obtain ⟨AA, hAA⟩ : ∃ AA : Int × Int → Int, AA = fun q => cntE es (fun x => decide (Hp x = (old : Int))) q.1 q.2 := ⟨_, rfl⟩
              have HfB := Aside0.mk (show ∀ q, ptOk q → s4.fc fr q = encZ (BB q) from fun q hq => by rw [hBB]; exact HSc.out.fc fr (by omega) q hq)
              have HfA := Aside0.mk (show ∀ q, ptOk q → s4.fc old q = encZ (AA q) from fun q hq => by rw [hAA]; exact HSc.out.fc old (by omega) q hq)
              have HBB := Aside0.mk (And.intro hBB hAA)
              clear hBB hAA
              go_loopw [] (fun wr => ∃ (left : Int × Int → Bool) (cnt : Nat) (f1 : Int → Option Value) (d1 : Nat) (f2 : Int → Option Value) (d2 : Nat), Aside0 (GR Try.prog 167 ptL ptOk wr M r2 (s4.fc fr) left cnt) ∧ Aside0 (G1 wr X1 f1 d1) ∧ Aside0 (G1 wr (X1 + 1) f2 d2) ∧
                Aside0 (∀ a, i64in a → (f1 a).isSome = (decide (BB (a, (k : Int)) ≠ 0) && !left (a, (k : Int)))) ∧ Aside0 (∀ a, i64in a → (f2 a).isSome = (decide (BB (a, (k : Int)) ≠ 0) && !left (a, (k : Int)) && decide (AA (a, (k : Int)) = 0))) ∧ Aside0 (Below wb.heap.size wb wr)) (fun wr => wr.rangeLeft M r2)
              case atStart =>
                have hst : ∀ a, i64in a → ((s4.fc fr) (a, (k : Int))).isSome = decide (BB (a, (k : Int)) ≠ 0) := fun a ha => by
                  rw [HfB.out _ ⟨ha, HKi.out⟩]
                  unfold encZ
                  split
                  · rename_i e; simp [e]
                  · rename_i e; simp [e]
                refine ⟨_, _, _, _, _, _, a3, d7, d4, ⟨fun a ha => ?_⟩, ⟨fun a ha => ?_⟩, a1⟩
                · rw [hst a ha]; simp
                · rw [hst a ha]; simp
              case round =>
                clear a3 d7 d4 a1
                obtain ⟨left, cnt, f1, d1, f2, d2, a3, d7, d4, f9, HF2x, a1⟩ := hrel
                go_wp2_with (at_next; refine wpList_gnext _ ptKB rfl _ rfl M r2 (s4.fc fr) left cnt rfl a3.out ?_ ?_)
                rotate_left
                · intro ya yb v w7 x6 hy hly hfy e3 b8 a4 hsz hen
                  have hXs := HXs.out
                  have hBy : BB (ya, yb) ≠ 0 := by
                    have h := HfB.out _ hy
                    rw [hfy] at h
                    exact encZ_some.1 (by rw [← h]; rfl)
                  have b2 := Aside0.mk (a1.out.grown a4 a1.out.size (fun q e => by cases e; omega))
                  have b3 := Aside0.mk e3
                  have g5 := Aside0.mk (d7.out.grown (fun e => by cases e; omega) a4)
                  have j2 := Aside0.mk (d4.out.grown (fun e => by cases e; omega) a4)
                  have HQ := Aside0.mk (And.intro hy (And.intro hBy (And.intro hly b8)))
                  have n8 : (Instr.entry (.pointer (some ⟨r2, 0, none⟩))).run Try.prog w7 = .ok (.tuple #[.agg #[.int .i64 ya, .int .i64 yb], v]) w7 := hen
                  clear hen e3 a4 hsz hBy hy hly hfy b8 hXs d7 d4
                  by_cases hyk : yb = (k : Int)
                  · subst hyk
                    have k0 : ((k : Int) != (k : Int)) = false := by simp
                    have hya : i64in ya := HQ.out.1.1
                    have HYa := Aside0.mk hya
                    have p1 : d1 ≤ n := by
                      have := g5.out.count_le intKB ((List.range n).map fun z : Nat => (z : Int)) fun a ha hs => by
                        rw [f9.out a ha] at hs
                        simp only [Bool.and_eq_true, decide_eq_true_eq] at hs
                        have h1 := hs.1
                        rw [HBB.out.1] at h1
                        obtain ⟨e, he, h2, _⟩ := cntE_pos.1 h1
                        have h3 : Nd n a := by have h4 : e.f0 = a := h2; rw [← h4]; exact (HEs.out e he).1
                        obtain ⟨z, rfl, hz⟩ := h3.nat
                        exact List.mem_map.2 ⟨z, List.mem_range.2 hz, rfl⟩
                      simpa using this
                    have r8 : d2 ≤ n := by
                      have := j2.out.count_le intKB ((List.range n).map fun z : Nat => (z : Int)) fun a ha hs => by
                        rw [HF2x.out a ha] at hs
                        simp only [Bool.and_eq_true, decide_eq_true_eq] at hs
                        have h1 := hs.1.1
                        rw [HBB.out.1] at h1
                        obtain ⟨e, he, h2, _⟩ := cntE_pos.1 h1
                        have h3 : Nd n a := by have h4 : e.f0 = a := h2; rw [← h4]; exact (HEs.out e he).1
                        obtain ⟨z, rfl, hz⟩ := h3.nat
                        exact List.mem_map.2 ⟨z, List.mem_range.2 hz, rfl⟩
                      simpa using this
                    have hbA := below_alloc (Below.refl w7.heap.size w7) (Obj.cells #[Value.int IntKind.i64 ya, Value.int IntKind.i64 (k : Int)] 167)
                    have e0 := (blk_cell (blk_new w7 (Obj.cells #[Value.int IntKind.i64 ya, Value.int IntKind.i64 (k : Int)] 167)) 0).trans rfl
                    have e1 := (blk_cell (blk_new w7 (Obj.cells #[Value.int IntKind.i64 ya, Value.int IntKind.i64 (k : Int)] 167)) 1).trans rfl
                    have l8 := Aside0.mk (And.intro e0 e1)
                    have b0 := Aside0.mk (b3.out.same (hbA.block M b3.out.mlt) (hbA.block r2 b3.out.lt_))
                    have j5 := Aside0.mk (g5.out.below hbA)
                    have j3 := Aside0.mk (j2.out.below hbA)
                    have b5 := Aside0.mk (below_then b2.out b2.out.size hbA)
                    have HDn := Aside0.mk (And.intro p1 r8)
                    have p2 := Aside0.mk (show X1 < w7.heap.size ∧ r2 < w7.heap.size ∧ M < X1 from ⟨g5.out.lt_, b3.out.lt_, by rw [HXs.out.1]; exact HGM.out.lt_⟩)
                    clear hya p1 r8 hbA e0 e1 b3 g5 j2 b2
                    go_wp2_with (refine wpList_gput _ intKB rfl _ _ _ 88 rfl 3 Try.underlying88 X1 d1 f1 rfl j5.out (by have := HDn.out.1; unfold maxLen; omega) ya HYa.out (.int .i64 1) rfl rfl ?_; intro w8 hgm hgg hsz; have f6 := Aside0.mk hgm; have HGg := Aside0.mk hgg; clear hgm hgg hsz)
                    have hX := HXs.out
                    have h7 := p2.out
                    have a9 := Aside0.mk (b0.out.same (w1 := w8) (HGg.out.block M b0.out.mlt (fun e => by cases e; omega)) (HGg.out.block r2 b0.out.lt_ (fun e => by cases e; omega)))
                    have f7 := Aside0.mk (j3.out.grown (fun e => by simp at e) HGg.out)
                    have e2 := Aside0.mk (b5.out.grown HGg.out b5.out.size (fun q e => by cases e; omega))
                    have e0 := cell_keep2 HGg.out (E := w7.heap.size) (i := 0) (by omega) l8.out.1
                    have e1 := cell_keep2 HGg.out (E := w7.heap.size) (i := 1) (by omega) l8.out.2
                    obtain ⟨E, hE⟩ : ∃ E, E = w7.heap.size := ⟨_, rfl⟩
                    rw [← hE] at e0 e1 ⊢
                    clear b0 j5 j3 b5 l8 hX h7 hE HGg
                    go_wp2_with fail
                    have a0 := below_drew1 (Below.refl w8.heap.size w8)
                    have HBd := Aside0.mk (below_then e2.out e2.out.size a0)
                    have a9 := Aside0.mk (a9.out.same (w1 := w8.drew) rfl rfl)
                    have f6 := Aside0.mk (f6.out.below a0)
                    have f7 := Aside0.mk (f7.out.below a0)
                    have i4 := HS.out.below HBd.out
                    have d3 := i4.cell 8 (.map (some s'.mC)) (by rw [HD.out.tc]; rfl)
                    have hfo : s'.fC (old : Int) = some (.map (some (s'.cm.getD old 0))) := by rw [HMs.out.1, HMs.out.2.1, HSc.out.fC _ HOi.out, if_pos (by simp; omega), Int.toNat_natCast]
                    have l1 : (Instr.lookup 87 (.map (some s'.mC)) (.int .i64 (old : Int)) false).run Try.prog w8.drew = .ok (.map (some (s'.cm.getD old 0))) w8.drew := look_eq intKB (i4 .mc).2.1 HOi.out Try.underlying87 (zeroM _) (by rw [hfo]; rfl)
                    have l2 : (Instr.lookup 165 (.map (some (s'.cm.getD old 0))) (.agg #[.int .i64 ya, .int .i64 (k : Int)]) false).run Try.prog w8.drew = .ok (.int .i64 (AA (ya, (k : Int)))) w8.drew := look_eq ptKB (i4 (.cmp old) holl).2.1 HQ.out.1 Try.underlying165 (zeroI _) (by rw [HMs.out.2.2, HfA.out _ HQ.out.1]; exact encZ_get _)
                    have e0d := later a0 e0
                    have e1d := later a0 e1
                    obtain ⟨i9, o0⟩ : ∃ i9, i9 = s'.cm.getD old 0 := ⟨_, rfl⟩
                    rw [← o0] at l1 l2
                    clear a0 i4 hfo o0 e0 e1 e2
                    refine start_ (n := 9) (S := fun w' => w'.cell? ⟨T, 8, none⟩ = some (.map (some s'.mC)) ∧ w'.cell? ⟨E, 0, none⟩ = some (.int .i64 ya) ∧ w'.cell? ⟨E, 1, none⟩ = some (.int .i64 (k : Int)) ∧ (Instr.lookup 87 (.map (some s'.mC)) (.int .i64 (old : Int)) false).run Try.prog w' = .ok (.map (some i9)) w' ∧ (Instr.lookup 165 (.map (some i9)) (.agg #[.int .i64 ya, .int .i64 (k : Int)]) false).run Try.prog w' = .ok (.int .i64 (AA (ya, (k : Int)))) w') (ds := []) #[false, false, false, false, false, false, false, false, false] (by kernel_rfl) rfl rfl ⟨d3, e0d, e1d, l1, l2⟩ (fun hHeld => ?_)
                    clear d3 e0d e1d l1 l2
                    generalize w8.drew = U at a9 f6 f7 HBd hHeld ⊢
                    refine pure_ (i := 0) (N := some 131) (v := ?_) (a' := ?_) #[true, false, false, false, false, false, false, false, false] rfl rfl (by kernel_rfl) (fun _ _ _ h => h) (Or.inl ⟨by rfl, ?_⟩) ?_ ?_
                    rotate_left
                    · intro w'
                      go_simp
                      with_reducible rfl
                    rotate_left
                    · simp only [Act.put, List.setIfInBounds_toArray, List.set_cons_zero, List.set_cons_succ, i64_w, i32_w]
                      rfl
                    refine pure_ (i := 1) (N := some 132) (v := ?_) (a' := ?_) #[true, true, false, false, false, false, false, false, false] rfl rfl (by kernel_rfl) (fun _ _ _ h => h) (Or.inl ⟨by rfl, ?_⟩) ?_ ?_
                    rotate_left
                    · intro w'
                      go_simp
                      with_reducible rfl
                    rotate_left
                    · simp only [Act.put, List.setIfInBounds_toArray, List.set_cons_zero, List.set_cons_succ, i64_w, i32_w]
                      rfl
                    refine pure_ (i := 2) (N := some 133) (v := ?_) (a' := ?_) #[true, true, true, false, false, false, false, false, false] rfl rfl (by kernel_rfl) (fun _ _ _ h => h) (Or.inl ⟨by rfl, ?_⟩) ?_ ?_
                    rotate_left
                    · intro w'
                      go_simp
                      with_reducible rfl
                    rotate_left
                    · simp only [Act.put, List.setIfInBounds_toArray, List.set_cons_zero, List.set_cons_succ, i64_w, i32_w]
                      rfl
                    refine pure_ (i := 4) (N := some 135) (v := ?_) (a' := ?_) #[true, true, true, false, true, false, false, false, false] rfl rfl (by kernel_rfl) (fun _ _ _ h => h) (Or.inl ⟨by rfl, ?_⟩) ?_ ?_
                    rotate_left
                    · intro w'
                      go_simp
                      with_reducible rfl
                    rotate_left
                    · simp only [Act.put, List.setIfInBounds_toArray, List.set_cons_zero, List.set_cons_succ, i64_w, i32_w]
                      rfl
                    refine take_ (i := 3) (N := some 134) (v := ?_) (a' := ?_) #[true, true, true, true, true, false, false, false, false] rfl rfl (by kernel_rfl) (fun _ _ _ h => h) (Or.inl ⟨by rfl, ?_⟩) hHeld ?_ ?_
                    rotate_left
                    · rintro w' ⟨s0, s1, s2, s3, s4⟩
                      go_simp
                      with_reducible rfl
                    rotate_left
                    · simp only [Act.put, List.setIfInBounds_toArray, List.set_cons_zero, List.set_cons_succ, i64_w, i32_w]
                      rfl
                    refine take_ (i := 5) (N := some 136) (v := ?_) (a' := ?_) #[true, true, true, true, true, true, false, false, false] rfl rfl (by kernel_rfl) (fun _ _ _ h => h) (Or.inl ⟨by rfl, ?_⟩) hHeld ?_ ?_
                    rotate_left
                    · rintro w' ⟨s0, s1, s2, s3, s4⟩
                      go_simp
                      with_reducible rfl
                    rotate_left
                    · simp only [Act.put, List.setIfInBounds_toArray, List.set_cons_zero, List.set_cons_succ, i64_w, i32_w]
                      rfl
                    refine take_ (i := 6) (N := some 137) (v := ?_) (a' := ?_) #[true, true, true, true, true, true, true, false, false] rfl rfl (by kernel_rfl) (fun _ _ _ h => h) (Or.inl ⟨by rfl, ?_⟩) hHeld ?_ ?_
                    rotate_left
                    · rintro w' ⟨s0, s1, s2, s3, s4⟩
                      go_simp
                      with_reducible rfl
                    rotate_left
                    · simp only [Act.put, List.setIfInBounds_toArray, List.set_cons_zero, List.set_cons_succ, i64_w, i32_w]
                      rfl
                    refine take_ (i := 7) (N := some 138) (v := ?_) (a' := ?_) #[true, true, true, true, true, true, true, true, false] rfl rfl (by kernel_rfl) (fun _ _ _ h => h) (Or.inl ⟨by rfl, ?_⟩) hHeld ?_ ?_
                    rotate_left
                    · rintro w' ⟨s0, s1, s2, s3, s4⟩
                      go_simp
                      with_reducible rfl
                    rotate_left
                    · simp only [Act.put, List.setIfInBounds_toArray, List.set_cons_zero, List.set_cons_succ, i64_w, i32_w]
                      rfl
                    refine pure_ (i := 8) (N := some 139) (v := ?_) (a' := ?_) #[true, true, true, true, true, true, true, true, true] rfl rfl (by kernel_rfl) (fun _ _ _ h => h) (Or.inl ⟨by rfl, ?_⟩) ?_ ?_
                    rotate_left
                    · intro w'
                      go_simp
                      with_reducible rfl
                    rotate_left
                    · simp only [Act.put, List.setIfInBounds_toArray, List.set_cons_zero, List.set_cons_succ, i64_w, i32_w]
                      rfl
                    refine done_ (by kernel_rfl) ?_
                    obtain ⟨zA, hzA⟩ : ∃ zA, zA = AA (ya, (k : Int)) := ⟨_, rfl⟩
                    rw [← hzA] at hHeld ⊢
                    have HZa := Aside0.mk hzA
                    clear hzA
                    have u6 := Aside0.mk (show ∀ a, i64in a → (putM f1 ya (.int .i64 1) a).isSome = (decide (BB (a, (k : Int)) ≠ 0) && !(left (a, (k : Int)) && !decide ((a, (k : Int)) = (ya, (k : Int))))) from fun a ha => by
                      unfold putM
                      by_cases e : a = ya
                      · rw [if_pos e, e]; simp [HQ.out.2.1]
                      · rw [if_neg e, f9.out a ha]; simp [e])
                    have e0 := hHeld.2.1
                    by_cases hz0 : zA = 0
                    · have q0 : (zA == 0) = true := by simpa using hz0
                      have p3 : decide (zA = 0) = true := by simpa using hz0
                      go_wp2_with (refine wpList_gput _ intKB rfl _ _ _ 88 rfl 3 Try.underlying88 (X1 + 1) d2 f2 rfl f7.out (by have := HDn.out.2; unfold maxLen; omega) ya HYa.out (.int .i64 1) rfl rfl ?_; intro w9 hgm hgg hsz; have HV2' := Aside0.mk hgm; have HGg := Aside0.mk hgg; clear hgm hgg hsz)
                      have hX := HXs.out
                      have h7 := p2.out
                      have d8 := Aside0.mk (a9.out.same (w1 := w9) (HGg.out.block M a9.out.mlt (fun e => by cases e; omega)) (HGg.out.block r2 a9.out.lt_ (fun e => by cases e; omega)))
                      have HV1' := Aside0.mk (f6.out.grown (fun e => by simp at e) HGg.out)
                      have k6 := Aside0.mk (HBd.out.grown HGg.out HBd.out.size (fun q e => by cases e; omega))
                      have o5 := Aside0.mk (show ∀ a, i64in a → (putM f2 ya (.int .i64 1) a).isSome = (decide (BB (a, (k : Int)) ≠ 0) && !(left (a, (k : Int)) && !decide ((a, (k : Int)) = (ya, (k : Int)))) && decide (AA (a, (k : Int)) = 0)) from fun a ha => by
                        unfold putM
                        by_cases e : a = ya
                        · rw [if_pos e, e]; simp [HQ.out.2.1, ← HZa.out, hz0]
                        · rw [if_neg e, HF2x.out a ha]; simp [e])
                      clear hX h7 q0 p3
                      go_wp2
                      go_roundw
                      case rel =>
                        exact ⟨_, _, _, _, _, _, _, _, _, _, _, _, _, _, _, _, _, _, _, _, _, _, _, _, ⟨_, _, _, _, _, _, d8, HV1', HV2', u6, o5, k6⟩, rfl⟩
                      case measure => rw [d8.out.left_eq, a3.out.left_eq]; exact HQ.out.2.2.2
                    · have q0 : (zA == 0) = false := by simpa using hz0
                      have p3 : decide (zA = 0) = false := by simpa using hz0
                      have o5 := Aside0.mk (show ∀ a, i64in a → (f2 a).isSome = (decide (BB (a, (k : Int)) ≠ 0) && !(left (a, (k : Int)) && !decide ((a, (k : Int)) = (ya, (k : Int)))) && decide (AA (a, (k : Int)) = 0)) from fun a ha => by
                        rw [HF2x.out a ha]
                        by_cases e : a = ya
                        · rw [e, ← HZa.out]; simp [hz0]
                        · simp [e])
                      go_wp2
                      go_roundw
                      case rel => exact ⟨_, _, _, _, _, _, a9, f6, f7, u6, o5, HBd⟩
                      case measure => rw [a9.out.left_eq, a3.out.left_eq]; exact HQ.out.2.2.2
                  · have k0 : (yb != (k : Int)) = true := by simpa using hyk
                    have t6 : decide (yb = (k : Int)) = false := by simpa using hyk
                    have HYk := Aside0.mk hyk
                    clear hyk
                    go_wp2
                    have hbA := below_alloc (Below.refl w7.heap.size w7) (Obj.cells #[Value.int IntKind.i64 ya, Value.int IntKind.i64 yb] 167)
                    have b0 := Aside0.mk (b3.out.same (hbA.block M b3.out.mlt) (hbA.block r2 b3.out.lt_))
                    have j5 := Aside0.mk (g5.out.below hbA)
                    have j3 := Aside0.mk (j2.out.below hbA)
                    have b5 := Aside0.mk (below_then b2.out b2.out.size hbA)
                    have hne : ∀ a : Int, (a, (k : Int)) ≠ (ya, yb) := fun a e => HYk.out (Prod.mk.inj e).2.symm
                    have HNe := Aside0.mk hne
                    clear hne hbA
                    go_roundw
                    case rel =>
                      refine ⟨_, _, _, _, _, _, b0, j5, j3, ⟨fun a ha => ?_⟩, ⟨fun a ha => ?_⟩, b5⟩
                      · rw [f9.out a ha]; simp [HNe.out a]
                      · rw [HF2x.out a ha]; simp [HNe.out a]
                    case measure => rw [b0.out.left_eq, a3.out.left_eq]; exact HQ.out.2.2.2
                · intro o6 f5
                  have hXi : ∀ a, decide (BB (a, (k : Int)) ≠ 0) = true ↔ Into es Hp a (k : Int) (fr : Int) := fun a => by
                    rw [decide_eq_true_eq, HBB.out.1]
                    show cntE es (fun x => decide (Hp x = (fr : Int))) a (k : Int) ≠ 0 ↔ _
                    rw [cntE_pos]
                    unfold Into
                    simp only [decide_eq_true_eq]
                  have hYi : ∀ a, decide (AA (a, (k : Int)) = 0) = true ↔ ¬ Into es Hp a (k : Int) (old : Int) := fun a => by
                    rw [decide_eq_true_eq, HBB.out.2]
                    show cntE es (fun x => decide (Hp x = (old : Int))) a (k : Int) = 0 ↔ _
                    have h := @cntE_pos es (fun x => decide (Hp x = (old : Int))) a (k : Int)
                    unfold Into
                    simp only [decide_eq_true_eq] at h
                    rw [← h, Classical.not_not]
                  have hNd : ∀ a, decide (BB (a, (k : Int)) ≠ 0) = true → Nd n a := fun a ha => by
                    obtain ⟨e, he, h2, _⟩ := (hXi a).1 ha
                    rw [← h2]
                    exact (HEs.out e he).1
                  have k3 : ∀ a, i64in a → left (a, (k : Int)) = false := fun a ha => f5 _ _ ⟨ha, HKi.out⟩
                  have v8 : ∀ a, i64in a → (f1 a).isSome = decide (BB (a, (k : Int)) ≠ 0) := fun a ha => by rw [f9.out a ha, k3 a ha]; simp
                  have s8 : ∀ a, i64in a → (f2 a).isSome = (decide (BB (a, (k : Int)) ≠ 0) && decide (AA (a, (k : Int)) = 0)) := fun a ha => by rw [HF2x.out a ha, k3 a ha]; simp
                  obtain ⟨f8, f4⟩ : ∃ f8 : Nat → Cl, f8 = fun q => if q = X1 then .far 200 else if q = X1 + 1 then .far 201 else cl' q := ⟨_, rfl⟩
                  have hXw := HXs.out.1
                  have hcA : f8 X1 = .far 200 := by rw [f4]; show (if X1 = X1 then _ else _) = _; rw [if_pos rfl]
                  have hcB : f8 (X1 + 1) = .far 201 := by rw [f4]; show (if X1 + 1 = X1 then _ else if X1 + 1 = X1 + 1 then _ else _) = _; rw [if_neg (by omega), if_pos rfl]
                  have hcO : ∀ q, q < wb.heap.size → f8 q = cl' q := fun q hq => by rw [f4]; show (if q = X1 then _ else if q = X1 + 1 then _ else _) = _; rw [if_neg (by omega), if_neg (by omega)]
                  have HS6 := Aside0.mk (HS.out.stay (Kept.of_below a1.out _) fun q hq _ => hcO q hq)
                  have d6 := Aside0.mk (HK.out.trans (Fr.same (D := fun _ => False) (Kept.of_below a1.out _) hcO) fun q hq => hq.elim)
                  have HBw := Aside0.mk (below_then HBb.out HBb.out.size a1.out)
                  have HCc := Aside0.mk (And.intro hcA hcB)
                  have HFf := Aside0.mk (And.intro v8 s8)
                  have HXY := Aside0.mk (And.intro hXi (And.intro hYi hNd))
                  clear f4 hXw hcA hcB hcO v8 s8 k3 f5 hXi hYi hNd o6
                  clear a3 f9 HF2x a1 HGM HMs HfB HfA HBB HBb HK
                  obtain ⟨XA, hXA⟩ : ∃ XA : Int → Bool, XA = fun a => decide (BB (a, (k : Int)) ≠ 0) := ⟨_, rfl⟩
                  obtain ⟨XB, hXB⟩ : ∃ XB : Int → Bool, XB = fun a => decide (BB (a, (k : Int)) ≠ 0) && decide (AA (a, (k : Int)) = 0) := ⟨_, rfl⟩
                  have HXA := Aside0.mk (And.intro hXA hXB)
                  have HFa := Aside0.mk (show ∀ a, i64in a → (f1 a).isSome = XA a from fun a ha => by rw [hXA]; exact HFf.out.1 a ha)
                  have HFb := Aside0.mk (show ∀ a, i64in a → (f2 a).isSome = XB a from fun a ha => by rw [hXB]; exact HFf.out.2 a ha)
                  have HNa := Aside0.mk (show ∀ a, XA a = true → Nd n a from fun a ha => HXY.out.2.2 a (by rw [hXA] at ha; exact ha))
                  have HNb := Aside0.mk (show ∀ a, XB a = true → Nd n a from fun a ha => HXY.out.2.2 a (by rw [hXB] at ha; exact (Bool.and_eq_true _ _ ▸ ha).1))
                  clear hXA hXB HFf
                  go_wp2_with (go_at_call 148
                               refine (split_any (X := XA) w0 wr HS6.out HD.out HPw.out HW'.out HWt'.out d7.out HCc.out.1 HFa.out HNa.out hn0 hn HBw.out).mono ?_
                               rintro e w5 ⟨rfl, s5, z8, p5, z7, u7, s9, u8, w4, j8, o8, r6, u1, u4, l4, r4⟩
                               have l7 := l4.blk (k := X1 + 1) d4.out.lt_ HCc.out.2 id
                               have u5 := Aside0.mk (d4.out.same l7.1)
                               have u2 := Aside0.mk l7.2
                               have HS5 := Aside0.mk u7
                               have p9 := Aside0.mk s9
                               have y5 := Aside0.mk u8
                               have p7 := Aside0.mk w4
                               have n6 := Aside0.mk j8
                               have a8 := Aside0.mk r4
                               have o9 := Aside0.mk (d6.out.trans l4 fun q hq => hq.elim)
                               have x1 := Aside0.mk (HSm.out.trans u4)
                               have o2 := Aside0.mk (And.intro r6 (And.intro u1 o8))
                               clear l7 u7 s9 u8 w4 j8 r4 l4 u4 r6 u1 o8 d7 d4 HS6 d6 HBw HCc HFa HNa)
                  go_wp2_with (go_at_call 148
                               refine (split_any (X := XB) w0 _ HS5.out p9.out y5.out p7.out n6.out u5.out u2.out HFb.out HNb.out hn0 hn a8.out).mono ?_
                               rintro e w6 ⟨rfl, s6, cl6', p6, z2, s7, x0, t9, r0, o1, r1, u3, r9, u0, v4, t4⟩
                               have HS6 := Aside0.mk s7
                               have z3 := Aside0.mk x0
                               have x9 := Aside0.mk t9
                               have y6 := Aside0.mk r0
                               have x4 := Aside0.mk o1
                               have a1 := Aside0.mk t4
                               have z0 := Aside0.mk (o9.out.trans v4 fun q hq => hq.elim)
                               have y8 := Aside0.mk (x1.out.trans u0)
                               have k5 := Aside0.mk (And.intro u3 (And.intro r9 r1))
                               clear s7 x0 t9 r0 o1 t4 v4 u0 u3 r9 r1 u5 u2 HS5 p9 p7 n6 a8 o9 x1 HFb HNb)
                  have y2 := Aside0.mk (show RefJ n es (gi p.block) H0 (gi p6.block) Hp (fr : Int) (old : Int) (k + 1) from HRj.out.label (B1 := gi p5.block) (fun x y hx hy => by
                    rw [o2.out.2.2 x y hx hy, HXA.out.1]
                    exact and_congr_right fun _ => iff_congr (HXY.out.1 x) (HXY.out.1 y)) fun x y hx hy => by
                    rw [k5.out.2.2 x y hx hy, HXA.out.2]
                    refine and_congr_right fun _ => iff_congr ?_ ?_
                    · show (decide (BB (x, (k : Int)) ≠ 0) && decide (AA (x, (k : Int)) = 0)) = true ↔ _
                      rw [Bool.and_eq_true]; exact and_congr (HXY.out.1 x) (HXY.out.2.1 x)
                    · show (decide (BB (y, (k : Int)) ≠ 0) && decide (AA (y, (k : Int)) = 0)) = true ↔ _
                      rw [Bool.and_eq_true]; exact and_congr (HXY.out.1 y) (HXY.out.2.1 y))
                  go_roundw
                  case rel =>
                    exact ⟨k + 1, s6, cl6', p6, z2, by omega, by go_num, HS6, z3, x9, y6, x4, y8, y2, ⟨fun x hx => by rw [k5.out.1 x hx, o2.out.1 x hx, HPh.out.1 x hx], by rw [k5.out.2.1, o2.out.2.1, HPh.out.2]⟩, z0, a1⟩
                  case measure => simp [intOf]; omega
            · have ek : k = nl := by omega
              subst ek
              go_wp2
              go_end0
              obtain ⟨m1, m2, m3, m4, m5, m6, m7, m8, m9, p8⟩ := HSm.out
              refine ⟨rfl, s', cl', p', wt', HS.out, HD.out, HPw.out, HW'.out, HWt'.out, ⟨by rw [m2]; exact HSi.out.len, fun i hi => by rw [m3]; exact HSi.out.ins i hi⟩, ?_, by rw [← HHp.out]; exact HRj.out, fun x hx => by rw [← HHp.out]; exact HPh.out.1 x hx, HPh.out.2, HK.out, HBb.out⟩
              rw [← HHp.out]
              exact ⟨by rw [m7]; exact HSc.out.ln, fun h hh => by rw [m5, m7]; exact HSc.out.fC h hh, fun i hi q hq => by rw [m8]; exact HSc.out.fc i hi q hq, fun i hi => by rw [m9]; exact HSc.out.cc i hi⟩
end Go.Proofs.Ytmcbkmfpmcbdpaa.H
set_option linter.unusedVariables false
set_option linter.unusedSimpArgs false
set_option linter.unusedSectionVars false
namespace Go.Proofs.Ytmcbkmfpmcbdpaa.H
open Go.RowKit Go.Proofs.Ytmcbkmfpmcbdpaa.Pr Go.Proofs.YtmcbkmfpmcbdpaaW.PrintWords Go.Proofs.Ytmcbkmfpmcbdpaa.Sem Go.Proofs.YtmcbkmfpmcbdpaaW.PrintLast
set_option maxHeartbeats 8000000 in
set_option maxRecDepth 100000 in
theorem run_any {T n : Nat} {v2 : Value} {s : Sg} {p : PSt} {wt : Int → Bool} {cls : Nat → Cl} {es : List Ed} {A1 : Option Addr} {nl c1 : Nat} (w0 w : World) (hR : RunS w0.heap.size T n es (.slice A1 nl c1) v2 w cls s p wt) (hn0 : 0 < n) (hn : n ≤ 2048) (hel : es.length ≤ 1000000) (hes : ∀ e ∈ es, Nd n e.f0 ∧ (0 ≤ e.f1 ∧ e.f1 < (nl : Int)) ∧ Nd n e.f2) (hnl : nl ≤ 64) (hB : Below w0.heap.size w0 w) :
  Calls Try.prog 117 #[.pointer (some ⟨T, 0, none⟩)] w fun e w' => e = .returned (.tuple #[]) ∧ ∃ s' cls' p' wt', RunS w0.heap.size T n es (.slice A1 nl c1) v2 w' cls' s' p' wt' ∧ (∀ x, wt' x = false) ∧ Below w0.heap.size w0 w' := by
 have HR := Aside0.mk hR
 have HB := Aside0.mk hB
 have HEs := Aside0.mk hes
 clear hR hB hes
 go_enter Try.func117, Try.ntmps117
 go_wp2
 go_loopw [] (fun wr => ∃ (s' : Sg) (cls' : Nat → Cl) (p' : PSt) (wt' : Int → Bool), Aside0 (RunS w0.heap.size T n es (.slice A1 nl c1) v2 wr cls' s' p' wt') ∧ Aside0 (Below w0.heap.size w0 wr)) (fun wr => n - slLen (wr.cell? ⟨T, 7, none⟩))
 case atStart => exact ⟨s, cls, p, wt, HR, HB⟩
 case round =>
  clear HR HB
  obtain ⟨s', cls', p', wt', HR, HB⟩ := hrel
  have t9 := HR.out.sp.cell 9 _ (by rw [HR.out.std.tc]; rfl)
  have hlen := ((HR.out.sp .mw).2.1).len Try.underlying88 3
  have b9 := len7 HR.out.sp HR.out.std HR.out.pw hn0
  have e1 := Aside0.mk b9
  clear b9
  by_cases h0 : s'.cW = 0
  ·have hw := (HR.out.some_ hn).1 h0
   have HW := Aside0.mk hw
   have hq : decide ((0 : Int) < (s'.cW : Int)) = false := by simp; omega
   have a6 : ¬ (0 : Int) < (s'.cW : Int) := by omega
   have a4 : ¬ 0 < s'.cW := by omega
   clear hw
   rw [h0] at hlen hq a6 a4
   go_wp2
   go_end0
   exact ⟨rfl, s', cls', p', wt', HR.out, HW.out, HB.out⟩
  ·have hex : ∃ x, wt' x = true := by
    refine Classical.byContradiction fun hh => h0 ((HR.out.some_ hn).2 fun x => ?_)
    cases hx : wt' x with
    | false => rfl
    | true => exact absurd ⟨x, hx⟩ hh
   have HX := Aside0.mk hex
   obtain ⟨cw, hcw⟩ : ∃ cw, cw = s'.cW := ⟨_, rfl⟩
   rw [← hcw] at hlen h0
   have hq : decide ((0 : Int) < (cw : Int)) = true := by simp; omega
   have a6 : (0 : Int) < (cw : Int) := by omega
   have a4 : 0 < cw := by omega
   clear hex hcw
   go_wp2_with fail
   clear hlen t9 hq a6 a4 h0
   refine (take_any w0 _ HR.out.sp HR.out.std HR.out.pw HR.out.stdW HR.out.wt_ HX.out hn HB.out).mono ?_
   rintro e w1 ⟨old, a, rfl, hol, ha, h2, s1, e9, e8, d0, b0, d3, a3, d9, d8, b8⟩
   obtain ⟨b, g1, g2, g3, g4, g5, g6, g7⟩ := take_ref HR.out.pw hol ha h2 HR.out.ref
   obtain ⟨m1, m2, m3, m4, m5, m6, m7, m8, m9, d7⟩ := d9
   have b4 : StdI n es s1 := ⟨by rw [m2]; exact HR.out.ins.len, fun i hi => by rw [m3]; exact HR.out.ins.ins i hi⟩
   have a9 := HR.out.cnt.congr (s' := s1) m5 m7 m8 m9 fun _ _ => rfl
   have HS1 := Aside0.mk d0
   have d6 := Aside0.mk b0
   have e6 := Aside0.mk d3
   have d4 := Aside0.mk a3
   have e4 := Aside0.mk b8
   have e2 := Aside0.mk g1
   have HG := Aside0.mk (And.intro g2 (And.intro g3 (And.intro g4 (And.intro g5 (And.intro g6 g7)))))
   have e7 := Aside0.mk b4
   have e3 := Aside0.mk a9
   have HOl := Aside0.mk hol
   clear hol ha h2 d0 b0 d3 a3 d8 b8 g1 g2 g3 g4 g5 g6 g7 m1 m2 m3 m4 m5 m6 m7 m8 m9 d7 b4 a9
   go_wp2_with fail
   refine (refine_any w0 _ HS1.out d6.out e2.out e7.out hn0 hn hel (fun e he => ⟨(HEs.out e he).1, ⟨(HEs.out e he).2.1.1, by have := (HEs.out e he).2.1.2; omega⟩, (HEs.out e he).2.2⟩) HG.out.1 HG.out.2.1 e3.out HOl.out HG.out.2.2.1 HG.out.2.2.2.1 HG.out.2.2.2.2.1 HG.out.2.2.2.2.2 rfl hnl e6.out d4.out e4.out).mono ?_
   rintro e w2 ⟨rfl, s2, b6, p2, b5, a1, a7, a0, d2, a5, b3, b7, b2, a8, b1, e0, d1⟩
   have a2 : p2.heaps.length = p'.heaps.length + 1 := by rw [b1]; simp [takeP]
   have hRun : RunS w0.heap.size T n es (.slice A1 nl c1) v2 w2 b6 s2 p2 b5 := by
    refine ⟨a1, a7, a0, d2, a5, b3, ?_, ?_⟩
    ·rw [a2]
     exact b7.congr rfl rfl rfl rfl fun e he => a8 _ (HEs.out e he).2.2
    ·exact (b2.end_ fun e he => ⟨(HEs.out e he).1, (HEs.out e he).2.1, (HEs.out e he).2.2⟩).congr a8 fun e he => (HEs.out e he).2.2
   have HRun := Aside0.mk hRun
   have d5 := Aside0.mk d1
   have HL := Aside0.mk (And.intro a2 (And.intro a0.nh_le a0.nb_le))
   have e5 := Aside0.mk (len7 a1 a7 a0 hn0)
   clear a1 a7 a0 d2 a5 b3 b7 b2 a8 b1 e0 d1 a2 hRun
   go_wp2
   go_roundw
   case rel => exact ⟨s2, b6, p2, b5, HRun, d5⟩
   case measure =>
    rw [e1.out, e5.out, HL.out.1]
    have := HL.out
    omega
end Go.Proofs.Ytmcbkmfpmcbdpaa.H
set_option linter.unusedVariables false
set_option linter.unusedSimpArgs false
set_option linter.unusedSectionVars false
namespace Go.Proofs.Ytmcbkmfpmcbdpaa.H
open Go.RowKit Go.Proofs.Ytmcbkmfpmcbdpaa.Pr Go.Proofs.YtmcbkmfpmcbdpaaW.PrintWords Go.Proofs.Ytmcbkmfpmcbdpaa.Sem Go.Proofs.YtmcbkmfpmcbdpaaW.PrintLast
structure DoneS (base T n : Nat) (es : List Ed) (w : World) (s : Sg) (p : PSt) : Prop where
  t4 : w.cell? ⟨T, 4, none⟩ = some s.vB
  t10 : w.cell? ⟨T, 10, none⟩ = some (.int .i64 ((p.blocks.length : Int) - 1))
  blk : Kd.R (Kd.int .i64) 3 w base (fun _ => True) s.vB p.block
  len : p.block.length = n
  in_ : ∀ x ∈ p.block, i64in x
  num : PL.numK p.block = refL n es
  cnt : (p.blocks.length : Int) = ((PL.fstK (classL n es)).length : Int)
theorem RunS.done {base T n : Nat} {es : List Ed} {v1 v2 : Value} {w : World} {cls : Nat → Cl} {s : Sg} {p : PSt} {wt : Int → Bool} (h : RunS base T n es v1 v2 w cls s p wt) (hw : ∀ x, wt x = false) (hes : ∀ e ∈ es, Nd n e.f0 ∧ Nd n e.f2) (hn : n ≤ 2048) : DoneS base T n es w s p := by
 have h1 := ref_end h.pw h.ref (h.none_ hw) hes
 have hnb := h.pw.nb_le
 refine ⟨h.sp.cell 4 _ (by rw [h.std.tc]; rfl), h.sp.cell 10 _ (by rw [h.std.tc]; rfl), ?_, h.pw.bl, fun x hx => ?_, h1.1, h1.2⟩
 ·have h2 : IR w base cls .blk s.vB s.block := h.sp .blk
  rw [h.std.block] at h2
  exact Kd.R_mono h2 fun _ _ => trivial
 ·obtain ⟨i, hi, rfl⟩ := List.getElem_of_mem hx
  have h2 := h.pw.br (i : Int) (nd_iff.2 (by rw [← h.pw.bl]; exact hi))
  unfold gi at h2
  simp [List.getD_eq_getElem?_getD, List.getElem?_eq_getElem hi] at h2
  unfold i64in
  have := h2.1
  have := h2.2
  omega
theorem DoneS.below {base T n : Nat} {es : List Ed} {w w1 : World} {s : Sg} {p : PSt} (h : DoneS base T n es w s p) (hb : Below w.heap.size w w1) : DoneS base T n es w1 s p := ⟨later hb h.t4, later hb h.t10, Kd.R_below h.blk hb, h.len, h.in_, h.num, h.cnt⟩
set_option maxHeartbeats 8000000 in
theorem done_yes (n : Nat) (ls : List ByteArray) (es : List Ed) (A1 A2 : Option Addr) (c1 c2 : Nat) (w : World) (hr1 : Kd.C Kd.string w A1 ls.length ls) (hr2 : Kd.C k80 w A2 es.length es) (hm : mayR n ls es = true) :
  Calls Try.prog 68 #[.agg #[.int .i64 n, .slice A1 ls.length c1, .slice A2 es.length c2]] w fun e w' => ∃ T s p, e = .returned (.tuple #[.pointer (some ⟨T, 0, none⟩), .int .i64 0]) ∧ DoneS w.heap.size T n es w' s p ∧ Below w.heap.size w w' := by
 have HB := Aside0.mk (Below.refl w.heap.size w)
 have HC : ∀ W, Below w.heap.size w W → Calls Try.prog 72 #[.agg #[.int .i64 n, .slice A1 ls.length c1, .slice A2 es.length c2]] W fun e w' => e = .returned (.int .i64 0) ∧ Below W.heap.size W w' := fun W hW =>
  check_yes n ls es A1 A2 c1 c2 W (Kd.C_below hr1 hW) (Kd.C_below hr2 hW) (by rw [may_same]; exact hm)
 have HC' := Lib.hid HC
 have HR1 := Aside0.mk hr1
 have HR2 := Aside0.mk hr2
 have HM := Aside0.mk hm
 have hn := n_le hm
 have hn0 : 0 < n := by omega
 have hn1 : n ≤ 2048 := by omega
 have hel := es_le hm
 have hll := ls_le hm
 have HEs := Aside0.mk (es_nd hm)
 clear HC hr1 hr2 hm hn
 go_enter Try.func68, Try.ntmps68
 go_wp2_with fail
 refine (HC'.out _ (below_alloc HB.out _)).mono ?_
 rintro e w1 ⟨rfl, hB⟩
 have hX : BoxL w1 w.heap.size n (.slice A1 ls.length c1) (.slice A2 es.length c2) := blk_below (blk_new w _) hB
 have HB1 := Aside0.mk (below_then (below_alloc HB.out _) (by simp) hB)
 have b0 := hX.c0
 have b1 := hX.c1
 have b2 := hX.c2
 clear hB hX HC'
 go_wp2_with fail
 clear b0 b1 b2
 refine (begin_any n ls es A1 A2 c1 c2 w _ (Kd.C_below HR1.out HB1.out) (Kd.C_below HR2.out HB1.out) HM.out HB1.out).mono ?_
 rintro e w2 ⟨T, s, cls, p, wt, rfl, hR, hB2⟩
 have HR := Aside0.mk hR
 have HB2 := Aside0.mk hB2
 clear hR hB2
 go_wp2_with fail
 refine (run_any w _ HR.out hn0 hn1 hel HEs.out hll HB2.out).mono ?_
 rintro e w3 ⟨rfl, s3, cls3, p3, wt3, hR3, hw3, hB3⟩
 have HD := Aside0.mk (hR3.done hw3 (fun e he => ⟨(HEs.out e he).1, (HEs.out e he).2.2⟩) hn1)
 have HB3 := Aside0.mk hB3
 clear hR3 hw3 hB3 HR HB2
 go_wp2
 go_ret2
 exact ⟨T, s3, p3, rfl, HD.out, HB3.out⟩
set_option maxHeartbeats 8000000 in
theorem done_no (n : Int) (ls : List ByteArray) (es : List Ed) (A1 A2 : Option Addr) (c1 c2 : Nat) (w : World) (hr1 : Kd.C Kd.string w A1 ls.length ls) (hr2 : Kd.C k80 w A2 es.length es) (hm : mayR n ls es = false) :
  Calls Try.prog 68 #[.agg #[.int .i64 n, .slice A1 ls.length c1, .slice A2 es.length c2]] w fun e w' => e = .returned (.tuple #[.pointer none, .int .i64 1]) ∧ Below w.heap.size w w' := by
 have HB := Aside0.mk (Below.refl w.heap.size w)
 have HC : ∀ W, Below w.heap.size w W → Calls Try.prog 72 #[.agg #[.int .i64 n, .slice A1 ls.length c1, .slice A2 es.length c2]] W fun e w' => e = .returned (.int .i64 1) ∧ Below W.heap.size W w' := fun W hW =>
  check_no n ls es A1 A2 c1 c2 W (Kd.C_below hr1 hW) (Kd.C_below hr2 hW) (by rw [may_same]; exact hm)
 have HC' := Lib.hid HC
 clear HC hr1 hr2 hm
 go_enter Try.func68, Try.ntmps68
 go_wp2_with fail
 refine (HC'.out _ (below_alloc HB.out _)).mono ?_
 rintro e w1 ⟨rfl, hB⟩
 have HB1 := Aside0.mk (below_then (below_alloc HB.out _) (by simp) hB)
 clear hB
 go_wp2
 go_ret2
 exact ⟨rfl, HB1.out⟩
set_option maxHeartbeats 8000000 in
theorem ref_any (n : Int) (ls : List ByteArray) (es : List Ed) (A1 A2 : Option Addr) (c1 c2 : Nat) (w : World) (hr1 : Kd.C Kd.string w A1 ls.length ls) (hr2 : Kd.C k80 w A2 es.length es) :
  Calls Try.prog 17 #[.agg #[.int .i64 n, .slice A1 ls.length c1, .slice A2 es.length c2]] w fun e w' => ∃ v, e = .returned (.tuple #[v, .int .i64 (errB (mayR n ls es))]) ∧ Kd.R (Kd.int .i64) 3 w' w.heap.size (fun _ => True) v (if mayR n ls es then refL n.toNat es else []) ∧ Below w.heap.size w w' := by
 have HB := Aside0.mk (Below.refl w.heap.size w)
 cases hm : mayR n ls es with
 | false =>
  have HC : ∀ W, Below w.heap.size w W → Calls Try.prog 68 #[.agg #[.int .i64 n, .slice A1 ls.length c1, .slice A2 es.length c2]] W fun e w' => e = .returned (.tuple #[.pointer none, .int .i64 1]) ∧ Below W.heap.size W w' := fun W hW =>
   done_no n ls es A1 A2 c1 c2 W (Kd.C_below hr1 hW) (Kd.C_below hr2 hW) hm
  have HC' := Lib.hid HC
  clear HC hr1 hr2 hm
  go_enter Try.func17, Try.ntmps17
  go_wp2_with fail
  refine (HC'.out _ (by first | exact HB.out | exact below_alloc HB.out _)).mono ?_
  rintro e w1 ⟨rfl, hB⟩
  have HB1 := Aside0.mk (show Below w.heap.size w w1 from by first | exact hB | exact below_then (below_alloc HB.out _) (by simp) hB)
  clear hB
  go_wp2
  go_ret2
  exact ⟨_, rfl, Kd.R_nil _ _ _ _ _, HB1.out⟩
 | true =>
  obtain ⟨m, rfl⟩ := Int.eq_ofNat_of_zero_le (show 0 ≤ n by have := n_le hm; omega)
  have HC : ∀ W, Below w.heap.size w W → Calls Try.prog 68 #[.agg #[.int .i64 m, .slice A1 ls.length c1, .slice A2 es.length c2]] W fun e w' => ∃ T s p, e = .returned (.tuple #[.pointer (some ⟨T, 0, none⟩), .int .i64 0]) ∧ DoneS W.heap.size T m es w' s p ∧ Below W.heap.size W w' := fun W hW =>
   done_yes m ls es A1 A2 c1 c2 W (Kd.C_below hr1 hW) (Kd.C_below hr2 hW) hm
  have HC' := Lib.hid HC
  have hmn := n_le hm
  clear HC hr1 hr2 hm
  go_enter Try.func17, Try.ntmps17
  go_wp2_with fail
  refine (HC'.out _ (by first | exact HB.out | exact below_alloc HB.out _)).mono ?_
  rintro e w1 ⟨T, s, p, rfl, hD, hB⟩
  have HB1 := Aside0.mk (show Below w.heap.size w w1 from by first | exact hB | exact below_then (below_alloc HB.out _) (by simp) hB)
  have t4 := hD.t4
  obtain ⟨A, c, hv⟩ := Kd.R_slice hD.blk
  have hR := hD.blk
  rw [hv] at t4 hR
  have HR := Aside0.mk (Kd.R_reads' hR).2.2
  have HI := Aside0.mk hD.in_
  have HN := Aside0.mk hD.num
  have HL := Aside0.mk hD.len
  clear hB hD hv hR HC'
  go_wp2_with fail
  refine (plain_any p.block A c _ HR.out HI.out (by rw [HL.out]; omega)).mono ?_
  rintro e w2 ⟨v, rfl, hR2, hB2⟩
  have HB2 := Aside0.mk (below_then HB1.out HB1.out.size hB2)
  have HR2 := Aside0.mk (Kd.R_lower hR2 HB1.out.size)
  clear hR2 hB2 t4
  go_wp2
  go_ret2
  refine ⟨_, rfl, ?_, HB2.out⟩
  have h := HR2.out
  rw [HN.out] at h
  exact Kd.R_mono h fun _ _ => trivial
set_option maxHeartbeats 8000000 in
theorem cuts_any (n : Int) (ls : List ByteArray) (es : List Ed) (A1 A2 : Option Addr) (c1 c2 : Nat) (w : World) (hr1 : Kd.C Kd.string w A1 ls.length ls) (hr2 : Kd.C k80 w A2 es.length es) :
  Calls Try.prog 67 #[.agg #[.int .i64 n, .slice A1 ls.length c1, .slice A2 es.length c2]] w fun e w' => e = .returned (.tuple #[.int .i64 (if mayR n ls es then ((PL.fstK (classL n.toNat es)).length : Int) - 1 else 0), .int .i64 (errB (mayR n ls es))]) ∧ Below w.heap.size w w' := by
 have HB := Aside0.mk (Below.refl w.heap.size w)
 cases hm : mayR n ls es with
 | false =>
  have HC : ∀ W, Below w.heap.size w W → Calls Try.prog 68 #[.agg #[.int .i64 n, .slice A1 ls.length c1, .slice A2 es.length c2]] W fun e w' => e = .returned (.tuple #[.pointer none, .int .i64 1]) ∧ Below W.heap.size W w' := fun W hW =>
   done_no n ls es A1 A2 c1 c2 W (Kd.C_below hr1 hW) (Kd.C_below hr2 hW) hm
  have HC' := Lib.hid HC
  clear HC hr1 hr2 hm
  go_enter Try.func67, Try.ntmps67
  go_wp2_with fail
  refine (HC'.out _ (by first | exact HB.out | exact below_alloc HB.out _)).mono ?_
  rintro e w1 ⟨rfl, hB⟩
  have HB1 := Aside0.mk (show Below w.heap.size w w1 from by first | exact hB | exact below_then (below_alloc HB.out _) (by simp) hB)
  clear hB
  go_wp2
  go_ret2
  exact ⟨rfl, HB1.out⟩
 | true =>
  obtain ⟨m, rfl⟩ := Int.eq_ofNat_of_zero_le (show 0 ≤ n by have := n_le hm; omega)
  have HC : ∀ W, Below w.heap.size w W → Calls Try.prog 68 #[.agg #[.int .i64 m, .slice A1 ls.length c1, .slice A2 es.length c2]] W fun e w' => ∃ T s p, e = .returned (.tuple #[.pointer (some ⟨T, 0, none⟩), .int .i64 0]) ∧ DoneS W.heap.size T m es w' s p ∧ Below W.heap.size W w' := fun W hW =>
   done_yes m ls es A1 A2 c1 c2 W (Kd.C_below hr1 hW) (Kd.C_below hr2 hW) hm
  have HC' := Lib.hid HC
  clear HC hr1 hr2 hm
  go_enter Try.func67, Try.ntmps67
  go_wp2_with fail
  refine (HC'.out _ (by first | exact HB.out | exact below_alloc HB.out _)).mono ?_
  rintro e w1 ⟨T, s, p, rfl, hD, hB⟩
  have HB1 := Aside0.mk (show Below w.heap.size w w1 from by first | exact hB | exact below_then (below_alloc HB.out _) (by simp) hB)
  have t10 := hD.t10
  rw [hD.cnt] at t10
  clear hB hD HC'
  go_wp2
  go_ret2
  exact ⟨rfl, HB1.out⟩
end Go.Proofs.Ytmcbkmfpmcbdpaa.H
set_option linter.unusedVariables false
set_option linter.unusedSimpArgs false
namespace Go.Proofs.Ytmcbkmfpmcbdpaa.Pr
open Go.RowKit Go.Proofs.YtmcbkmfpmcbdpaaW.PrintWords Go.Proofs.YtmcbkmfpmcbdpaaW.PrintLast Go.Proofs.YtmcbkmfpmcbdpaaW.PrintMore
def Prc.f (a0_0 : Int) (l0_1 : List ByteArray) (l0_2 : List S80) : Option (List Int × Int) := some (if H.mayR a0_0 l0_1 l0_2 then (refL a0_0.toNat l0_2, 0) else ([], 1))
theorem Prc.calls (a0_0 : Int) (A0_1 : Option Addr) (c0_1 : Nat) (l0_1 : List ByteArray) (A0_2 : Option Addr) (c0_2 : Nat) (l0_2 : List S80) (r1 : List Int) (r2 : Int) (w : World) (hr0_1 : Kd.C Kd.string w A0_1 l0_1.length l0_1) (hc0_1 : l0_1.length ≤ c0_1) (hr0_2 : Kd.C k80 w A0_2 l0_2.length l0_2) (hc0_2 : l0_2.length ≤ c0_2) (h : Prc.f a0_0 l0_1 l0_2 = some (r1, r2)) :
  Calls Try.prog 17 #[.agg #[.int .i64 a0_0, .slice A0_1 l0_1.length c0_1, .slice A0_2 l0_2.length c0_2]] w fun e w' => ∃ v0_ : Value, e = .returned (.tuple #[v0_, .int .i64 r2]) ∧ Kd.R (Kd.int .i64) 3 w' w.heap.size (fun _ => True) v0_ r1 ∧ Below w.heap.size w w' := by
 have h0 := Option.some.inj h
 refine (H.ref_any a0_0 l0_1 l0_2 A0_1 A0_2 c0_1 c0_2 w hr0_1 hr0_2).mono fun e w' hp => ?_
 cases hm : H.mayR a0_0 l0_1 l0_2 with
 | true =>
  rw [hm] at hp h0
  obtain ⟨rfl, rfl⟩ := Prod.mk.inj h0
  exact hp
 | false =>
  rw [hm] at hp h0
  obtain ⟨rfl, rfl⟩ := Prod.mk.inj h0
  exact hp
def Prb.f (a0_0 : Int) (l0_1 : List ByteArray) (l0_2 : List S80) : Option (Int × Int) := some (if H.mayR a0_0 l0_1 l0_2 then (((PL.fstK (classL a0_0.toNat l0_2)).length : Int) - 1, 0) else (0, 1))
theorem Prb.calls (a0_0 : Int) (A0_1 : Option Addr) (c0_1 : Nat) (l0_1 : List ByteArray) (A0_2 : Option Addr) (c0_2 : Nat) (l0_2 : List S80) (r1 : Int) (r2 : Int) (w : World) (hr0_1 : Kd.C Kd.string w A0_1 l0_1.length l0_1) (hc0_1 : l0_1.length ≤ c0_1) (hr0_2 : Kd.C k80 w A0_2 l0_2.length l0_2) (hc0_2 : l0_2.length ≤ c0_2) (h : Prb.f a0_0 l0_1 l0_2 = some (r1, r2)) :
  Calls Try.prog 67 #[.agg #[.int .i64 a0_0, .slice A0_1 l0_1.length c0_1, .slice A0_2 l0_2.length c0_2]] w fun e w' => e = .returned (.tuple #[.int .i64 r1, .int .i64 r2]) ∧ Below w.heap.size w w' := by
 have h0 := Option.some.inj h
 refine (H.cuts_any a0_0 l0_1 l0_2 A0_1 A0_2 c0_1 c0_2 w hr0_1 hr0_2).mono fun e w' hp => ?_
 cases hm : H.mayR a0_0 l0_1 l0_2 with
 | true =>
  rw [hm] at hp h0
  obtain ⟨rfl, rfl⟩ := Prod.mk.inj h0
  exact hp
 | false =>
  rw [hm] at hp h0
  obtain ⟨rfl, rfl⟩ := Prod.mk.inj h0
  exact hp
end Go.Proofs.Ytmcbkmfpmcbdpaa.Pr
namespace Go.Proofs.Ytmcbkmfpmcbdpaa.Pr
open Go.RowKit Go.Proofs.YtmcbkmfpmcbdpaaW.PrintWords Go.Proofs.YtmcbkmfpmcbdpaaW.PrintLast Go.Proofs.YtmcbkmfpmcbdpaaW.PrintMore
attribute [local go_sem] max2_int min2_int max_two min_two max_three min_three max_four min_four
set_option linter.unusedVariables false
set_option linter.unusedSimpArgs false
def Pra.f (a0_0 : Int) (l0_1 : List ByteArray) (l0_2 : List (S80)) (a1 : Int) (a2 : Int) : Option (Bool) := (Prc.f a0_0 l0_1 l0_2).bind fun bt102 => (if bt102.2 = 0 then (if (mn a1 a2) ≥ 0 then (if (mx a1 a2) < (bt102.1.length : Int) then (if 0 ≤ a1 then (if a1 < (bt102.1.length : Int) then (if 0 ≤ a2 then (if a2 < (bt102.1.length : Int) then (some ((rd bt102.1 a1) == (rd bt102.1 a2))) else (none)) else (none)) else (none)) else (none)) else (some false)) else (some false)) else (some false))
set_option maxHeartbeats 8000000 in
set_option maxRecDepth 100000 in
theorem Pra.calls (a0_0 : Int) (A0_1 : Option Addr) (c0_1 : Nat) (l0_1 : List ByteArray) (A0_2 : Option Addr) (c0_2 : Nat) (l0_2 : List (S80)) (a1 : Int) (a2 : Int) (r : Bool) (w : World) (hr0_1 : Kd.C Kd.string w A0_1 l0_1.length l0_1) (hc0_1 : l0_1.length ≤ c0_1) (hr0_2 : Kd.C k80 w A0_2 l0_2.length l0_2) (hc0_2 : l0_2.length ≤ c0_2) (h : Pra.f a0_0 l0_1 l0_2 a1 a2 = some r) :
  Calls Try.prog 19 #[.agg #[.int .i64 a0_0, .slice A0_1 l0_1.length c0_1, .slice A0_2 l0_2.length c0_2], .int .i64 a1, .int .i64 a2] w fun e w' => e = .returned (.bool r) ∧ Below w.heap.size w w' := by
 have j5 := Try.underlying25
 have b3 := Aside0.mk hr0_1
 have b5 := Aside0.mk hc0_1
 clear hr0_1 hc0_1
 have b4 := Aside0.mk hr0_2
 have b2 := Aside0.mk hc0_2
 clear hr0_2 hc0_2
 have HB := Aside0.mk (Below.refl w.heap.size w)
 have H : ((Prc.f a0_0 l0_1 l0_2).bind fun e2 => (if e2.2 = 0 then (if (mn a1 a2) ≥ 0 then (if (mx a1 a2) < (e2.1.length : Int) then (if 0 ≤ a1 then (if a1 < (e2.1.length : Int) then (if 0 ≤ a2 then (if a2 < (e2.1.length : Int) then (some ((rd e2.1 a1) == (rd e2.1 a2))) else (none)) else (none)) else (none)) else (none)) else (some false)) else (some false)) else (some false))) = some r := h
 clear h
 replace H := Option.bind_eq_some_iff.mp H
 obtain ⟨⟨a7, b1⟩, i8, H⟩ := H
 replace H : (if b1 = 0 then (if (mn a1 a2) ≥ 0 then (if (mx a1 a2) < (a7.length : Int) then (if 0 ≤ a1 then (if a1 < (a7.length : Int) then (if 0 ≤ a2 then (if a2 < (a7.length : Int) then (some ((rd a7 a1) == (rd a7 a2))) else (none)) else (none)) else (none)) else (none)) else (some false)) else (some false)) else (some false)) = some r := H
 have A4 := Aside0.mk i8
 clear i8
 by_cases c5 : b1 = 0
 ·rw [if_pos c5] at H
  have c5b0 : (b1 == 0) = true := beq_iff_eq.mpr c5
  have c5b1 : (b1 != 0) = false := bne_eq_false_iff_eq.mpr c5
  clear c5
  obtain ⟨h8, e3⟩ : ∃ j_ : Int, (mn a1 a2) = j_ := ⟨_, rfl⟩
  replace H : (if (h8) ≥ 0 then (if (mx a1 a2) < (a7.length : Int) then (if 0 ≤ a1 then (if a1 < (a7.length : Int) then (if 0 ≤ a2 then (if a2 < (a7.length : Int) then (some ((rd a7 a1) == (rd a7 a2))) else (none)) else (none)) else (none)) else (none)) else (some false)) else (some false)) = some r := by first | (rw [e3] at H; exact H) | (simp only [e3] at H ⊢; exact H)
  (try rw [e3] at A4)
  have j4 : (if a2 < a1 then a2 else a1) = h8 := e3
  by_cases c7 : (h8) ≥ 0
  ·rw [if_pos c7] at H
   have c7b0 : decide (0 ≤ (h8)) = true := decide_eq_true c7
   clear c7
   obtain ⟨h7, e6⟩ : ∃ j_ : Int, (mx a1 a2) = j_ := ⟨_, rfl⟩
   replace H : (if (h7) < (a7.length : Int) then (if 0 ≤ a1 then (if a1 < (a7.length : Int) then (if 0 ≤ a2 then (if a2 < (a7.length : Int) then (some ((rd a7 a1) == (rd a7 a2))) else (none)) else (none)) else (none)) else (none)) else (some false)) = some r := by first | (rw [e6] at H; exact H) | (simp only [e6] at H ⊢; exact H)
   (try rw [e6] at A4)
   have j3 : (if a1 < a2 then a2 else a1) = h7 := e6
   by_cases c9 : (h7) < (a7.length : Int)
   ·rw [if_pos c9] at H
    have c9b0 : decide ((h7) < (a7.length : Int)) = true := decide_eq_true c9
    clear c9
    by_cases c10 : 0 ≤ a1
    ·rw [if_pos c10] at H
     have c10b0 : decide (0 ≤ a1) = true := decide_eq_true c10
     clear c10
     by_cases h9 : a1 < (a7.length : Int)
     ·rw [if_pos h9] at H
      have c11b0 : decide (a1 < (a7.length : Int)) = true := decide_eq_true h9
      clear h9
      by_cases i0 : 0 ≤ a2
      ·rw [if_pos i0] at H
       have c12b0 : decide (0 ≤ a2) = true := decide_eq_true i0
       clear i0
       by_cases i1 : a2 < (a7.length : Int)
       ·rw [if_pos i1] at H
        have c13b0 : decide (a2 < (a7.length : Int)) = true := decide_eq_true i1
        clear i1
        obtain rfl := Option.some.inj H
        go_enter Try.func19, Try.ntmps19
        go_wp2_with (first | ((with_reducible refine gate_dst (N := 3) rfl ?_); (try (refine gate_guard (by rfl) ?_; dsimp only)); refine box_event ?hg (N := 3) ?hd (cs := #[.int .i64 a0_0, .slice A0_1 l0_1.length c0_1, .slice A0_2 l0_2.length c0_2]) (t := 25) ?hr ?_; (case hd => rfl); (case hg => rfl); (case hr => first | (go_simp; done) | (go_simp; rfl)); intro a3 hg e1 hbox hb; have a5 := Aside0.mk (below_step (wz HB.out) hb); have a6 := Aside0.mk (hbox); have a4 := Aside0.mk ((by rw [hg]; exact (below_size (wz HB.out)) : w.heap.size ≤ a3)); have b0 := Aside0.mk ((by rw [hg]; exact (below_size (wz HB.out)) : w.heap.size ≤ a3)); clear HB; have HB := a5; have a0 := a6; have b9 := a4; have b7 := b0; clear a5 a6 a4 b0; clear hb hbox hg; have f7 : e1.cell? ⟨a3, 0, none⟩ = some (.int .i64 a0_0) := (blk_cell a0.out 0).trans rfl; have g5 : e1.cell? ⟨a3, 1, none⟩ = some (.slice A0_1 l0_1.length c0_1) := (blk_cell a0.out 1).trans rfl; have g7 : e1.cell? ⟨a3, 2, none⟩ = some (.slice A0_2 l0_2.length c0_2) := (blk_cell a0.out 2).trans rfl; have h4 := blk_frozen a0.out 0; have h6 := blk_frozen a0.out 1; have f1 := blk_frozen a0.out 2) | (go_at_call 17; (with_reducible refine (Prc.calls a0_0 _ _ l0_1 _ _ l0_2 a7 b1 _ ?d0 ?b8 ?d1 ?b6 A4.out).mono ?_); (case d0 => exact cz b3.out HB.out); (case b8 => exact b5.out); (case d1 => exact cz b4.out HB.out); (case b6 => exact b2.out); rintro e j2 ⟨d2, rfl, a9, hb⟩; have a5 := Aside0.mk (Kd.R_lower a9 (below_size (wz HB.out))); have a6 := Aside0.mk (blk_below (bz a0.out) hb); have a4 := Aside0.mk (below_step (wz HB.out) hb); clear a0; clear HB; have a8 := a5; have a0 := a6; have HB := a4; clear a5 a6 a4; (try clear hb); (try clear d7); (try clear hk); (try clear hi); (try clear a9); obtain ⟨i5, i4, f0⟩ := Kd.R_slice a8.out; subst f0; have d4 : 0 ≤ (a1 : Int) := of_decide_eq_true (by first | (with_reducible assumption) | assumption); have d6 : a1 < (a7.length : Int) := of_decide_eq_true (by first | (with_reducible assumption) | assumption); obtain ⟨e4, e9, g6⟩ := Kd.at_int (Kd.R_reads' a8.out).2.2 a1 d4 d6; cases e9; replace d4 := eq_true d4; replace d6 := eq_true d6; have d3 : 0 ≤ (a2 : Int) := of_decide_eq_true (by first | (with_reducible assumption) | assumption); have d5 : a2 < (a7.length : Int) := of_decide_eq_true (by first | (with_reducible assumption) | assumption); obtain ⟨e5, e8, g1⟩ := Kd.at_int (Kd.R_reads' a8.out).2.2 a2 d3 d5; obtain rfl : e4 = e5 := (by injection e8); replace d3 := eq_true d3; replace d5 := eq_true d5))
        repeat (go_quiet (first | ((with_reducible refine gate_dst (N := 3) rfl ?_); (try (refine gate_guard (by rfl) ?_; dsimp only)); refine box_event ?hg (N := 3) ?hd (cs := #[.int .i64 a0_0, .slice A0_1 l0_1.length c0_1, .slice A0_2 l0_2.length c0_2]) (t := 25) ?hr ?_; (case hd => rfl); (case hg => rfl); (case hr => first | (go_simp; done) | (go_simp; rfl)); intro a3 hg e1 hbox hb; have a5 := Aside0.mk (below_step (wz HB.out) hb); have a6 := Aside0.mk (hbox); have a4 := Aside0.mk ((by rw [hg]; exact (below_size (wz HB.out)) : w.heap.size ≤ a3)); have b0 := Aside0.mk ((by rw [hg]; exact (below_size (wz HB.out)) : w.heap.size ≤ a3)); clear HB; have HB := a5; have a0 := a6; have b9 := a4; have b7 := b0; clear a5 a6 a4 b0; clear hb hbox hg; have f7 : e1.cell? ⟨a3, 0, none⟩ = some (.int .i64 a0_0) := (blk_cell a0.out 0).trans rfl; have g5 : e1.cell? ⟨a3, 1, none⟩ = some (.slice A0_1 l0_1.length c0_1) := (blk_cell a0.out 1).trans rfl; have g7 : e1.cell? ⟨a3, 2, none⟩ = some (.slice A0_2 l0_2.length c0_2) := (blk_cell a0.out 2).trans rfl; have h4 := blk_frozen a0.out 0; have h6 := blk_frozen a0.out 1; have f1 := blk_frozen a0.out 2) | (go_at_call 17; (with_reducible refine (Prc.calls a0_0 _ _ l0_1 _ _ l0_2 a7 b1 _ ?d0 ?b8 ?d1 ?b6 A4.out).mono ?_); (case d0 => exact cz b3.out HB.out); (case b8 => exact b5.out); (case d1 => exact cz b4.out HB.out); (case b6 => exact b2.out); rintro e j2 ⟨d2, rfl, a9, hb⟩; have a5 := Aside0.mk (Kd.R_lower a9 (below_size (wz HB.out))); have a6 := Aside0.mk (blk_below (bz a0.out) hb); have a4 := Aside0.mk (below_step (wz HB.out) hb); clear a0; clear HB; have a8 := a5; have a0 := a6; have HB := a4; clear a5 a6 a4; (try clear hb); (try clear d7); (try clear hk); (try clear hi); (try clear a9); obtain ⟨i5, i4, f0⟩ := Kd.R_slice a8.out; subst f0; have d4 : 0 ≤ (a1 : Int) := of_decide_eq_true (by first | (with_reducible assumption) | assumption); have d6 : a1 < (a7.length : Int) := of_decide_eq_true (by first | (with_reducible assumption) | assumption); obtain ⟨e4, e9, g6⟩ := Kd.at_int (Kd.R_reads' a8.out).2.2 a1 d4 d6; cases e9; replace d4 := eq_true d4; replace d6 := eq_true d6; have d3 : 0 ≤ (a2 : Int) := of_decide_eq_true (by first | (with_reducible assumption) | assumption); have d5 : a2 < (a7.length : Int) := of_decide_eq_true (by first | (with_reducible assumption) | assumption); obtain ⟨e5, e8, g1⟩ := Kd.at_int (Kd.R_reads' a8.out).2.2 a2 d3 d5; obtain rfl : e4 = e5 := (by injection e8); replace d3 := eq_true d3; replace d5 := eq_true d5)); try go_wp2_with (first | ((with_reducible refine gate_dst (N := 3) rfl ?_); (try (refine gate_guard (by rfl) ?_; dsimp only)); refine box_event ?hg (N := 3) ?hd (cs := #[.int .i64 a0_0, .slice A0_1 l0_1.length c0_1, .slice A0_2 l0_2.length c0_2]) (t := 25) ?hr ?_; (case hd => rfl); (case hg => rfl); (case hr => first | (go_simp; done) | (go_simp; rfl)); intro a3 hg e1 hbox hb; have a5 := Aside0.mk (below_step (wz HB.out) hb); have a6 := Aside0.mk (hbox); have a4 := Aside0.mk ((by rw [hg]; exact (below_size (wz HB.out)) : w.heap.size ≤ a3)); have b0 := Aside0.mk ((by rw [hg]; exact (below_size (wz HB.out)) : w.heap.size ≤ a3)); clear HB; have HB := a5; have a0 := a6; have b9 := a4; have b7 := b0; clear a5 a6 a4 b0; clear hb hbox hg; have f7 : e1.cell? ⟨a3, 0, none⟩ = some (.int .i64 a0_0) := (blk_cell a0.out 0).trans rfl; have g5 : e1.cell? ⟨a3, 1, none⟩ = some (.slice A0_1 l0_1.length c0_1) := (blk_cell a0.out 1).trans rfl; have g7 : e1.cell? ⟨a3, 2, none⟩ = some (.slice A0_2 l0_2.length c0_2) := (blk_cell a0.out 2).trans rfl; have h4 := blk_frozen a0.out 0; have h6 := blk_frozen a0.out 1; have f1 := blk_frozen a0.out 2) | (go_at_call 17; (with_reducible refine (Prc.calls a0_0 _ _ l0_1 _ _ l0_2 a7 b1 _ ?d0 ?b8 ?d1 ?b6 A4.out).mono ?_); (case d0 => exact cz b3.out HB.out); (case b8 => exact b5.out); (case d1 => exact cz b4.out HB.out); (case b6 => exact b2.out); rintro e j2 ⟨d2, rfl, a9, hb⟩; have a5 := Aside0.mk (Kd.R_lower a9 (below_size (wz HB.out))); have a6 := Aside0.mk (blk_below (bz a0.out) hb); have a4 := Aside0.mk (below_step (wz HB.out) hb); clear a0; clear HB; have a8 := a5; have a0 := a6; have HB := a4; clear a5 a6 a4; (try clear hb); (try clear d7); (try clear hk); (try clear hi); (try clear a9); obtain ⟨i5, i4, f0⟩ := Kd.R_slice a8.out; subst f0; have d4 : 0 ≤ (a1 : Int) := of_decide_eq_true (by first | (with_reducible assumption) | assumption); have d6 : a1 < (a7.length : Int) := of_decide_eq_true (by first | (with_reducible assumption) | assumption); obtain ⟨e4, e9, g6⟩ := Kd.at_int (Kd.R_reads' a8.out).2.2 a1 d4 d6; cases e9; replace d4 := eq_true d4; replace d6 := eq_true d6; have d3 : 0 ≤ (a2 : Int) := of_decide_eq_true (by first | (with_reducible assumption) | assumption); have d5 : a2 < (a7.length : Int) := of_decide_eq_true (by first | (with_reducible assumption) | assumption); obtain ⟨e5, e8, g1⟩ := Kd.at_int (Kd.R_reads' a8.out).2.2 a2 d3 d5; obtain rfl : e4 = e5 := (by injection e8); replace d3 := eq_true d3; replace d5 := eq_true d5)))
        go_ret
        exact ⟨by first | rfl | (simp [errW_none, errW_some] <;> rfl) | (simp only [← e3, ← e6]; first | rfl | (simp [errW_none, errW_some] <;> rfl)) | (simp [*, errW_none, errW_some] <;> rfl), wz HB.out⟩
       ·rw [if_neg i1] at H
        exact absurd H (by simp)
      ·rw [if_neg i0] at H
       exact absurd H (by simp)
     ·rw [if_neg h9] at H
      exact absurd H (by simp)
    ·rw [if_neg c10] at H
     exact absurd H (by simp)
   ·rw [if_neg c9] at H
    have c9b0 : decide ((h7) < (a7.length : Int)) = false := decide_eq_false c9
    clear c9
    obtain rfl := Option.some.inj H
    go_enter Try.func19, Try.ntmps19
    go_wp2_with (first | ((with_reducible refine gate_dst (N := 3) rfl ?_); (try (refine gate_guard (by rfl) ?_; dsimp only)); refine box_event ?hg (N := 3) ?hd (cs := #[.int .i64 a0_0, .slice A0_1 l0_1.length c0_1, .slice A0_2 l0_2.length c0_2]) (t := 25) ?hr ?_; (case hd => rfl); (case hg => rfl); (case hr => first | (go_simp; done) | (go_simp; rfl)); intro a3 hg d9 hbox hb; have a5 := Aside0.mk (below_step (wz HB.out) hb); have a6 := Aside0.mk (hbox); have a4 := Aside0.mk ((by rw [hg]; exact (below_size (wz HB.out)) : w.heap.size ≤ a3)); have b0 := Aside0.mk ((by rw [hg]; exact (below_size (wz HB.out)) : w.heap.size ≤ a3)); clear HB; have HB := a5; have a0 := a6; have b9 := a4; have b7 := b0; clear a5 a6 a4 b0; clear hb hbox hg; have f3 : d9.cell? ⟨a3, 0, none⟩ = some (.int .i64 a0_0) := (blk_cell a0.out 0).trans rfl; have g8 : d9.cell? ⟨a3, 1, none⟩ = some (.slice A0_1 l0_1.length c0_1) := (blk_cell a0.out 1).trans rfl; have g2 : d9.cell? ⟨a3, 2, none⟩ = some (.slice A0_2 l0_2.length c0_2) := (blk_cell a0.out 2).trans rfl; have f8 := blk_frozen a0.out 0; have h3 := blk_frozen a0.out 1; have g4 := blk_frozen a0.out 2) | (go_at_call 17; (with_reducible refine (Prc.calls a0_0 _ _ l0_1 _ _ l0_2 a7 b1 _ ?d0 ?b8 ?d1 ?b6 A4.out).mono ?_); (case d0 => exact cz b3.out HB.out); (case b8 => exact b5.out); (case d1 => exact cz b4.out HB.out); (case b6 => exact b2.out); rintro e j0 ⟨d2, rfl, a9, hb⟩; have a5 := Aside0.mk (Kd.R_lower a9 (below_size (wz HB.out))); have a6 := Aside0.mk (blk_below (bz a0.out) hb); have a4 := Aside0.mk (below_step (wz HB.out) hb); clear a0; clear HB; have a8 := a5; have a0 := a6; have HB := a4; clear a5 a6 a4; (try clear hb); (try clear d7); (try clear hk); (try clear hi); (try clear a9); obtain ⟨i3, i2, e7⟩ := Kd.R_slice a8.out; subst e7))
    repeat (go_quiet (first | ((with_reducible refine gate_dst (N := 3) rfl ?_); (try (refine gate_guard (by rfl) ?_; dsimp only)); refine box_event ?hg (N := 3) ?hd (cs := #[.int .i64 a0_0, .slice A0_1 l0_1.length c0_1, .slice A0_2 l0_2.length c0_2]) (t := 25) ?hr ?_; (case hd => rfl); (case hg => rfl); (case hr => first | (go_simp; done) | (go_simp; rfl)); intro a3 hg d9 hbox hb; have a5 := Aside0.mk (below_step (wz HB.out) hb); have a6 := Aside0.mk (hbox); have a4 := Aside0.mk ((by rw [hg]; exact (below_size (wz HB.out)) : w.heap.size ≤ a3)); have b0 := Aside0.mk ((by rw [hg]; exact (below_size (wz HB.out)) : w.heap.size ≤ a3)); clear HB; have HB := a5; have a0 := a6; have b9 := a4; have b7 := b0; clear a5 a6 a4 b0; clear hb hbox hg; have f3 : d9.cell? ⟨a3, 0, none⟩ = some (.int .i64 a0_0) := (blk_cell a0.out 0).trans rfl; have g8 : d9.cell? ⟨a3, 1, none⟩ = some (.slice A0_1 l0_1.length c0_1) := (blk_cell a0.out 1).trans rfl; have g2 : d9.cell? ⟨a3, 2, none⟩ = some (.slice A0_2 l0_2.length c0_2) := (blk_cell a0.out 2).trans rfl; have f8 := blk_frozen a0.out 0; have h3 := blk_frozen a0.out 1; have g4 := blk_frozen a0.out 2) | (go_at_call 17; (with_reducible refine (Prc.calls a0_0 _ _ l0_1 _ _ l0_2 a7 b1 _ ?d0 ?b8 ?d1 ?b6 A4.out).mono ?_); (case d0 => exact cz b3.out HB.out); (case b8 => exact b5.out); (case d1 => exact cz b4.out HB.out); (case b6 => exact b2.out); rintro e j0 ⟨d2, rfl, a9, hb⟩; have a5 := Aside0.mk (Kd.R_lower a9 (below_size (wz HB.out))); have a6 := Aside0.mk (blk_below (bz a0.out) hb); have a4 := Aside0.mk (below_step (wz HB.out) hb); clear a0; clear HB; have a8 := a5; have a0 := a6; have HB := a4; clear a5 a6 a4; (try clear hb); (try clear d7); (try clear hk); (try clear hi); (try clear a9); obtain ⟨i3, i2, e7⟩ := Kd.R_slice a8.out; subst e7)); try go_wp2_with (first | ((with_reducible refine gate_dst (N := 3) rfl ?_); (try (refine gate_guard (by rfl) ?_; dsimp only)); refine box_event ?hg (N := 3) ?hd (cs := #[.int .i64 a0_0, .slice A0_1 l0_1.length c0_1, .slice A0_2 l0_2.length c0_2]) (t := 25) ?hr ?_; (case hd => rfl); (case hg => rfl); (case hr => first | (go_simp; done) | (go_simp; rfl)); intro a3 hg d9 hbox hb; have a5 := Aside0.mk (below_step (wz HB.out) hb); have a6 := Aside0.mk (hbox); have a4 := Aside0.mk ((by rw [hg]; exact (below_size (wz HB.out)) : w.heap.size ≤ a3)); have b0 := Aside0.mk ((by rw [hg]; exact (below_size (wz HB.out)) : w.heap.size ≤ a3)); clear HB; have HB := a5; have a0 := a6; have b9 := a4; have b7 := b0; clear a5 a6 a4 b0; clear hb hbox hg; have f3 : d9.cell? ⟨a3, 0, none⟩ = some (.int .i64 a0_0) := (blk_cell a0.out 0).trans rfl; have g8 : d9.cell? ⟨a3, 1, none⟩ = some (.slice A0_1 l0_1.length c0_1) := (blk_cell a0.out 1).trans rfl; have g2 : d9.cell? ⟨a3, 2, none⟩ = some (.slice A0_2 l0_2.length c0_2) := (blk_cell a0.out 2).trans rfl; have f8 := blk_frozen a0.out 0; have h3 := blk_frozen a0.out 1; have g4 := blk_frozen a0.out 2) | (go_at_call 17; (with_reducible refine (Prc.calls a0_0 _ _ l0_1 _ _ l0_2 a7 b1 _ ?d0 ?b8 ?d1 ?b6 A4.out).mono ?_); (case d0 => exact cz b3.out HB.out); (case b8 => exact b5.out); (case d1 => exact cz b4.out HB.out); (case b6 => exact b2.out); rintro e j0 ⟨d2, rfl, a9, hb⟩; have a5 := Aside0.mk (Kd.R_lower a9 (below_size (wz HB.out))); have a6 := Aside0.mk (blk_below (bz a0.out) hb); have a4 := Aside0.mk (below_step (wz HB.out) hb); clear a0; clear HB; have a8 := a5; have a0 := a6; have HB := a4; clear a5 a6 a4; (try clear hb); (try clear d7); (try clear hk); (try clear hi); (try clear a9); obtain ⟨i3, i2, e7⟩ := Kd.R_slice a8.out; subst e7)))
    go_ret
    exact ⟨by first | rfl | (simp [errW_none, errW_some] <;> rfl) | (simp only [← e3, ← e6]; first | rfl | (simp [errW_none, errW_some] <;> rfl)) | (simp [*, errW_none, errW_some] <;> rfl), wz HB.out⟩
  ·rw [if_neg c7] at H
   have c7b0 : decide (0 ≤ (h8)) = false := decide_eq_false c7
   clear c7
   obtain rfl := Option.some.inj H
   go_enter Try.func19, Try.ntmps19
   go_wp2_with (first | ((with_reducible refine gate_dst (N := 3) rfl ?_); (try (refine gate_guard (by rfl) ?_; dsimp only)); refine box_event ?hg (N := 3) ?hd (cs := #[.int .i64 a0_0, .slice A0_1 l0_1.length c0_1, .slice A0_2 l0_2.length c0_2]) (t := 25) ?hr ?_; (case hd => rfl); (case hg => rfl); (case hr => first | (go_simp; done) | (go_simp; rfl)); intro a3 hg e0 hbox hb; have a5 := Aside0.mk (below_step (wz HB.out) hb); have a6 := Aside0.mk (hbox); have a4 := Aside0.mk ((by rw [hg]; exact (below_size (wz HB.out)) : w.heap.size ≤ a3)); have b0 := Aside0.mk ((by rw [hg]; exact (below_size (wz HB.out)) : w.heap.size ≤ a3)); clear HB; have HB := a5; have a0 := a6; have b9 := a4; have b7 := b0; clear a5 a6 a4 b0; clear hb hbox hg; have f4 : e0.cell? ⟨a3, 0, none⟩ = some (.int .i64 a0_0) := (blk_cell a0.out 0).trans rfl; have g9 : e0.cell? ⟨a3, 1, none⟩ = some (.slice A0_1 l0_1.length c0_1) := (blk_cell a0.out 1).trans rfl; have f2 : e0.cell? ⟨a3, 2, none⟩ = some (.slice A0_2 l0_2.length c0_2) := (blk_cell a0.out 2).trans rfl; have h5 := blk_frozen a0.out 0; have g3 := blk_frozen a0.out 1; have h2 := blk_frozen a0.out 2) | (go_at_call 17; (with_reducible refine (Prc.calls a0_0 _ _ l0_1 _ _ l0_2 a7 b1 _ ?d0 ?b8 ?d1 ?b6 A4.out).mono ?_); (case d0 => exact cz b3.out HB.out); (case b8 => exact b5.out); (case d1 => exact cz b4.out HB.out); (case b6 => exact b2.out); rintro e i7 ⟨d2, rfl, a9, hb⟩; have a5 := Aside0.mk (Kd.R_lower a9 (below_size (wz HB.out))); have a6 := Aside0.mk (blk_below (bz a0.out) hb); have a4 := Aside0.mk (below_step (wz HB.out) hb); clear a0; clear HB; have a8 := a5; have a0 := a6; have HB := a4; clear a5 a6 a4; (try clear hb); (try clear d7); (try clear hk); (try clear hi); (try clear a9)))
   repeat (go_quiet (first | ((with_reducible refine gate_dst (N := 3) rfl ?_); (try (refine gate_guard (by rfl) ?_; dsimp only)); refine box_event ?hg (N := 3) ?hd (cs := #[.int .i64 a0_0, .slice A0_1 l0_1.length c0_1, .slice A0_2 l0_2.length c0_2]) (t := 25) ?hr ?_; (case hd => rfl); (case hg => rfl); (case hr => first | (go_simp; done) | (go_simp; rfl)); intro a3 hg e0 hbox hb; have a5 := Aside0.mk (below_step (wz HB.out) hb); have a6 := Aside0.mk (hbox); have a4 := Aside0.mk ((by rw [hg]; exact (below_size (wz HB.out)) : w.heap.size ≤ a3)); have b0 := Aside0.mk ((by rw [hg]; exact (below_size (wz HB.out)) : w.heap.size ≤ a3)); clear HB; have HB := a5; have a0 := a6; have b9 := a4; have b7 := b0; clear a5 a6 a4 b0; clear hb hbox hg; have f4 : e0.cell? ⟨a3, 0, none⟩ = some (.int .i64 a0_0) := (blk_cell a0.out 0).trans rfl; have g9 : e0.cell? ⟨a3, 1, none⟩ = some (.slice A0_1 l0_1.length c0_1) := (blk_cell a0.out 1).trans rfl; have f2 : e0.cell? ⟨a3, 2, none⟩ = some (.slice A0_2 l0_2.length c0_2) := (blk_cell a0.out 2).trans rfl; have h5 := blk_frozen a0.out 0; have g3 := blk_frozen a0.out 1; have h2 := blk_frozen a0.out 2) | (go_at_call 17; (with_reducible refine (Prc.calls a0_0 _ _ l0_1 _ _ l0_2 a7 b1 _ ?d0 ?b8 ?d1 ?b6 A4.out).mono ?_); (case d0 => exact cz b3.out HB.out); (case b8 => exact b5.out); (case d1 => exact cz b4.out HB.out); (case b6 => exact b2.out); rintro e i7 ⟨d2, rfl, a9, hb⟩; have a5 := Aside0.mk (Kd.R_lower a9 (below_size (wz HB.out))); have a6 := Aside0.mk (blk_below (bz a0.out) hb); have a4 := Aside0.mk (below_step (wz HB.out) hb); clear a0; clear HB; have a8 := a5; have a0 := a6; have HB := a4; clear a5 a6 a4; (try clear hb); (try clear d7); (try clear hk); (try clear hi); (try clear a9))); try go_wp2_with (first | ((with_reducible refine gate_dst (N := 3) rfl ?_); (try (refine gate_guard (by rfl) ?_; dsimp only)); refine box_event ?hg (N := 3) ?hd (cs := #[.int .i64 a0_0, .slice A0_1 l0_1.length c0_1, .slice A0_2 l0_2.length c0_2]) (t := 25) ?hr ?_; (case hd => rfl); (case hg => rfl); (case hr => first | (go_simp; done) | (go_simp; rfl)); intro a3 hg e0 hbox hb; have a5 := Aside0.mk (below_step (wz HB.out) hb); have a6 := Aside0.mk (hbox); have a4 := Aside0.mk ((by rw [hg]; exact (below_size (wz HB.out)) : w.heap.size ≤ a3)); have b0 := Aside0.mk ((by rw [hg]; exact (below_size (wz HB.out)) : w.heap.size ≤ a3)); clear HB; have HB := a5; have a0 := a6; have b9 := a4; have b7 := b0; clear a5 a6 a4 b0; clear hb hbox hg; have f4 : e0.cell? ⟨a3, 0, none⟩ = some (.int .i64 a0_0) := (blk_cell a0.out 0).trans rfl; have g9 : e0.cell? ⟨a3, 1, none⟩ = some (.slice A0_1 l0_1.length c0_1) := (blk_cell a0.out 1).trans rfl; have f2 : e0.cell? ⟨a3, 2, none⟩ = some (.slice A0_2 l0_2.length c0_2) := (blk_cell a0.out 2).trans rfl; have h5 := blk_frozen a0.out 0; have g3 := blk_frozen a0.out 1; have h2 := blk_frozen a0.out 2) | (go_at_call 17; (with_reducible refine (Prc.calls a0_0 _ _ l0_1 _ _ l0_2 a7 b1 _ ?d0 ?b8 ?d1 ?b6 A4.out).mono ?_); (case d0 => exact cz b3.out HB.out); (case b8 => exact b5.out); (case d1 => exact cz b4.out HB.out); (case b6 => exact b2.out); rintro e i7 ⟨d2, rfl, a9, hb⟩; have a5 := Aside0.mk (Kd.R_lower a9 (below_size (wz HB.out))); have a6 := Aside0.mk (blk_below (bz a0.out) hb); have a4 := Aside0.mk (below_step (wz HB.out) hb); clear a0; clear HB; have a8 := a5; have a0 := a6; have HB := a4; clear a5 a6 a4; (try clear hb); (try clear d7); (try clear hk); (try clear hi); (try clear a9))))
   go_ret
   exact ⟨by first | rfl | (simp [errW_none, errW_some] <;> rfl) | (simp only [← e3]; first | rfl | (simp [errW_none, errW_some] <;> rfl)) | (simp [*, errW_none, errW_some] <;> rfl), wz HB.out⟩
 ·rw [if_neg c5] at H
  have c5b0 : (b1 == 0) = false := beq_eq_false_iff_ne.mpr c5
  have c5b1 : (b1 != 0) = true := bne_iff_ne.mpr c5
  obtain rfl := Option.some.inj H
  go_enter Try.func19, Try.ntmps19
  go_wp2_with (first | ((with_reducible refine gate_dst (N := 3) rfl ?_); (try (refine gate_guard (by rfl) ?_; dsimp only)); refine box_event ?hg (N := 3) ?hd (cs := #[.int .i64 a0_0, .slice A0_1 l0_1.length c0_1, .slice A0_2 l0_2.length c0_2]) (t := 25) ?hr ?_; (case hd => rfl); (case hg => rfl); (case hr => first | (go_simp; done) | (go_simp; rfl)); intro a3 hg d8 hbox hb; have a5 := Aside0.mk (below_step (wz HB.out) hb); have a6 := Aside0.mk (hbox); have a4 := Aside0.mk ((by rw [hg]; exact (below_size (wz HB.out)) : w.heap.size ≤ a3)); have b0 := Aside0.mk ((by rw [hg]; exact (below_size (wz HB.out)) : w.heap.size ≤ a3)); clear HB; have HB := a5; have a0 := a6; have b9 := a4; have b7 := b0; clear a5 a6 a4 b0; clear hb hbox hg; have g0 : d8.cell? ⟨a3, 0, none⟩ = some (.int .i64 a0_0) := (blk_cell a0.out 0).trans rfl; have h0 : d8.cell? ⟨a3, 1, none⟩ = some (.slice A0_1 l0_1.length c0_1) := (blk_cell a0.out 1).trans rfl; have f5 : d8.cell? ⟨a3, 2, none⟩ = some (.slice A0_2 l0_2.length c0_2) := (blk_cell a0.out 2).trans rfl; have h1 := blk_frozen a0.out 0; have f9 := blk_frozen a0.out 1; have f6 := blk_frozen a0.out 2) | (go_at_call 17; (with_reducible refine (Prc.calls a0_0 _ _ l0_1 _ _ l0_2 a7 b1 _ ?d0 ?b8 ?d1 ?b6 A4.out).mono ?_); (case d0 => exact cz b3.out HB.out); (case b8 => exact b5.out); (case d1 => exact cz b4.out HB.out); (case b6 => exact b2.out); rintro e i9 ⟨d2, rfl, a9, hb⟩; have a5 := Aside0.mk (Kd.R_lower a9 (below_size (wz HB.out))); have a6 := Aside0.mk (blk_below (bz a0.out) hb); have a4 := Aside0.mk (below_step (wz HB.out) hb); clear a0; clear HB; have a8 := a5; have a0 := a6; have HB := a4; clear a5 a6 a4; (try clear hb); (try clear d7); (try clear hk); (try clear hi); (try clear a9)))
  repeat (go_quiet (first | ((with_reducible refine gate_dst (N := 3) rfl ?_); (try (refine gate_guard (by rfl) ?_; dsimp only)); refine box_event ?hg (N := 3) ?hd (cs := #[.int .i64 a0_0, .slice A0_1 l0_1.length c0_1, .slice A0_2 l0_2.length c0_2]) (t := 25) ?hr ?_; (case hd => rfl); (case hg => rfl); (case hr => first | (go_simp; done) | (go_simp; rfl)); intro a3 hg d8 hbox hb; have a5 := Aside0.mk (below_step (wz HB.out) hb); have a6 := Aside0.mk (hbox); have a4 := Aside0.mk ((by rw [hg]; exact (below_size (wz HB.out)) : w.heap.size ≤ a3)); have b0 := Aside0.mk ((by rw [hg]; exact (below_size (wz HB.out)) : w.heap.size ≤ a3)); clear HB; have HB := a5; have a0 := a6; have b9 := a4; have b7 := b0; clear a5 a6 a4 b0; clear hb hbox hg; have g0 : d8.cell? ⟨a3, 0, none⟩ = some (.int .i64 a0_0) := (blk_cell a0.out 0).trans rfl; have h0 : d8.cell? ⟨a3, 1, none⟩ = some (.slice A0_1 l0_1.length c0_1) := (blk_cell a0.out 1).trans rfl; have f5 : d8.cell? ⟨a3, 2, none⟩ = some (.slice A0_2 l0_2.length c0_2) := (blk_cell a0.out 2).trans rfl; have h1 := blk_frozen a0.out 0; have f9 := blk_frozen a0.out 1; have f6 := blk_frozen a0.out 2) | (go_at_call 17; (with_reducible refine (Prc.calls a0_0 _ _ l0_1 _ _ l0_2 a7 b1 _ ?d0 ?b8 ?d1 ?b6 A4.out).mono ?_); (case d0 => exact cz b3.out HB.out); (case b8 => exact b5.out); (case d1 => exact cz b4.out HB.out); (case b6 => exact b2.out); rintro e i9 ⟨d2, rfl, a9, hb⟩; have a5 := Aside0.mk (Kd.R_lower a9 (below_size (wz HB.out))); have a6 := Aside0.mk (blk_below (bz a0.out) hb); have a4 := Aside0.mk (below_step (wz HB.out) hb); clear a0; clear HB; have a8 := a5; have a0 := a6; have HB := a4; clear a5 a6 a4; (try clear hb); (try clear d7); (try clear hk); (try clear hi); (try clear a9))); try go_wp2_with (first | ((with_reducible refine gate_dst (N := 3) rfl ?_); (try (refine gate_guard (by rfl) ?_; dsimp only)); refine box_event ?hg (N := 3) ?hd (cs := #[.int .i64 a0_0, .slice A0_1 l0_1.length c0_1, .slice A0_2 l0_2.length c0_2]) (t := 25) ?hr ?_; (case hd => rfl); (case hg => rfl); (case hr => first | (go_simp; done) | (go_simp; rfl)); intro a3 hg d8 hbox hb; have a5 := Aside0.mk (below_step (wz HB.out) hb); have a6 := Aside0.mk (hbox); have a4 := Aside0.mk ((by rw [hg]; exact (below_size (wz HB.out)) : w.heap.size ≤ a3)); have b0 := Aside0.mk ((by rw [hg]; exact (below_size (wz HB.out)) : w.heap.size ≤ a3)); clear HB; have HB := a5; have a0 := a6; have b9 := a4; have b7 := b0; clear a5 a6 a4 b0; clear hb hbox hg; have g0 : d8.cell? ⟨a3, 0, none⟩ = some (.int .i64 a0_0) := (blk_cell a0.out 0).trans rfl; have h0 : d8.cell? ⟨a3, 1, none⟩ = some (.slice A0_1 l0_1.length c0_1) := (blk_cell a0.out 1).trans rfl; have f5 : d8.cell? ⟨a3, 2, none⟩ = some (.slice A0_2 l0_2.length c0_2) := (blk_cell a0.out 2).trans rfl; have h1 := blk_frozen a0.out 0; have f9 := blk_frozen a0.out 1; have f6 := blk_frozen a0.out 2) | (go_at_call 17; (with_reducible refine (Prc.calls a0_0 _ _ l0_1 _ _ l0_2 a7 b1 _ ?d0 ?b8 ?d1 ?b6 A4.out).mono ?_); (case d0 => exact cz b3.out HB.out); (case b8 => exact b5.out); (case d1 => exact cz b4.out HB.out); (case b6 => exact b2.out); rintro e i9 ⟨d2, rfl, a9, hb⟩; have a5 := Aside0.mk (Kd.R_lower a9 (below_size (wz HB.out))); have a6 := Aside0.mk (blk_below (bz a0.out) hb); have a4 := Aside0.mk (below_step (wz HB.out) hb); clear a0; clear HB; have a8 := a5; have a0 := a6; have HB := a4; clear a5 a6 a4; (try clear hb); (try clear d7); (try clear hk); (try clear hi); (try clear a9))))
  go_ret
  exact ⟨by first | rfl | (simp [errW_none, errW_some] <;> rfl) | (simp [*, errW_none, errW_some] <;> rfl), wz HB.out⟩
end Go.Proofs.Ytmcbkmfpmcbdpaa.Pr
namespace Go.Proofs.Ytmcbkmfpmcbdpaa.Pr
open Go.RowKit Go.Proofs.YtmcbkmfpmcbdpaaW.PrintWords Go.Proofs.YtmcbkmfpmcbdpaaW.PrintLast Go.Proofs.YtmcbkmfpmcbdpaaW.PrintMore
attribute [local go_sem] max2_int min2_int max_two min_two max_three min_three max_four min_four
set_option linter.unusedVariables false
set_option linter.unusedSimpArgs false
mutual
def Pr26a.l0 : Nat → Int → Int → List ByteArray → List (S80) → Option (Bool)
 | 0, _, _, _, _ => none
 | k + 1, x3, x102000, x102001, x102002 => if x3 < (x102001.length : Int) then (Pr26a.j1 k x3 (decide (x3 < 70)) x102000 x102001 x102002) else (Pr26a.j1 k x3 false x102000 x102001 x102002)
def Pr26a.j1 : Nat → Int → Bool → Int → List ByteArray → List (S80) → Option (Bool)
 | 0, _, _, _, _, _ => none
 | k + 1, x3, x12, x102000, x102001, x102002 => if x12 = true then (if 0 ≤ x3 then (if x3 < (x102001.length : Int) then (if ((rdOf ByteArray.empty x102001 x3).size : Int) > 300 then (some false) else (Pr26a.l0 k (wrap64 (x3 + 1)) x102000 x102001 x102002)) else (none)) else (none)) else (if (x102001.length : Int) < 70 then (if (x102002.length : Int) ≤ 200 then (if x102000 ≤ 60 then (some true) else (some (decide (x102000 > 2048)))) else (some false)) else (some false))
end
def Pr26a.f (k : Nat) (a0_0 : Int) (l0_1 : List ByteArray) (l0_2 : List (S80)) : Option (Bool) := Pr26a.l0 k 0 a0_0 l0_1 l0_2
theorem Pr26a.mono_l : ∀ k, (∀ y0 y1 y2 y3, LeO (Pr26a.l0 k y0 y1 y2 y3) (Pr26a.l0 (k + 1) y0 y1 y2 y3)) ∧ (∀ y0 y1 y2 y3 y4, LeO (Pr26a.j1 k y0 y1 y2 y3 y4) (Pr26a.j1 (k + 1) y0 y1 y2 y3 y4))
 | 0 => ⟨fun _ _ _ _ r h => by simp [Pr26a.l0] at h, fun _ _ _ _ _ r h => by simp [Pr26a.j1] at h⟩
 | k + 1 => by
  obtain ⟨ih0, ih1⟩ := Pr26a.mono_l k
  refine ⟨?_, ?_⟩
  ·intro y0 y1 y2 y3
   unfold Pr26a.l0
   repeat' first
   | (with_reducible exact ih0 _ _ _ _)
   | (with_reducible exact ih1 _ _ _ _ _)
   | (with_reducible exact LeO.refl _)
   | (with_reducible exact LeO.none _)
   | (with_reducible refine LeO.ite ?_ ?_)
   | (with_reducible refine LeO.bind ?_ (fun _ => ?_))
   | exact ih0 _ _ _ _
   | exact ih1 _ _ _ _ _
   | exact LeO.none _
   | refine LeO.ite ?_ ?_
   | refine LeO.bind ?_ (fun _ => ?_)
  ·intro y0 y1 y2 y3 y4
   unfold Pr26a.j1
   repeat' first
   | (with_reducible exact ih0 _ _ _ _)
   | (with_reducible exact ih1 _ _ _ _ _)
   | (with_reducible exact LeO.refl _)
   | (with_reducible exact LeO.none _)
   | (with_reducible refine LeO.ite ?_ ?_)
   | (with_reducible refine LeO.bind ?_ (fun _ => ?_))
   | exact ih0 _ _ _ _
   | exact ih1 _ _ _ _ _
   | exact LeO.none _
   | refine LeO.ite ?_ ?_
   | refine LeO.bind ?_ (fun _ => ?_)
theorem Pr26a.mono : ∀ a0 a1 a2 k, LeO (Pr26a.f k a0 a1 a2) (Pr26a.f (k + 1) a0 a1 a2) := by
 intro a0 a1 a2 k
 obtain ⟨ih0, ih1⟩ := Pr26a.mono_l k
 unfold Pr26a.f
 repeat' first
   | (with_reducible exact ih0 _ _ _ _)
   | (with_reducible exact ih1 _ _ _ _ _)
   | (with_reducible exact LeO.refl _)
   | (with_reducible exact LeO.none _)
   | (with_reducible refine LeO.ite ?_ ?_)
   | (with_reducible refine LeO.bind ?_ (fun _ => ?_))
   | exact ih0 _ _ _ _
   | exact ih1 _ _ _ _ _
   | exact LeO.none _
   | refine LeO.ite ?_ ?_
   | refine LeO.bind ?_ (fun _ => ?_)
set_option maxHeartbeats 8000000 in
set_option maxRecDepth 100000 in
theorem Pr26a.calls (k : Nat) (a0_0 : Int) (A0_1 : Option Addr) (c0_1 : Nat) (l0_1 : List ByteArray) (A0_2 : Option Addr) (c0_2 : Nat) (l0_2 : List (S80)) (r : Bool) (w : World) (hr0_1 : Kd.C Kd.string w A0_1 l0_1.length l0_1) (hc0_1 : l0_1.length ≤ c0_1) (hr0_2 : Kd.C k80 w A0_2 l0_2.length l0_2) (hc0_2 : l0_2.length ≤ c0_2) (h : Pr26a.f k a0_0 l0_1 l0_2 = some r) :
  Calls Try.prog 66 #[.agg #[.int .i64 a0_0, .slice A0_1 l0_1.length c0_1, .slice A0_2 l0_2.length c0_2]] w fun e w' => e = .returned (.bool r) ∧ Below w.heap.size w w' := by
 have i4 := Try.underlying25
 have b1 := Aside0.mk hr0_1
 have i0 := Aside0.mk hc0_1
 clear hr0_1 hc0_1
 have h9 := Aside0.mk hr0_2
 have i1 := Aside0.mk hc0_2
 clear hr0_2 hc0_2
 have HB := Aside0.mk (Below.refl w.heap.size w)
 have H : (Pr26a.l0 k 0 a0_0 l0_1 l0_2) = some r := h
 clear h
 have H' := Aside0.mk H
 clear H
 go_enter Try.func66, Try.ntmps66
 go_wp2_with (first | ((with_reducible refine gate_dst (N := 1) rfl ?_); (try (refine gate_guard (by rfl) ?_; dsimp only)); refine box_event ?hg (N := 1) ?hd (cs := #[.int .i64 a0_0, .slice A0_1 l0_1.length c0_1, .slice A0_2 l0_2.length c0_2]) (t := 25) ?hr ?_; (case hd => rfl); (case hg => rfl); (case hr => first | (go_simp; done) | (go_simp; rfl)); intro a1 hg w2 hbox hb; have d9 := Aside0.mk (below_step (wz HB.out) hb); have e0 := Aside0.mk (hbox); have d8 := Aside0.mk ((by rw [hg]; exact (below_size (wz HB.out)) : w.heap.size ≤ a1)); have d7 := Aside0.mk ((by rw [hg]; exact (below_size (wz HB.out)) : w.heap.size ≤ a1)); clear HB; have HB := d9; have a0 := e0; have i2 := d8; have i3 := d7; clear d9 e0 d8 d7; clear hb hbox hg))
 go_loopg [3] k (fun kq v3 w' => ∃ (a2 : Int), v3 = .int .i64 a2 ∧ Aside0 (Pr26a.l0 kq a2 a0_0 l0_1 l0_2 = some r) ∧ Aside0 (kq ≤ k) ∧ Aside0 (w'.heap[a1]? = some (.cells #[.int .i64 a0_0, (.slice A0_1 l0_1.length c0_1), (.slice A0_2 l0_2.length c0_2)] 25 (0, 0))) ∧ Aside0 (Below w.heap.size w w'))
 case atStart => exact ⟨(0), (by first | rfl | (simp; done) | (simp [*]; done)), H', ⟨Nat.le_refl _⟩, ⟨bz a0.out⟩, ⟨wz HB.out⟩⟩
 case round =>
  clear H'
  try clear p2
  obtain ⟨a2, rfl, HA, b2, a0, HB⟩ := hrel
  cases gk with
  | zero => exact absurd HA.out (by simp [Pr26a.l0])
  | succ k1 =>
   have H := HA.out
   clear HA
   simp only [Pr26a.l0] at H
   have d3 := Aside0.mk H
   clear H
   go_upto_region 2 with (fail)
   go_cut [12] (fun h8 wc => ∃ (kq : Nat) (a6 : Bool), h8 = .bool a6 ∧ Aside0 (Pr26a.j1 kq a2 a6 a0_0 l0_1 l0_2 = some r) ∧ Aside0 (kq ≤ k1) ∧ Aside0 (wc.heap[a1]? = some (.cells #[.int .i64 a0_0, (.slice A0_1 l0_1.length c0_1), (.slice A0_2 l0_2.length c0_2)] 25 (0, 0))) ∧ Aside0 (Below w.heap.size w wc))
   case first =>
    have H := d3.out
    clear d3
    by_cases c4 : a2 < (l0_1.length : Int)
    ·rw [if_pos c4] at H
     have c4b0 : decide (a2 < (l0_1.length : Int)) = true := decide_eq_true c4
     clear c4
     (first | rw [c4b0] | (simp only [i64_w, i32_w]; rw [c4b0]) | skip)
     have H' := Aside0.mk H
     clear H
     have b3 : wr.cell? ⟨a1, 0, none⟩ = some (.int .i64 a0_0) := (blk_cell a0.out 0).trans rfl
     have b8 : wr.cell? ⟨a1, 1, none⟩ = some (.slice A0_1 l0_1.length c0_1) := (blk_cell a0.out 1).trans rfl
     have b5 : wr.cell? ⟨a1, 2, none⟩ = some (.slice A0_2 l0_2.length c0_2) := (blk_cell a0.out 2).trans rfl
     have b9 := blk_frozen a0.out 0
     have d4 := blk_frozen a0.out 1
     have d2 := blk_frozen a0.out 2
     go_wp2
     go_meet
     case rel => exact ⟨_, (decide (a2 < 70)), (by first | rfl | (simp; done) | (simp [*]; done)), H', ⟨by have := b2.out; first | omega | exact Nat.le_refl _⟩, ⟨bz a0.out⟩, ⟨wz HB.out⟩⟩
    ·rw [if_neg c4] at H
     have c4b0 : decide (a2 < (l0_1.length : Int)) = false := decide_eq_false c4
     clear c4
     (first | rw [c4b0] | (simp only [i64_w, i32_w]; rw [c4b0]) | skip)
     have H' := Aside0.mk H
     clear H
     have d5 : wr.cell? ⟨a1, 0, none⟩ = some (.int .i64 a0_0) := (blk_cell a0.out 0).trans rfl
     have b4 : wr.cell? ⟨a1, 1, none⟩ = some (.slice A0_1 l0_1.length c0_1) := (blk_cell a0.out 1).trans rfl
     have b6 : wr.cell? ⟨a1, 2, none⟩ = some (.slice A0_2 l0_2.length c0_2) := (blk_cell a0.out 2).trans rfl
     have d0 := blk_frozen a0.out 0
     have b7 := blk_frozen a0.out 1
     have d1 := blk_frozen a0.out 2
     go_wp2
     go_meet
     case rel => exact ⟨_, (false), (by first | rfl | (simp; done) | (simp [*]; done)), H', ⟨by have := b2.out; first | omega | exact Nat.le_refl _⟩, ⟨bz a0.out⟩, ⟨wz HB.out⟩⟩
   case rest =>
    clear d3
    try clear p2
    try clear c4
    try clear c4b0
    try clear c6
    try clear b3
    try clear b8
    try clear b5
    try clear d5
    try clear b4
    try clear b6
    try clear b9
    try clear d4
    try clear d2
    try clear d0
    try clear b7
    try clear d1
    try clear p2
    obtain ⟨kq, a6, rfl, HA, e1, a0, HB⟩ := hcut
    cases kq with
    | zero => exact absurd HA.out (by simp [Pr26a.j1])
    | succ kj2 =>
     have H := HA.out
     clear HA
     simp only [Pr26a.j1] at H
     by_cases c7 : a6 = true
     ·subst c7
      have H1 : (if 0 ≤ a2 then (if a2 < (l0_1.length : Int) then (if ((rdOf ByteArray.empty l0_1 a2).size : Int) > 300 then (some false) else (Pr26a.l0 kj2 (wrap64 (a2 + 1)) a0_0 l0_1 l0_2)) else (none)) else (none)) = some r := by rw [if_pos rfl] at H; exact H
      clear H
      have H := H1
      clear H1
      by_cases c8 : 0 ≤ a2
      ·rw [if_pos c8] at H
       have c8b0 : decide (0 ≤ a2) = true := decide_eq_true c8
       clear c8
       by_cases c9 : a2 < (l0_1.length : Int)
       ·rw [if_pos c9] at H
        have c9b0 : decide (a2 < (l0_1.length : Int)) = true := decide_eq_true c9
        clear c9
        by_cases c10 : ((rdOf ByteArray.empty l0_1 a2).size : Int) > 300
        ·rw [if_pos c10] at H
         have c10b0 : decide (300 < ((rdOf ByteArray.empty l0_1 a2).size : Int)) = true := decide_eq_true c10
         have c10b1 : decide (300 < (rdOf ByteArray.empty l0_1 a2).size) = true := decide_eq_true (by omega)
         clear c10
         obtain rfl := Option.some.inj H
         have g4 : wc.cell? ⟨a1, 0, none⟩ = some (.int .i64 a0_0) := (blk_cell a0.out 0).trans rfl
         have g5 : wc.cell? ⟨a1, 1, none⟩ = some (.slice A0_1 l0_1.length c0_1) := (blk_cell a0.out 1).trans rfl
         have h6 : wc.cell? ⟨a1, 2, none⟩ = some (.slice A0_2 l0_2.length c0_2) := (blk_cell a0.out 2).trans rfl
         have g3 := blk_frozen a0.out 0
         have h4 := blk_frozen a0.out 1
         have f2 := blk_frozen a0.out 2
         have a4 : 0 ≤ (a2 : Int) := of_decide_eq_true (by first | (with_reducible assumption) | assumption)
         have a5 : a2 < (l0_1.length : Int) := of_decide_eq_true (by first | (with_reducible assumption) | assumption)
         obtain ⟨d6, b0, a3⟩ := Kd.at_string b1.out a2 a4 a5
         cases b0
         replace a3 := (HB.out.cell (World.block_lt_of_cell? w _ a3)).trans a3
         replace a4 := eq_true a4
         replace a5 := eq_true a5
         go_wp2
         go_ret
         exact ⟨by first | rfl | (simp [errW_none, errW_some] <;> rfl) | (simp [*, errW_none, errW_some] <;> rfl), wz HB.out⟩
        ·rw [if_neg c10] at H
         have c10b0 : decide (300 < ((rdOf ByteArray.empty l0_1 a2).size : Int)) = false := decide_eq_false c10
         have c10b1 : decide (300 < (rdOf ByteArray.empty l0_1 a2).size) = false := decide_eq_false (by omega)
         clear c10
         have H' := Aside0.mk H
         clear H
         have g6 : wc.cell? ⟨a1, 0, none⟩ = some (.int .i64 a0_0) := (blk_cell a0.out 0).trans rfl
         have e9 : wc.cell? ⟨a1, 1, none⟩ = some (.slice A0_1 l0_1.length c0_1) := (blk_cell a0.out 1).trans rfl
         have f4 : wc.cell? ⟨a1, 2, none⟩ = some (.slice A0_2 l0_2.length c0_2) := (blk_cell a0.out 2).trans rfl
         have g1 := blk_frozen a0.out 0
         have h3 := blk_frozen a0.out 1
         have e4 := blk_frozen a0.out 2
         have a4 : 0 ≤ (a2 : Int) := of_decide_eq_true (by first | (with_reducible assumption) | assumption)
         have a5 : a2 < (l0_1.length : Int) := of_decide_eq_true (by first | (with_reducible assumption) | assumption)
         obtain ⟨d6, b0, a3⟩ := Kd.at_string b1.out a2 a4 a5
         cases b0
         replace a3 := (HB.out.cell (World.block_lt_of_cell? w _ a3)).trans a3
         replace a4 := eq_true a4
         replace a5 := eq_true a5
         go_wp2
         go_roundg kj2
         case measure => have := b2.out; have := e1.out; omega
         case rel => exact ⟨(wrap64 (a2 + 1)), (by first | rfl | (simp; done) | (simp [*]; done)), H', ⟨by have := b2.out; have := e1.out; omega⟩, ⟨bz a0.out⟩, ⟨wz HB.out⟩⟩
       ·rw [if_neg c9] at H
        exact absurd H (by simp)
      ·rw [if_neg c8] at H
       exact absurd H (by simp)
     ·replace c7 := Bool.eq_false_iff.mpr c7
      subst c7
      have H1 : (if (l0_1.length : Int) < 70 then (if (l0_2.length : Int) ≤ 200 then (if a0_0 ≤ 60 then (some true) else (some (decide (a0_0 > 2048)))) else (some false)) else (some false)) = some r := by rw [if_neg (show ¬ (false = true) by decide)] at H; exact H
      clear H
      have H := H1
      clear H1
      by_cases a9 : (l0_1.length : Int) < 70
      ·rw [if_pos a9] at H
       have c13b0 : decide ((l0_1.length : Int) < 70) = true := decide_eq_true a9
       have c13b1 : decide (l0_1.length < 70) = true := decide_eq_true (by omega)
       clear a9
       by_cases a7 : (l0_2.length : Int) ≤ 200
       ·rw [if_pos a7] at H
        have c14b0 : decide ((l0_2.length : Int) ≤ 200) = true := decide_eq_true a7
        have c14b1 : decide (l0_2.length ≤ 200) = true := decide_eq_true (by omega)
        clear a7
        by_cases a8 : a0_0 ≤ 60
        ·rw [if_pos a8] at H
         have c15b0 : decide (a0_0 ≤ 60) = true := decide_eq_true a8
         clear a8
         obtain rfl := Option.some.inj H
         have h5 : wc.cell? ⟨a1, 0, none⟩ = some (.int .i64 a0_0) := (blk_cell a0.out 0).trans rfl
         have f7 : wc.cell? ⟨a1, 1, none⟩ = some (.slice A0_1 l0_1.length c0_1) := (blk_cell a0.out 1).trans rfl
         have h0 : wc.cell? ⟨a1, 2, none⟩ = some (.slice A0_2 l0_2.length c0_2) := (blk_cell a0.out 2).trans rfl
         have e7 := blk_frozen a0.out 0
         have f6 := blk_frozen a0.out 1
         have e5 := blk_frozen a0.out 2
         go_wp2
         go_ret
         exact ⟨by first | rfl | (simp [errW_none, errW_some] <;> rfl) | (simp [*, errW_none, errW_some] <;> rfl), wz HB.out⟩
        ·rw [if_neg a8] at H
         have c15b0 : decide (a0_0 ≤ 60) = false := decide_eq_false a8
         clear a8
         obtain rfl := Option.some.inj H
         have f8 : wc.cell? ⟨a1, 0, none⟩ = some (.int .i64 a0_0) := (blk_cell a0.out 0).trans rfl
         have g2 : wc.cell? ⟨a1, 1, none⟩ = some (.slice A0_1 l0_1.length c0_1) := (blk_cell a0.out 1).trans rfl
         have f1 : wc.cell? ⟨a1, 2, none⟩ = some (.slice A0_2 l0_2.length c0_2) := (blk_cell a0.out 2).trans rfl
         have g7 := blk_frozen a0.out 0
         have f5 := blk_frozen a0.out 1
         have f9 := blk_frozen a0.out 2
         go_wp2
         go_ret
         exact ⟨by first | rfl | (simp [errW_none, errW_some] <;> rfl) | (simp [*, errW_none, errW_some] <;> rfl), wz HB.out⟩
       ·rw [if_neg a7] at H
        have c14b0 : decide ((l0_2.length : Int) ≤ 200) = false := decide_eq_false a7
        have c14b1 : decide (l0_2.length ≤ 200) = false := decide_eq_false (by omega)
        clear a7
        obtain rfl := Option.some.inj H
        have h7 : wc.cell? ⟨a1, 0, none⟩ = some (.int .i64 a0_0) := (blk_cell a0.out 0).trans rfl
        have g0 : wc.cell? ⟨a1, 1, none⟩ = some (.slice A0_1 l0_1.length c0_1) := (blk_cell a0.out 1).trans rfl
        have h1 : wc.cell? ⟨a1, 2, none⟩ = some (.slice A0_2 l0_2.length c0_2) := (blk_cell a0.out 2).trans rfl
        have g8 := blk_frozen a0.out 0
        have e3 := blk_frozen a0.out 1
        have e6 := blk_frozen a0.out 2
        go_wp2
        go_ret
        exact ⟨by first | rfl | (simp [errW_none, errW_some] <;> rfl) | (simp [*, errW_none, errW_some] <;> rfl), wz HB.out⟩
      ·rw [if_neg a9] at H
       have c13b0 : decide ((l0_1.length : Int) < 70) = false := decide_eq_false a9
       have c13b1 : decide (l0_1.length < 70) = false := decide_eq_false (by omega)
       clear a9
       obtain rfl := Option.some.inj H
       have f3 : wc.cell? ⟨a1, 0, none⟩ = some (.int .i64 a0_0) := (blk_cell a0.out 0).trans rfl
       have e8 : wc.cell? ⟨a1, 1, none⟩ = some (.slice A0_1 l0_1.length c0_1) := (blk_cell a0.out 1).trans rfl
       have e2 : wc.cell? ⟨a1, 2, none⟩ = some (.slice A0_2 l0_2.length c0_2) := (blk_cell a0.out 2).trans rfl
       have g9 := blk_frozen a0.out 0
       have h2 := blk_frozen a0.out 1
       have f0 := blk_frozen a0.out 2
       go_wp2
       go_ret
       exact ⟨by first | rfl | (simp [errW_none, errW_some] <;> rfl) | (simp [*, errW_none, errW_some] <;> rfl), wz HB.out⟩
def Pl33a.f (k : Nat) (a0_0 : Int) (l0_1 : List ByteArray) (l0_2 : List (S80)) : Option (Bool) := (Pr26a.f k a0_0 l0_1 l0_2).bind fun t104 => (if t104 = true then (if a0_0 ≤ 16 then (if (l0_2.length : Int) ≤ 60 then (some (decide ((l0_1.length : Int) ≤ 8))) else (some false)) else (if a0_0 > 2048 then (if (l0_2.length : Int) ≤ 60 then (some (decide ((l0_1.length : Int) ≤ 8))) else (some false)) else (some false))) else (some false))
theorem Pl33a.mono : ∀ a0 a1 a2 k, LeO (Pl33a.f k a0 a1 a2) (Pl33a.f (k + 1) a0 a1 a2) := by
 intro a0 a1 a2 k
 unfold Pl33a.f
 repeat' first
   | (with_reducible exact Pr26a.mono _ _ _ _)
   | (with_reducible exact LeO.refl _)
   | (with_reducible exact LeO.none _)
   | (with_reducible refine LeO.ite ?_ ?_)
   | (with_reducible refine LeO.bind ?_ (fun _ => ?_))
   | exact Pr26a.mono _ _ _ _
   | exact LeO.none _
   | refine LeO.ite ?_ ?_
   | refine LeO.bind ?_ (fun _ => ?_)
set_option maxHeartbeats 8000000 in
set_option maxRecDepth 100000 in
theorem Pl33a.calls (k : Nat) (a0_0 : Int) (A0_1 : Option Addr) (c0_1 : Nat) (l0_1 : List ByteArray) (A0_2 : Option Addr) (c0_2 : Nat) (l0_2 : List (S80)) (r : Bool) (w : World) (hr0_1 : Kd.C Kd.string w A0_1 l0_1.length l0_1) (hc0_1 : l0_1.length ≤ c0_1) (hr0_2 : Kd.C k80 w A0_2 l0_2.length l0_2) (hc0_2 : l0_2.length ≤ c0_2) (h : Pl33a.f k a0_0 l0_1 l0_2 = some r) :
  Calls Try.prog 15 #[.agg #[.int .i64 a0_0, .slice A0_1 l0_1.length c0_1, .slice A0_2 l0_2.length c0_2]] w fun e w' => e = .returned (.bool r) ∧ Below w.heap.size w w' := by
 have k8 := Try.underlying25
 have a7 := Aside0.mk hr0_1
 have a9 := Aside0.mk hc0_1
 clear hr0_1 hc0_1
 have a8 := Aside0.mk hr0_2
 have a6 := Aside0.mk hc0_2
 clear hr0_2 hc0_2
 have HB := Aside0.mk (Below.refl w.heap.size w)
 have H : ((Pr26a.f k a0_0 l0_1 l0_2).bind fun b8 => (if b8 = true then (if a0_0 ≤ 16 then (if (l0_2.length : Int) ≤ 60 then (some (decide ((l0_1.length : Int) ≤ 8))) else (some false)) else (if a0_0 > 2048 then (if (l0_2.length : Int) ≤ 60 then (some (decide ((l0_1.length : Int) ≤ 8))) else (some false)) else (some false))) else (some false))) = some r := h
 clear h
 replace H := Option.bind_eq_some_iff.mp H
 obtain ⟨b8, d9, H⟩ := H
 replace H : (if b8 = true then (if a0_0 ≤ 16 then (if (l0_2.length : Int) ≤ 60 then (some (decide ((l0_1.length : Int) ≤ 8))) else (some false)) else (if a0_0 > 2048 then (if (l0_2.length : Int) ≤ 60 then (some (decide ((l0_1.length : Int) ≤ 8))) else (some false)) else (some false))) else (some false)) = some r := H
 have A2 := Aside0.mk d9
 clear d9
 by_cases c3 : b8 = true
 ·subst c3
  have H1 : (if a0_0 ≤ 16 then (if (l0_2.length : Int) ≤ 60 then (some (decide ((l0_1.length : Int) ≤ 8))) else (some false)) else (if a0_0 > 2048 then (if (l0_2.length : Int) ≤ 60 then (some (decide ((l0_1.length : Int) ≤ 8))) else (some false)) else (some false))) = some r := by rw [if_pos rfl] at H; exact H
  clear H
  have H := H1
  clear H1
  by_cases c4 : a0_0 ≤ 16
  ·rw [if_pos c4] at H
   have c4b0 : decide (a0_0 ≤ 16) = true := decide_eq_true c4
   clear c4
   by_cases c5 : (l0_2.length : Int) ≤ 60
   ·rw [if_pos c5] at H
    have c5b0 : decide ((l0_2.length : Int) ≤ 60) = true := decide_eq_true c5
    have c5b1 : decide (l0_2.length ≤ 60) = true := decide_eq_true (by omega)
    clear c5
    obtain rfl := Option.some.inj H
    go_enter Try.func15, Try.ntmps15
    go_wp2_with (first | ((with_reducible refine gate_dst (N := 1) rfl ?_); (try (refine gate_guard (by rfl) ?_; dsimp only)); refine box_event ?hg (N := 1) ?hd (cs := #[.int .i64 a0_0, .slice A0_1 l0_1.length c0_1, .slice A0_2 l0_2.length c0_2]) (t := 25) ?hr ?_; (case hd => rfl); (case hg => rfl); (case hr => first | (go_simp; done) | (go_simp; rfl)); intro a1 hg w6 hbox hb; have a2 := Aside0.mk (below_step (wz HB.out) hb); have a3 := Aside0.mk (hbox); have a4 := Aside0.mk ((by rw [hg]; exact (below_size (wz HB.out)) : w.heap.size ≤ a1)); have a5 := Aside0.mk ((by rw [hg]; exact (below_size (wz HB.out)) : w.heap.size ≤ a1)); clear HB; have HB := a2; have a0 := a3; have b3 := a4; have b1 := a5; clear a2 a3 a4 a5; clear hb hbox hg; have k4 : w6.cell? ⟨a1, 0, none⟩ = some (.int .i64 a0_0) := (blk_cell a0.out 0).trans rfl; have k7 : w6.cell? ⟨a1, 1, none⟩ = some (.slice A0_1 l0_1.length c0_1) := (blk_cell a0.out 1).trans rfl; have j7 : w6.cell? ⟨a1, 2, none⟩ = some (.slice A0_2 l0_2.length c0_2) := (blk_cell a0.out 2).trans rfl; have k5 := blk_frozen a0.out 0; have k1 := blk_frozen a0.out 1; have k0 := blk_frozen a0.out 2) | ((with_reducible refine gate_callee (f := 66) rfl ?_); refine goesL_ (some 4) rfl rfl Try.func66 (by kernel_rfl) rfl #[.agg #[.int .i64 a0_0, .slice A0_1 l0_1.length c0_1, .slice A0_2 l0_2.length c0_2]] rfl (by (try simp only [List.map_toArray, List.map_cons, List.map_nil]); first | done | rfl | (simp only [List.length_drop, List.length_take]; rfl)) ?_; (with_reducible refine (Pr26a.calls k a0_0 _ _ l0_1 _ _ l0_2 true _ ?b4 ?b2 ?b5 ?b0 A2.out).mono ?_); (case b4 => exact cz a7.out HB.out); (case b2 => exact a9.out); (case b5 => exact cz a8.out HB.out); (case b0 => exact a6.out); rintro e w8 ⟨rfl, hb⟩; refine ⟨_, rfl, ?_⟩; have a2 := Aside0.mk (blk_below (bz a0.out) hb); have a3 := Aside0.mk (below_step (wz HB.out) hb); clear a0; clear HB; have a0 := a2; have HB := a3; clear a2 a3; (try clear hb); (try clear b9); (try clear hk); (try clear hi); have k6 : w8.cell? ⟨a1, 0, none⟩ = some (.int .i64 a0_0) := (blk_cell a0.out 0).trans rfl; have j6 : w8.cell? ⟨a1, 1, none⟩ = some (.slice A0_1 l0_1.length c0_1) := (blk_cell a0.out 1).trans rfl; have k3 : w8.cell? ⟨a1, 2, none⟩ = some (.slice A0_2 l0_2.length c0_2) := (blk_cell a0.out 2).trans rfl; have j9 := blk_frozen a0.out 0; have j8 := blk_frozen a0.out 1; have k2 := blk_frozen a0.out 2))
    go_ret
    exact ⟨by first | rfl | (simp [errW_none, errW_some] <;> rfl) | (simp [*, errW_none, errW_some] <;> rfl), wz HB.out⟩
   ·rw [if_neg c5] at H
    have c5b0 : decide ((l0_2.length : Int) ≤ 60) = false := decide_eq_false c5
    have c5b1 : decide (l0_2.length ≤ 60) = false := decide_eq_false (by omega)
    clear c5
    obtain rfl := Option.some.inj H
    go_enter Try.func15, Try.ntmps15
    go_wp2_with (first | ((with_reducible refine gate_dst (N := 1) rfl ?_); (try (refine gate_guard (by rfl) ?_; dsimp only)); refine box_event ?hg (N := 1) ?hd (cs := #[.int .i64 a0_0, .slice A0_1 l0_1.length c0_1, .slice A0_2 l0_2.length c0_2]) (t := 25) ?hr ?_; (case hd => rfl); (case hg => rfl); (case hr => first | (go_simp; done) | (go_simp; rfl)); intro a1 hg d1 hbox hb; have a2 := Aside0.mk (below_step (wz HB.out) hb); have a3 := Aside0.mk (hbox); have a4 := Aside0.mk ((by rw [hg]; exact (below_size (wz HB.out)) : w.heap.size ≤ a1)); have a5 := Aside0.mk ((by rw [hg]; exact (below_size (wz HB.out)) : w.heap.size ≤ a1)); clear HB; have HB := a2; have a0 := a3; have b3 := a4; have b1 := a5; clear a2 a3 a4 a5; clear hb hbox hg; have h4 : d1.cell? ⟨a1, 0, none⟩ = some (.int .i64 a0_0) := (blk_cell a0.out 0).trans rfl; have i7 : d1.cell? ⟨a1, 1, none⟩ = some (.slice A0_1 l0_1.length c0_1) := (blk_cell a0.out 1).trans rfl; have j4 : d1.cell? ⟨a1, 2, none⟩ = some (.slice A0_2 l0_2.length c0_2) := (blk_cell a0.out 2).trans rfl; have i5 := blk_frozen a0.out 0; have h7 := blk_frozen a0.out 1; have e5 := blk_frozen a0.out 2) | ((with_reducible refine gate_callee (f := 66) rfl ?_); refine goesL_ (some 4) rfl rfl Try.func66 (by kernel_rfl) rfl #[.agg #[.int .i64 a0_0, .slice A0_1 l0_1.length c0_1, .slice A0_2 l0_2.length c0_2]] rfl (by (try simp only [List.map_toArray, List.map_cons, List.map_nil]); first | done | rfl | (simp only [List.length_drop, List.length_take]; rfl)) ?_; (with_reducible refine (Pr26a.calls k a0_0 _ _ l0_1 _ _ l0_2 true _ ?b4 ?b2 ?b5 ?b0 A2.out).mono ?_); (case b4 => exact cz a7.out HB.out); (case b2 => exact a9.out); (case b5 => exact cz a8.out HB.out); (case b0 => exact a6.out); rintro e d7 ⟨rfl, hb⟩; refine ⟨_, rfl, ?_⟩; have a2 := Aside0.mk (blk_below (bz a0.out) hb); have a3 := Aside0.mk (below_step (wz HB.out) hb); clear a0; clear HB; have a0 := a2; have HB := a3; clear a2 a3; (try clear hb); (try clear b9); (try clear hk); (try clear hi); have i1 : d7.cell? ⟨a1, 0, none⟩ = some (.int .i64 a0_0) := (blk_cell a0.out 0).trans rfl; have h5 : d7.cell? ⟨a1, 1, none⟩ = some (.slice A0_1 l0_1.length c0_1) := (blk_cell a0.out 1).trans rfl; have f2 : d7.cell? ⟨a1, 2, none⟩ = some (.slice A0_2 l0_2.length c0_2) := (blk_cell a0.out 2).trans rfl; have f0 := blk_frozen a0.out 0; have f7 := blk_frozen a0.out 1; have h0 := blk_frozen a0.out 2))
    go_ret
    exact ⟨by first | rfl | (simp [errW_none, errW_some] <;> rfl) | (simp [*, errW_none, errW_some] <;> rfl), wz HB.out⟩
  ·rw [if_neg c4] at H
   have c4b0 : decide (a0_0 ≤ 16) = false := decide_eq_false c4
   clear c4
   by_cases b7 : a0_0 > 2048
   ·rw [if_pos b7] at H
    have c14b0 : decide (2048 < a0_0) = true := decide_eq_true b7
    clear b7
    by_cases b6 : (l0_2.length : Int) ≤ 60
    ·rw [if_pos b6] at H
     have c15b0 : decide ((l0_2.length : Int) ≤ 60) = true := decide_eq_true b6
     have c15b1 : decide (l0_2.length ≤ 60) = true := decide_eq_true (by omega)
     clear b6
     obtain rfl := Option.some.inj H
     go_enter Try.func15, Try.ntmps15
     go_wp2_with (first | ((with_reducible refine gate_dst (N := 1) rfl ?_); (try (refine gate_guard (by rfl) ?_; dsimp only)); refine box_event ?hg (N := 1) ?hd (cs := #[.int .i64 a0_0, .slice A0_1 l0_1.length c0_1, .slice A0_2 l0_2.length c0_2]) (t := 25) ?hr ?_; (case hd => rfl); (case hg => rfl); (case hr => first | (go_simp; done) | (go_simp; rfl)); intro a1 hg d8 hbox hb; have a2 := Aside0.mk (below_step (wz HB.out) hb); have a3 := Aside0.mk (hbox); have a4 := Aside0.mk ((by rw [hg]; exact (below_size (wz HB.out)) : w.heap.size ≤ a1)); have a5 := Aside0.mk ((by rw [hg]; exact (below_size (wz HB.out)) : w.heap.size ≤ a1)); clear HB; have HB := a2; have a0 := a3; have b3 := a4; have b1 := a5; clear a2 a3 a4 a5; clear hb hbox hg; have i3 : d8.cell? ⟨a1, 0, none⟩ = some (.int .i64 a0_0) := (blk_cell a0.out 0).trans rfl; have h3 : d8.cell? ⟨a1, 1, none⟩ = some (.slice A0_1 l0_1.length c0_1) := (blk_cell a0.out 1).trans rfl; have h9 : d8.cell? ⟨a1, 2, none⟩ = some (.slice A0_2 l0_2.length c0_2) := (blk_cell a0.out 2).trans rfl; have h6 := blk_frozen a0.out 0; have g8 := blk_frozen a0.out 1; have h2 := blk_frozen a0.out 2) | ((with_reducible refine gate_callee (f := 66) rfl ?_); refine goesL_ (some 4) rfl rfl Try.func66 (by kernel_rfl) rfl #[.agg #[.int .i64 a0_0, .slice A0_1 l0_1.length c0_1, .slice A0_2 l0_2.length c0_2]] rfl (by (try simp only [List.map_toArray, List.map_cons, List.map_nil]); first | done | rfl | (simp only [List.length_drop, List.length_take]; rfl)) ?_; (with_reducible refine (Pr26a.calls k a0_0 _ _ l0_1 _ _ l0_2 true _ ?b4 ?b2 ?b5 ?b0 A2.out).mono ?_); (case b4 => exact cz a7.out HB.out); (case b2 => exact a9.out); (case b5 => exact cz a8.out HB.out); (case b0 => exact a6.out); rintro e d3 ⟨rfl, hb⟩; refine ⟨_, rfl, ?_⟩; have a2 := Aside0.mk (blk_below (bz a0.out) hb); have a3 := Aside0.mk (below_step (wz HB.out) hb); clear a0; clear HB; have a0 := a2; have HB := a3; clear a2 a3; (try clear hb); (try clear b9); (try clear hk); (try clear hi); have e6 : d3.cell? ⟨a1, 0, none⟩ = some (.int .i64 a0_0) := (blk_cell a0.out 0).trans rfl; have h8 : d3.cell? ⟨a1, 1, none⟩ = some (.slice A0_1 l0_1.length c0_1) := (blk_cell a0.out 1).trans rfl; have g0 : d3.cell? ⟨a1, 2, none⟩ = some (.slice A0_2 l0_2.length c0_2) := (blk_cell a0.out 2).trans rfl; have f6 := blk_frozen a0.out 0; have i8 := blk_frozen a0.out 1; have g3 := blk_frozen a0.out 2))
     go_ret
     exact ⟨by first | rfl | (simp [errW_none, errW_some] <;> rfl) | (simp [*, errW_none, errW_some] <;> rfl), wz HB.out⟩
    ·rw [if_neg b6] at H
     have c15b0 : decide ((l0_2.length : Int) ≤ 60) = false := decide_eq_false b6
     have c15b1 : decide (l0_2.length ≤ 60) = false := decide_eq_false (by omega)
     clear b6
     obtain rfl := Option.some.inj H
     go_enter Try.func15, Try.ntmps15
     go_wp2_with (first | ((with_reducible refine gate_dst (N := 1) rfl ?_); (try (refine gate_guard (by rfl) ?_; dsimp only)); refine box_event ?hg (N := 1) ?hd (cs := #[.int .i64 a0_0, .slice A0_1 l0_1.length c0_1, .slice A0_2 l0_2.length c0_2]) (t := 25) ?hr ?_; (case hd => rfl); (case hg => rfl); (case hr => first | (go_simp; done) | (go_simp; rfl)); intro a1 hg d6 hbox hb; have a2 := Aside0.mk (below_step (wz HB.out) hb); have a3 := Aside0.mk (hbox); have a4 := Aside0.mk ((by rw [hg]; exact (below_size (wz HB.out)) : w.heap.size ≤ a1)); have a5 := Aside0.mk ((by rw [hg]; exact (below_size (wz HB.out)) : w.heap.size ≤ a1)); clear HB; have HB := a2; have a0 := a3; have b3 := a4; have b1 := a5; clear a2 a3 a4 a5; clear hb hbox hg; have j5 : d6.cell? ⟨a1, 0, none⟩ = some (.int .i64 a0_0) := (blk_cell a0.out 0).trans rfl; have g7 : d6.cell? ⟨a1, 1, none⟩ = some (.slice A0_1 l0_1.length c0_1) := (blk_cell a0.out 1).trans rfl; have h1 : d6.cell? ⟨a1, 2, none⟩ = some (.slice A0_2 l0_2.length c0_2) := (blk_cell a0.out 2).trans rfl; have i9 := blk_frozen a0.out 0; have g6 := blk_frozen a0.out 1; have f9 := blk_frozen a0.out 2) | ((with_reducible refine gate_callee (f := 66) rfl ?_); refine goesL_ (some 4) rfl rfl Try.func66 (by kernel_rfl) rfl #[.agg #[.int .i64 a0_0, .slice A0_1 l0_1.length c0_1, .slice A0_2 l0_2.length c0_2]] rfl (by (try simp only [List.map_toArray, List.map_cons, List.map_nil]); first | done | rfl | (simp only [List.length_drop, List.length_take]; rfl)) ?_; (with_reducible refine (Pr26a.calls k a0_0 _ _ l0_1 _ _ l0_2 true _ ?b4 ?b2 ?b5 ?b0 A2.out).mono ?_); (case b4 => exact cz a7.out HB.out); (case b2 => exact a9.out); (case b5 => exact cz a8.out HB.out); (case b0 => exact a6.out); rintro e d4 ⟨rfl, hb⟩; refine ⟨_, rfl, ?_⟩; have a2 := Aside0.mk (blk_below (bz a0.out) hb); have a3 := Aside0.mk (below_step (wz HB.out) hb); clear a0; clear HB; have a0 := a2; have HB := a3; clear a2 a3; (try clear hb); (try clear b9); (try clear hk); (try clear hi); have e8 : d4.cell? ⟨a1, 0, none⟩ = some (.int .i64 a0_0) := (blk_cell a0.out 0).trans rfl; have i0 : d4.cell? ⟨a1, 1, none⟩ = some (.slice A0_1 l0_1.length c0_1) := (blk_cell a0.out 1).trans rfl; have e2 : d4.cell? ⟨a1, 2, none⟩ = some (.slice A0_2 l0_2.length c0_2) := (blk_cell a0.out 2).trans rfl; have j0 := blk_frozen a0.out 0; have g2 := blk_frozen a0.out 1; have i4 := blk_frozen a0.out 2))
     go_ret
     exact ⟨by first | rfl | (simp [errW_none, errW_some] <;> rfl) | (simp [*, errW_none, errW_some] <;> rfl), wz HB.out⟩
   ·rw [if_neg b7] at H
    have c14b0 : decide (2048 < a0_0) = false := decide_eq_false b7
    clear b7
    obtain rfl := Option.some.inj H
    go_enter Try.func15, Try.ntmps15
    go_wp2_with (first | ((with_reducible refine gate_dst (N := 1) rfl ?_); (try (refine gate_guard (by rfl) ?_; dsimp only)); refine box_event ?hg (N := 1) ?hd (cs := #[.int .i64 a0_0, .slice A0_1 l0_1.length c0_1, .slice A0_2 l0_2.length c0_2]) (t := 25) ?hr ?_; (case hd => rfl); (case hg => rfl); (case hr => first | (go_simp; done) | (go_simp; rfl)); intro a1 hg d0 hbox hb; have a2 := Aside0.mk (below_step (wz HB.out) hb); have a3 := Aside0.mk (hbox); have a4 := Aside0.mk ((by rw [hg]; exact (below_size (wz HB.out)) : w.heap.size ≤ a1)); have a5 := Aside0.mk ((by rw [hg]; exact (below_size (wz HB.out)) : w.heap.size ≤ a1)); clear HB; have HB := a2; have a0 := a3; have b3 := a4; have b1 := a5; clear a2 a3 a4 a5; clear hb hbox hg; have g4 : d0.cell? ⟨a1, 0, none⟩ = some (.int .i64 a0_0) := (blk_cell a0.out 0).trans rfl; have i2 : d0.cell? ⟨a1, 1, none⟩ = some (.slice A0_1 l0_1.length c0_1) := (blk_cell a0.out 1).trans rfl; have f5 : d0.cell? ⟨a1, 2, none⟩ = some (.slice A0_2 l0_2.length c0_2) := (blk_cell a0.out 2).trans rfl; have g9 := blk_frozen a0.out 0; have f8 := blk_frozen a0.out 1; have e4 := blk_frozen a0.out 2) | ((with_reducible refine gate_callee (f := 66) rfl ?_); refine goesL_ (some 4) rfl rfl Try.func66 (by kernel_rfl) rfl #[.agg #[.int .i64 a0_0, .slice A0_1 l0_1.length c0_1, .slice A0_2 l0_2.length c0_2]] rfl (by (try simp only [List.map_toArray, List.map_cons, List.map_nil]); first | done | rfl | (simp only [List.length_drop, List.length_take]; rfl)) ?_; (with_reducible refine (Pr26a.calls k a0_0 _ _ l0_1 _ _ l0_2 true _ ?b4 ?b2 ?b5 ?b0 A2.out).mono ?_); (case b4 => exact cz a7.out HB.out); (case b2 => exact a9.out); (case b5 => exact cz a8.out HB.out); (case b0 => exact a6.out); rintro e d5 ⟨rfl, hb⟩; refine ⟨_, rfl, ?_⟩; have a2 := Aside0.mk (blk_below (bz a0.out) hb); have a3 := Aside0.mk (below_step (wz HB.out) hb); clear a0; clear HB; have a0 := a2; have HB := a3; clear a2 a3; (try clear hb); (try clear b9); (try clear hk); (try clear hi); have g1 : d5.cell? ⟨a1, 0, none⟩ = some (.int .i64 a0_0) := (blk_cell a0.out 0).trans rfl; have e9 : d5.cell? ⟨a1, 1, none⟩ = some (.slice A0_1 l0_1.length c0_1) := (blk_cell a0.out 1).trans rfl; have f1 : d5.cell? ⟨a1, 2, none⟩ = some (.slice A0_2 l0_2.length c0_2) := (blk_cell a0.out 2).trans rfl; have j2 := blk_frozen a0.out 0; have j3 := blk_frozen a0.out 1; have e3 := blk_frozen a0.out 2))
    go_ret
    exact ⟨by first | rfl | (simp [errW_none, errW_some] <;> rfl) | (simp [*, errW_none, errW_some] <;> rfl), wz HB.out⟩
 ·replace c3 := Bool.eq_false_iff.mpr c3
  subst c3
  have H1 : (some false) = some r := by rw [if_neg (show ¬ (false = true) by decide)] at H; exact H
  clear H
  have H := H1
  clear H1
  obtain rfl := Option.some.inj H
  go_enter Try.func15, Try.ntmps15
  go_wp2_with (first | ((with_reducible refine gate_dst (N := 1) rfl ?_); (try (refine gate_guard (by rfl) ?_; dsimp only)); refine box_event ?hg (N := 1) ?hd (cs := #[.int .i64 a0_0, .slice A0_1 l0_1.length c0_1, .slice A0_2 l0_2.length c0_2]) (t := 25) ?hr ?_; (case hd => rfl); (case hg => rfl); (case hr => first | (go_simp; done) | (go_simp; rfl)); intro a1 hg d2 hbox hb; have a2 := Aside0.mk (below_step (wz HB.out) hb); have a3 := Aside0.mk (hbox); have a4 := Aside0.mk ((by rw [hg]; exact (below_size (wz HB.out)) : w.heap.size ≤ a1)); have a5 := Aside0.mk ((by rw [hg]; exact (below_size (wz HB.out)) : w.heap.size ≤ a1)); clear HB; have HB := a2; have a0 := a3; have b3 := a4; have b1 := a5; clear a2 a3 a4 a5; clear hb hbox hg; have e1 : d2.cell? ⟨a1, 0, none⟩ = some (.int .i64 a0_0) := (blk_cell a0.out 0).trans rfl; have e0 : d2.cell? ⟨a1, 1, none⟩ = some (.slice A0_1 l0_1.length c0_1) := (blk_cell a0.out 1).trans rfl; have e7 : d2.cell? ⟨a1, 2, none⟩ = some (.slice A0_2 l0_2.length c0_2) := (blk_cell a0.out 2).trans rfl; have g5 := blk_frozen a0.out 0; have f3 := blk_frozen a0.out 1; have f4 := blk_frozen a0.out 2) | ((with_reducible refine gate_callee (f := 66) rfl ?_); refine goesL_ (some 4) rfl rfl Try.func66 (by kernel_rfl) rfl #[.agg #[.int .i64 a0_0, .slice A0_1 l0_1.length c0_1, .slice A0_2 l0_2.length c0_2]] rfl (by (try simp only [List.map_toArray, List.map_cons, List.map_nil]); first | done | rfl | (simp only [List.length_drop, List.length_take]; rfl)) ?_; (with_reducible refine (Pr26a.calls k a0_0 _ _ l0_1 _ _ l0_2 false _ ?b4 ?b2 ?b5 ?b0 A2.out).mono ?_); (case b4 => exact cz a7.out HB.out); (case b2 => exact a9.out); (case b5 => exact cz a8.out HB.out); (case b0 => exact a6.out); rintro e k9 ⟨rfl, hb⟩; refine ⟨_, rfl, ?_⟩; have a2 := Aside0.mk (blk_below (bz a0.out) hb); have a3 := Aside0.mk (below_step (wz HB.out) hb); clear a0; clear HB; have a0 := a2; have HB := a3; clear a2 a3; (try clear hb); (try clear b9); (try clear hk); (try clear hi)))
  go_ret
  exact ⟨by first | rfl | (simp [errW_none, errW_some] <;> rfl) | (simp [*, errW_none, errW_some] <;> rfl), wz HB.out⟩
def Pr01a.l0 : Nat → List Int → List Int → Int → Option (Bool)
 | 0, _, _, _ => none
 | k + 1, x0, x1, x5 => if x5 < (x0.length : Int) then (if 0 ≤ x5 then (if x5 < (x1.length : Int) then (if (rd x0 x5) = (rd x1 x5) then (Pr01a.l0 k x0 x1 (wrap64 (x5 + 1))) else (some false)) else (none)) else (none)) else (some true)
def Pr01a.f (k : Nat) (l0 : List Int) (l1 : List Int) : Option (Bool) := if (l0.length : Int) = (l1.length : Int) then (Pr01a.l0 k l0 l1 0) else (some false)
theorem Pr01a.mono_l : ∀ k, (∀ y0 y1 y2, LeO (Pr01a.l0 k y0 y1 y2) (Pr01a.l0 (k + 1) y0 y1 y2))
 | 0 => fun _ _ _ r h => by simp [Pr01a.l0] at h
 | k + 1 => by
  have ih0 := Pr01a.mono_l k
  ·intro y0 y1 y2
   unfold Pr01a.l0
   repeat' first
   | (with_reducible exact ih0 _ _ _)
   | (with_reducible exact LeO.refl _)
   | (with_reducible exact LeO.none _)
   | (with_reducible refine LeO.ite ?_ ?_)
   | (with_reducible refine LeO.bind ?_ (fun _ => ?_))
   | exact ih0 _ _ _
   | exact LeO.none _
   | refine LeO.ite ?_ ?_
   | refine LeO.bind ?_ (fun _ => ?_)
theorem Pr01a.mono : ∀ a0 a1 k, LeO (Pr01a.f k a0 a1) (Pr01a.f (k + 1) a0 a1) := by
 intro a0 a1 k
 have ih0 := Pr01a.mono_l k
 unfold Pr01a.f
 repeat' first
   | (with_reducible exact ih0 _ _ _)
   | (with_reducible exact LeO.refl _)
   | (with_reducible exact LeO.none _)
   | (with_reducible refine LeO.ite ?_ ?_)
   | (with_reducible refine LeO.bind ?_ (fun _ => ?_))
   | exact ih0 _ _ _
   | exact LeO.none _
   | refine LeO.ite ?_ ?_
   | refine LeO.bind ?_ (fun _ => ?_)
set_option maxHeartbeats 8000000 in
set_option maxRecDepth 100000 in
theorem Pr01a.calls (k : Nat) (A0 : Option Addr) (c0 : Nat) (l0 : List Int) (A1 : Option Addr) (c1 : Nat) (l1 : List Int) (r : Bool) (w : World) (hr0 : Kd.C (Kd.int .i64) w A0 l0.length l0) (hc0 : l0.length ≤ c0) (hr1 : Kd.C (Kd.int .i64) w A1 l1.length l1) (hc1 : l1.length ≤ c1) (h : Pr01a.f k l0 l1 = some r) :
  Calls Try.prog 21 #[.slice A0 l0.length c0, .slice A1 l1.length c1] w fun e w' => e = .returned (.bool r) ∧ Drawn0 w w' := by
 have b1 := Aside0.mk hr0
 have b4 := Aside0.mk hc0
 clear hr0 hc0
 have b3 := Aside0.mk hr1
 have b5 := Aside0.mk hc1
 clear hr1 hc1
 have H : (if (l0.length : Int) = (l1.length : Int) then (Pr01a.l0 k l0 l1 0) else (some false)) = some r := h
 clear h
 by_cases c3 : (l0.length : Int) = (l1.length : Int)
 ·rw [if_pos c3] at H
  have c3b0 : ((l0.length : Int) == (l1.length : Int)) = true := beq_iff_eq.mpr c3
  have c3b1 : ((l0.length : Int) != (l1.length : Int)) = false := bne_eq_false_iff_eq.mpr c3
  have c3b2 : (l0.length == l1.length) = true := by first | simpa using c3 | (simp at c3 ⊢; omega)
  clear c3
  have H' := Aside0.mk H
  clear H
  go_enter Try.func21, Try.ntmps21
  go_wp2
  repeat (go_quiet (fail); try go_wp2)
  go_loopg [5] k (fun kq v5 w' => ∃ (a0 : Int), v5 = .int .i64 a0 ∧ Aside0 (Pr01a.l0 kq l0 l1 a0 = some r) ∧ Aside0 (kq ≤ k) ∧ Drawn0 w w')
  case atStart => exact ⟨(0), (by first | rfl | (simp; done) | (simp [*]; done)), H', ⟨Nat.le_refl _⟩, by repeat (first | exact Drawn0.refl _ | apply Drawn0.step)⟩
  case round =>
   clear H'
   try clear c1
   try clear c2
   try clear p2
   try clear c3
   try clear c3b0
   try clear c3b1
   try clear c3b2
   obtain ⟨a0, rfl, HA, b2, ⟨m1, rfl⟩⟩ := hrel
   cases gk with
   | zero => exact absurd HA.out (by simp [Pr01a.l0])
   | succ k1 =>
    have H := HA.out
    clear HA
    simp only [Pr01a.l0] at H
    by_cases c4 : a0 < (l0.length : Int)
    ·rw [if_pos c4] at H
     have c4b0 : decide (a0 < (l0.length : Int)) = true := decide_eq_true c4
     clear c4
     by_cases c5 : 0 ≤ a0
     ·rw [if_pos c5] at H
      have c5b0 : decide (0 ≤ a0) = true := decide_eq_true c5
      clear c5
      by_cases c6 : a0 < (l1.length : Int)
      ·rw [if_pos c6] at H
       have c6b0 : decide (a0 < (l1.length : Int)) = true := decide_eq_true c6
       clear c6
       by_cases c7 : (rd l0 a0) = (rd l1 a0)
       ·rw [if_pos c7] at H
        have c7b0 : ((rd l0 a0) == (rd l1 a0)) = true := beq_iff_eq.mpr c7
        have c7b1 : ((rd l0 a0) != (rd l1 a0)) = false := bne_eq_false_iff_eq.mpr c7
        clear c7
        have H' := Aside0.mk H
        clear H
        have a3 : 0 ≤ (a0 : Int) := of_decide_eq_true (by first | (with_reducible assumption) | assumption)
        have a2 : a0 < (l0.length : Int) := of_decide_eq_true (by first | (with_reducible assumption) | assumption)
        obtain ⟨b0, a6, a7⟩ := Kd.at_int b1.out a0 a3 a2
        cases a6
        replace a3 := eq_true a3
        replace a2 := eq_true a2
        have a1 : 0 ≤ (a0 : Int) := of_decide_eq_true (by first | (with_reducible assumption) | assumption)
        have a4 : a0 < (l1.length : Int) := of_decide_eq_true (by first | (with_reducible assumption) | assumption)
        obtain ⟨a9, a5, a8⟩ := Kd.at_int b3.out a0 a1 a4
        cases a5
        replace a1 := eq_true a1
        replace a4 := eq_true a4
        go_wp2
        repeat (go_quiet (fail); try go_wp2)
        go_roundg k1
        case measure => have := b2.out; omega
        case rel => exact ⟨(wrap64 (a0 + 1)), (by first | rfl | (simp; done) | (simp [*]; done)), H', ⟨by have := b2.out; omega⟩, by repeat (first | exact Drawn0.refl _ | apply Drawn0.step)⟩
       ·rw [if_neg c7] at H
        have c7b0 : ((rd l0 a0) == (rd l1 a0)) = false := beq_eq_false_iff_ne.mpr c7
        have c7b1 : ((rd l0 a0) != (rd l1 a0)) = true := bne_iff_ne.mpr c7
        obtain rfl := Option.some.inj H
        have a3 : 0 ≤ (a0 : Int) := of_decide_eq_true (by first | (with_reducible assumption) | assumption)
        have a2 : a0 < (l0.length : Int) := of_decide_eq_true (by first | (with_reducible assumption) | assumption)
        obtain ⟨b0, a6, a7⟩ := Kd.at_int b1.out a0 a3 a2
        cases a6
        replace a3 := eq_true a3
        replace a2 := eq_true a2
        have a1 : 0 ≤ (a0 : Int) := of_decide_eq_true (by first | (with_reducible assumption) | assumption)
        have a4 : a0 < (l1.length : Int) := of_decide_eq_true (by first | (with_reducible assumption) | assumption)
        obtain ⟨a9, a5, a8⟩ := Kd.at_int b3.out a0 a1 a4
        cases a5
        replace a1 := eq_true a1
        replace a4 := eq_true a4
        go_wp2
        repeat (go_quiet (fail); try go_wp2)
        go_ret
        exact ⟨by first | rfl | (simp; done) | (simp [*]; done), by repeat (first | exact Drawn0.refl _ | apply Drawn0.step)⟩
      ·rw [if_neg c6] at H
       exact absurd H (by simp)
     ·rw [if_neg c5] at H
      exact absurd H (by simp)
    ·rw [if_neg c4] at H
     have c4b0 : decide (a0 < (l0.length : Int)) = false := decide_eq_false c4
     clear c4
     obtain rfl := Option.some.inj H
     go_wp2
     repeat (go_quiet (fail); try go_wp2)
     go_ret
     exact ⟨by first | rfl | (simp; done) | (simp [*]; done), by repeat (first | exact Drawn0.refl _ | apply Drawn0.step)⟩
 ·rw [if_neg c3] at H
  have c3b0 : ((l0.length : Int) == (l1.length : Int)) = false := beq_eq_false_iff_ne.mpr c3
  have c3b1 : ((l0.length : Int) != (l1.length : Int)) = true := bne_iff_ne.mpr c3
  have c3b2 : (l0.length == l1.length) = false := by first | simpa using c3 | (simp at c3 ⊢; omega)
  obtain rfl := Option.some.inj H
  go_enter Try.func21, Try.ntmps21
  go_wp2
  repeat (go_quiet (fail); try go_wp2)
  go_ret
  exact ⟨by first | rfl | (simp; done) | (simp [*]; done), by repeat (first | exact Drawn0.refl _ | apply Drawn0.step)⟩
def Pl34b.f (k : Nat)  : Option (Bool) := (some (([(⟨#[97]⟩ : ByteArray)] : List ByteArray) : List ByteArray)).bind fun y107 => ((some (([(⟨1, 0, 2⟩ : S80), (⟨3, 0, 0⟩ : S80)] : List (S80)) : List (S80))).bind fun y110 => ((Prc.f 4 y107 y110).bind fun bt114 => ((Prb.f 4 y107 y110).bind fun bt118 => (if bt114.2 = 0 then ((Pr01a.f k bt114.1 (([0, 1, 0, 1] : List Int))).bind fun t123 => (if t123 = true then (if bt118.2 = 0 then (if bt118.1 = 1 then ((Pra.f 4 y107 y110 1 3).bind fun t124 => (if t124 = true then ((Pra.f 4 y107 y110 0 1).bind fun t125 => (if t125 = true then (some false) else ((Pra.f 4 y107 y110 0 4).bind fun t126 => (some (!t126))))) else (some false))) else (some false)) else (some false)) else (some false))) else (some false)))))
theorem Pl34b.mono : ∀ k, LeO (Pl34b.f k ) (Pl34b.f (k + 1) ) := by
 intro  k
 unfold Pl34b.f
 repeat' first
   | (with_reducible exact Pr01a.mono _ _ _)
   | (with_reducible exact LeO.refl _)
   | (with_reducible exact LeO.none _)
   | (with_reducible refine LeO.ite ?_ ?_)
   | (with_reducible refine LeO.bind ?_ (fun _ => ?_))
   | exact Pr01a.mono _ _ _
   | exact LeO.none _
   | refine LeO.ite ?_ ?_
   | refine LeO.bind ?_ (fun _ => ?_)
set_option maxHeartbeats 8000000 in
set_option maxRecDepth 100000 in
theorem Pl34b.calls (k : Nat)  (r : Bool) (w : World) (h : Pl34b.f k  = some r) (hr_ : Aside0 (r = true)) :
  Calls Try.prog 16 #[] w fun e w' => e = .returned (.bool r) ∧ Below w.heap.size w w' := by
 have l3 := Try.underlying80
 have l7 := Try.underlying25
 have HB := Aside0.mk (Below.refl w.heap.size w)
 have H : ((some (([(⟨#[97]⟩ : ByteArray)] : List ByteArray) : List ByteArray)).bind fun a2 => ((some (([(⟨1, 0, 2⟩ : S80), (⟨3, 0, 0⟩ : S80)] : List (S80)) : List (S80))).bind fun a1 => ((Prc.f 4 a2 a1).bind fun d3 => ((Prb.f 4 a2 a1).bind fun b7 => (if d3.2 = 0 then ((Pr01a.f k d3.1 (([0, 1, 0, 1] : List Int))).bind fun b6 => (if b6 = true then (if b7.2 = 0 then (if b7.1 = 1 then ((Pra.f 4 a2 a1 1 3).bind fun b1 => (if b1 = true then ((Pra.f 4 a2 a1 0 1).bind fun a8 => (if a8 = true then (some false) else ((Pra.f 4 a2 a1 0 4).bind fun a6 => (some (!a6))))) else (some false))) else (some false)) else (some false)) else (some false))) else (some false)))))) = some r := h
 clear h
 obtain ⟨a2, e0⟩ : ∃ y_ : List ByteArray, y_ = (([(⟨#[97]⟩ : ByteArray)] : List ByteArray)) := ⟨_, rfl⟩
 replace H : ((some (([(⟨1, 0, 2⟩ : S80), (⟨3, 0, 0⟩ : S80)] : List (S80)) : List (S80))).bind fun a1 => ((Prc.f 4 a2 a1).bind fun d3 => ((Prb.f 4 a2 a1).bind fun b7 => (if d3.2 = 0 then ((Pr01a.f k d3.1 (([0, 1, 0, 1] : List Int))).bind fun b6 => (if b6 = true then (if b7.2 = 0 then (if b7.1 = 1 then ((Pra.f 4 a2 a1 1 3).bind fun b1 => (if b1 = true then ((Pra.f 4 a2 a1 0 1).bind fun a8 => (if a8 = true then (some false) else ((Pra.f 4 a2 a1 0 4).bind fun a6 => (some (!a6))))) else (some false))) else (some false)) else (some false)) else (some false))) else (some false))))) = some r := by first | (rw [e0]; with_reducible exact H) | (have d6 := (Option.bind_some _ _).symm.trans H; rw [e0]; with_reducible exact d6) | (have d6 := (Option.bind_some _ _).symm.trans H; with_reducible exact d6) | with_reducible exact H | (rw [e0]; exact H) | exact H
 have f0 := Aside0.mk e0
 clear e0
 obtain ⟨a1, d8⟩ : ∃ y_ : List (S80), y_ = (([(⟨1, 0, 2⟩ : S80), (⟨3, 0, 0⟩ : S80)] : List (S80))) := ⟨_, rfl⟩
 replace H : ((Prc.f 4 a2 a1).bind fun d3 => ((Prb.f 4 a2 a1).bind fun b7 => (if d3.2 = 0 then ((Pr01a.f k d3.1 (([0, 1, 0, 1] : List Int))).bind fun b6 => (if b6 = true then (if b7.2 = 0 then (if b7.1 = 1 then ((Pra.f 4 a2 a1 1 3).bind fun b1 => (if b1 = true then ((Pra.f 4 a2 a1 0 1).bind fun a8 => (if a8 = true then (some false) else ((Pra.f 4 a2 a1 0 4).bind fun a6 => (some (!a6))))) else (some false))) else (some false)) else (some false)) else (some false))) else (some false)))) = some r := by first | (rw [d8]; with_reducible exact H) | (have d6 := (Option.bind_some _ _).symm.trans H; rw [d8]; with_reducible exact d6) | (have d6 := (Option.bind_some _ _).symm.trans H; with_reducible exact d6) | with_reducible exact H | (rw [d8]; exact H) | exact H
 have f3 := Aside0.mk d8
 clear d8
 replace H := Option.bind_eq_some_iff.mp H
 obtain ⟨⟨e6, d7⟩, f4, H⟩ := H
 replace H : ((Prb.f 4 a2 a1).bind fun b7 => (if d7 = 0 then ((Pr01a.f k e6 (([0, 1, 0, 1] : List Int))).bind fun b6 => (if b6 = true then (if b7.2 = 0 then (if b7.1 = 1 then ((Pra.f 4 a2 a1 1 3).bind fun b1 => (if b1 = true then ((Pra.f 4 a2 a1 0 1).bind fun a8 => (if a8 = true then (some false) else ((Pra.f 4 a2 a1 0 4).bind fun a6 => (some (!a6))))) else (some false))) else (some false)) else (some false)) else (some false))) else (some false))) = some r := H
 have A1 := Aside0.mk f4
 clear f4
 replace H := Option.bind_eq_some_iff.mp H
 obtain ⟨⟨d5, d4⟩, g6, H⟩ := H
 replace H : (if d7 = 0 then ((Pr01a.f k e6 (([0, 1, 0, 1] : List Int))).bind fun b6 => (if b6 = true then (if d4 = 0 then (if d5 = 1 then ((Pra.f 4 a2 a1 1 3).bind fun b1 => (if b1 = true then ((Pra.f 4 a2 a1 0 1).bind fun a8 => (if a8 = true then (some false) else ((Pra.f 4 a2 a1 0 4).bind fun a6 => (some (!a6))))) else (some false))) else (some false)) else (some false)) else (some false))) else (some false)) = some r := H
 have A2 := Aside0.mk g6
 clear g6
 by_cases c3 : d7 = 0
 ·rw [if_pos c3] at H
  have c3b0 : (d7 == 0) = true := beq_iff_eq.mpr c3
  have c3b1 : (d7 != 0) = false := bne_eq_false_iff_eq.mpr c3
  clear c3
  obtain ⟨f6, d9⟩ : ∃ y_ : List Int, y_ = (([0, 1, 0, 1] : List Int)) := ⟨_, rfl⟩
  replace H : ((Pr01a.f k e6 f6).bind fun b6 => (if b6 = true then (if d4 = 0 then (if d5 = 1 then ((Pra.f 4 a2 a1 1 3).bind fun b1 => (if b1 = true then ((Pra.f 4 a2 a1 0 1).bind fun a8 => (if a8 = true then (some false) else ((Pra.f 4 a2 a1 0 4).bind fun a6 => (some (!a6))))) else (some false))) else (some false)) else (some false)) else (some false))) = some r := by first | (rw [d9]; with_reducible exact H) | (have d6 := (Option.bind_some _ _).symm.trans H; rw [d9]; with_reducible exact d6) | (have d6 := (Option.bind_some _ _).symm.trans H; with_reducible exact d6) | with_reducible exact H | (rw [d9]; exact H) | exact H
  have f2 := Aside0.mk d9
  clear d9
  replace H := Option.bind_eq_some_iff.mp H
  obtain ⟨b6, g4, H⟩ := H
  replace H : (if b6 = true then (if d4 = 0 then (if d5 = 1 then ((Pra.f 4 a2 a1 1 3).bind fun b1 => (if b1 = true then ((Pra.f 4 a2 a1 0 1).bind fun a8 => (if a8 = true then (some false) else ((Pra.f 4 a2 a1 0 4).bind fun a6 => (some (!a6))))) else (some false))) else (some false)) else (some false)) else (some false)) = some r := H
  have A4 := Aside0.mk g4
  clear g4
  by_cases c5 : b6 = true
  ·subst c5
   have H1 : (if d4 = 0 then (if d5 = 1 then ((Pra.f 4 a2 a1 1 3).bind fun b1 => (if b1 = true then ((Pra.f 4 a2 a1 0 1).bind fun a8 => (if a8 = true then (some false) else ((Pra.f 4 a2 a1 0 4).bind fun a6 => (some (!a6))))) else (some false))) else (some false)) else (some false)) = some r := by rw [if_pos rfl] at H; exact H
   clear H
   have H := H1
   clear H1
   by_cases c6 : d4 = 0
   ·rw [if_pos c6] at H
    have c6b0 : (d4 == 0) = true := beq_iff_eq.mpr c6
    have c6b1 : (d4 != 0) = false := bne_eq_false_iff_eq.mpr c6
    clear c6
    by_cases c7 : d5 = 1
    ·rw [if_pos c7] at H
     have c7b0 : (d5 == 1) = true := beq_iff_eq.mpr c7
     have c7b1 : (d5 != 1) = false := bne_eq_false_iff_eq.mpr c7
     clear c7
     replace H := Option.bind_eq_some_iff.mp H
     obtain ⟨b1, g3, H⟩ := H
     replace H : (if b1 = true then ((Pra.f 4 a2 a1 0 1).bind fun a8 => (if a8 = true then (some false) else ((Pra.f 4 a2 a1 0 4).bind fun a6 => (some (!a6))))) else (some false)) = some r := H
     have A8 := Aside0.mk g3
     clear g3
     by_cases c9 : b1 = true
     ·subst c9
      have H1 : ((Pra.f 4 a2 a1 0 1).bind fun a8 => (if a8 = true then (some false) else ((Pra.f 4 a2 a1 0 4).bind fun a6 => (some (!a6))))) = some r := by rw [if_pos rfl] at H; exact H
      clear H
      have H := H1
      clear H1
      replace H := Option.bind_eq_some_iff.mp H
      obtain ⟨a8, f5, H⟩ := H
      replace H : (if a8 = true then (some false) else ((Pra.f 4 a2 a1 0 4).bind fun a6 => (some (!a6)))) = some r := H
      have f4 := Aside0.mk f5
      clear f5
      by_cases f1 : a8 = true
      ·subst f1
       have H1 : (some false) = some r := by rw [if_pos rfl] at H; exact H
       clear H
       have H := H1
       clear H1
       obtain rfl := Option.some.inj H
       exact absurd hr_.out (by decide)
      ·replace f1 := Bool.eq_false_iff.mpr f1
       subst f1
       have H1 : ((Pra.f 4 a2 a1 0 4).bind fun a6 => (some (!a6))) = some r := by rw [if_neg (show ¬ (false = true) by decide)] at H; exact H
       clear H
       have H := H1
       clear H1
       replace H := Option.bind_eq_some_iff.mp H
       obtain ⟨a6, f8, H⟩ := H
       replace H : (some (!a6)) = some r := H
       have k3 := Aside0.mk f8
       clear f8
       obtain rfl := Option.some.inj H
       go_enter Try.func16, Try.ntmps16
       go_wp2_with (first | ((with_reducible refine gate_dst (N := 6) rfl ?_); (try (refine gate_guard (by rfl) ?_; dsimp only)); refine Kd.R_lit Kd.string _ 9 ?hg (N := 6) ?hd (xs := ([(⟨#[97]⟩ : ByteArray)] : List ByteArray)) (inner := [.string (⟨#[97]⟩ : ByteArray)]) (ok := fun _ => True) (okp := fun _ => True) ?hr ?hp (fun _ hk => hk) trivial (Below.refl _ _) (Nat.le_refl _) (by simp) ?_; (case hd => rfl); (case hg => rfl); (case hr => first | (go_simp; done) | (go_simp; rfl)); (case hp => exact (Reps.one (show Kd.M Kd.string _ _ _ (⟨#[97]⟩ : ByteArray) [.string (⟨#[97]⟩ : ByteArray)] from rfl) (Reps.none _ _))); intro k8 m1 e7 hb hg_ hnew_; clear hg_ hnew_; (first | rw [← f0.out] at e7 | (simp only [Int.reduceToNat] at e7; rw [← f0.out] at e7)); have a9 := Aside0.mk (Kd.R_lower e7 (below_size (wz HB.out))); have b0 := Aside0.mk (below_step (wz HB.out) hb); clear HB; have a3 := a9; have HB := b0; clear a9 b0; clear hb e7) | ((with_reducible refine gate_dst (N := 9) rfl ?_); (try (refine gate_guard (by rfl) ?_; dsimp only)); refine Kd.R_lit k80 _ 80 ?hg (N := 9) ?hd (xs := ([(⟨1, 0, 2⟩ : S80), (⟨3, 0, 0⟩ : S80)] : List (S80))) (inner := [.int .i64 1, .int .i64 0, .int .i64 2, .int .i64 3, .int .i64 0, .int .i64 0]) (ok := fun _ => True) (okp := fun _ => True) ?hr ?hp (fun _ hk => hk) trivial (Below.refl _ _) (Nat.le_refl _) (by simp) ?_; (case hd => rfl); (case hg => rfl); (case hr => first | (go_simp; done) | (go_simp; rfl)); (case hp => exact (Reps.c3 (show Kd.M k80 _ _ _ (⟨1, 0, 2⟩ : S80) [.int .i64 1, .int .i64 0, .int .i64 2] from (k80_mkM _ _ _ (⟨1, 0, 2⟩ : S80) )) (Reps.c3 (show Kd.M k80 _ _ _ (⟨3, 0, 0⟩ : S80) [.int .i64 3, .int .i64 0, .int .i64 0] from (k80_mkM _ _ _ (⟨3, 0, 0⟩ : S80) )) (Reps.none _ _)))); intro l6 m0 e8 hb hg_ hnew_; clear hg_ hnew_; (first | rw [← f3.out] at e8 | (simp only [Int.reduceToNat] at e8; rw [← f3.out] at e8)); have a9 := Aside0.mk (Kd.R_below (rz a3.out) hb); have b0 := Aside0.mk (Kd.R_lower e8 (below_size (wz HB.out))); have b2 := Aside0.mk (below_step (wz HB.out) hb); clear a3; clear HB; have a3 := a9; have a4 := b0; have HB := b2; clear a9 b0 b2; clear hb e8; obtain ⟨d1, d0, g8⟩ := Kd.R_slice a4.out; subst g8; obtain ⟨b9, b8, g7⟩ := Kd.R_slice a3.out; subst g7) | ((with_reducible refine gate_dst (N := 1) rfl ?_); (try (refine gate_guard (by rfl) ?_; dsimp only)); refine box_event ?hg (N := 1) ?hd (cs := #[.int .i64 0, .slice none 0 0, .slice none 0 0]) (t := 25) ?hr ?_; (case hd => rfl); (case hg => rfl); (case hr => first | (go_simp; done) | (go_simp; rfl)); intro a5 hg f7 hbox hb; have a9 := Aside0.mk (Kd.R_below (rz a3.out) hb); have b0 := Aside0.mk (Kd.R_below (rz a4.out) hb); have b2 := Aside0.mk (below_step (wz HB.out) hb); have b5 := Aside0.mk (hbox); have b4 := Aside0.mk ((by rw [hg]; exact (below_size (wz HB.out)) : w.heap.size ≤ a5)); have d2 := Aside0.mk ((by rw [hg]; exact (below_size (wz HB.out)) : w.heap.size ≤ a5)); clear a3; clear a4; clear HB; have a3 := a9; have a4 := b0; have HB := b2; have a0 := b5; have k5 := b4; have k4 := d2; clear a9 b0 b2 b5 b4 d2; clear hb hbox hg; have j7 : f7.cell? ⟨a5, 0, none⟩ = some (.int .i64 0) := (blk_cell a0.out 0).trans rfl; have h3 : f7.cell? ⟨a5, 1, none⟩ = some (.slice none 0 0) := (blk_cell a0.out 1).trans rfl; have h4 : f7.cell? ⟨a5, 2, none⟩ = some (.slice none 0 0) := (blk_cell a0.out 2).trans rfl; have h2 := blk_frozen a0.out 0; have h1 := blk_frozen a0.out 1; have j4 := blk_frozen a0.out 2) | ((with_reducible refine gate_callee (f := 17) rfl ?_); refine goesL_ (some 13) rfl rfl Try.func17 (by kernel_rfl) rfl #[.agg #[.int .i64 4, .slice b9 a2.length b8, .slice d1 a1.length d0]] rfl (by (try simp only [List.map_toArray, List.map_cons, List.map_nil]); first | done | rfl | (simp only [List.length_drop, List.length_take]; rfl)) ?_; (with_reducible refine (Prc.calls 4 _ _ a2 _ _ a1 e6 d7 _ ?e3 ?e2 ?e4 ?e1 A1.out).mono ?_); (case e3 => refine (Kd.R_reads' (e := 9) (base := w.heap.size) (ok := fun k_ => True) (n := a2.length) (c := b8) ?_).2.2; exact (rz (Kd.R_mono (Kd.R_far (p := ⟨a5, 2, none⟩) (Kd.R_far (p := ⟨a5, 1, none⟩) (Kd.R_far (p := ⟨a5, 0, none⟩) (Kd.R_types a3.out a0.out (by decide)) (fun _ hk => hk.2) (.int .i64 4)) (fun _ hk => hk.2) (.slice b9 a2.length b8)) (fun _ hk => hk.2) (.slice d1 a1.length d0)) (fun _ h_ => h_.1)))); (case e2 => exact (Kd.R_reads' a3.out).2.1); (case e4 => refine (Kd.R_reads' (e := 80) (base := w.heap.size) (ok := fun k_ => True) (n := a1.length) (c := d0) ?_).2.2; exact (rz (Kd.R_mono (Kd.R_far (p := ⟨a5, 2, none⟩) (Kd.R_far (p := ⟨a5, 1, none⟩) (Kd.R_far (p := ⟨a5, 0, none⟩) (Kd.R_types a4.out a0.out (by decide)) (fun _ hk => hk.2) (.int .i64 4)) (fun _ hk => hk.2) (.slice b9 a2.length b8)) (fun _ hk => hk.2) (.slice d1 a1.length d0)) (fun _ h_ => h_.1)))); (case e1 => exact (Kd.R_reads' a4.out).2.1); rintro e f9 ⟨l4, rfl, g5, hb⟩; refine ⟨_, rfl, ?_⟩; have a9 := Aside0.mk (Kd.R_below (rz (Kd.R_mono (Kd.R_far (p := ⟨a5, 2, none⟩) (Kd.R_far (p := ⟨a5, 1, none⟩) (Kd.R_far (p := ⟨a5, 0, none⟩) (Kd.R_types a3.out a0.out (by decide)) (fun _ hk => hk.2) (.int .i64 4)) (fun _ hk => hk.2) (.slice b9 a2.length b8)) (fun _ hk => hk.2) (.slice d1 a1.length d0)) (fun _ h_ => h_.1))) hb); have b0 := Aside0.mk (Kd.R_below (rz (Kd.R_mono (Kd.R_far (p := ⟨a5, 2, none⟩) (Kd.R_far (p := ⟨a5, 1, none⟩) (Kd.R_far (p := ⟨a5, 0, none⟩) (Kd.R_types a4.out a0.out (by decide)) (fun _ hk => hk.2) (.int .i64 4)) (fun _ hk => hk.2) (.slice b9 a2.length b8)) (fun _ hk => hk.2) (.slice d1 a1.length d0)) (fun _ h_ => h_.1))) hb); have b2 := Aside0.mk (Kd.R_lower g5 (below_size (wz HB.out))); have b5 := Aside0.mk (blk_below (g := a5) (o := .cells #[.int .i64 4, .slice b9 a2.length b8, .slice d1 a1.length d0] 25 (0, 0)) (by (with_reducible repeat (first | refine blk_drewN ?_ _ | refine blk_drew ?_ | refine blk_alloc ?_ _)); refine blk_put (cs := #[.int .i64 4, .slice b9 a2.length b8, .slice none 0 0]) ?_ 2 _ rfl; (with_reducible repeat (first | refine blk_drewN ?_ _ | refine blk_drew ?_ | refine blk_alloc ?_ _)); refine blk_put (cs := #[.int .i64 4, .slice none 0 0, .slice none 0 0]) ?_ 1 _ rfl; (with_reducible repeat (first | refine blk_drewN ?_ _ | refine blk_drew ?_ | refine blk_alloc ?_ _)); refine blk_put (cs := #[.int .i64 0, .slice none 0 0, .slice none 0 0]) ?_ 0 _ rfl; (with_reducible repeat (first | refine blk_drewN ?_ _ | refine blk_drew ?_ | refine blk_alloc ?_ _)); exact a0.out) hb); have b4 := Aside0.mk (below_step (wz HB.out) hb); clear a3; clear a4; clear a0; clear HB; have a3 := a9; have a4 := b0; have a7 := b2; have a0 := b5; have HB := b4; clear a9 b0 b2 b5 b4; (try clear hb); (try clear e9); (try clear hk); (try clear hi); (try clear g5); have h8 : f9.cell? ⟨a5, 0, none⟩ = some (.int .i64 4) := (blk_cell a0.out 0).trans rfl; have i7 : f9.cell? ⟨a5, 1, none⟩ = some (.slice b9 a2.length b8) := (blk_cell a0.out 1).trans rfl; have i3 : f9.cell? ⟨a5, 2, none⟩ = some (.slice d1 a1.length d0) := (blk_cell a0.out 2).trans rfl; have i1 := blk_frozen a0.out 0; have i8 := blk_frozen a0.out 1; have i0 := blk_frozen a0.out 2) | ((with_reducible refine gate_callee (f := 67) rfl ?_); refine goesL_ (some 18) rfl rfl Try.func67 (by kernel_rfl) rfl #[.agg #[.int .i64 4, .slice b9 a2.length b8, .slice d1 a1.length d0]] rfl (by (try simp only [List.map_toArray, List.map_cons, List.map_nil]); first | done | rfl | (simp only [List.length_drop, List.length_take]; rfl)) ?_; (with_reducible refine (Prb.calls 4 _ _ a2 _ _ a1 d5 d4 _ ?e3 ?e2 ?e4 ?e1 A2.out).mono ?_); (case e3 => repeat (first | exact (Kd.R_reads' a3.out).2.2 | (with_reducible refine Kd.C_alloc ?_ _) | (with_reducible refine Kd.C_drewN ?_ _) | (with_reducible refine Kd.C_drew ?_))); (case e2 => exact (Kd.R_reads' a3.out).2.1); (case e4 => repeat (first | exact (Kd.R_reads' a4.out).2.2 | (with_reducible refine Kd.C_alloc ?_ _) | (with_reducible refine Kd.C_drewN ?_ _) | (with_reducible refine Kd.C_drew ?_))); (case e1 => exact (Kd.R_reads' a4.out).2.1); rintro e l8 ⟨rfl, hb⟩; refine ⟨_, rfl, ?_⟩; have a9 := Aside0.mk (Kd.R_below (rz a3.out) hb); have b0 := Aside0.mk (Kd.R_below (rz a4.out) hb); have b2 := Aside0.mk (Kd.R_below (rz a7.out) hb); have b5 := Aside0.mk (blk_below (bz a0.out) hb); have b4 := Aside0.mk (below_step (wz HB.out) hb); clear a3; clear a4; clear a7; clear a0; clear HB; have a3 := a9; have a4 := b0; have a7 := b2; have a0 := b5; have HB := b4; clear a9 b0 b2 b5 b4; (try clear hb); (try clear e9); (try clear hk); (try clear hi)) | ((with_reducible refine gate_dst (N := 25) rfl ?_); (try (refine gate_guard (by rfl) ?_; dsimp only)); refine Kd.R_lit (Kd.int .i64) _ 3 ?hg (N := 25) ?hd (xs := ([0, 1, 0, 1] : List Int)) (inner := [.int .i64 0, .int .i64 1, .int .i64 0, .int .i64 1]) (ok := fun _ => True) (okp := fun _ => True) ?hr ?hp (fun _ hk => hk) trivial (Below.refl _ _) (Nat.le_refl _) (by simp) ?_; (case hd => rfl); (case hg => rfl); (case hr => first | (go_simp; done) | (go_simp; rfl)); (case hp => exact (Reps.one (show Kd.M (Kd.int .i64) _ _ _ 0 [.int .i64 0] from rfl) (Reps.one (show Kd.M (Kd.int .i64) _ _ _ 1 [.int .i64 1] from rfl) (Reps.one (show Kd.M (Kd.int .i64) _ _ _ 0 [.int .i64 0] from rfl) (Reps.one (show Kd.M (Kd.int .i64) _ _ _ 1 [.int .i64 1] from rfl) (Reps.none _ _)))))); intro k7 g0 e5 hb hg_ hnew_; clear hg_ hnew_; (first | rw [← f2.out] at e5 | (simp only [Int.reduceToNat] at e5; rw [← f2.out] at e5)); have a9 := Aside0.mk (Kd.R_below (rz a3.out) hb); have b0 := Aside0.mk (Kd.R_below (rz a4.out) hb); have b2 := Aside0.mk (Kd.R_elder' (rz a7.out) (Kd.R_base e5) hb); have b5 := Aside0.mk (Kd.R_lower (Kd.R_new' e5 (Kd.R_lt (rz a7.out))) (below_size (wz HB.out))); have b4 := Aside0.mk (blk_below (bz a0.out) hb); have d2 := Aside0.mk (below_step (wz HB.out) hb); clear a3; clear a4; clear a7; clear a0; clear HB; have a3 := a9; have a4 := b0; have a7 := b2; have b3 := b5; have a0 := b4; have HB := d2; clear a9 b0 b2 b5 b4 d2; clear hb e5; obtain ⟨l5, k6, g9⟩ := Kd.R_slice a7.out; subst g9; obtain ⟨l2, k9, h0⟩ := Kd.R_slice b3.out; subst h0) | (go_at_call 21; (with_reducible refine (Pr01a.calls k _ _ e6 _ _ f6 true _ ?e3 ?e2 ?e4 ?e1 A4.out).mono ?_); (case e3 => repeat (first | exact (Kd.R_reads' a7.out).2.2 | (with_reducible refine Kd.C_alloc ?_ _) | (with_reducible refine Kd.C_drewN ?_ _) | (with_reducible refine Kd.C_drew ?_))); (case e2 => exact (Kd.R_reads' a7.out).2.1); (case e4 => repeat (first | exact (Kd.R_reads' b3.out).2.2 | (with_reducible refine Kd.C_alloc ?_ _) | (with_reducible refine Kd.C_drewN ?_ _) | (with_reducible refine Kd.C_drew ?_))); (case e1 => exact (Kd.R_reads' b3.out).2.1); rintro e w' ⟨rfl, ⟨nd, rfl⟩⟩; have j2 : g0.cell? ⟨a5, 0, none⟩ = some (.int .i64 4) := (blk_cell a0.out 0).trans rfl; have i4 : g0.cell? ⟨a5, 1, none⟩ = some (.slice b9 a2.length b8) := (blk_cell a0.out 1).trans rfl; have i5 : g0.cell? ⟨a5, 2, none⟩ = some (.slice d1 a1.length d0) := (blk_cell a0.out 2).trans rfl; have i2 := blk_frozen a0.out 0; have h5 := blk_frozen a0.out 1; have h7 := blk_frozen a0.out 2) | (go_at_call 19; (with_reducible refine (Pra.calls 4 _ _ a2 _ _ a1 1 3 true _ ?e3 ?e2 ?e4 ?e1 A8.out).mono ?_); (case e3 => repeat (first | exact (Kd.R_reads' a3.out).2.2 | (with_reducible refine Kd.C_alloc ?_ _) | (with_reducible refine Kd.C_drewN ?_ _) | (with_reducible refine Kd.C_drew ?_))); (case e2 => exact (Kd.R_reads' a3.out).2.1); (case e4 => repeat (first | exact (Kd.R_reads' a4.out).2.2 | (with_reducible refine Kd.C_alloc ?_ _) | (with_reducible refine Kd.C_drewN ?_ _) | (with_reducible refine Kd.C_drew ?_))); (case e1 => exact (Kd.R_reads' a4.out).2.1); rintro e g2 ⟨rfl, hb⟩; have a9 := Aside0.mk (Kd.R_below (rz a3.out) hb); have b0 := Aside0.mk (Kd.R_below (rz a4.out) hb); have b2 := Aside0.mk (Kd.R_below (rz a7.out) hb); have b5 := Aside0.mk (Kd.R_below (rz b3.out) hb); have b4 := Aside0.mk (blk_below (bz a0.out) hb); have d2 := Aside0.mk (below_step (wz HB.out) hb); clear a3; clear a4; clear a7; clear b3; clear a0; clear HB; have a3 := a9; have a4 := b0; have a7 := b2; have b3 := b5; have a0 := b4; have HB := d2; clear a9 b0 b2 b5 b4 d2; (try clear hb); (try clear e9); (try clear hk); (try clear hi); have k0 : g2.cell? ⟨a5, 0, none⟩ = some (.int .i64 4) := (blk_cell a0.out 0).trans rfl; have j9 : g2.cell? ⟨a5, 1, none⟩ = some (.slice b9 a2.length b8) := (blk_cell a0.out 1).trans rfl; have k1 : g2.cell? ⟨a5, 2, none⟩ = some (.slice d1 a1.length d0) := (blk_cell a0.out 2).trans rfl; have j3 := blk_frozen a0.out 0; have j6 := blk_frozen a0.out 1; have i9 := blk_frozen a0.out 2) | (go_at_call 19; (with_reducible refine (Pra.calls 4 _ _ a2 _ _ a1 0 1 false _ ?e3 ?e2 ?e4 ?e1 f4.out).mono ?_); (case e3 => repeat (first | exact (Kd.R_reads' a3.out).2.2 | (with_reducible refine Kd.C_alloc ?_ _) | (with_reducible refine Kd.C_drewN ?_ _) | (with_reducible refine Kd.C_drew ?_))); (case e2 => exact (Kd.R_reads' a3.out).2.1); (case e4 => repeat (first | exact (Kd.R_reads' a4.out).2.2 | (with_reducible refine Kd.C_alloc ?_ _) | (with_reducible refine Kd.C_drewN ?_ _) | (with_reducible refine Kd.C_drew ?_))); (case e1 => exact (Kd.R_reads' a4.out).2.1); rintro e g1 ⟨rfl, hb⟩; have a9 := Aside0.mk (Kd.R_below (rz a3.out) hb); have b0 := Aside0.mk (Kd.R_below (rz a4.out) hb); have b2 := Aside0.mk (Kd.R_below (rz a7.out) hb); have b5 := Aside0.mk (Kd.R_below (rz b3.out) hb); have b4 := Aside0.mk (blk_below (bz a0.out) hb); have d2 := Aside0.mk (below_step (wz HB.out) hb); clear a3; clear a4; clear a7; clear b3; clear a0; clear HB; have a3 := a9; have a4 := b0; have a7 := b2; have b3 := b5; have a0 := b4; have HB := d2; clear a9 b0 b2 b5 b4 d2; (try clear hb); (try clear e9); (try clear hk); (try clear hi); have h6 : g1.cell? ⟨a5, 0, none⟩ = some (.int .i64 4) := (blk_cell a0.out 0).trans rfl; have k2 : g1.cell? ⟨a5, 1, none⟩ = some (.slice b9 a2.length b8) := (blk_cell a0.out 1).trans rfl; have j5 : g1.cell? ⟨a5, 2, none⟩ = some (.slice d1 a1.length d0) := (blk_cell a0.out 2).trans rfl; have h9 := blk_frozen a0.out 0; have j0 := blk_frozen a0.out 1; have j8 := blk_frozen a0.out 2) | (go_at_call 19; (with_reducible refine (Pra.calls 4 _ _ a2 _ _ a1 0 4 a6 _ ?e3 ?e2 ?e4 ?e1 k3.out).mono ?_); (case e3 => repeat (first | exact (Kd.R_reads' a3.out).2.2 | (with_reducible refine Kd.C_alloc ?_ _) | (with_reducible refine Kd.C_drewN ?_ _) | (with_reducible refine Kd.C_drew ?_))); (case e2 => exact (Kd.R_reads' a3.out).2.1); (case e4 => repeat (first | exact (Kd.R_reads' a4.out).2.2 | (with_reducible refine Kd.C_alloc ?_ _) | (with_reducible refine Kd.C_drewN ?_ _) | (with_reducible refine Kd.C_drew ?_))); (case e1 => exact (Kd.R_reads' a4.out).2.1); rintro e l9 ⟨rfl, hb⟩; have a9 := Aside0.mk (Kd.R_below (rz a3.out) hb); have b0 := Aside0.mk (Kd.R_below (rz a4.out) hb); have b2 := Aside0.mk (Kd.R_below (rz a7.out) hb); have b5 := Aside0.mk (Kd.R_below (rz b3.out) hb); have b4 := Aside0.mk (blk_below (bz a0.out) hb); have d2 := Aside0.mk (below_step (wz HB.out) hb); clear a3; clear a4; clear a7; clear b3; clear a0; clear HB; have a3 := a9; have a4 := b0; have a7 := b2; have b3 := b5; have a0 := b4; have HB := d2; clear a9 b0 b2 b5 b4 d2; (try clear hb); (try clear e9); (try clear hk); (try clear hi)))
       go_ret
       exact ⟨by first | rfl | (simp [errW_none, errW_some] <;> rfl) | (simp [*, errW_none, errW_some] <;> rfl), wz HB.out⟩
     ·replace c9 := Bool.eq_false_iff.mpr c9
      subst c9
      have H1 : (some false) = some r := by rw [if_neg (show ¬ (false = true) by decide)] at H; exact H
      clear H
      have H := H1
      clear H1
      obtain rfl := Option.some.inj H
      exact absurd hr_.out (by decide)
    ·rw [if_neg c7] at H
     have c7b0 : (d5 == 1) = false := beq_eq_false_iff_ne.mpr c7
     have c7b1 : (d5 != 1) = true := bne_iff_ne.mpr c7
     obtain rfl := Option.some.inj H
     exact absurd hr_.out (by decide)
   ·rw [if_neg c6] at H
    have c6b0 : (d4 == 0) = false := beq_eq_false_iff_ne.mpr c6
    have c6b1 : (d4 != 0) = true := bne_iff_ne.mpr c6
    obtain rfl := Option.some.inj H
    exact absurd hr_.out (by decide)
  ·replace c5 := Bool.eq_false_iff.mpr c5
   subst c5
   have H1 : (some false) = some r := by rw [if_neg (show ¬ (false = true) by decide)] at H; exact H
   clear H
   have H := H1
   clear H1
   obtain rfl := Option.some.inj H
   exact absurd hr_.out (by decide)
 ·rw [if_neg c3] at H
  have c3b0 : (d7 == 0) = false := beq_eq_false_iff_ne.mpr c3
  have c3b1 : (d7 != 0) = true := bne_iff_ne.mpr c3
  obtain rfl := Option.some.inj H
  exact absurd hr_.out (by decide)
mutual
def Pr34b.l0 : Nat → List Bool → List Int → Int → Int → Int → List ByteArray → List (S80) → Option (List Int)
 | 0, _, _, _, _, _, _, _ => none
 | k + 1, x3, x4, x5, x6, x128000, x128001, x128002 => if x6 < x128000 then (Pr34b.l1 k x3 x4 x5 x6 (-1) (wrap64 (x6 - 1)) x128000 x128001 x128002) else (some x4)
def Pr34b.l1 : Nat → List Bool → List Int → Int → Int → Int → Int → Int → List ByteArray → List (S80) → Option (List Int)
 | 0, _, _, _, _, _, _, _, _, _ => none
 | k + 1, x3, x4, x5, x6, x7, x8, x128000, x128001, x128002 => if x8 ≥ 0 then (if 0 ≤ (wrap64 ((wrap64 (x6 * x128000)) + x8)) then (if (wrap64 ((wrap64 (x6 * x128000)) + x8)) < (x3.length : Int) then (if rdOf false x3 (wrap64 ((wrap64 (x6 * x128000)) + x8)) = true then (if 0 ≤ x8 then (if x8 < (x4.length : Int) then (Pr34b.l1 k x3 x4 x5 x6 (rd x4 x8) (wrap64 (x8 - 1)) x128000 x128001 x128002) else (none)) else (none)) else (Pr34b.l1 k x3 x4 x5 x6 x7 (wrap64 (x8 - 1)) x128000 x128001 x128002)) else (none)) else (none)) else (if x7 < 0 then (if x4.length < 17592186044416 then (Pr34b.l0 k x3 (x4 ++ [x5]) (wrap64 (x5 + 1)) (wrap64 (x6 + 1)) x128000 x128001 x128002) else (none)) else (if x4.length < 17592186044416 then (Pr34b.l0 k x3 (x4 ++ [x7]) x5 (wrap64 (x6 + 1)) x128000 x128001 x128002) else (none)))
end
def Pr34b.f (k : Nat) (a0_0 : Int) (l0_1 : List ByteArray) (l0_2 : List (S80)) : Option (List Int) := (Pr34a.f a0_0 l0_1 l0_2).bind fun t128 => (Pr34b.l0 k t128 (([] : List Int)) 0 0 a0_0 l0_1 l0_2)
theorem Pr34b.mono_l : ∀ k, (∀ y0 y1 y2 y3 y4 y5 y6, LeO (Pr34b.l0 k y0 y1 y2 y3 y4 y5 y6) (Pr34b.l0 (k + 1) y0 y1 y2 y3 y4 y5 y6)) ∧ (∀ y0 y1 y2 y3 y4 y5 y6 y7 y8, LeO (Pr34b.l1 k y0 y1 y2 y3 y4 y5 y6 y7 y8) (Pr34b.l1 (k + 1) y0 y1 y2 y3 y4 y5 y6 y7 y8))
 | 0 => ⟨fun _ _ _ _ _ _ _ r h => by simp [Pr34b.l0] at h, fun _ _ _ _ _ _ _ _ _ r h => by simp [Pr34b.l1] at h⟩
 | k + 1 => by
  obtain ⟨ih0, ih1⟩ := Pr34b.mono_l k
  refine ⟨?_, ?_⟩
  ·intro y0 y1 y2 y3 y4 y5 y6
   unfold Pr34b.l0
   repeat' first
   | (with_reducible exact ih0 _ _ _ _ _ _ _)
   | (with_reducible exact ih1 _ _ _ _ _ _ _ _ _)
   | (with_reducible exact LeO.refl _)
   | (with_reducible exact LeO.none _)
   | (with_reducible refine LeO.ite ?_ ?_)
   | (with_reducible refine LeO.bind ?_ (fun _ => ?_))
   | exact ih0 _ _ _ _ _ _ _
   | exact ih1 _ _ _ _ _ _ _ _ _
   | exact LeO.none _
   | refine LeO.ite ?_ ?_
   | refine LeO.bind ?_ (fun _ => ?_)
  ·intro y0 y1 y2 y3 y4 y5 y6 y7 y8
   unfold Pr34b.l1
   repeat' first
   | (with_reducible exact ih0 _ _ _ _ _ _ _)
   | (with_reducible exact ih1 _ _ _ _ _ _ _ _ _)
   | (with_reducible exact LeO.refl _)
   | (with_reducible exact LeO.none _)
   | (with_reducible refine LeO.ite ?_ ?_)
   | (with_reducible refine LeO.bind ?_ (fun _ => ?_))
   | exact ih0 _ _ _ _ _ _ _
   | exact ih1 _ _ _ _ _ _ _ _ _
   | exact LeO.none _
   | refine LeO.ite ?_ ?_
   | refine LeO.bind ?_ (fun _ => ?_)
theorem Pr34b.mono : ∀ a0 a1 a2 k, LeO (Pr34b.f k a0 a1 a2) (Pr34b.f (k + 1) a0 a1 a2) := by
 intro a0 a1 a2 k
 obtain ⟨ih0, ih1⟩ := Pr34b.mono_l k
 unfold Pr34b.f
 repeat' first
   | (with_reducible exact ih0 _ _ _ _ _ _ _)
   | (with_reducible exact ih1 _ _ _ _ _ _ _ _ _)
   | (with_reducible exact LeO.refl _)
   | (with_reducible exact LeO.none _)
   | (with_reducible refine LeO.ite ?_ ?_)
   | (with_reducible refine LeO.bind ?_ (fun _ => ?_))
   | exact ih0 _ _ _ _ _ _ _
   | exact ih1 _ _ _ _ _ _ _ _ _
   | exact LeO.none _
   | refine LeO.ite ?_ ?_
   | refine LeO.bind ?_ (fun _ => ?_)
set_option maxHeartbeats 8000000 in
set_option maxRecDepth 100000 in
theorem Pr34b.calls (k : Nat) (a0_0 : Int) (A0_1 : Option Addr) (c0_1 : Nat) (l0_1 : List ByteArray) (A0_2 : Option Addr) (c0_2 : Nat) (l0_2 : List (S80)) (r : List Int) (w : World) (hr0_1 : Kd.C Kd.string w A0_1 l0_1.length l0_1) (hc0_1 : l0_1.length ≤ c0_1) (hr0_2 : Kd.C k80 w A0_2 l0_2.length l0_2) (hc0_2 : l0_2.length ≤ c0_2) (h : Pr34b.f k a0_0 l0_1 l0_2 = some r) :
  Calls Try.prog 20 #[.agg #[.int .i64 a0_0, .slice A0_1 l0_1.length c0_1, .slice A0_2 l0_2.length c0_2]] w fun e w' => ∃ v0_ : Value, e = .returned (v0_) ∧ Kd.R (Kd.int .i64) 3 w' w.heap.size (fun _ => True) v0_ r ∧ Below w.heap.size w w' := by
 have m6 := Try.underlying25
 have h1 := Aside0.mk hr0_1
 have h8 := Aside0.mk hc0_1
 clear hr0_1 hc0_1
 have h7 := Aside0.mk hr0_2
 have g8 := Aside0.mk hc0_2
 clear hr0_2 hc0_2
 have HB := Aside0.mk (Below.refl w.heap.size w)
 have H : ((Pr34a.f a0_0 l0_1 l0_2).bind fun a4 => (Pr34b.l0 k a4 (([] : List Int)) 0 0 a0_0 l0_1 l0_2)) = some r := h
 clear h
 replace H := Option.bind_eq_some_iff.mp H
 obtain ⟨a4, i0, H⟩ := H
 replace H : (Pr34b.l0 k a4 (([] : List Int)) 0 0 a0_0 l0_1 l0_2) = some r := H
 have A2 := Aside0.mk i0
 clear i0
 obtain ⟨f8, d0⟩ : ∃ y_ : List Int, y_ = (([] : List Int)) := ⟨_, rfl⟩
 replace H : (Pr34b.l0 k a4 f8 0 0 a0_0 l0_1 l0_2) = some r := by first | (rw [d0]; with_reducible exact H) | (have b4 := (Option.bind_some _ _).symm.trans H; rw [d0]; with_reducible exact b4) | (have b4 := (Option.bind_some _ _).symm.trans H; with_reducible exact b4) | with_reducible exact H | (rw [d0]; exact H) | exact H
 have e9 := Aside0.mk d0
 clear d0
 have H' := Aside0.mk H
 clear H
 go_enter Try.func20, Try.ntmps20
 go_wp2_with (first | ((with_reducible refine gate_dst (N := 1) rfl ?_); refine box_event ?hg (N := 1) ?hd (cs := #[.int .i64 a0_0, .slice A0_1 l0_1.length c0_1, .slice A0_2 l0_2.length c0_2]) (t := 25) ?hr ?_; (case hd => rfl); (case hg => rfl); (case hr => first | (go_simp; done) | (go_simp; rfl)); intro a3 hg w3 hbox hb; have b2 := Aside0.mk (below_step (wz HB.out) hb); have b3 := Aside0.mk (hbox); have b1 := Aside0.mk ((by rw [hg]; exact (below_size (wz HB.out)) : w.heap.size ≤ a3)); have b5 := Aside0.mk ((by rw [hg]; exact (below_size (wz HB.out)) : w.heap.size ≤ a3)); clear HB; have HB := b2; have a0 := b3; have l5 := b1; have l2 := b5; clear b2 b3 b1 b5; clear hb hbox hg; have e3 : w3.cell? ⟨a3, 0, none⟩ = some (.int .i64 a0_0) := (blk_cell a0.out 0).trans rfl; have d9 : w3.cell? ⟨a3, 1, none⟩ = some (.slice A0_1 l0_1.length c0_1) := (blk_cell a0.out 1).trans rfl; have d8 : w3.cell? ⟨a3, 2, none⟩ = some (.slice A0_2 l0_2.length c0_2) := (blk_cell a0.out 2).trans rfl; have e0 := blk_frozen a0.out 0; have e1 := blk_frozen a0.out 1; have e4 := blk_frozen a0.out 2) | ((with_reducible refine gate_callee (f := 71) rfl ?_); refine goesL_ (some 10) rfl rfl Try.func71 (by kernel_rfl) rfl #[.agg #[.int .i64 a0_0, .slice A0_1 l0_1.length c0_1, .slice A0_2 l0_2.length c0_2]] rfl (by (try simp only [List.map_toArray, List.map_cons, List.map_nil]); first | done | rfl | (simp only [List.length_drop, List.length_take]; rfl)) ?_; (with_reducible refine (Pr34a.calls a0_0 _ _ l0_1 _ _ l0_2 a4 _ ?l6 ?l3 ?l7 ?k9 A2.out).mono ?_); (case l6 => exact cz h1.out HB.out); (case l3 => exact h8.out); (case l7 => exact cz h7.out HB.out); (case k9 => exact g8.out); rintro e w5 ⟨g6, rfl, i1, hb⟩; refine ⟨_, rfl, ?_⟩; have b2 := Aside0.mk (Kd.R_lower i1 (below_size (wz HB.out))); have b3 := Aside0.mk (blk_below (bz a0.out) hb); have b1 := Aside0.mk (below_step (wz HB.out) hb); clear a0; clear HB; have d4 := b2; have a0 := b3; have HB := b1; clear b2 b3 b1; (try clear hb); (try clear m8); (try clear hk); (try clear hi); (try clear i1)) | ((with_reducible refine gate_dst (N := 11) rfl ?_); refine Kd.R_lit (Kd.int .i64) _ 3 ?hg (N := 11) ?hd (xs := ([] : List Int)) (inner := []) (ok := fun _ => True) (okp := fun _ => True) ?hr ?hp (fun _ hk => hk) trivial (Below.refl _ _) (Nat.le_refl _) (by simp) ?_; (case hd => rfl); (case hg => rfl); (case hr => first | (go_simp; done) | (go_simp; rfl)); (case hp => exact (Reps.none _ _)); intro m3 w6 e2 hb hg_ hnew_; clear hg_ hnew_; (first | rw [← e9.out] at e2 | (simp only [Int.reduceToNat] at e2; rw [← e9.out] at e2)); have b2 := Aside0.mk (Kd.R_below (rz d4.out) hb); have b3 := Aside0.mk (Kd.R_lower e2 (below_size (wz HB.out))); have b1 := Aside0.mk (blk_below (bz a0.out) hb); have b5 := Aside0.mk (below_step (wz HB.out) hb); clear d4; clear a0; clear HB; have d4 := b2; have g9 := b3; have a0 := b1; have HB := b5; clear b2 b3 b1 b5; clear hb e2))
 go_loopg [4, 5, 6] k (fun kq v4 v5 v6 w' => ∃ (a2 : List Int) (a6 : Int) (a5 : Int), v5 = .int .i64 a6 ∧ v6 = .int .i64 a5 ∧ Aside0 (Pr34b.l0 kq a4 a2 a6 a5 a0_0 l0_1 l0_2 = some r) ∧ Aside0 (kq ≤ k) ∧ Aside0 (Kd.R Kd.bool 4 w' w.heap.size (fun _ => True) g6 a4) ∧ Aside0 (Kd.R (Kd.int .i64) 3 w' w.heap.size (fun _ => True) v4 a2) ∧ Aside0 (w'.heap[a3]? = some (.cells #[.int .i64 a0_0, (.slice A0_1 l0_1.length c0_1), (.slice A0_2 l0_2.length c0_2)] 25 (0, 0))) ∧ Aside0 (Below w.heap.size w w'))
 case atStart => exact ⟨(f8), (0), (0), (by first | rfl | (simp; done) | (simp [*]; done)), (by first | rfl | (simp; done) | (simp [*]; done)), H', ⟨Nat.le_refl _⟩, ⟨rz d4.out⟩, ⟨rz g9.out⟩, ⟨bz a0.out⟩, ⟨wz HB.out⟩⟩
 case round =>
  clear H'
  try clear c2
  try clear p2
  try clear c7
  try clear e3
  try clear d9
  try clear d8
  try clear e0
  try clear e1
  try clear e4
  obtain ⟨a2, a6, a5, rfl, rfl, HA, d2, a7, a8, a0, HB⟩ := hrel
  cases gk with
  | zero => exact absurd HA.out (by simp [Pr34b.l0])
  | succ k1 =>
   have H := HA.out
   clear HA
   simp only [Pr34b.l0] at H
   by_cases c8 : a5 < a0_0
   ·rw [if_pos c8] at H
    have c8b0 : decide (a5 < a0_0) = true := decide_eq_true c8
    clear c8
    have H' := Aside0.mk H
    clear H
    have g3 : wr.cell? ⟨a3, 0, none⟩ = some (.int .i64 a0_0) := (blk_cell a0.out 0).trans rfl
    have f7 : wr.cell? ⟨a3, 1, none⟩ = some (.slice A0_1 l0_1.length c0_1) := (blk_cell a0.out 1).trans rfl
    have g2 : wr.cell? ⟨a3, 2, none⟩ = some (.slice A0_2 l0_2.length c0_2) := (blk_cell a0.out 2).trans rfl
    have g0 := blk_frozen a0.out 0
    have f9 := blk_frozen a0.out 1
    have g1 := blk_frozen a0.out 2
    go_wp2
    go_loopg [7, 8] k1 (fun kq v7 v8 w' => ∃ (b0 : Int) (a1 : Int), v7 = .int .i64 b0 ∧ v8 = .int .i64 a1 ∧ Aside0 (Pr34b.l1 kq a4 a2 a6 a5 b0 a1 a0_0 l0_1 l0_2 = some r) ∧ Aside0 (kq ≤ k1) ∧ Aside0 (Kd.R Kd.bool 4 w' w.heap.size (fun _ => True) g6 a4) ∧ Aside0 (Kd.R (Kd.int .i64) 3 w' w.heap.size (fun _ => True) u4 a2) ∧ Aside0 (w'.heap[a3]? = some (.cells #[.int .i64 a0_0, (.slice A0_1 l0_1.length c0_1), (.slice A0_2 l0_2.length c0_2)] 25 (0, 0))) ∧ Aside0 (Below w.heap.size w w'))
    case atStart => exact ⟨((-1)), (wrap64 (a5 - 1)), (by first | rfl | (simp; done) | (simp [*]; done)), (by first | rfl | (simp; done) | (simp [*]; done)), H', ⟨Nat.le_refl _⟩, ⟨rz a7.out⟩, ⟨rz a8.out⟩, ⟨bz a0.out⟩, ⟨wz HB.out⟩⟩
    case round =>
     clear H'
     try clear c2
     try clear p2
     try clear p6
     try clear c7
     try clear c8
     try clear c8b0
     try clear e3
     try clear d9
     try clear d8
     try clear g3
     try clear f7
     try clear g2
     try clear e0
     try clear e1
     try clear e4
     try clear g0
     try clear f9
     try clear g1
     try clear p2
     obtain ⟨b0, a1, rfl, rfl, HA, d3, a7, a8, a0, HB⟩ := hrel
     cases gk with
     | zero => exact absurd HA.out (by simp [Pr34b.l1])
     | succ k2 =>
      have H := HA.out
      clear HA
      simp only [Pr34b.l1] at H
      by_cases c10 : a1 ≥ 0
      ·rw [if_pos c10] at H
       have c10b0 : decide (0 ≤ a1) = true := decide_eq_true c10
       clear c10
       obtain ⟨a9, d6⟩ : ∃ j_ : Int, (wrap64 ((wrap64 (a5 * a0_0)) + a1)) = j_ := ⟨_, rfl⟩
       replace H : (if 0 ≤ (a9) then (if (a9) < (a4.length : Int) then (if rdOf false a4 (a9) = true then (if 0 ≤ a1 then (if a1 < (a2.length : Int) then (Pr34b.l1 k2 a4 a2 a6 a5 (rd a2 a1) (wrap64 (a1 - 1)) a0_0 l0_1 l0_2) else (none)) else (none)) else (Pr34b.l1 k2 a4 a2 a6 a5 b0 (wrap64 (a1 - 1)) a0_0 l0_1 l0_2)) else (none)) else (none)) = some r := by first | (rw [d6] at H; exact H) | (simp only [d6] at H ⊢; exact H)
       have hji11w : (IntKind.i64.wrap ((wrap64 (a5 * a0_0)) + a1)) = a9 := (i64_w _).trans d6
       by_cases f3 : 0 ≤ (a9)
       ·rw [if_pos f3] at H
        have c12b0 : decide (0 ≤ (a9)) = true := decide_eq_true f3
        clear f3
        by_cases f6 : (a9) < (a4.length : Int)
        ·rw [if_pos f6] at H
         have c13b0 : decide ((a9) < (a4.length : Int)) = true := decide_eq_true f6
         clear f6
         obtain ⟨g5, d7⟩ : ∃ b_ : Bool, b_ = (rdOf false a4 (a9)) := ⟨_, rfl⟩
         replace H : (if g5 = true then (if 0 ≤ a1 then (if a1 < (a2.length : Int) then (Pr34b.l1 k2 a4 a2 a6 a5 (rd a2 a1) (wrap64 (a1 - 1)) a0_0 l0_1 l0_2) else (none)) else (none)) else (Pr34b.l1 k2 a4 a2 a6 a5 b0 (wrap64 (a1 - 1)) a0_0 l0_1 l0_2)) = some r := by rw [← d7] at H; exact H
         have e8 := Aside0.mk d7
         clear d7
         by_cases f0 : g5 = true
         ·subst f0
          have H1 : (if 0 ≤ a1 then (if a1 < (a2.length : Int) then (Pr34b.l1 k2 a4 a2 a6 a5 (rd a2 a1) (wrap64 (a1 - 1)) a0_0 l0_1 l0_2) else (none)) else (none)) = some r := by rw [if_pos rfl] at H; exact H
          clear H
          have H := H1
          clear H1
          by_cases f4 : 0 ≤ a1
          ·rw [if_pos f4] at H
           have c16b0 : decide (0 ≤ a1) = true := decide_eq_true f4
           clear f4
           by_cases f1 : a1 < (a2.length : Int)
           ·rw [if_pos f1] at H
            have c17b0 : decide (a1 < (a2.length : Int)) = true := decide_eq_true f1
            clear f1
            have H' := Aside0.mk H
            clear H
            have j8 : wr.cell? ⟨a3, 0, none⟩ = some (.int .i64 a0_0) := (blk_cell a0.out 0).trans rfl
            have k5 : wr.cell? ⟨a3, 1, none⟩ = some (.slice A0_1 l0_1.length c0_1) := (blk_cell a0.out 1).trans rfl
            have k8 : wr.cell? ⟨a3, 2, none⟩ = some (.slice A0_2 l0_2.length c0_2) := (blk_cell a0.out 2).trans rfl
            have j0 := blk_frozen a0.out 0
            have j3 := blk_frozen a0.out 1
            have j4 := blk_frozen a0.out 2
            obtain ⟨l8, m7, i3⟩ := Kd.R_slice a7.out
            subst i3
            have b7 : 0 ≤ ((a9) : Int) := of_decide_eq_true (by first | (with_reducible assumption) | assumption)
            have b6 : (a9) < (a4.length : Int) := of_decide_eq_true (by first | (with_reducible assumption) | assumption)
            obtain ⟨h9, e6, d1⟩ := Kd.at_bool (Kd.R_reads' a7.out).2.2 (a9) b7 b6
            (try rw [← e8.out] at d1)
            cases e6
            replace b7 := eq_true b7
            replace b6 := eq_true b6
            obtain ⟨m0, m2, i2⟩ := Kd.R_slice a8.out
            subst i2
            have e7 : 0 ≤ (a1 : Int) := of_decide_eq_true (by first | (with_reducible assumption) | assumption)
            have e5 : a1 < (a2.length : Int) := of_decide_eq_true (by first | (with_reducible assumption) | assumption)
            obtain ⟨l4, i4, k6⟩ := Kd.at_int (Kd.R_reads' a8.out).2.2 a1 e7 e5
            cases i4
            replace e7 := eq_true e7
            replace e5 := eq_true e5
            go_wp2
            go_roundg k2
            case measure => have := d2.out; have := d3.out; omega
            case rel => exact ⟨(rd a2 a1), (wrap64 (a1 - 1)), (by first | rfl | (simp; done) | (simp [*]; done)), (by first | rfl | (simp; done) | (simp [*]; done)), H', ⟨by have := d2.out; have := d3.out; omega⟩, ⟨rz a7.out⟩, ⟨rz a8.out⟩, ⟨bz a0.out⟩, ⟨wz HB.out⟩⟩
           ·rw [if_neg f1] at H
            exact absurd H (by simp)
          ·rw [if_neg f4] at H
           exact absurd H (by simp)
         ·replace f0 := Bool.eq_false_iff.mpr f0
          subst f0
          have H1 : (Pr34b.l1 k2 a4 a2 a6 a5 b0 (wrap64 (a1 - 1)) a0_0 l0_1 l0_2) = some r := by rw [if_neg (show ¬ (false = true) by decide)] at H; exact H
          clear H
          have H := H1
          clear H1
          have H' := Aside0.mk H
          clear H
          have k0 : wr.cell? ⟨a3, 0, none⟩ = some (.int .i64 a0_0) := (blk_cell a0.out 0).trans rfl
          have j6 : wr.cell? ⟨a3, 1, none⟩ = some (.slice A0_1 l0_1.length c0_1) := (blk_cell a0.out 1).trans rfl
          have j7 : wr.cell? ⟨a3, 2, none⟩ = some (.slice A0_2 l0_2.length c0_2) := (blk_cell a0.out 2).trans rfl
          have k7 := blk_frozen a0.out 0
          have j5 := blk_frozen a0.out 1
          have j2 := blk_frozen a0.out 2
          obtain ⟨m4, l9, i5⟩ := Kd.R_slice a7.out
          subst i5
          have b7 : 0 ≤ ((a9) : Int) := of_decide_eq_true (by first | (with_reducible assumption) | assumption)
          have b6 : (a9) < (a4.length : Int) := of_decide_eq_true (by first | (with_reducible assumption) | assumption)
          obtain ⟨h9, e6, d1⟩ := Kd.at_bool (Kd.R_reads' a7.out).2.2 (a9) b7 b6
          (try rw [← e8.out] at d1)
          cases e6
          replace b7 := eq_true b7
          replace b6 := eq_true b6
          go_wp2
          go_roundg k2
          case measure => have := d2.out; have := d3.out; omega
          case rel => exact ⟨(b0), (wrap64 (a1 - 1)), (by first | rfl | (simp; done) | (simp [*]; done)), (by first | rfl | (simp; done) | (simp [*]; done)), H', ⟨by have := d2.out; have := d3.out; omega⟩, ⟨rz a7.out⟩, ⟨rz a8.out⟩, ⟨bz a0.out⟩, ⟨wz HB.out⟩⟩
        ·rw [if_neg f6] at H
         exact absurd H (by simp)
       ·rw [if_neg f3] at H
        exact absurd H (by simp)
      ·rw [if_neg c10] at H
       have c10b0 : decide (0 ≤ a1) = false := decide_eq_false c10
       clear c10
       by_cases d5 : b0 < 0
       ·rw [if_pos d5] at H
        have c23b0 : decide (b0 < 0) = true := decide_eq_true d5
        clear d5
        by_cases f5 : a2.length < 17592186044416
        ·rw [if_pos f5] at H
         have h5 := Aside0.mk f5
         clear f5
         obtain ⟨g7, b9⟩ : ∃ y_ : List Int, y_ = (a2 ++ [a6]) := ⟨_, rfl⟩
         replace H : (Pr34b.l0 k2 a4 g7 (wrap64 (a6 + 1)) (wrap64 (a5 + 1)) a0_0 l0_1 l0_2) = some r := by first | (rw [b9]; with_reducible exact H) | (have b4 := (Option.bind_some _ _).symm.trans H; rw [b9]; with_reducible exact b4) | (have b4 := (Option.bind_some _ _).symm.trans H; with_reducible exact b4) | with_reducible exact H | (rw [b9]; exact H) | exact H
         have h4 := Aside0.mk b9
         clear b9
         have H' := Aside0.mk H
         clear H
         go_wp2_with (first | ((with_reducible refine gate_builtin (b := .append) (xs := #[.tmp 42, .tmp 44]) rfl ?_); at_builtin; refine Kd.R_append (Kd.int .i64) (w0 := w) w.heap.size rfl (.tmp 42) (.tmp 44) 28 3 (.int .i64 0) 8 rfl Try.underlying28 info3 rfl (by decide) (by omega) u4 a2 a6 [.int .i64 a6] (fun _ => True) (fun _ => False) rfl rfl ?aP (fun _ hk => hk.elim) ?aF ?aO ?aB ?aS ?aL ?_; (case aP => exact rfl); (case aB => exact (wz HB.out)); (case aF => exact (fun _ _ => trivial)); (case aO => exact (rz a8.out)); (case aS => exact (below_size (wz HB.out))); (case aL => have := h5.out; omega); intro m5 m9 ho hb hg hat; rw [← h4.out] at ho; have b2 := Aside0.mk (Kd.R_over' (rz a7.out) (Kd.R_typed (rz a8.out)) (by decide) hg); have b3 := Aside0.mk (blk_grown (bz a0.out) hg (Kd.R_ne a8.out a0.out (by decide))); have b1 := Aside0.mk (hb); have b5 := Aside0.mk (ho); clear a7; clear a0; clear HB; clear a8; have a7 := b2; have a0 := b3; have HB := b1; have h6 := b5; clear b2 b3 b1 b5; clear ho hb hg hat))
         go_roundg k2
         case measure => have := d2.out; have := d3.out; omega
         case rel => exact ⟨(g7), (wrap64 (a6 + 1)), (wrap64 (a5 + 1)), (by first | rfl | (simp; done) | (simp [*]; done)), (by first | rfl | (simp; done) | (simp [*]; done)), H', ⟨by have := d2.out; have := d3.out; omega⟩, ⟨rz a7.out⟩, ⟨rz h6.out⟩, ⟨bz a0.out⟩, ⟨wz HB.out⟩⟩
        ·rw [if_neg f5] at H
         exact absurd H (by simp)
       ·rw [if_neg d5] at H
        have c23b0 : decide (b0 < 0) = false := decide_eq_false d5
        clear d5
        by_cases f2 : a2.length < 17592186044416
        ·rw [if_pos f2] at H
         have h2 := Aside0.mk f2
         clear f2
         obtain ⟨g4, b8⟩ : ∃ y_ : List Int, y_ = (a2 ++ [b0]) := ⟨_, rfl⟩
         replace H : (Pr34b.l0 k2 a4 g4 a6 (wrap64 (a5 + 1)) a0_0 l0_1 l0_2) = some r := by first | (rw [b8]; with_reducible exact H) | (have b4 := (Option.bind_some _ _).symm.trans H; rw [b8]; with_reducible exact b4) | (have b4 := (Option.bind_some _ _).symm.trans H; with_reducible exact b4) | with_reducible exact H | (rw [b8]; exact H) | exact H
         have h0 := Aside0.mk b8
         clear b8
         have H' := Aside0.mk H
         clear H
         go_wp2_with (first | ((with_reducible refine gate_builtin (b := .append) (xs := #[.tmp 42, .tmp 44]) rfl ?_); at_builtin; refine Kd.R_append (Kd.int .i64) (w0 := w) w.heap.size rfl (.tmp 42) (.tmp 44) 28 3 (.int .i64 0) 8 rfl Try.underlying28 info3 rfl (by decide) (by omega) u4 a2 b0 [.int .i64 b0] (fun _ => True) (fun _ => False) rfl rfl ?aP (fun _ hk => hk.elim) ?aF ?aO ?aB ?aS ?aL ?_; (case aP => exact rfl); (case aB => exact (wz HB.out)); (case aF => exact (fun _ _ => trivial)); (case aO => exact (rz a8.out)); (case aS => exact (below_size (wz HB.out))); (case aL => have := h2.out; omega); intro m1 n0 ho hb hg hat; rw [← h0.out] at ho; have b2 := Aside0.mk (Kd.R_over' (rz a7.out) (Kd.R_typed (rz a8.out)) (by decide) hg); have b3 := Aside0.mk (blk_grown (bz a0.out) hg (Kd.R_ne a8.out a0.out (by decide))); have b1 := Aside0.mk (hb); have b5 := Aside0.mk (ho); clear a7; clear a0; clear HB; clear a8; have a7 := b2; have a0 := b3; have HB := b1; have h3 := b5; clear b2 b3 b1 b5; clear ho hb hg hat))
         go_roundg k2
         case measure => have := d2.out; have := d3.out; omega
         case rel => exact ⟨(g4), (a6), (wrap64 (a5 + 1)), (by first | rfl | (simp; done) | (simp [*]; done)), (by first | rfl | (simp; done) | (simp [*]; done)), H', ⟨by have := d2.out; have := d3.out; omega⟩, ⟨rz a7.out⟩, ⟨rz h3.out⟩, ⟨bz a0.out⟩, ⟨wz HB.out⟩⟩
        ·rw [if_neg f2] at H
         exact absurd H (by simp)
   ·rw [if_neg c8] at H
    have c8b0 : decide (a5 < a0_0) = false := decide_eq_false c8
    clear c8
    obtain rfl := Option.some.inj H
    have i7 : wr.cell? ⟨a3, 0, none⟩ = some (.int .i64 a0_0) := (blk_cell a0.out 0).trans rfl
    have k4 : wr.cell? ⟨a3, 1, none⟩ = some (.slice A0_1 l0_1.length c0_1) := (blk_cell a0.out 1).trans rfl
    have i8 : wr.cell? ⟨a3, 2, none⟩ = some (.slice A0_2 l0_2.length c0_2) := (blk_cell a0.out 2).trans rfl
    have i9 := blk_frozen a0.out 0
    have k3 := blk_frozen a0.out 1
    have j9 := blk_frozen a0.out 2
    go_wp2
    go_ret
    exact ⟨_, by first | rfl | (simp [errW_none, errW_some] <;> rfl) | (simp [*, errW_none, errW_some] <;> rfl), rz a8.out, wz HB.out⟩
end Go.Proofs.Ytmcbkmfpmcbdpaa.Pr
set_option linter.unusedVariables false
set_option linter.unusedSimpArgs false
namespace Go.Proofs.Ytmcbkmfpmcbdpaa.Sem
open Go.Proofs.Ytmcbkmfpmcbdpaa.Pr
def hop (t : List Bool) (e : Ed) : List Bool := if t.getD e.f0.toNat false && !t.getD e.f2.toNat false then t.set e.f2.toNat true else t
def Shut (es : List Ed) (t : List Bool) : Prop := ∀ e ∈ es, t.getD e.f0.toNat false = true → t.getD e.f2.toNat false = true
end Go.Proofs.Ytmcbkmfpmcbdpaa.Sem
set_option linter.unusedVariables false
set_option linter.unusedSimpArgs false
namespace Go.Proofs.Ytmcbkmfpmcbdpaa.H
open Go.RowKit Go.Proofs.Ytmcbkmfpmcbdpaa.Pr Go.Proofs.YtmcbkmfpmcbdpaaW.PrintWords Go.Proofs.Ytmcbkmfpmcbdpaa.Sem Go.Lib Go.Sort
section
variable {α : Type} [Inhabited α] (enc : α → List Value) (k : Nat) (hk : ∀ x, (enc x).length = k)
include hk
end
instance : DecidableEq Ed := fun a b => decidable_of_iff (cmpE a b = 0) (cmpE_zero a b)
end Go.Proofs.Ytmcbkmfpmcbdpaa.H
set_option linter.unusedVariables false
set_option linter.unusedSimpArgs false
namespace Go.Proofs.Ytmcbkmfpmcbdpaa.Pr
open Go.RowKit Go.Proofs.YtmcbkmfpmcbdpaaW.PrintWords Go.Proofs.YtmcbkmfpmcbdpaaW.PrintLast Go.Proofs.YtmcbkmfpmcbdpaaW.PrintMore
def Pr26b.f (a0_0 : Int) (l0_1 : List ByteArray) (l0_2 : List S80) : Option Bool := some (H.mayR a0_0 l0_1 l0_2)
theorem Pr26b.calls (a0_0 : Int) (A0_1 : Option Addr) (c0_1 : Nat) (l0_1 : List ByteArray) (A0_2 : Option Addr) (c0_2 : Nat) (l0_2 : List S80) (r : Bool) (w : World) (hr0_1 : Kd.C Kd.string w A0_1 l0_1.length l0_1) (hc0_1 : l0_1.length ≤ c0_1) (hr0_2 : Kd.C k80 w A0_2 l0_2.length l0_2) (hc0_2 : l0_2.length ≤ c0_2) (h : Pr26b.f a0_0 l0_1 l0_2 = some r) :
  Calls Try.prog 18 #[.agg #[.int .i64 a0_0, .slice A0_1 l0_1.length c0_1, .slice A0_2 l0_2.length c0_2]] w fun e w' => e = .returned (.bool r) ∧ Below w.heap.size w w' := by
 have e : H.mayR a0_0 l0_1 l0_2 = r := by simpa [Pr26b.f] using h
 subst e
 exact H.may_any a0_0 l0_1 l0_2 A0_1 A0_2 c0_1 c0_2 w hr0_1 hr0_2
end Go.Proofs.Ytmcbkmfpmcbdpaa.Pr
