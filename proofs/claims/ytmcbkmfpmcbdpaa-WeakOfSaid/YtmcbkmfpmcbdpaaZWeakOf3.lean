/-
  Parts of the proof of WeakOf (joined by wip/tools/bundle.py), part 3: plain words and walks of the functions that the law reaches.
-/
import Derived.Test.YtmcbkmfpmcbdpaaZWeakOf2
set_option linter.unusedVariables false
set_option linter.unusedSimpArgs false
namespace Go.Proofs.Ytmcbkmfpmcbdpaa.H
open Go.RowKit Go.Proofs.Ytmcbkmfpmcbdpaa.Pr Go.Proofs.YtmcbkmfpmcbdpaaW.PrintWords Go.Proofs.Ytmcbkmfpmcbdpaa.Sem Go.Proofs.YtmcbkmfpmcbdpaaW.PrintLast
theorem sortE_sorted (es : List Ed) : (sortE es).Pairwise elt := (fold_ins es [] List.Pairwise.nil).1
theorem sortE_mem (es : List Ed) (x : Ed) : x ∈ sortE es ↔ x ∈ es := by
 have := (fold_ins es [] List.Pairwise.nil).2 x
 rw [show sortE es = es.foldl (fun o e => insE e o) [] from rfl, this]
 simp
theorem sortE_snoc (es : List Ed) (x : Ed) : sortE (es ++ [x]) = insE x (sortE es) := by simp [sortE, List.foldl_append]
theorem take_snocE {xs : List Ed} {k : Nat} (hk : k < xs.length) : xs.take (k + 1) = xs.take k ++ [xs.getD k z80] := by
 rw [List.take_add_one, List.getElem?_eq_getElem hk, getD_get hk]
 rfl
theorem pw_get {o : List Ed} (h : o.Pairwise elt) {i j : Nat} (hij : i < j) (hj : j < o.length) : elt (o.getD i z80) (o.getD j z80) := by
 rw [getD_get (by omega), getD_get hj]
 exact List.pairwise_iff_getElem.1 h i j (by omega) hj hij
theorem ins_here {e : Ed} {o : List Ed} (ho : o.Pairwise elt) (he : e ∈ o) : insE e o = o :=
 strict_unique _ _ (insE_sorted e o ho) ho fun x => by
  rw [insE_mem]
  constructor
  ·rintro (rfl | h)
   ·exact he
   ·exact h
  ·exact .inr
theorem ins_back {e : Ed} {o : List Ed} (ho : o.Pairwise elt) {t : Nat} (ht : t ≤ o.length) (h1 : ∀ j, t ≤ j → j < o.length → elt e (o.getD j z80)) (h2 : 0 < t → elt (o.getD (t - 1) z80) e) :
  insE e o = o.take t ++ e :: o.drop t := by
 refine strict_unique _ _ (insE_sorted e o ho) ?_ fun x => ?_
 ·have hlow : ∀ a ∈ o.take t, elt a e := by
   intro a ha;obtain ⟨i, hi, rfl⟩ := List.getElem_of_mem ha;rw [List.length_take] at hi;rw [List.getElem_take];have h3 := h2 (by omega);rcases Nat.lt_or_ge i (t - 1) with q | q
   ·have := pw_get ho q (by omega);rw [getD_get (by omega)] at this;exact elt_trans this h3
   ·obtain rfl : i = t - 1 := by omega
    rwa [getD_get (by omega)] at h3
  have hhigh : ∀ a ∈ o.drop t, elt e a := by
   intro a ha;obtain ⟨i, hi, rfl⟩ := List.getElem_of_mem ha;rw [List.length_drop] at hi;rw [List.getElem_drop];have := h1 (t + i) (by omega) (by omega);rwa [getD_get (by omega)] at this
  refine List.pairwise_append.2 ⟨ho.sublist (List.take_sublist _ _), List.pairwise_cons.2 ⟨hhigh, ho.sublist (List.drop_sublist _ _)⟩, fun a ha b hb => ?_⟩;rcases List.mem_cons.1 hb with rfl | hb
  ·exact hlow a ha
  ·exact elt_trans (hlow a ha) (hhigh b hb)
 ·rw [insE_mem, List.mem_append, List.mem_cons];constructor
  ·rintro (h | h)
   ·exact .inr (.inl h)
   ·rw [← List.take_append_drop t o, List.mem_append] at h;rcases h with h | h
    ·exact .inl h
    ·exact .inr (.inr h)
  ·rintro (h | h | h)
   ·exact .inr (List.mem_of_mem_take h)
   ·exact .inl h
   ·exact .inr (List.mem_of_mem_drop h)
set_option maxHeartbeats 8000000 in
set_option maxRecDepth 100000 in
theorem rsort_any (n : Int) (A1 : Option Addr) (m1 c1 : Nat) (es : List Ed) (A2 : Option Addr) (c2 : Nat) (w : World) (hr2 : Kd.C k80 w A2 es.length es) (he : es.length ≤ 1000000) :
  Calls Try.prog 102 #[.agg #[.int .i64 n, .slice A1 m1 c1, .slice A2 es.length c2]] w fun e w' => ∃ v2 : Value, e = .returned (.agg #[.int .i64 n, .slice A1 m1 c1, v2]) ∧ Kd.R k80 80 w' w.heap.size (fun _ => True) v2 (sortE es) ∧ Below w.heap.size w w' := by
 have HB := Aside0.mk (Below.refl w.heap.size w);have i4 := Aside0.mk hr2;clear hr2;go_enter Try.func102, Try.ntmps102
 have HZ : Aside0 (∀ W : World, Go.RowKit.Below w.heap.size w W → True) := ⟨fun _ _ => trivial⟩
 go_wp2_with ((with_reducible refine gate_dst (N := 8) rfl ?_); refine Kd.R_lit k80 _ 80 ?hg (N := 8) ?hd (xs := ([] : List Ed)) (inner := []) (ok := fun _ => True) (okp := fun _ => True) ?hr ?hp (fun _ hk => hk) trivial (Below.refl _ _) (Nat.le_refl _) (by simp) ?_; (case hd => rfl); (case hg => rfl); (case hr => first | (go_simp; done) | (go_simp; rfl)); (case hp => exact (Reps.none _ _)); intro v8 w1 ho hb hg_ hnew_; clear hg_ hnew_; have HO := Aside0.mk (Kd.R_lower (base' := w.heap.size) ho (below_alloc (below_alloc HB.out _) _).size); have HX := Aside0.mk (show BoxL w1 w.heap.size n (.slice A1 m1 c1) (.slice A2 es.length c2) from blk_below (blk_alloc (blk_new w _) _) hb); have HY := Aside0.mk (show w1.heap[w.heap.size + 1]? = some (.cells #[.int .i64 0, .slice none 0 0, .slice none 0 0] 25 (0, 0)) from blk_below (by have := blk_new (w.alloc (.cells #[.int .i64 n, .slice A1 m1 c1, .slice A2 es.length c2] 25)) (.cells #[.int .i64 0, .slice none 0 0, .slice none 0 0] 25); simpa using this) hb); have a6 := Aside0.mk (below_step (below_alloc (below_alloc HB.out _) _) hb); clear ho hb)
 clear HZ;go_loopw [3, 4] (fun v i wr => ∃ k : Nat, k ≤ es.length ∧ i = .int .i64 k ∧ Aside0 (Kd.R k80 80 wr w.heap.size (fun _ => True) v (sortE (es.take k))) ∧ Aside0 (BoxL wr w.heap.size n (.slice A1 m1 c1) (.slice A2 es.length c2)) ∧ Aside0 (wr.heap[w.heap.size + 1]? = some (.cells #[.int .i64 0, .slice none 0 0, .slice none 0 0] 25 (0, 0))) ∧ Aside0 (Below w.heap.size w wr)) (fun _ i _ => es.length - (intOf i).toNat)
 case atStart => exact ⟨0, Nat.zero_le _, rfl, HO, HX, HY, a6⟩
 case round =>
  clear HO HX HY a6;obtain ⟨k, hk, rfl, HO, HX, HY, a6⟩ := hrel;obtain ⟨Ao, co, hv⟩ := Kd.R_slice HO.out;subst hv;have b2 := HX.out.c2;by_cases hlt : k < es.length
  ·obtain ⟨ad, hA, g0, g1, g2⟩ := atE i4.out k hlt;subst hA;replace g0 := later a6.out g0;replace g1 := later a6.out g1;replace g2 := later a6.out g2;obtain ⟨x, hx⟩ : ∃ x, x = es.getD k z80 := ⟨_, rfl⟩
   rw [← hx] at g0 g1 g2;have HN := Aside0.mk (show sortE (es.take (k + 1)) = insE x (sortE (es.take k)) by rw [take_snocE hlt, sortE_snoc, ← hx]);obtain ⟨o, ho⟩ : ∃ o, o = sortE (es.take k) := ⟨_, rfl⟩
   have hol : o.length ≤ k := by rw [ho]; exact Nat.le_trans (sortE_length _) (by rw [List.length_take]; omega)
   have HS := Aside0.mk (show o.Pairwise elt by rw [ho]; exact sortE_sorted _);rw [← ho] at HO HN ⊢;clear hx ho;obtain ⟨_, cc, hv, hcl, hC⟩ := Kd.R_reads HO.out;injection hv with hA _ hc
   subst hA hc;have d9 := Aside0.mk hC;have HLc := Aside0.mk hcl;clear hC hcl;obtain ⟨i0, i3, _, hsz, _⟩ := info_parts info80;have e3 := Aside0.mk (And.intro i3 hsz);clear i3 hsz;go_wp2_with fail
   obtain ⟨wo, hwo⟩ : ∃ wo, wo = wr := ⟨_, rfl⟩
   subst hwo;have g5 := Aside0.mk (blk_new wo (Obj.cells #[.int .i64 x.f0, .int .i64 x.f1, .int .i64 x.f2] 80));have g8 := Aside0.mk (below_alloc (Below.refl wo.heap.size wo) (Obj.cells #[.int .i64 x.f0, .int .i64 x.f1, .int .i64 x.f2] 80));obtain ⟨E, hE⟩ : ∃ E, E = wo.heap.size := ⟨_, rfl⟩
   have HEE := Aside0.mk hE;rw [← hE] at g5 ⊢;clear hE g0 g1 g2;generalize (wo.alloc (Obj.cells #[Value.int IntKind.i64 x.f0, Value.int IntKind.i64 x.f1, Value.int IntKind.i64 x.f2] 80)) = W0 at g5 g8 ⊢;go_loopw [6] (fun a W => ∃ t : Nat, t ≤ o.length ∧ a = .int .i64 t ∧ Aside0 (∀ j, t ≤ j → j < o.length → elt x (o.getD j z80)) ∧ Aside0 (W.heap[E]? = (some (.cells #[.int .i64 x.f0, .int .i64 x.f1, .int .i64 x.f2] 80 (0, 0)))) ∧ Aside0 (Below wo.heap.size wo W)) (fun a _ => (intOf a).toNat)
   case atStart => exact ⟨o.length, Nat.le_refl _, rfl, ⟨fun j h1 h2 => by omega⟩, g5, g8⟩
   case round =>
    clear g5 g8;obtain ⟨t, ht, rfl, hz, HE, HW⟩ := hrel;rcases Nat.eq_zero_or_pos t with h0 | hp
    ·have HIns := Aside0.mk (ins_back (e := x) HS.out ht hz.out (fun h => by omega));have d7 : decide ((0 : Int) < (t : Int)) = false := decide_eq_false (by omega);have d8 : decide (0 < t) = false := decide_eq_false (by omega);clear h0;go_wp2_with fail
     go_quiet (fail)
     have HWa := Aside0.mk (pw_below_drewN HW.out nq);have HEa := Aside0.mk (show (wr.drewN nq).heap[E]? = _ from HE.out);generalize wr.drewN nq = Wa at HWa HEa ⊢;clear nq;go_wp2_with fail
     go_quiet (fail)
     have HWb := Aside0.mk (pw_below_drewN HWa.out nq);have HEb := Aside0.mk (show (Wa.drewN nq).heap[E]? = _ from HEa.out);generalize Wa.drewN nq = Wb at HWb HEb ⊢;clear b2 HWa HEa HW HE nq d7 d8;have hcf := cut_from (P := Try.prog) 23 80 .i64 Try.underlying23 e3.out.1 3 e3.out.2 Ao o.length co (t : Int) (by omega) (by omega);have hct := cut_to (P := Try.prog) 23 80 .i64 Try.underlying23 e3.out.1 Ao o.length co (t : Int) (by omega) (by omega) HLc.out;rw [Int.toNat_natCast] at hcf hct;obtain ⟨A7, d4⟩ : ∃ A7, A7 = (if co = t then Ao else Ao.map (·.add (t * 3))) := ⟨_, rfl⟩
     rw [← d4] at hcf;have g7 := Aside0.mk (show Kd.C k80 wo A7 (o.length - t) (o.drop t) by rw [d4]; have := Kd.C_drop d9.out ht HLc.out; rwa [List.length_drop] at this);have HCt := Aside0.mk (Kd.C_take d9.out ht);have hdl : (o.drop t).length = o.length - t := List.length_drop ..;have htl : (o.take t).length = t := by rw [List.length_take]; omega
     rw [htl] at HCt;have HDL := Aside0.mk hdl;have HTL := Aside0.mk htl;clear d4 hdl htl
     go_wp2_with (first
      | ((with_reducible refine gate_dst (N := 47) rfl ?_); refine Kd.R_lit k80 _ 80 ?hg (N := 47) ?hd (xs := ([] : List Ed)) (inner := []) (ok := fun _ => True) (okp := fun _ => True) ?hr ?hp (fun _ hk => hk) trivial (Below.refl _ _) (Nat.le_refl _) (by simp) ?_; (case hd => rfl); (case hg => rfl); (case hr => first | (go_simp; done) | (go_simp; rfl)); (case hp => exact (Reps.none _ _)); intro h5 w3 ho hb hg_ hn_; have a1 := Aside0.mk hb; have f3 := Aside0.mk ho; clear ho hb hg_ hn_)
      | (at_builtin; refine Kd.R_append_rows k80 (w0 := Wb) Wb.heap.size rfl (.tmp 47) (.tmp 50) 23 80 (.agg #[(.int .i64 0), (.int .i64 0), (.int .i64 0)]) 24 rfl Try.underlying23 info80 rfl (by decide) (by omega) h5 [] (o.drop t) A7 _ _ (fun _ => True) (fun _ => False) rfl rfl f3.out (Kd.C_below g7.out (below_then HWb.out HWb.out.size a1.out)) (fun _ _ h => h) (fun _ h => h.elim) (fun _ _ => trivial) a1.out a1.out.size (by have := HTL.out; have := HDL.out; simp only [List.length_nil, List.length_append, List.length_cons]; omega) ?_; intro h6 w4 ho hb hg hat; have d3 := Aside0.mk hb; have d2 := Aside0.mk (show Kd.R k80 80 w4 Wb.heap.size (fun _ => True) h6 (o.drop t) from ho); clear ho hb hg hat))
     obtain ⟨e4, i5, g3⟩ := Kd.R_slice d2.out;subst g3;have b9 := Aside0.mk (blk_below HEb.out d3.out);have e7 := Aside0.mk (below_then HWb.out HWb.out.size d3.out);have e0 : w4.cell? ⟨E, 0, none⟩ = some (.int .i64 x.f0) := bcz b9 0 rfl;have e1 : w4.cell? ⟨E, 1, none⟩ = some (.int .i64 x.f1) := bcz b9 1 rfl;have e2 : w4.cell? ⟨E, 2, none⟩ = some (.int .i64 x.f2) := bcz b9 2 rfl;clear hcf;refine start_ (n := 11) (S := fun w' => w'.cell? ⟨E, 0, none⟩ = some (.int .i64 x.f0) ∧ w'.cell? ⟨E, 1, none⟩ = some (.int .i64 x.f1) ∧ w'.cell? ⟨E, 2, none⟩ = some (.int .i64 x.f2)) (ds := []) (bqz 11 0) (by kernel_rfl) rfl rfl ⟨e0, e1, e2⟩ (fun hHeld => ?_);have b5 := Aside0.mk (below_drew1 (Below.refl w4.heap.size w4));have a0 := Aside0.mk (blk_below b9.out b5.out);have e5 := Aside0.mk (Kd.R_below d2.out b5.out);have a3 := Aside0.mk (below_then e7.out e7.out.size b5.out);have f9 : Wb.heap.size ≤ w4.drew.heap.size := Nat.le_trans d3.out.size b5.out.size;generalize w4.drew = V at b5 a0 e5 a3 f9 hHeld ⊢;have HV := Aside0.mk (Below.refl V.heap.size V);clear e0 e1 e2;refine pqz 1 (some 53) (bqz 11 2) rfl rfl (by kernel_rfl) ?_ ?_ (fun _ _ _ h => h) (by rfl) ?_ ?_ ?_;rotate_left 2;intro w';go_simp;(with_reducible rfl);simp only [Act.put, qz1, qz2, qz3, i64_w, i32_w];rfl
     refine pqz 2 (some 54) (bqz 11 6) rfl rfl (by kernel_rfl) ?_ ?_ (fun _ _ _ h => h) (by rfl) ?_ ?_ ?_;rotate_left 2;intro w';go_simp;(with_reducible rfl);simp only [Act.put, qz1, qz2, qz3, i64_w, i32_w];rfl
     refine pqz 3 (some 55) (bqz 11 14) rfl rfl (by kernel_rfl) ?_ ?_ (fun _ _ _ h => h) (by rfl) ?_ ?_ ?_;rotate_left 2;intro w';go_simp;(with_reducible rfl);simp only [Act.put, qz1, qz2, qz3, i64_w, i32_w];rfl
     refine pqz 8 (some 60) (bqz 11 270) rfl rfl (by kernel_rfl) ?_ ?_ (fun _ _ _ h => h) (by rfl) ?_ ?_ ?_;rotate_left 2;intro w';go_simp;(with_reducible rfl);simp only [Act.put, qz1, qz2, qz3, i64_w, i32_w];rfl
     refine tqz 5 (some 57) (bqz 11 302) rfl rfl (by kernel_rfl) ?_ ?_ (fun _ _ _ h => h) (by rfl) ?_ hHeld ?_ ?_;rotate_left 2;rintro w' ⟨s0, s1, s2⟩;go_simp;(with_reducible rfl);simp only [Act.put, qz1, qz2, qz3, i64_w, i32_w];rfl
     refine join_ (σ := Value × Value × Value) 3 (bqz 11 383) (fun s => [(52, s.1), (56, s.2.1), (58, s.2.2)]) (fun s w' => (w'.cell? ⟨E, 0, none⟩ = some (.int .i64 x.f0) ∧ w'.cell? ⟨E, 1, none⟩ = some (.int .i64 x.f1) ∧ w'.cell? ⟨E, 2, none⟩ = some (.int .i64 x.f2)) ∧ Kd.R k80 80 w' V.heap.size (fun _ => True) s.2.1 (o.take t) ∧ Kd.R k80 80 w' V.heap.size (fun _ => True) s.2.2 [x] ∧ Below V.heap.size V w') ?_ ?_;rotate_left
     ·intro hCont;refine two_ (i := 0) (j := 6) (Ni := some 52) (Nj := some 58) (bqz 11 303) (bqz 11 366) rfl rfl rfl rfl (by kernel_rfl) (by decide) (by decide) (fun K hK => ?_) (fun K hK => ?_)
      ·skip
       refine Kd.R_lit_step k80 _ 80 ?hg (N := 52) ?hd (xs := ([] : List Ed)) (inner := []) (ok := fun _ => True) (okp := fun _ => True) ?hr ?hp (fun _ hk => hk) trivial (Below.refl _ _) (Nat.le_refl _) (by simp) ?_; (case hd => rfl); (case hg => rfl); (case hr => first | (go_simp; done) | (go_simp; rfl)); (case hp => exact (Reps.none _ _))
       intro a9 h8 ho hb hg_ hn_;have HOa := Aside0.mk (Kd.R_lower (base' := V.heap.size) ho HV.out.size);have a5 := Aside0.mk (below_step HV.out hb);have hBf := Aside0.mk hb;clear ho hb hg_ hn_;refine hK.out _ _ ⟨later hBf.out (hHeld.1), later hBf.out (hHeld.2.1), later hBf.out (hHeld.2.2)⟩ (fun hHeld => ?_);clear hK K;refine norm_ (a' := ?_) ?_ ?_;rotate_left
       ·show Act.put _ (some 52) _ = _;simp only [Act.put, qz1, qz2, qz3, i64_w, i32_w];rfl
       refine two_ (i := 4) (j := 6) (Ni := some 56) (Nj := some 58) (bqz 11 319) (bqz 11 367) rfl rfl rfl rfl (by kernel_rfl) (by decide) (by decide) (fun K hK => ?_) (fun K hK => ?_)
       ·skip
        refine Kd.R_append_rows_step k80 (w0 := V) V.heap.size (by rfl) (.tmp 52) (.tmp 55) 23 80 (.agg #[(.int .i64 0), (.int .i64 0), (.int .i64 0)]) 24 rfl Try.underlying23 info80 rfl (by decide) (by omega) a9 [] (o.take t) Ao _ _ (fun _ => True) (fun _ => False) rfl rfl HOa.out (Kd.C_below HCt.out (below_then a3.out a3.out.size a5.out)) (fun _ _ h => h) (fun _ h => h.elim) (fun _ _ => trivial) a5.out a5.out.size (by have := HTL.out; have := HDL.out; simp only [List.length_nil, List.length_append, List.length_cons]; omega) ?_;intro a4 d6 ho hb hg hat;have f7 := Aside0.mk (show Kd.R k80 80 d6 V.heap.size (fun _ => True) a4 (o.take t) from ho);have a2 := Aside0.mk hb;clear ho hb hg hat;refine hK.out _ _ ⟨later a2.out (bcz a0 0 rfl), later a2.out (bcz a0 1 rfl), later a2.out (bcz a0 2 rfl)⟩ (fun hHeld => ?_);clear hK K;refine norm_ (a' := ?_) ?_ ?_;rotate_left
        ·show Act.put _ (some 56) _ = _;simp only [Act.put, qz1, qz2, qz3, i64_w, i32_w];rfl
        refine one_ (i := 6) (N := some 58) (bqz 11 383) rfl rfl (by kernel_rfl) (by decide) (fun K hK => ?_);refine Kd.R_lit_step k80 _ 80 ?hg (N := 58) ?hd (xs := ([x] : List Ed)) (inner := [.int .i64 x.f0, .int .i64 x.f1, .int .i64 x.f2]) (ok := fun _ => True) (okp := fun _ => True) ?hr ?hp (fun _ hk => hk) trivial (Below.refl _ _) (Nat.le_refl _) (by simp) ?_; (case hd => rfl); (case hg => rfl); (case hr => first | (go_simp; done) | (go_simp; rfl)); (case hp => exact (Reps.c3 (show Kd.M k80 _ _ _ x [.int .i64 x.f0, .int .i64 x.f1, .int .i64 x.f2] from k80_mkM _ _ _ x) (Reps.none _ _)))
        intro b4 d1 ho hb hg_ hn_;have a8 := Aside0.mk (Kd.R_lower (base' := V.heap.size) ho a2.out.size);have a7 := Aside0.mk (Kd.R_below f7.out hb);have a1 := Aside0.mk (below_step a2.out hb);have hBf := Aside0.mk hb;clear ho hb hg_ hn_;refine hK.out _ _ ⟨later hBf.out (hHeld.1), later hBf.out (hHeld.2.1), later hBf.out (hHeld.2.2)⟩ (fun hHeld => ?_);clear hK K;refine norm_ (a' := ?_) ?_ ?_;rotate_left
        ·show Act.put _ (some 58) _ = _;simp only [Act.put, qz1, qz2, qz3, i64_w, i32_w];rfl
        exact norm_ (by simp only [putAll, Act.put, qz1, qz2, qz3]) (hCont (a9, a4, b4) _ ⟨hHeld, a7.out, a8.out, a1.out⟩)
       ·skip
        refine Kd.R_lit_step k80 _ 80 ?hg (N := 58) ?hd (xs := ([x] : List Ed)) (inner := [.int .i64 x.f0, .int .i64 x.f1, .int .i64 x.f2]) (ok := fun _ => True) (okp := fun _ => True) ?hr ?hp (fun _ hk => hk) trivial (Below.refl _ _) (Nat.le_refl _) (by simp) ?_; (case hd => rfl); (case hg => rfl); (case hr => first | (go_simp; done) | (go_simp; rfl)); (case hp => exact (Reps.c3 (show Kd.M k80 _ _ _ x [.int .i64 x.f0, .int .i64 x.f1, .int .i64 x.f2] from k80_mkM _ _ _ x) (Reps.none _ _)))
        intro b4 d6 ho hb hg_ hn_;have b7 := Aside0.mk (Kd.R_lower (base' := V.heap.size) (Kd.R_new' ho (fun k hk => Kd.R_lt HOa.out k hk)) a5.out.size);have HOa' := Aside0.mk (Kd.R_below HOa.out hb);clear HOa;have HOa := HOa';clear HOa';have a2 := Aside0.mk (below_step a5.out hb);have hBf := Aside0.mk hb;clear ho hb hg_ hn_;refine hK.out _ _ ⟨later hBf.out (hHeld.1), later hBf.out (hHeld.2.1), later hBf.out (hHeld.2.2)⟩ (fun hHeld => ?_);clear hK K;refine norm_ (a' := ?_) ?_ ?_;rotate_left
        ·show Act.put _ (some 58) _ = _;simp only [Act.put, qz1, qz2, qz3, i64_w, i32_w];rfl
        refine one_ (i := 4) (N := some 56) (bqz 11 383) rfl rfl (by kernel_rfl) (by decide) (fun K hK => ?_);refine Kd.R_append_rows_step k80 (w0 := V) V.heap.size (by rfl) (.tmp 52) (.tmp 55) 23 80 (.agg #[(.int .i64 0), (.int .i64 0), (.int .i64 0)]) 24 rfl Try.underlying23 info80 rfl (by decide) (by omega) a9 [] (o.take t) Ao _ _ (fun _ => True) (fun _ => False) rfl rfl HOa.out (Kd.C_below HCt.out (below_then a3.out a3.out.size a2.out)) (fun _ _ h => h) (fun _ h => h.elim) (fun _ _ => trivial) a2.out a2.out.size (by have := HTL.out; have := HDL.out; simp only [List.length_nil, List.length_append, List.length_cons]; omega) ?_;intro a4 d1 ho hb hg hat;have a7 := Aside0.mk (show Kd.R k80 80 d1 V.heap.size (fun _ => True) a4 (o.take t) from ho);have a8 := Aside0.mk (Kd.R_mono (Kd.R_grown b7.out hg (fun _ hk => hk.2)) (fun _ _ => trivial));have a1 := Aside0.mk hb;clear ho hb hg hat;refine hK.out _ _ ⟨later a1.out (bcz a0 0 rfl), later a1.out (bcz a0 1 rfl), later a1.out (bcz a0 2 rfl)⟩ (fun hHeld => ?_);clear hK K;refine norm_ (a' := ?_) ?_ ?_;rotate_left
        ·show Act.put _ (some 56) _ = _;simp only [Act.put, qz1, qz2, qz3, i64_w, i32_w];rfl
        exact norm_ (by simp only [putAll, Act.put, qz1, qz2, qz3]) (hCont (a9, a4, b4) _ ⟨hHeld, a7.out, a8.out, a1.out⟩)
      ·skip
       refine Kd.R_lit_step k80 _ 80 ?hg (N := 58) ?hd (xs := ([x] : List Ed)) (inner := [.int .i64 x.f0, .int .i64 x.f1, .int .i64 x.f2]) (ok := fun _ => True) (okp := fun _ => True) ?hr ?hp (fun _ hk => hk) trivial (Below.refl _ _) (Nat.le_refl _) (by simp) ?_; (case hd => rfl); (case hg => rfl); (case hr => first | (go_simp; done) | (go_simp; rfl)); (case hp => exact (Reps.c3 (show Kd.M k80 _ _ _ x [.int .i64 x.f0, .int .i64 x.f1, .int .i64 x.f2] from k80_mkM _ _ _ x) (Reps.none _ _)))
       intro b4 h8 ho hb hg_ hn_;have f8 := Aside0.mk (Kd.R_lower (base' := V.heap.size) ho HV.out.size);have a5 := Aside0.mk (below_step HV.out hb);have hBf := Aside0.mk hb;clear ho hb hg_ hn_;refine hK.out _ _ ⟨later hBf.out (hHeld.1), later hBf.out (hHeld.2.1), later hBf.out (hHeld.2.2)⟩ (fun hHeld => ?_);clear hK K;refine norm_ (a' := ?_) ?_ ?_;rotate_left
       ·show Act.put _ (some 58) _ = _;simp only [Act.put, qz1, qz2, qz3, i64_w, i32_w];rfl
       refine one_ (i := 0) (N := some 52) (bqz 11 367) rfl rfl (by kernel_rfl) (by decide) (fun K hK => ?_);refine Kd.R_lit_step k80 _ 80 ?hg (N := 52) ?hd (xs := ([] : List Ed)) (inner := []) (ok := fun _ => True) (okp := fun _ => True) ?hr ?hp (fun _ hk => hk) trivial (Below.refl _ _) (Nat.le_refl _) (by simp) ?_; (case hd => rfl); (case hg => rfl); (case hr => first | (go_simp; done) | (go_simp; rfl)); (case hp => exact (Reps.none _ _))
       intro a9 d6 ho hb hg_ hn_;have HOa := Aside0.mk (Kd.R_lower (base' := V.heap.size) ho a5.out.size);have b7 := Aside0.mk (Kd.R_elder' f8.out (Kd.R_base ho) hb);have a2 := Aside0.mk (below_step a5.out hb);have hBf := Aside0.mk hb;clear ho hb hg_ hn_;refine hK.out _ _ ⟨later hBf.out (hHeld.1), later hBf.out (hHeld.2.1), later hBf.out (hHeld.2.2)⟩ (fun hHeld => ?_);clear hK K;refine norm_ (a' := ?_) ?_ ?_;rotate_left
       ·show Act.put _ (some 52) _ = _;simp only [Act.put, qz1, qz2, qz3, i64_w, i32_w];rfl
       refine one_ (i := 4) (N := some 56) (bqz 11 383) rfl rfl (by kernel_rfl) (by decide) (fun K hK => ?_);refine Kd.R_append_rows_step k80 (w0 := V) V.heap.size (by rfl) (.tmp 52) (.tmp 55) 23 80 (.agg #[(.int .i64 0), (.int .i64 0), (.int .i64 0)]) 24 rfl Try.underlying23 info80 rfl (by decide) (by omega) a9 [] (o.take t) Ao _ _ (fun _ => True) (fun _ => False) rfl rfl HOa.out (Kd.C_below HCt.out (below_then a3.out a3.out.size a2.out)) (fun _ _ h => h) (fun _ h => h.elim) (fun _ _ => trivial) a2.out a2.out.size (by have := HTL.out; have := HDL.out; simp only [List.length_nil, List.length_append, List.length_cons]; omega) ?_;intro a4 d1 ho hb hg hat;have a7 := Aside0.mk (show Kd.R k80 80 d1 V.heap.size (fun _ => True) a4 (o.take t) from ho);have a8 := Aside0.mk (Kd.R_mono (Kd.R_grown b7.out hg (fun _ hk => hk.2)) (fun _ _ => trivial));have a1 := Aside0.mk hb;clear ho hb hg hat;refine hK.out _ _ ⟨later a1.out (bcz a0 0 rfl), later a1.out (bcz a0 1 rfl), later a1.out (bcz a0 2 rfl)⟩ (fun hHeld => ?_);clear hK K;refine norm_ (a' := ?_) ?_ ?_;rotate_left
       ·show Act.put _ (some 56) _ = _;simp only [Act.put, qz1, qz2, qz3, i64_w, i32_w];rfl
       exact norm_ (by simp only [putAll, Act.put, qz1, qz2, qz3]) (hCont (a9, a4, b4) _ ⟨hHeld, a7.out, a8.out, a1.out⟩)
     rintro ⟨i9, a4, b4⟩ w5 ⟨hHeld, d5, b8, e8⟩;have f4 := Aside0.mk d5;obtain ⟨g6, i7, g4⟩ := Kd.R_slice b8;subst g4;have e9 := Aside0.mk ((Kd.R_reads' b8).2.2);have e6 := Aside0.mk e8;clear d5 b8 e8;refine norm_ (a' := ?_) ?_ ?_;rotate_left
     ·simp only [putAll, Act.put, qz1, qz2, qz3];rfl
     refine one_ (i := 7) (N := some 59) (bqz 11 511) rfl rfl (by kernel_rfl) (by decide) (fun K hK => ?_);refine Kd.R_append_rows_step k80 (w0 := V) V.heap.size (by rfl) (.tmp 56) (.tmp 58) 23 80 (.agg #[(.int .i64 0), (.int .i64 0), (.int .i64 0)]) 24 rfl Try.underlying23 info80 rfl (by decide) (by omega) a4 (o.take t) [x] g6 _ _ (fun _ => True) (fun _ => False) rfl rfl f4.out e9.out (fun _ _ h => h) (fun _ h => h.elim) (fun _ _ => trivial) e6.out e6.out.size (by have := HTL.out; have := HDL.out; simp only [List.length_nil, List.length_append, List.length_cons]; omega) ?_;intro h7 w6 ho hb hg hat;have f5 := Aside0.mk ho;have b3 := Aside0.mk hb;clear ho hb hg hat;refine hK.out _ _ ⟨later b3.out (bcz a0 0 rfl), later b3.out (bcz a0 1 rfl), later b3.out (bcz a0 2 rfl)⟩ (fun hHeld => ?_);clear hK K;refine norm_ (a' := ?_) ?_ ?_;rotate_left
     ·show Act.put _ (some 59) _ = _;simp only [Act.put, qz1, qz2, qz3, i64_w, i32_w];rfl
     refine one_ (i := 9) (N := some 61) (bqz 11 1023) rfl rfl (by kernel_rfl) (by decide) (fun K hK => ?_);refine Kd.R_append_rows_step k80 (w0 := V) V.heap.size (by rfl) (.tmp 59) (.tmp 60) 23 80 (.agg #[(.int .i64 0), (.int .i64 0), (.int .i64 0)]) 24 rfl Try.underlying23 info80 rfl (by decide) (by omega) h7 (o.take t ++ [x]) (o.drop t) e4 _ _ (fun _ => True) (fun _ => False) rfl rfl f5.out (Kd.C_below (show Kd.C k80 V e4 (o.length - t) (o.drop t) by have := (Kd.R_reads' e5.out).2.2; rwa [List.length_drop] at this) b3.out) (fun _ _ h => h) (fun _ h => h.elim) (fun _ _ => trivial) b3.out b3.out.size (by have := HTL.out; have := HDL.out; simp only [List.length_nil, List.length_append, List.length_cons]; omega) ?_;intro j5 w7 ho hb hg hat;have f6 := Aside0.mk ho;have d0 := Aside0.mk hb;clear ho hb hg hat;refine hK.out _ _ ⟨later d0.out (bcz a0 0 rfl), later d0.out (bcz a0 1 rfl), later d0.out (bcz a0 2 rfl)⟩ (fun hHeld => ?_);clear hK K;refine norm_ (a' := ?_) ?_ ?_;rotate_left
     ·show Act.put _ (some 61) _ = _;simp only [Act.put, qz1, qz2, qz3, i64_w, i32_w];rfl
     refine pqz 10 (some 3) (bqz 11 2047) rfl rfl (by kernel_rfl) ?_ ?_ (fun _ _ _ h => h) (by rfl) ?_ ?_ ?_;rotate_left 2;intro w';go_simp;(with_reducible rfl);simp only [Act.put, qz1, qz2, qz3, i64_w, i32_w];rfl
     refine done_ (by kernel_rfl) ?_;have HL := Aside0.mk (show (o.take t ++ [x]) ++ o.drop t = insE x o by rw [HIns.out]; simp);have HF := Aside0.mk (below_then a3.out a3.out.size d0.out);have g9 : w.heap.size ≤ V.heap.size := Nat.le_trans a6.out.size a3.out.size;go_wp2
     go_roundw
     case rel => exact ⟨k + 1, by omega, by go_num, ⟨by rw [HN.out, ← HL.out]; exact Kd.R_lower f6.out g9⟩, ⟨HX.out.below HF.out⟩, ⟨blk_below HY.out HF.out⟩, ⟨below_then a6.out a6.out.size HF.out⟩⟩
     case measure => simp [intOf]; omega
    ·obtain ⟨b6, i8, p0, p1, p2⟩ := atE d9.out (t - 1) (by omega);subst i8;obtain ⟨y, hy⟩ : ∃ y, y = o.getD (t - 1) z80 := ⟨_, rfl⟩
     rw [← hy] at p0 p1 p2;have PP := Aside0.mk (And.intro p0 (And.intro p1 p2));replace p0 := later HW.out p0;replace p1 := later HW.out p1;replace p2 := later HW.out p2;have HYY := Aside0.mk hy;have d7 : decide ((0 : Int) < (t : Int)) = true := decide_eq_true (by omega);have d8 : decide (0 < t) = true := decide_eq_true (by omega);have i0 : (0 : Int) ≤ (t : Int) - 1 := by omega
     have i1 : (t : Int) - 1 < (o.length : Int) := by omega
     have j0 : (1 : Int) ≤ (t : Int) := by omega
     have j1 : (t : Int) < (o.length : Int) + 1 := by omega
     have j2 : 1 ≤ t := by omega
     have j3 : t - 1 < o.length := by omega
     have j4 : (t : Int) ≤ (o.length : Int) := by omega
     have h3 : IntKind.i64.wrap ((t : Int) - 1) = (t : Int) - 1 := by rw [IntKind.wrap_i64]; omega
     have h4 : ((t : Int) - 1).toNat = t - 1 := by omega
     have e0 : wr.cell? ⟨E, 0, none⟩ = some (.int .i64 x.f0) := bcz HE 0 rfl;have e1 : wr.cell? ⟨E, 1, none⟩ = some (.int .i64 x.f1) := bcz HE 1 rfl;have e2 : wr.cell? ⟨E, 2, none⟩ = some (.int .i64 x.f2) := bcz HE 2 rfl;clear hy
     cases hC : decide (elt x y) with
     | true =>
      have HCm := Aside0.mk hC; clear hC
      go_wp2_with fail
      go_region_held3 (fun w' => w'.cell? ⟨E, 0, none⟩ = some (.int .i64 x.f0) ∧ w'.cell? ⟨E, 1, none⟩ = some (.int .i64 x.f1) ∧ w'.cell? ⟨E, 2, none⟩ = some (.int .i64 x.f2) ∧ w'.cell? (b6.add ((t - 1) * 3)) = some (.int .i64 y.f0) ∧ w'.cell? ⟨(b6.add ((t - 1) * 3)).block, (b6.add ((t - 1) * 3)).off + 1, none⟩ = some (.int .i64 y.f1) ∧ w'.cell? ⟨(b6.add ((t - 1) * 3)).block, (b6.add ((t - 1) * 3)).off + 2, none⟩ = some (.int .i64 y.f2)) (first | go_keep | (refine ⟨later hB ?_, later hB ?_, later hB ?_, later hB ?_, later hB ?_, later hB ?_⟩ <;> go_keep)) (first | (go_at_call 70; refine (ahead_any x y _ HCm.out _).mono ?_; rintro e w' ⟨rfl, hB⟩))
      have HWa := Aside0.mk (below_then (below_drew HW.out) (below_drew HW.out).size hB);have HEa := Aside0.mk (blk_below (show wr.drew.heap[E]? = _ from HE.out) hB);clear hB e0 e1 e2 h3 h4 i0 i1 j0 j1 j2 j3 j4 d7 d8 p0 p1 p2;go_wp2
      go_roundw
      case rel => exact ⟨t - 1, by omega, by go_num, ⟨fun j h1 h2 => by
       rcases Nat.lt_or_ge j t with q | q
       ·obtain rfl : j = t - 1 := by omega
        rw [← HYY.out]; exact of_decide_eq_true HCm.out
       ·exact hz.out j q h2⟩, HEa, HWa⟩
      case measure => simp [intOf]; omega
     | false =>
      have HCm := Aside0.mk hC; clear hC
      go_wp2_with fail
      go_region_held3 (fun w' => w'.cell? ⟨E, 0, none⟩ = some (.int .i64 x.f0) ∧ w'.cell? ⟨E, 1, none⟩ = some (.int .i64 x.f1) ∧ w'.cell? ⟨E, 2, none⟩ = some (.int .i64 x.f2) ∧ w'.cell? (b6.add ((t - 1) * 3)) = some (.int .i64 y.f0) ∧ w'.cell? ⟨(b6.add ((t - 1) * 3)).block, (b6.add ((t - 1) * 3)).off + 1, none⟩ = some (.int .i64 y.f1) ∧ w'.cell? ⟨(b6.add ((t - 1) * 3)).block, (b6.add ((t - 1) * 3)).off + 2, none⟩ = some (.int .i64 y.f2)) (first | go_keep | (refine ⟨later hB ?_, later hB ?_, later hB ?_, later hB ?_, later hB ?_, later hB ?_⟩ <;> go_keep)) (first | (go_at_call 70; refine (ahead_any x y _ HCm.out _).mono ?_; rintro e w' ⟨rfl, hB⟩))
      have HWa := Aside0.mk (below_then (below_drew HW.out) (below_drew HW.out).size hB);have HEa := Aside0.mk (blk_below (show wr.drew.heap[E]? = _ from HE.out) hB);clear hB e0 e1 e2 p0 p1 p2;have p0 := later HWa.out PP.out.1;have p1 := later HWa.out PP.out.2.1;have p2 := later HWa.out PP.out.2.2;have e0 : w'.cell? ⟨E, 0, none⟩ = some (.int .i64 x.f0) := bcz HEa 0 rfl;have e1 : w'.cell? ⟨E, 1, none⟩ = some (.int .i64 x.f1) := bcz HEa 1 rfl;have e2 : w'.cell? ⟨E, 2, none⟩ = some (.int .i64 x.f2) := bcz HEa 2 rfl;by_cases q : y = x
      ·have hE := fun W => eqE_yes (x := y) (y := x) q W
       have HQ := Aside0.mk q;clear q;go_wp2_with fail
       go_quiet (fail)
       have HWb := Aside0.mk (pw_below_drewN HWa.out nq);generalize w'.drewN nq = Wb at HWb ⊢;clear h3 h4 i0 i1 j0 j1 j2 j3 j4 d7 d8 p0 p1 p2 e0 e1 e2 nq hE;go_wp2
       go_roundw
       case rel => exact ⟨k + 1, by omega, by go_num, ⟨by rw [HN.out, ins_here HS.out (by rw [← HQ.out, HYY.out, getD_get (by omega)]; exact List.getElem_mem _)]; exact Kd.R_below HO.out HWb.out⟩, ⟨HX.out.below HWb.out⟩, ⟨blk_below HY.out HWb.out⟩, ⟨below_then a6.out a6.out.size HWb.out⟩⟩
       case measure => simp [intOf]; omega
      ·have hE := fun W => eqE_no (x := y) (y := x) q W
       have HIns := Aside0.mk (ins_back (e := x) HS.out ht hz.out (fun _ => by rw [← HYY.out]; exact elt_tri (of_decide_eq_false HCm.out) (fun h => q ((cmpE_zero x y).1 h).symm)));clear q;go_wp2_with fail
       go_quiet (fail)
       have HWb := Aside0.mk (pw_below_drewN HWa.out nq);have HEb := Aside0.mk (show (w'.drewN nq).heap[E]? = _ from HEa.out);generalize w'.drewN nq = Wb at HWb HEb ⊢;clear b2 HWa HEa HW HE nq h3 h4 i0 i1 j0 j1 j2 j3 j4 d7 d8 p0 p1 p2 e0 e1 e2 hE;obtain ⟨Ao, hAo⟩ : ∃ Ao, Ao = some b6 := ⟨_, rfl⟩
       rw [← hAo] at HO d9 ⊢;clear hAo;have hcf := cut_from (P := Try.prog) 23 80 .i64 Try.underlying23 e3.out.1 3 e3.out.2 Ao o.length co (t : Int) (by omega) (by omega);have hct := cut_to (P := Try.prog) 23 80 .i64 Try.underlying23 e3.out.1 Ao o.length co (t : Int) (by omega) (by omega) HLc.out;rw [Int.toNat_natCast] at hcf hct;obtain ⟨A7, d4⟩ : ∃ A7, A7 = (if co = t then Ao else Ao.map (·.add (t * 3))) := ⟨_, rfl⟩
       rw [← d4] at hcf;have g7 := Aside0.mk (show Kd.C k80 wo A7 (o.length - t) (o.drop t) by rw [d4]; have := Kd.C_drop d9.out ht HLc.out; rwa [List.length_drop] at this);have HCt := Aside0.mk (Kd.C_take d9.out ht);have hdl : (o.drop t).length = o.length - t := List.length_drop ..;have htl : (o.take t).length = t := by rw [List.length_take]; omega
       rw [htl] at HCt;have HDL := Aside0.mk hdl;have HTL := Aside0.mk htl;clear d4 hdl htl
       go_wp2_with (first
        | ((with_reducible refine gate_dst (N := 47) rfl ?_); refine Kd.R_lit k80 _ 80 ?hg (N := 47) ?hd (xs := ([] : List Ed)) (inner := []) (ok := fun _ => True) (okp := fun _ => True) ?hr ?hp (fun _ hk => hk) trivial (Below.refl _ _) (Nat.le_refl _) (by simp) ?_; (case hd => rfl); (case hg => rfl); (case hr => first | (go_simp; done) | (go_simp; rfl)); (case hp => exact (Reps.none _ _)); intro h5 w3 ho hb hg_ hn_; have a1 := Aside0.mk hb; have f3 := Aside0.mk ho; clear ho hb hg_ hn_)
        | (at_builtin; refine Kd.R_append_rows k80 (w0 := Wb) Wb.heap.size rfl (.tmp 47) (.tmp 50) 23 80 (.agg #[(.int .i64 0), (.int .i64 0), (.int .i64 0)]) 24 rfl Try.underlying23 info80 rfl (by decide) (by omega) h5 [] (o.drop t) A7 _ _ (fun _ => True) (fun _ => False) rfl rfl f3.out (Kd.C_below g7.out (below_then HWb.out HWb.out.size a1.out)) (fun _ _ h => h) (fun _ h => h.elim) (fun _ _ => trivial) a1.out a1.out.size (by have := HTL.out; have := HDL.out; simp only [List.length_nil, List.length_append, List.length_cons]; omega) ?_; intro h6 w4 ho hb hg hat; have d3 := Aside0.mk hb; have d2 := Aside0.mk (show Kd.R k80 80 w4 Wb.heap.size (fun _ => True) h6 (o.drop t) from ho); clear ho hb hg hat))
       obtain ⟨e4, i5, g3⟩ := Kd.R_slice d2.out;subst g3;have b9 := Aside0.mk (blk_below HEb.out d3.out);have e7 := Aside0.mk (below_then HWb.out HWb.out.size d3.out);have e0 : w4.cell? ⟨E, 0, none⟩ = some (.int .i64 x.f0) := bcz b9 0 rfl;have e1 : w4.cell? ⟨E, 1, none⟩ = some (.int .i64 x.f1) := bcz b9 1 rfl;have e2 : w4.cell? ⟨E, 2, none⟩ = some (.int .i64 x.f2) := bcz b9 2 rfl;clear hcf;refine start_ (n := 11) (S := fun w' => w'.cell? ⟨E, 0, none⟩ = some (.int .i64 x.f0) ∧ w'.cell? ⟨E, 1, none⟩ = some (.int .i64 x.f1) ∧ w'.cell? ⟨E, 2, none⟩ = some (.int .i64 x.f2)) (ds := []) (bqz 11 0) (by kernel_rfl) rfl rfl ⟨e0, e1, e2⟩ (fun hHeld => ?_);have b5 := Aside0.mk (below_drew1 (Below.refl w4.heap.size w4));have a0 := Aside0.mk (blk_below b9.out b5.out);have e5 := Aside0.mk (Kd.R_below d2.out b5.out);have a3 := Aside0.mk (below_then e7.out e7.out.size b5.out);have f9 : Wb.heap.size ≤ w4.drew.heap.size := Nat.le_trans d3.out.size b5.out.size;generalize w4.drew = V at b5 a0 e5 a3 f9 hHeld ⊢;have HV := Aside0.mk (Below.refl V.heap.size V);clear e0 e1 e2;refine pqz 1 (some 53) (bqz 11 2) rfl rfl (by kernel_rfl) ?_ ?_ (fun _ _ _ h => h) (by rfl) ?_ ?_ ?_;rotate_left 2;intro w';go_simp;(with_reducible rfl);simp only [Act.put, qz1, qz2, qz3, i64_w, i32_w];rfl
       refine pqz 2 (some 54) (bqz 11 6) rfl rfl (by kernel_rfl) ?_ ?_ (fun _ _ _ h => h) (by rfl) ?_ ?_ ?_;rotate_left 2;intro w';go_simp;(with_reducible rfl);simp only [Act.put, qz1, qz2, qz3, i64_w, i32_w];rfl
       refine pqz 3 (some 55) (bqz 11 14) rfl rfl (by kernel_rfl) ?_ ?_ (fun _ _ _ h => h) (by rfl) ?_ ?_ ?_;rotate_left 2;intro w';go_simp;(with_reducible rfl);simp only [Act.put, qz1, qz2, qz3, i64_w, i32_w];rfl
       refine pqz 8 (some 60) (bqz 11 270) rfl rfl (by kernel_rfl) ?_ ?_ (fun _ _ _ h => h) (by rfl) ?_ ?_ ?_;rotate_left 2;intro w';go_simp;(with_reducible rfl);simp only [Act.put, qz1, qz2, qz3, i64_w, i32_w];rfl
       refine tqz 5 (some 57) (bqz 11 302) rfl rfl (by kernel_rfl) ?_ ?_ (fun _ _ _ h => h) (by rfl) ?_ hHeld ?_ ?_;rotate_left 2;rintro w' ⟨s0, s1, s2⟩;go_simp;(with_reducible rfl);simp only [Act.put, qz1, qz2, qz3, i64_w, i32_w];rfl
       refine join_ (σ := Value × Value × Value) 3 (bqz 11 383) (fun s => [(52, s.1), (56, s.2.1), (58, s.2.2)]) (fun s w' => (w'.cell? ⟨E, 0, none⟩ = some (.int .i64 x.f0) ∧ w'.cell? ⟨E, 1, none⟩ = some (.int .i64 x.f1) ∧ w'.cell? ⟨E, 2, none⟩ = some (.int .i64 x.f2)) ∧ Kd.R k80 80 w' V.heap.size (fun _ => True) s.2.1 (o.take t) ∧ Kd.R k80 80 w' V.heap.size (fun _ => True) s.2.2 [x] ∧ Below V.heap.size V w') ?_ ?_;rotate_left
       ·intro hCont;refine two_ (i := 0) (j := 6) (Ni := some 52) (Nj := some 58) (bqz 11 303) (bqz 11 366) rfl rfl rfl rfl (by kernel_rfl) (by decide) (by decide) (fun K hK => ?_) (fun K hK => ?_)
        ·skip
         refine Kd.R_lit_step k80 _ 80 ?hg (N := 52) ?hd (xs := ([] : List Ed)) (inner := []) (ok := fun _ => True) (okp := fun _ => True) ?hr ?hp (fun _ hk => hk) trivial (Below.refl _ _) (Nat.le_refl _) (by simp) ?_; (case hd => rfl); (case hg => rfl); (case hr => first | (go_simp; done) | (go_simp; rfl)); (case hp => exact (Reps.none _ _))
         intro a9 h8 ho hb hg_ hn_;have HOa := Aside0.mk (Kd.R_lower (base' := V.heap.size) ho HV.out.size);have a5 := Aside0.mk (below_step HV.out hb);have hBf := Aside0.mk hb;clear ho hb hg_ hn_;refine hK.out _ _ ⟨later hBf.out (hHeld.1), later hBf.out (hHeld.2.1), later hBf.out (hHeld.2.2)⟩ (fun hHeld => ?_);clear hK K;refine norm_ (a' := ?_) ?_ ?_;rotate_left
         ·show Act.put _ (some 52) _ = _;simp only [Act.put, qz1, qz2, qz3, i64_w, i32_w];rfl
         refine two_ (i := 4) (j := 6) (Ni := some 56) (Nj := some 58) (bqz 11 319) (bqz 11 367) rfl rfl rfl rfl (by kernel_rfl) (by decide) (by decide) (fun K hK => ?_) (fun K hK => ?_)
         ·skip
          refine Kd.R_append_rows_step k80 (w0 := V) V.heap.size (by rfl) (.tmp 52) (.tmp 55) 23 80 (.agg #[(.int .i64 0), (.int .i64 0), (.int .i64 0)]) 24 rfl Try.underlying23 info80 rfl (by decide) (by omega) a9 [] (o.take t) Ao _ _ (fun _ => True) (fun _ => False) rfl rfl HOa.out (Kd.C_below HCt.out (below_then a3.out a3.out.size a5.out)) (fun _ _ h => h) (fun _ h => h.elim) (fun _ _ => trivial) a5.out a5.out.size (by have := HTL.out; have := HDL.out; simp only [List.length_nil, List.length_append, List.length_cons]; omega) ?_;intro a4 d6 ho hb hg hat;have f7 := Aside0.mk (show Kd.R k80 80 d6 V.heap.size (fun _ => True) a4 (o.take t) from ho);have a2 := Aside0.mk hb;clear ho hb hg hat;refine hK.out _ _ ⟨later a2.out (bcz a0 0 rfl), later a2.out (bcz a0 1 rfl), later a2.out (bcz a0 2 rfl)⟩ (fun hHeld => ?_);clear hK K;refine norm_ (a' := ?_) ?_ ?_;rotate_left
          ·show Act.put _ (some 56) _ = _;simp only [Act.put, qz1, qz2, qz3, i64_w, i32_w];rfl
          refine one_ (i := 6) (N := some 58) (bqz 11 383) rfl rfl (by kernel_rfl) (by decide) (fun K hK => ?_);refine Kd.R_lit_step k80 _ 80 ?hg (N := 58) ?hd (xs := ([x] : List Ed)) (inner := [.int .i64 x.f0, .int .i64 x.f1, .int .i64 x.f2]) (ok := fun _ => True) (okp := fun _ => True) ?hr ?hp (fun _ hk => hk) trivial (Below.refl _ _) (Nat.le_refl _) (by simp) ?_; (case hd => rfl); (case hg => rfl); (case hr => first | (go_simp; done) | (go_simp; rfl)); (case hp => exact (Reps.c3 (show Kd.M k80 _ _ _ x [.int .i64 x.f0, .int .i64 x.f1, .int .i64 x.f2] from k80_mkM _ _ _ x) (Reps.none _ _)))
          intro b4 d1 ho hb hg_ hn_;have a8 := Aside0.mk (Kd.R_lower (base' := V.heap.size) ho a2.out.size);have a7 := Aside0.mk (Kd.R_below f7.out hb);have a1 := Aside0.mk (below_step a2.out hb);have hBf := Aside0.mk hb;clear ho hb hg_ hn_;refine hK.out _ _ ⟨later hBf.out (hHeld.1), later hBf.out (hHeld.2.1), later hBf.out (hHeld.2.2)⟩ (fun hHeld => ?_);clear hK K;refine norm_ (a' := ?_) ?_ ?_;rotate_left
          ·show Act.put _ (some 58) _ = _;simp only [Act.put, qz1, qz2, qz3, i64_w, i32_w];rfl
          exact norm_ (by simp only [putAll, Act.put, qz1, qz2, qz3]) (hCont (a9, a4, b4) _ ⟨hHeld, a7.out, a8.out, a1.out⟩)
         ·skip
          refine Kd.R_lit_step k80 _ 80 ?hg (N := 58) ?hd (xs := ([x] : List Ed)) (inner := [.int .i64 x.f0, .int .i64 x.f1, .int .i64 x.f2]) (ok := fun _ => True) (okp := fun _ => True) ?hr ?hp (fun _ hk => hk) trivial (Below.refl _ _) (Nat.le_refl _) (by simp) ?_; (case hd => rfl); (case hg => rfl); (case hr => first | (go_simp; done) | (go_simp; rfl)); (case hp => exact (Reps.c3 (show Kd.M k80 _ _ _ x [.int .i64 x.f0, .int .i64 x.f1, .int .i64 x.f2] from k80_mkM _ _ _ x) (Reps.none _ _)))
          intro b4 d6 ho hb hg_ hn_;have b7 := Aside0.mk (Kd.R_lower (base' := V.heap.size) (Kd.R_new' ho (fun k hk => Kd.R_lt HOa.out k hk)) a5.out.size);have HOa' := Aside0.mk (Kd.R_below HOa.out hb);clear HOa;have HOa := HOa';clear HOa';have a2 := Aside0.mk (below_step a5.out hb);have hBf := Aside0.mk hb;clear ho hb hg_ hn_;refine hK.out _ _ ⟨later hBf.out (hHeld.1), later hBf.out (hHeld.2.1), later hBf.out (hHeld.2.2)⟩ (fun hHeld => ?_);clear hK K;refine norm_ (a' := ?_) ?_ ?_;rotate_left
          ·show Act.put _ (some 58) _ = _;simp only [Act.put, qz1, qz2, qz3, i64_w, i32_w];rfl
          refine one_ (i := 4) (N := some 56) (bqz 11 383) rfl rfl (by kernel_rfl) (by decide) (fun K hK => ?_);refine Kd.R_append_rows_step k80 (w0 := V) V.heap.size (by rfl) (.tmp 52) (.tmp 55) 23 80 (.agg #[(.int .i64 0), (.int .i64 0), (.int .i64 0)]) 24 rfl Try.underlying23 info80 rfl (by decide) (by omega) a9 [] (o.take t) Ao _ _ (fun _ => True) (fun _ => False) rfl rfl HOa.out (Kd.C_below HCt.out (below_then a3.out a3.out.size a2.out)) (fun _ _ h => h) (fun _ h => h.elim) (fun _ _ => trivial) a2.out a2.out.size (by have := HTL.out; have := HDL.out; simp only [List.length_nil, List.length_append, List.length_cons]; omega) ?_;intro a4 d1 ho hb hg hat;have a7 := Aside0.mk (show Kd.R k80 80 d1 V.heap.size (fun _ => True) a4 (o.take t) from ho);have a8 := Aside0.mk (Kd.R_mono (Kd.R_grown b7.out hg (fun _ hk => hk.2)) (fun _ _ => trivial));have a1 := Aside0.mk hb;clear ho hb hg hat;refine hK.out _ _ ⟨later a1.out (bcz a0 0 rfl), later a1.out (bcz a0 1 rfl), later a1.out (bcz a0 2 rfl)⟩ (fun hHeld => ?_);clear hK K;refine norm_ (a' := ?_) ?_ ?_;rotate_left
          ·show Act.put _ (some 56) _ = _;simp only [Act.put, qz1, qz2, qz3, i64_w, i32_w];rfl
          exact norm_ (by simp only [putAll, Act.put, qz1, qz2, qz3]) (hCont (a9, a4, b4) _ ⟨hHeld, a7.out, a8.out, a1.out⟩)
        ·skip
         refine Kd.R_lit_step k80 _ 80 ?hg (N := 58) ?hd (xs := ([x] : List Ed)) (inner := [.int .i64 x.f0, .int .i64 x.f1, .int .i64 x.f2]) (ok := fun _ => True) (okp := fun _ => True) ?hr ?hp (fun _ hk => hk) trivial (Below.refl _ _) (Nat.le_refl _) (by simp) ?_; (case hd => rfl); (case hg => rfl); (case hr => first | (go_simp; done) | (go_simp; rfl)); (case hp => exact (Reps.c3 (show Kd.M k80 _ _ _ x [.int .i64 x.f0, .int .i64 x.f1, .int .i64 x.f2] from k80_mkM _ _ _ x) (Reps.none _ _)))
         intro b4 h8 ho hb hg_ hn_;have f8 := Aside0.mk (Kd.R_lower (base' := V.heap.size) ho HV.out.size);have a5 := Aside0.mk (below_step HV.out hb);have hBf := Aside0.mk hb;clear ho hb hg_ hn_;refine hK.out _ _ ⟨later hBf.out (hHeld.1), later hBf.out (hHeld.2.1), later hBf.out (hHeld.2.2)⟩ (fun hHeld => ?_);clear hK K;refine norm_ (a' := ?_) ?_ ?_;rotate_left
         ·show Act.put _ (some 58) _ = _;simp only [Act.put, qz1, qz2, qz3, i64_w, i32_w];rfl
         refine one_ (i := 0) (N := some 52) (bqz 11 367) rfl rfl (by kernel_rfl) (by decide) (fun K hK => ?_);refine Kd.R_lit_step k80 _ 80 ?hg (N := 52) ?hd (xs := ([] : List Ed)) (inner := []) (ok := fun _ => True) (okp := fun _ => True) ?hr ?hp (fun _ hk => hk) trivial (Below.refl _ _) (Nat.le_refl _) (by simp) ?_; (case hd => rfl); (case hg => rfl); (case hr => first | (go_simp; done) | (go_simp; rfl)); (case hp => exact (Reps.none _ _))
         intro a9 d6 ho hb hg_ hn_;have HOa := Aside0.mk (Kd.R_lower (base' := V.heap.size) ho a5.out.size);have b7 := Aside0.mk (Kd.R_elder' f8.out (Kd.R_base ho) hb);have a2 := Aside0.mk (below_step a5.out hb);have hBf := Aside0.mk hb;clear ho hb hg_ hn_;refine hK.out _ _ ⟨later hBf.out (hHeld.1), later hBf.out (hHeld.2.1), later hBf.out (hHeld.2.2)⟩ (fun hHeld => ?_);clear hK K;refine norm_ (a' := ?_) ?_ ?_;rotate_left
         ·show Act.put _ (some 52) _ = _;simp only [Act.put, qz1, qz2, qz3, i64_w, i32_w];rfl
         refine one_ (i := 4) (N := some 56) (bqz 11 383) rfl rfl (by kernel_rfl) (by decide) (fun K hK => ?_);refine Kd.R_append_rows_step k80 (w0 := V) V.heap.size (by rfl) (.tmp 52) (.tmp 55) 23 80 (.agg #[(.int .i64 0), (.int .i64 0), (.int .i64 0)]) 24 rfl Try.underlying23 info80 rfl (by decide) (by omega) a9 [] (o.take t) Ao _ _ (fun _ => True) (fun _ => False) rfl rfl HOa.out (Kd.C_below HCt.out (below_then a3.out a3.out.size a2.out)) (fun _ _ h => h) (fun _ h => h.elim) (fun _ _ => trivial) a2.out a2.out.size (by have := HTL.out; have := HDL.out; simp only [List.length_nil, List.length_append, List.length_cons]; omega) ?_;intro a4 d1 ho hb hg hat;have a7 := Aside0.mk (show Kd.R k80 80 d1 V.heap.size (fun _ => True) a4 (o.take t) from ho);have a8 := Aside0.mk (Kd.R_mono (Kd.R_grown b7.out hg (fun _ hk => hk.2)) (fun _ _ => trivial));have a1 := Aside0.mk hb;clear ho hb hg hat;refine hK.out _ _ ⟨later a1.out (bcz a0 0 rfl), later a1.out (bcz a0 1 rfl), later a1.out (bcz a0 2 rfl)⟩ (fun hHeld => ?_);clear hK K;refine norm_ (a' := ?_) ?_ ?_;rotate_left
         ·show Act.put _ (some 56) _ = _;simp only [Act.put, qz1, qz2, qz3, i64_w, i32_w];rfl
         exact norm_ (by simp only [putAll, Act.put, qz1, qz2, qz3]) (hCont (a9, a4, b4) _ ⟨hHeld, a7.out, a8.out, a1.out⟩)
       rintro ⟨i9, a4, b4⟩ w5 ⟨hHeld, d5, b8, e8⟩;have f4 := Aside0.mk d5;obtain ⟨g6, i7, g4⟩ := Kd.R_slice b8;subst g4;have e9 := Aside0.mk ((Kd.R_reads' b8).2.2);have e6 := Aside0.mk e8;clear d5 b8 e8;refine norm_ (a' := ?_) ?_ ?_;rotate_left
       ·simp only [putAll, Act.put, qz1, qz2, qz3];rfl
       refine one_ (i := 7) (N := some 59) (bqz 11 511) rfl rfl (by kernel_rfl) (by decide) (fun K hK => ?_);refine Kd.R_append_rows_step k80 (w0 := V) V.heap.size (by rfl) (.tmp 56) (.tmp 58) 23 80 (.agg #[(.int .i64 0), (.int .i64 0), (.int .i64 0)]) 24 rfl Try.underlying23 info80 rfl (by decide) (by omega) a4 (o.take t) [x] g6 _ _ (fun _ => True) (fun _ => False) rfl rfl f4.out e9.out (fun _ _ h => h) (fun _ h => h.elim) (fun _ _ => trivial) e6.out e6.out.size (by have := HTL.out; have := HDL.out; simp only [List.length_nil, List.length_append, List.length_cons]; omega) ?_;intro h7 w6 ho hb hg hat;have f5 := Aside0.mk ho;have b3 := Aside0.mk hb;clear ho hb hg hat;refine hK.out _ _ ⟨later b3.out (bcz a0 0 rfl), later b3.out (bcz a0 1 rfl), later b3.out (bcz a0 2 rfl)⟩ (fun hHeld => ?_);clear hK K;refine norm_ (a' := ?_) ?_ ?_;rotate_left
       ·show Act.put _ (some 59) _ = _;simp only [Act.put, qz1, qz2, qz3, i64_w, i32_w];rfl
       refine one_ (i := 9) (N := some 61) (bqz 11 1023) rfl rfl (by kernel_rfl) (by decide) (fun K hK => ?_);refine Kd.R_append_rows_step k80 (w0 := V) V.heap.size (by rfl) (.tmp 59) (.tmp 60) 23 80 (.agg #[(.int .i64 0), (.int .i64 0), (.int .i64 0)]) 24 rfl Try.underlying23 info80 rfl (by decide) (by omega) h7 (o.take t ++ [x]) (o.drop t) e4 _ _ (fun _ => True) (fun _ => False) rfl rfl f5.out (Kd.C_below (show Kd.C k80 V e4 (o.length - t) (o.drop t) by have := (Kd.R_reads' e5.out).2.2; rwa [List.length_drop] at this) b3.out) (fun _ _ h => h) (fun _ h => h.elim) (fun _ _ => trivial) b3.out b3.out.size (by have := HTL.out; have := HDL.out; simp only [List.length_nil, List.length_append, List.length_cons]; omega) ?_;intro j5 w7 ho hb hg hat;have f6 := Aside0.mk ho;have d0 := Aside0.mk hb;clear ho hb hg hat;refine hK.out _ _ ⟨later d0.out (bcz a0 0 rfl), later d0.out (bcz a0 1 rfl), later d0.out (bcz a0 2 rfl)⟩ (fun hHeld => ?_);clear hK K;refine norm_ (a' := ?_) ?_ ?_;rotate_left
       ·show Act.put _ (some 61) _ = _;simp only [Act.put, qz1, qz2, qz3, i64_w, i32_w];rfl
       refine pqz 10 (some 3) (bqz 11 2047) rfl rfl (by kernel_rfl) ?_ ?_ (fun _ _ _ h => h) (by rfl) ?_ ?_ ?_;rotate_left 2;intro w';go_simp;(with_reducible rfl);simp only [Act.put, qz1, qz2, qz3, i64_w, i32_w];rfl
       refine done_ (by kernel_rfl) ?_;have HL := Aside0.mk (show (o.take t ++ [x]) ++ o.drop t = insE x o by rw [HIns.out]; simp);have HF := Aside0.mk (below_then a3.out a3.out.size d0.out);have g9 : w.heap.size ≤ V.heap.size := Nat.le_trans a6.out.size a3.out.size;go_wp2
       go_roundw
       case rel => exact ⟨k + 1, by omega, by go_num, ⟨by rw [HN.out, ← HL.out]; exact Kd.R_lower f6.out g9⟩, ⟨HX.out.below HF.out⟩, ⟨blk_below HY.out HF.out⟩, ⟨below_then a6.out a6.out.size HF.out⟩⟩
       case measure => simp [intOf]; omega
  ·have ek : es.take k = es := List.take_of_length_le (by omega);rw [ek] at HO ⊢;clear ek;obtain ⟨o, ho⟩ : ∃ o, o = sortE es := ⟨_, rfl⟩
   rw [← ho] at HO ⊢;have HOE := Aside0.mk ho;clear ho;have b0 := HX.out.c0;have b1 := HX.out.c1;have y0 := bcz HY 0 rfl;have y1 := bcz HY 1 rfl;have y2 := bcz HY 2 rfl;have q0 := blk_frozen HY.out 0;have q1 := blk_frozen HY.out 1;have q2 := blk_frozen HY.out 2;go_wp2
   have h9 := blk_put HY.out 0 (.int .i64 n) rfl;have i2 := blk_put h9 1 (.slice A1 m1 c1) rfl;refine bodyPost_ret (results_cell_row rfl _ _ (w.heap.size + 1) 25 #[.int .i64 n, .slice A1 m1 c1, .slice Ao o.length co] (0, 0) _ rfl (blk_put i2 2 (.slice Ao o.length co) rfl) Try.underlying25 rfl (by kernel_rfl)) rfl ?_;exact ⟨_, rfl, by rw [← HOE.out]; exact Kd.R_set (Kd.R_set (Kd.R_set HO.out HY.out (by decide) 0 _) h9 (by decide) 1 _) i2 (by decide) 2 _, below_set (below_set (below_set a6.out (by omega)) (by omega)) (by omega)⟩
end Go.Proofs.Ytmcbkmfpmcbdpaa.H
namespace Go.Proofs.Ytmcbkmfpmcbdpaa.Pr
open Go.RowKit Go.Proofs.YtmcbkmfpmcbdpaaW.PrintWords Go.Proofs.YtmcbkmfpmcbdpaaW.PrintLast Go.Proofs.YtmcbkmfpmcbdpaaW.PrintMore
def Pr26b.f (a0_0 : Int) (l0_1 : List ByteArray) (l0_2 : List S80) : Option Bool := some (H.mayR a0_0 l0_1 l0_2)
theorem Pr26b.calls (a0_0 : Int) (A0_1 : Option Addr) (c0_1 : Nat) (l0_1 : List ByteArray) (A0_2 : Option Addr) (c0_2 : Nat) (l0_2 : List S80) (r : Bool) (w : World) (hr0_1 : Kd.C Kd.string w A0_1 l0_1.length l0_1) (hc0_1 : l0_1.length ≤ c0_1) (hr0_2 : Kd.C k80 w A0_2 l0_2.length l0_2) (hc0_2 : l0_2.length ≤ c0_2) (h : Pr26b.f a0_0 l0_1 l0_2 = some r) :
  Calls Try.prog 18 #[.agg #[.int .i64 a0_0, .slice A0_1 l0_1.length c0_1, .slice A0_2 l0_2.length c0_2]] w fun e w' => e = .returned (.bool r) ∧ Below w.heap.size w w' := by
 have e : H.mayR a0_0 l0_1 l0_2 = r := by simpa [Pr26b.f] using h
 subst e
 exact H.may_any a0_0 l0_1 l0_2 A0_1 A0_2 c0_1 c0_2 w hr0_1 hr0_2
def Pxe.f (a0_0 : Int) (l0_1 : List ByteArray) (l0_2 : List S80) : Option (Int × List ByteArray × List S80 × Int) :=
 if l0_2.length ≤ 1000000 ∧ l0_1.length ≤ 1000000 then some (if H.mayR a0_0 l0_1 (Sem.sortE l0_2) then (a0_0, l0_1, Sem.sortE l0_2, 0) else (0, [], [], 1)) else none
theorem Pxe.calls (a0_0 : Int) (A0_1 : Option Addr) (c0_1 : Nat) (l0_1 : List ByteArray) (A0_2 : Option Addr) (c0_2 : Nat) (l0_2 : List S80) (r1 : Int) (r2 : List ByteArray) (r3 : List S80) (r4 : Int) (w : World) (hr0_1 : Kd.C Kd.string w A0_1 l0_1.length l0_1) (hc0_1 : l0_1.length ≤ c0_1) (hr0_2 : Kd.C k80 w A0_2 l0_2.length l0_2) (hc0_2 : l0_2.length ≤ c0_2) (h : Pxe.f a0_0 l0_1 l0_2 = some (r1, r2, r3, r4)) :
  Calls Try.prog 104 #[.agg #[.int .i64 a0_0, .slice A0_1 l0_1.length c0_1, .slice A0_2 l0_2.length c0_2]] w fun e w' => ∃ v1_ v2_ : Value, e = .returned (.tuple #[.agg #[.int .i64 r1, v1_, v2_], .int .i64 r4]) ∧ Kd.R Kd.string 9 w' w.heap.size (fun _ => True) v1_ r2 ∧ Kd.R k80 80 w' w.heap.size (fun _ => True) v2_ r3 ∧ Below w.heap.size w w' := by
 unfold Pxe.f at h
 split at h
 ·rename_i hn
  simp only [Option.some.injEq] at h
  exact H.sort_any a0_0 l0_1 l0_2 A0_1 A0_2 c0_1 c0_2 w hr0_1 hc0_1 hr0_2 hc0_2 hn.2 hn.1 h
 ·cases h
end Go.Proofs.Ytmcbkmfpmcbdpaa.Pr
namespace Go.Proofs.Ytmcbkmfpmcbdpaa.Pr
open Go.RowKit Go.Proofs.Ytmcbkmfpmcbdpaa.H Go.Proofs.YtmcbkmfpmcbdpaaW.PrintWords Go.Proofs.YtmcbkmfpmcbdpaaW.PrintLast Go.Proofs.YtmcbkmfpmcbdpaaW.PrintMore
def Pxb.f (l0 : List ByteArray) (l1 : List ByteArray) : Option (List ByteArray) := if l0.length + l1.length < 1000000000000 then some (H.uniS (l0 ++ l1)) else none
theorem Pxb.calls (A0 : Option Addr) (c0 : Nat) (l0 : List ByteArray) (A1 : Option Addr) (c1 : Nat) (l1 : List ByteArray) (r : List ByteArray) (w : World) (hr0 : Kd.C Kd.string w A0 l0.length l0) (hc0 : l0.length ≤ c0) (hr1 : Kd.C Kd.string w A1 l1.length l1) (hc1 : l1.length ≤ c1) (h : Pxb.f l0 l1 = some r) :
  Calls Try.prog 108 #[.slice A0 l0.length c0, .slice A1 l1.length c1] w fun e w' => ∃ v0_ : Value, e = .returned (v0_) ∧ Kd.R Kd.string 9 w' w.heap.size (fun _ => True) v0_ r ∧ Below w.heap.size w w' := by
 unfold Pxb.f at h
 split at h
 ·rename_i hn
  simp only [Option.some.injEq] at h
  subst h
  rw [← H.unionS_uni]
  exact H.union_any l0 l1 A0 A1 c0 c1 w hr0 hr1 hn
 ·cases h
end Go.Proofs.Ytmcbkmfpmcbdpaa.Pr
set_option linter.unusedSectionVars false
namespace Go.Proofs.Ytmcbkmfpmcbdpaa.H
open Go.RowKit Go.Proofs.Ytmcbkmfpmcbdpaa.Pr Go.Proofs.YtmcbkmfpmcbdpaaW.PrintWords Go.Proofs.Ytmcbkmfpmcbdpaa.Sem Go.Proofs.YtmcbkmfpmcbdpaaW.PrintLast
def rowsU (n : Nat) (es : List Ed) (old : Int) : List (List Int) := (List.range n).map fun i : Nat => reachL n (esU es old) (i : Int)
theorem rowsU_at {n : Nat} (es : List Ed) (old : Int) {i : Nat} (hi : i < n) : (rowsU n es old).getD i [] = reachL n (esU es old) (i : Int) := by
 simp [rowsU, List.getD_eq_getElem?_getD, hi]
def weakI (ls : List ByteArray) (es : List Ed) (u : ByteArray) (ys : List (List Int)) (i : Nat) : List Ed :=
 ((ys.getD i []).map fun k => (⟨(i : Int), plc (uniS (ls ++ [u])) u, k⟩ : Ed)) ++ ((farK es ys (plc ls u) (ys.getD i [])).map fun a => (⟨(i : Int), plc (uniS (ls ++ [u])) (ls.getD a.1.toNat ByteArray.empty), a.2⟩ : Ed))
def weakE (n : Nat) (ls : List ByteArray) (es : List Ed) (u : ByteArray) : List Ed := (List.range n).flatMap fun i => weakI ls es u (rowsU n es (plc ls u)) i
def Found (ls : List ByteArray) (es : List Ed) (u : ByteArray) (ys : List (List Int)) (k : Nat) (X : List Ed) : Prop := ∀ e, e ∈ X ↔ ∃ i, i < k ∧ e ∈ weakI ls es u ys i
theorem weakI_mem {n : Nat} {ls : List ByteArray} {es : List Ed} {u : ByteArray} {ys : List (List Int)} (hes : ∀ e ∈ es, (0 ≤ e.f0 ∧ e.f0 < (n : Int)) ∧ (0 ≤ e.f2 ∧ e.f2 < (n : Int))) (hF : ∀ i : Nat, i < n → FromL n es (plc ls u) i (ys.getD i [])) {i : Nat} (hi : i < n) (e : Ed) : e ∈ weakI ls es u ys i ↔ e ∈ weakI ls es u (rowsU n es (plc ls u)) i := by
 have hm : ∀ j : Nat, j < n → ∀ x, x ∈ ys.getD j [] ↔ x ∈ (rowsU n es (plc ls u)).getD j [] := fun j hj x => by rw [rowsU_at es _ hj]; exact (hF j hj).mem x
 have hk : ∀ a, a ∈ farK es ys (plc ls u) (ys.getD i []) ↔ a ∈ farK es (rowsU n es (plc ls u)) (plc ls u) ((rowsU n es (plc ls u)).getD i []) := by
  intro a
  rw [farK_mem, farK_mem]
  have hn : ∀ e ∈ es, e.f2.toNat < n := fun e he => by have := (hes e he).2; omega
  constructor
  ·rintro ⟨m, hm1, e, he, h0, h1, h2, h3⟩
   exact ⟨m, (hm i hi m).1 hm1, e, he, h0, h1, h2, (hm _ (hn e he) _).1 h3⟩
  ·rintro ⟨m, hm1, e, he, h0, h1, h2, h3⟩
   exact ⟨m, (hm i hi m).2 hm1, e, he, h0, h1, h2, (hm _ (hn e he) _).2 h3⟩
 unfold weakI
 simp only [List.mem_append, List.mem_map]
 constructor
 ·rintro (⟨k, h1, h2⟩ | ⟨a, h1, h2⟩)
  ·exact .inl ⟨k, (hm i hi k).1 h1, h2⟩
  ·exact .inr ⟨a, (hk a).1 h1, h2⟩
 ·rintro (⟨k, h1, h2⟩ | ⟨a, h1, h2⟩)
  ·exact .inl ⟨k, (hm i hi k).2 h1, h2⟩
  ·exact .inr ⟨a, (hk a).2 h1, h2⟩
theorem Found.sorted {n : Nat} {ls : List ByteArray} {es : List Ed} {u : ByteArray} {ys : List (List Int)} {X : List Ed} (h : Found ls es u ys n X) (hes : ∀ e ∈ es, (0 ≤ e.f0 ∧ e.f0 < (n : Int)) ∧ (0 ≤ e.f2 ∧ e.f2 < (n : Int))) (hF : ∀ i : Nat, i < n → FromL n es (plc ls u) i (ys.getD i [])) : sortE X = sortE (weakE n ls es u) := by
 refine strict_unique _ _ (sortE_sorted _) (sortE_sorted _) fun e => ?_
 rw [sortE_mem, sortE_mem, h e]
 unfold weakE
 rw [List.mem_flatMap]
 constructor
 ·rintro ⟨i, hi, he⟩
  exact ⟨i, List.mem_range.2 hi, (weakI_mem hes hF hi e).1 he⟩
 ·rintro ⟨i, hi, he⟩
  have hi := List.mem_range.1 hi
  exact ⟨i, hi, (weakI_mem hes hF hi e).2 he⟩
theorem Found.nil (ls : List ByteArray) (es : List Ed) (u : ByteArray) (ys : List (List Int)) : Found ls es u ys 0 [] := fun e => by simp
theorem Found.more {ls : List ByteArray} {es : List Ed} {u : ByteArray} {ys : List (List Int)} {k : Nat} {X : List Ed} (h : Found ls es u ys k X) {Ks : List (Int × Int)} (hK : ∀ a, a ∈ Ks ↔ a ∈ farK es ys (plc ls u) (ys.getD k [])) : Found ls es u ys (k + 1) (X ++ ((ys.getD k []).map fun t => (⟨(k : Int), plc (uniS (ls ++ [u])) u, t⟩ : Ed)) ++ (Ks.map fun a => (⟨(k : Int), plc (uniS (ls ++ [u])) (ls.getD a.1.toNat ByteArray.empty), a.2⟩ : Ed))) := by
 intro e
 rw [List.append_assoc, List.mem_append, h e]
 have : e ∈ (((ys.getD k []).map fun t => (⟨(k : Int), plc (uniS (ls ++ [u])) u, t⟩ : Ed)) ++ (Ks.map fun a => (⟨(k : Int), plc (uniS (ls ++ [u])) (ls.getD a.1.toNat ByteArray.empty), a.2⟩ : Ed))) ↔ e ∈ weakI ls es u ys k := by
  unfold weakI
  simp only [List.mem_append, List.mem_map]
  constructor
  ·rintro (h | ⟨a, h1, h2⟩)
   ·exact .inl h
   ·exact .inr ⟨a, (hK a).1 h1, h2⟩
  ·rintro (h | ⟨a, h1, h2⟩)
   ·exact .inl h
   ·exact .inr ⟨a, (hK a).2 h1, h2⟩
 rw [this]
 constructor
 ·rintro (⟨i, hi, he⟩ | he)
  ·exact ⟨i, by omega, he⟩
  ·exact ⟨k, by omega, he⟩
 ·rintro ⟨i, hi, he⟩
  rcases Nat.lt_succ_iff_lt_or_eq.1 hi with h | rfl
  ·exact .inl ⟨i, h, he⟩
  ·exact .inr he
theorem farK_in {n : Nat} {ls : List ByteArray} {es : List Ed} {u : ByteArray} {ys : List (List Int)} (hm : mayR n ls es = true) (hF : ∀ i : Nat, i < n → FromL n es (plc ls u) i (ys.getD i [])) {Y : List Int} {a : Int × Int} (ha : a ∈ farK es ys (plc ls u) Y) : (0 ≤ a.1 ∧ a.1 < (ls.length : Int)) ∧ (0 ≤ a.2 ∧ a.2 < (n : Int)) := by
 obtain ⟨m, _, e, he, _, _, h1, h2⟩ := farK_mem.1 ha
 have hb := may_edge hm e he
 rw [h1]
 exact ⟨hb.2.2, (hF e.f2.toNat (by omega)).nod a.2 h2⟩
theorem weak_may {n : Nat} {ls : List ByteArray} {es : List Ed} {u : ByteArray} {ys : List (List Int)} {X : List Ed} (hm : mayR n ls es = true) (hu : u.size ≤ 200) (hl : ls.length ≤ 63) (hX : X.length ≤ 1000000) (hF : ∀ i : Nat, i < n → FromL n es (plc ls u) i (ys.getD i [])) (h : Found ls es u ys n X) : mayR n (uniS (ls ++ [u])) (sortE X) = true := by
 have hin : ∀ s ∈ uniS (ls ++ [u]), s ∈ ls ∨ s = u := fun s hs => by simpa using (uniS_mem _ s).1 hs
 have hU : (uniS (ls ++ [u])).length ≤ 64 := by
  refine Nat.le_trans (uniS_len _) ?_;rw [List.length_append, List.length_singleton];omega
 have hp : ∀ s, s ∈ uniS (ls ++ [u]) → 0 ≤ plc (uniS (ls ++ [u])) s ∧ plc (uniS (ls ++ [u])) s < ((uniS (ls ++ [u])).length : Int) := fun s hs => by
  refine ⟨plc_nonneg.2 hs, ?_⟩;rcases plc_lt (ls := uniS (ls ++ [u])) (s := s) with q | q
  ·exact q
  ·rw [q] at hs; cases hs
 refine may_of (lt_n hm) hU (uniS_sorted _) (fun s hs => by rcases hin s hs with q | q; exact (may_lab hm).2 s q; rw [q]; exact hu) (Nat.le_trans (sortE_length _) hX) (sortE_sorted _) fun e he => ?_
 obtain ⟨i, hi, he⟩ := (h e).1 ((sortE_mem _ _).1 he);unfold weakI at he;rw [List.mem_append, List.mem_map, List.mem_map] at he;rcases he with ⟨k, hk, rfl⟩ | ⟨a, ha, rfl⟩
 ·have hn := (hF i hi).nod k hk;have hq := hp u ((uniS_mem _ _).2 (by simp));exact ⟨⟨Int.natCast_nonneg _, Int.ofNat_lt.2 hi⟩, hn, hq.1, hq.2⟩
 ·have hb := farK_in hm hF ha
  have hmem : ls.getD a.1.toNat ByteArray.empty ∈ ls := by
   rw [getD_get (show a.1.toNat < ls.length by omega)];exact List.getElem_mem _
  have hq := hp _ ((uniS_mem _ _).2 (List.mem_append_left _ hmem));exact ⟨⟨Int.natCast_nonneg _, Int.ofNat_lt.2 hi⟩, hb.2, hq.1, hq.2⟩
theorem plc_ok (ls : List ByteArray) (s : ByteArray) (hl : ls.length ≤ 1000000) : ∃ k, Pxc.f k ls s = some (plc ls s) := (nplace_ev ls s hl).rounds
def OneW (w : World) (b : Nat) (s : ByteArray) : Prop := w.heap[b]? = some (.cells #[.string s] 9 (0, 0))
theorem OneW.read {w : World} {b : Nat} {s : ByteArray} (h : OneW w b s) : Kd.C Kd.string w (some ⟨b, 0, none⟩) [s].length [s] :=
 Kd.C_of_reads (d := ByteArray.empty) ⟨rfl, by simp, fun _ => ⟨_, rfl, fun j hj => by
  have : j = 0 := by simpa using hj
  subst this
  exact (blk_cell h 0).trans rfl⟩⟩
structure OfS (w wr V wW : World) (B n : Nat) (v1 v2 Uv Xv : Value) (U : List ByteArray) (X : List Ed) : Prop where
  box : BoxL wr w.heap.size n v1 v2
  res : wr.heap[w.heap.size + 1]? = some (.cells #[.int .i64 0, .slice none 0 0, .slice none 0 0] 25 (0, 0))
  out : BoxL wr B n Uv Xv
  ur : Kd.R Kd.string 9 wr w.heap.size (fun _ => True) Uv U
  xr : Kd.R k80 80 wr w.heap.size (fun k => wW.heap.size ≤ k) Xv X
  kept : ∀ k, V.heap.size ≤ k → k < wW.heap.size → wr.heap[k]? = wW.heap[k]?
  below : Below w.heap.size w wr
  lt : w.heap.size + 1 < B ∧ B < V.heap.size ∧ V.heap.size ≤ wW.heap.size ∧ wW.heap.size ≤ wr.heap.size
section
variable {w wr wr' V wW : World} {B n : Nat} {v1 v2 Uv Xv : Value} {U : List ByteArray} {X : List Ed}
theorem OfS.on (h : OfS w wr V wW B n v1 v2 Uv Xv U X) (hb : Below wr.heap.size wr wr') : OfS w wr' V wW B n v1 v2 Uv Xv U X :=
 ⟨h.box.below hb, blk_below h.res hb, h.out.below hb, Kd.R_below h.ur hb, Kd.R_below h.xr hb, fun k h1 h2 => (hb.block k (Nat.lt_of_lt_of_le h2 h.lt.2.2.2)).trans (h.kept k h1 h2), below_then h.below h.below.size hb, ⟨h.lt.1, h.lt.2.1, h.lt.2.2.1, Nat.le_trans h.lt.2.2.2 hb.size⟩⟩
theorem OfS.put {w3 : World} (h : OfS w wr V wW B n v1 v2 Uv Xv U X) {Xv' : Value} {e : Ed} (ho : Kd.R k80 80 w3 w.heap.size (fun k => wW.heap.size ≤ k) Xv' (X ++ [e])) (hb : Below w.heap.size w w3) (hg : wr.grownBy w3 Xv.ownBlock) : OfS w (w3.setCell ⟨B, 2, none⟩ Xv') V wW B n v1 v2 Uv Xv' U (X ++ [e]) := by
 have hne : ∀ {g : Nat} {t : Nat} {cs : Array Value}, wr.heap[g]? = some (.cells cs t (0, 0)) → t ≠ 80 → w3.heap[g]? = some (.cells cs t (0, 0)) := fun hgb ht => blk_grown hgb hg (Kd.R_ne h.xr hgb (Ne.symm ht))
 have hout := hne h.out (by decide)
 have hlt := h.lt
 refine ⟨(Below.heap_setCell _ _ _ _ (by show w.heap.size ≠ B; omega)).trans (hne h.box (by decide)), (Below.heap_setCell _ _ _ _ (by show w.heap.size + 1 ≠ B; omega)).trans (hne h.res (by decide)), blk_put hout 2 Xv' rfl, ?_, ?_, ?_, below_set hb (by omega), ⟨hlt.1, hlt.2.1, hlt.2.2.1, ?_⟩⟩
 ·exact Kd.R_set (Kd.R_over' h.ur (Kd.R_typed h.xr) (by decide) hg) hout (by decide) 2 _
 ·exact Kd.R_set ho hout (by decide) 2 _
 ·intro k h1 h2
  rw [Below.heap_setCell _ _ _ _ (by show k ≠ B; omega)]
  refine (hg.block k (Nat.lt_of_lt_of_le h2 hlt.2.2.2) ?_).trans (h.kept k h1 h2)
  intro e
  have := h.xr.1 k e.symm
  omega
 ·have := hg.size
  simp only [World.size_setCell]
  omega
theorem OfS.turn {r : Nat} (h : OfS w wr V wW B n v1 v2 Uv Xv U X) (hr : wW.heap.size ≤ r) (hi : ∃ b s x c, wr.heap[r]? = some (.mapIter b s x c)) (hg : wr.grownBy wr' (some r)) : OfS w wr' V wW B n v1 v2 Uv Xv U X := by
 obtain ⟨b, s, x, c, hi⟩ := hi
 have ne : ∀ {g : Nat} {t : Nat} {cs : Array Value}, wr.heap[g]? = some (.cells cs t (0, 0)) → some g ≠ some r := fun hgb e => by cases e; rw [hi] at hgb; cases hgb
 have hlt := h.lt
 have hs := hg.size
 refine ⟨blk_grown h.box hg (ne h.box), blk_grown h.res hg (ne h.res), blk_grown h.out hg (ne h.out), ?_, ?_, fun k h1 h2 => (hg.block k (by omega) (by intro e; cases e; omega)).trans (h.kept k h1 h2), h.below.grown hg h.below.size (fun q e => by cases e; have := h.below.size; omega), ⟨hlt.1, hlt.2.1, hlt.2.2.1, by omega⟩⟩
 ·exact Kd.R_mono (Kd.R_move (Kd.R_bound h.ur) fun k hk => by obtain ⟨_, _, hl, q, hq, cells, hc⟩ := hk; exact hg.block k hl (ne hc)) fun k hk => hk.1
 ·exact Kd.R_mono (Kd.R_move (Kd.R_bound h.xr) fun k hk => by obtain ⟨_, _, hl, q, hq, cells, hc⟩ := hk; exact hg.block k hl (ne hc)) fun k hk => hk.1
theorem OfS.range {w3 : World} {M r cnt : Nat} {f : Int × Int → Option Value} {left : Int × Int → Bool} (h : OfS w wr V wW B n v1 v2 Uv Xv U X) (hG : GR Try.prog 71 ptL ptOk wr M r f left cnt) (hg : wr.grownBy w3 Xv.ownBlock) (u1 : Value) : GR Try.prog 71 ptL ptOk (w3.setCell ⟨B, 2, none⟩ u1) M r f left cnt := by
 obtain ⟨b, s, x, c, hi⟩ := hG.iter
 obtain ⟨cm, hm⟩ := hG.map
 obtain ⟨es', c', hmb⟩ := hm.blk
 have ty := Kd.R_typed h.xr
 refine hG.same ?_ ?_
 ·rw [Below.heap_setCell _ _ _ _ (by show M ≠ B; intro e; subst e; have := h.out; unfold BoxL at this; rw [hmb] at this; cases this)]
  exact hg.block M hG.mlt (fun e => by obtain ⟨cells, hc⟩ := ty M e.symm; rw [hmb] at hc; cases hc)
 ·rw [Below.heap_setCell _ _ _ _ (by show r ≠ B; intro e; subst e; have := h.out; unfold BoxL at this; rw [hi] at this; cases this)]
  exact hg.block r hG.lt_ (fun e => by obtain ⟨cells, hc⟩ := ty r e.symm; rw [hi] at hc; cases hc)
theorem OfS.weave {a b : World} (h : OfS w wr a b B n v1 v2 Uv (.slice none 0 0) U []) (hb : Below wr.heap.size wr wr') : OfS w wr' wr wr' B n v1 v2 Uv (.slice none 0 0) U [] :=
 ⟨h.box.below hb, blk_below h.res hb, h.out.below hb, Kd.R_below h.ur hb, Kd.R_nil _ _ _ _ _, fun k h1 h2 => rfl, below_then h.below h.below.size hb, ⟨h.lt.1, blk_lt h.out, hb.size, Nat.le_refl _⟩⟩
end
set_option maxHeartbeats 16000000 in
set_option maxRecDepth 100000 in
theorem wof_any (n : Nat) (ls : List ByteArray) (es : List Ed) (u : ByteArray) (A1 A2 : Option Addr) (c1 c2 : Nat) (w : World) (hr1 : Kd.C Kd.string w A1 ls.length ls) (hc1 : ls.length ≤ c1) (hr2 : Kd.C k80 w A2 es.length es) (hm : mayR n ls es = true) (hu : u.size ≤ 200) (hn16 : n ≤ 16) (hl8 : ls.length ≤ 8) :
    Calls Try.prog 59 #[.agg #[.int .i64 n, .slice A1 ls.length c1, .slice A2 es.length c2], .string u] w fun e w' => ∃ v1_ v2_ : Value, e = .returned (.tuple #[.agg #[.int .i64 n, v1_, v2_], .int .i64 0]) ∧ Kd.R Kd.string 9 w' w.heap.size (fun _ => True) v1_ (uniS (ls ++ [u])) ∧ Kd.R k80 80 w' w.heap.size (fun _ => True) v2_ (sortE (weakE n ls es u)) ∧ Below w.heap.size w w' := by
  have HB := Aside0.mk (Below.refl w.heap.size w)
  have HC : ∀ W, Below w.heap.size w W → Calls Try.prog 72 #[.agg #[.int .i64 n, .slice A1 ls.length c1, .slice A2 es.length c2]] W fun e w' => e = .returned (.int .i64 0) ∧ Below W.heap.size W w' := fun W hW =>
    check_yes n ls es A1 A2 c1 c2 W (Kd.C_below hr1 hW) (Kd.C_below hr2 hW) (by rw [may_same]; exact hm)
  have HC' := Lib.hid HC;have b4 := Aside0.mk hr1;have i0 := Aside0.mk hr2;have HM := Aside0.mk hm;have hn := lt_n hm;have d7 : decide ((200 : Int) < (u.size : Int)) = false := decide_eq_false (by omega);have a3 : ((u.size : Int) > 200) = False := eq_false (by omega);clear HC hr1 hr2 hm;obtain ⟨U, hU⟩ : ∃ U, U = uniS (ls ++ [u]) := ⟨_, rfl⟩
  have hUl : U.length ≤ 9 := by
    rw [hU];refine Nat.le_trans (uniS_len _) ?_;rw [List.length_append, List.length_singleton];omega
  have HUe := Aside0.mk hU;have HUf := Aside0.mk (show Pxb.f ls [u] = some U by unfold Pxb.f; rw [if_pos (by simp; omega), hU]);rw [← hU];clear hU;go_enter Try.func59, Try.ntmps59
  go_wp2_with fail
  refine (HC'.out _ (below_alloc (below_alloc HB.out _) _)).mono ?_;rintro e w1 ⟨rfl, hB⟩;have HX := Aside0.mk (show BoxL w1 w.heap.size n (.slice A1 ls.length c1) (.slice A2 es.length c2) from blk_below (blk_alloc (blk_new w _) _) hB);have HY := Aside0.mk (show w1.heap[w.heap.size + 1]? = some (.cells #[.int .i64 0, .slice none 0 0, .slice none 0 0] 25 (0, 0)) from blk_below (by have := blk_new (w.alloc (.cells #[.int .i64 n, .slice A1 ls.length c1, .slice A2 es.length c2] 25)) (.cells #[.int .i64 0, .slice none 0 0, .slice none 0 0] 25); simpa using this) hB);have f7 := Aside0.mk (below_then (below_alloc (below_alloc HB.out _) _) (below_alloc (below_alloc HB.out _) _).size hB);have HS1 := Aside0.mk (show w.heap.size + 1 < w1.heap.size from Nat.lt_of_lt_of_le (by simp) hB.size);clear hB;go_wp2_with fail
  clear d7 a3;refine start_ (n := 10) (S := fun w' => w'.cell? ⟨w.heap.size, 0, none⟩ = some (.int .i64 (n : Int)) ∧ w'.cell? ⟨w.heap.size, 1, none⟩ = some (.slice A1 ls.length c1)) (ds := [9]) (bqz 10 0) (by kernel_rfl) rfl rfl ⟨HX.out.c0, HX.out.c1⟩ (fun hHeld => ?_);have HVw := Aside0.mk (below_drew1 f7.out);have e5 := Aside0.mk (show BoxL w1.drew w.heap.size n (.slice A1 ls.length c1) (.slice A2 es.length c2) from blk_drew HX.out);have e6 := Aside0.mk (blk_drew HY.out);have HS2 := Aside0.mk (show w.heap.size + 1 < w1.drew.heap.size from HS1.out);generalize w1.drew = V at HVw e5 e6 HS2 hHeld ⊢;clear HX HY f7 HS1;have HHold := Aside0.mk hHeld;have e4 := Aside0.mk (Below.refl V.heap.size V);refine pqz 0 (some 23) (bqz 10 1) rfl rfl (by kernel_rfl) ?_ ?_ (fun _ _ _ h => h) (by rfl) ?_ ?_ ?_;rotate_left 2;intro w';go_simp;(with_reducible rfl);simp only [Act.put, qz1, qz2, qz3, i64_w, i32_w];rfl
  refine pqz 2 (some 25) (bqz 10 5) rfl rfl (by kernel_rfl) ?_ ?_ (fun _ _ _ h => h) (by rfl) ?_ ?_ ?_;rotate_left 2;intro w';go_simp;(with_reducible rfl);simp only [Act.put, qz1, qz2, qz3, i64_w, i32_w];rfl
  refine pqz 4 (some 27) (bqz 10 21) rfl rfl (by kernel_rfl) ?_ ?_ (fun _ _ _ h => h) (by rfl) ?_ ?_ ?_;rotate_left 2;intro w';go_simp;(with_reducible rfl);simp only [Act.put, qz1, qz2, qz3, i64_w, i32_w];rfl
  refine tqz 1 (some 24) (bqz 10 23) rfl rfl (by kernel_rfl) ?_ ?_ (fun _ _ _ h => h) (by rfl) ?_ hHeld ?_ ?_;rotate_left 2;rintro w' ⟨s0, s1⟩;go_simp;(with_reducible rfl);simp only [Act.put, qz1, qz2, qz3, i64_w, i32_w];rfl
  refine tqz 3 (some 26) (bqz 10 31) rfl rfl (by kernel_rfl) ?_ ?_ (fun _ _ _ h => h) (by rfl) ?_ hHeld ?_ ?_;rotate_left 2;rintro w' ⟨s0, s1⟩;go_simp;(with_reducible rfl);simp only [Act.put, qz1, qz2, qz3, i64_w, i32_w];rfl
  refine join_ (σ := Nat × (Option Addr × Nat) × Nat) 1 (bqz 10 511) (fun s => [(28, .slice (some ⟨s.1, 0, none⟩) 1 1), (29, .slice s.2.1.1 U.length s.2.1.2), (6, .pointer (some ⟨s.2.2, 0, none⟩)), (30, .agg #[.int .i64 (n : Int), .slice s.2.1.1 U.length s.2.1.2, .slice none 0 0])]) (fun s w' => Kd.R Kd.string 9 w' V.heap.size (fun _ => True) (.slice s.2.1.1 U.length s.2.1.2) U ∧ w'.heap[s.2.2]? = some (.cells #[.int .i64 0, .slice none 0 0, .slice none 0 0] 25 (0, 0)) ∧ V.heap.size ≤ s.2.2 ∧ Below V.heap.size V w') ?_ ?_;rotate_left
  · intro hCont
    refine two_ (i := 5) (j := 8) (Ni := some 28) (Nj := some 6) (bqz 10 63) (bqz 10 287) rfl rfl rfl rfl (by kernel_rfl) (by decide) (by decide) (fun K hK => ?_) (fun K hK => ?_)
    · skip
      refine value_ (w1 := ?_) (v := ?_) (by rfl) rfl ?_ ?_;rotate_left 2
      · go_simp
        constructor
        · rfl
        · rfl
      have d5 := Aside0.mk (show OneW (V.alloc (Obj.cells #[.string u] 9)) V.heap.size u from blk_new V _);have a0 := Aside0.mk (below_alloc e4.out (Obj.cells #[.string u] 9));refine hK.out _ _ ⟨later (below_alloc (Below.refl _ _) _) hHeld.1, later (below_alloc (Below.refl _ _) _) hHeld.2⟩ (fun hHeld => ?_);clear hK K;refine norm_ (a' := ?_) ?_ ?_;rotate_left
      · show Act.put _ (some 28) _ = _
        simp only [Act.put, qz1, qz2, qz3, i64_w, i32_w];rfl
      refine two_ (i := 6) (j := 8) (Ni := some 29) (Nj := some 6) (bqz 10 127) (bqz 10 319) rfl rfl rfl rfl (by kernel_rfl) (by decide) (by decide) (fun K hK => ?_) (fun K hK => ?_)
      · skip
        refine goes_ Try.func108 (by kernel_rfl) rfl #[.slice A1 ls.length c1, .slice (some ⟨V.heap.size, 0, none⟩) 1 1] (by rfl) rfl rfl (by simp only [List.map_toArray, List.map_cons, List.map_nil]; rfl) ?_;refine (Pxb.calls A1 c1 ls (some ⟨V.heap.size, 0, none⟩) 1 [u] U _ (Kd.C_below b4.out (below_then HVw.out HVw.out.size a0.out)) hc1 d5.out.read (Nat.le_refl 1) HUf.out).mono ?_;rintro e w3 ⟨v3, rfl, hR, a2⟩;obtain ⟨Au, cu, d0⟩ := Kd.R_slice hR;subst d0;refine ⟨_, rfl, ?_⟩;have b9 := Aside0.mk (Kd.R_lower hR a0.out.size : Kd.R Kd.string 9 w3 V.heap.size (fun _ => True) (.slice Au U.length cu) U);have b5 := Aside0.mk (below_then a0.out a0.out.size a2);have a7 := Aside0.mk a2;refine hK.out _ _ ⟨later a7.out hHeld.1, later a7.out hHeld.2⟩ (fun hHeld => ?_);clear hK K;refine norm_ (a' := ?_) ?_ ?_;rotate_left
        · show Act.put _ (some 29) _ = _
          simp only [Act.put, qz1, qz2, qz3, i64_w, i32_w];rfl
        refine pqz 7 (some 30) (bqz 10 255) rfl rfl (by kernel_rfl) ?_ ?_ (fun _ _ _ h => h) (by rfl) ?_ ?_ ?_;rotate_left 2;intro w';go_simp;(with_reducible rfl);simp only [Act.put, qz1, qz2, qz3, i64_w, i32_w];rfl
        refine one_ (i := 8) (N := some 6) (bqz 10 511) rfl rfl (by kernel_rfl) (by decide) (fun K hK => ?_);refine value_ (w1 := ?_) (v := ?_) (by rfl) rfl ?_ ?_;rotate_left 2
        · go_simp
          constructor
          · rfl
          · rfl
        have b8 := Aside0.mk (blk_new w3 (Obj.cells #[.int .i64 0, .slice none 0 0, .slice none 0 0] 25));have a8 := Aside0.mk (below_alloc b5.out (Obj.cells #[.int .i64 0, .slice none 0 0, .slice none 0 0] 25));have i1 := Aside0.mk (Kd.R_below b9.out (below_alloc (Below.refl w3.heap.size w3) (Obj.cells #[.int .i64 0, .slice none 0 0, .slice none 0 0] 25)));refine hK.out _ _ ⟨later (below_alloc (Below.refl _ _) _) hHeld.1, later (below_alloc (Below.refl _ _) _) hHeld.2⟩ (fun hHeld => ?_);clear hK K;refine norm_ (a' := ?_) ?_ ?_;rotate_left
        · show Act.put _ (some 6) _ = _
          simp only [Act.put, qz1, qz2, qz3, i64_w, i32_w];rfl
        exact norm_ (by simp only [putAll, Act.put, qz1, qz2, qz3]) (hCont (V.heap.size, (Au, cu), w3.heap.size) _ ⟨i1.out, b8.out, b5.out.size, a8.out⟩)
      · skip
        refine value_ (w1 := ?_) (v := ?_) (by rfl) rfl ?_ ?_;rotate_left 2
        · go_simp
          constructor
          · rfl
          · rfl
        have b8 := Aside0.mk (show ((V.alloc (Obj.cells #[.string u] 9)).alloc (Obj.cells #[.int .i64 0, .slice none 0 0, .slice none 0 0] 25)).heap[V.heap.size + 1]? = some (.cells #[.int .i64 0, .slice none 0 0, .slice none 0 0] 25 (0, 0)) by have := blk_new (V.alloc (Obj.cells #[.string u] 9)) (Obj.cells #[.int .i64 0, .slice none 0 0, .slice none 0 0] 25); simpa using this);have a8 := Aside0.mk (below_alloc a0.out (Obj.cells #[.int .i64 0, .slice none 0 0, .slice none 0 0] 25));have g9 := Aside0.mk (show OneW ((V.alloc (Obj.cells #[.string u] 9)).alloc (Obj.cells #[.int .i64 0, .slice none 0 0, .slice none 0 0] 25)) V.heap.size u from blk_alloc d5.out _);refine hK.out _ _ ⟨later (below_alloc (Below.refl _ _) _) hHeld.1, later (below_alloc (Below.refl _ _) _) hHeld.2⟩ (fun hHeld => ?_);clear hK K;refine norm_ (a' := ?_) ?_ ?_;rotate_left
        · show Act.put _ (some 6) _ = _
          simp only [Act.put, qz1, qz2, qz3, i64_w, i32_w];rfl
        refine one_ (i := 6) (N := some 29) (bqz 10 383) rfl rfl (by kernel_rfl) (by decide) (fun K hK => ?_);refine goes_ Try.func108 (by kernel_rfl) rfl #[.slice A1 ls.length c1, .slice (some ⟨V.heap.size, 0, none⟩) 1 1] (by rfl) rfl rfl (by simp only [List.map_toArray, List.map_cons, List.map_nil]; rfl) ?_;refine (Pxb.calls A1 c1 ls (some ⟨V.heap.size, 0, none⟩) 1 [u] U _ (Kd.C_below b4.out (below_then HVw.out HVw.out.size a8.out)) hc1 g9.out.read (Nat.le_refl 1) HUf.out).mono ?_;rintro e w3 ⟨v3, rfl, hR, a2⟩;obtain ⟨Au, cu, d0⟩ := Kd.R_slice hR;subst d0;refine ⟨_, rfl, ?_⟩;have b9 := Aside0.mk (Kd.R_lower hR a8.out.size : Kd.R Kd.string 9 w3 V.heap.size (fun _ => True) (.slice Au U.length cu) U);have b5 := Aside0.mk (below_then a8.out a8.out.size a2);have a7 := Aside0.mk a2;have d2 := Aside0.mk (blk_below b8.out a2);refine hK.out _ _ ⟨later a7.out hHeld.1, later a7.out hHeld.2⟩ (fun hHeld => ?_);clear hK K;refine norm_ (a' := ?_) ?_ ?_;rotate_left
        · show Act.put _ (some 29) _ = _
          simp only [Act.put, qz1, qz2, qz3, i64_w, i32_w];rfl
        refine pqz 7 (some 30) (bqz 10 511) rfl rfl (by kernel_rfl) ?_ ?_ (fun _ _ _ h => h) (by rfl) ?_ ?_ ?_;rotate_left 2;intro w';go_simp;(with_reducible rfl);simp only [Act.put, qz1, qz2, qz3, i64_w, i32_w];rfl
        exact norm_ (by simp only [putAll, Act.put, qz1, qz2, qz3]) (hCont (V.heap.size, (Au, cu), V.heap.size + 1) _ ⟨b9.out, d2.out, Nat.le_succ _, b5.out⟩)
    · skip
      refine value_ (w1 := ?_) (v := ?_) (by rfl) rfl ?_ ?_;rotate_left 2
      · go_simp
        constructor
        · rfl
        · rfl
      have b8 := Aside0.mk (blk_new V (Obj.cells #[.int .i64 0, .slice none 0 0, .slice none 0 0] 25));have a8 := Aside0.mk (below_alloc e4.out (Obj.cells #[.int .i64 0, .slice none 0 0, .slice none 0 0] 25));refine hK.out _ _ ⟨later (below_alloc (Below.refl _ _) _) hHeld.1, later (below_alloc (Below.refl _ _) _) hHeld.2⟩ (fun hHeld => ?_);clear hK K;refine norm_ (a' := ?_) ?_ ?_;rotate_left
      · show Act.put _ (some 6) _ = _
        simp only [Act.put, qz1, qz2, qz3, i64_w, i32_w];rfl
      refine one_ (i := 5) (N := some 28) (bqz 10 319) rfl rfl (by kernel_rfl) (by decide) (fun K hK => ?_);refine value_ (w1 := ?_) (v := ?_) (by rfl) rfl ?_ ?_;rotate_left 2
      · go_simp
        constructor
        · rfl
        · rfl
      have d5 := Aside0.mk (show OneW ((V.alloc (Obj.cells #[.int .i64 0, .slice none 0 0, .slice none 0 0] 25)).alloc (Obj.cells #[.string u] 9)) (V.heap.size + 1) u by have := blk_new (V.alloc (Obj.cells #[.int .i64 0, .slice none 0 0, .slice none 0 0] 25)) (Obj.cells #[.string u] 9); simpa [OneW] using this);have a0 := Aside0.mk (below_alloc a8.out (Obj.cells #[.string u] 9));have h6 := Aside0.mk (blk_alloc b8.out (Obj.cells #[.string u] 9));refine hK.out _ _ ⟨later (below_alloc (Below.refl _ _) _) hHeld.1, later (below_alloc (Below.refl _ _) _) hHeld.2⟩ (fun hHeld => ?_);clear hK K;refine norm_ (a' := ?_) ?_ ?_;rotate_left
      · show Act.put _ (some 28) _ = _
        simp only [Act.put, qz1, qz2, qz3, i64_w, i32_w];rfl
      refine one_ (i := 6) (N := some 29) (bqz 10 383) rfl rfl (by kernel_rfl) (by decide) (fun K hK => ?_);refine goes_ Try.func108 (by kernel_rfl) rfl #[.slice A1 ls.length c1, .slice (some ⟨V.heap.size + 1, 0, none⟩) 1 1] (by rfl) rfl rfl (by simp only [List.map_toArray, List.map_cons, List.map_nil]; rfl) ?_;refine (Pxb.calls A1 c1 ls (some ⟨V.heap.size + 1, 0, none⟩) 1 [u] U _ (Kd.C_below b4.out (below_then HVw.out HVw.out.size a0.out)) hc1 d5.out.read (Nat.le_refl 1) HUf.out).mono ?_;rintro e w3 ⟨v3, rfl, hR, a2⟩;obtain ⟨Au, cu, d0⟩ := Kd.R_slice hR;subst d0;refine ⟨_, rfl, ?_⟩;have b9 := Aside0.mk (Kd.R_lower hR a0.out.size : Kd.R Kd.string 9 w3 V.heap.size (fun _ => True) (.slice Au U.length cu) U);have b5 := Aside0.mk (below_then a0.out a0.out.size a2);have a7 := Aside0.mk a2;have d2 := Aside0.mk (blk_below h6.out a2);refine hK.out _ _ ⟨later a7.out hHeld.1, later a7.out hHeld.2⟩ (fun hHeld => ?_);clear hK K;refine norm_ (a' := ?_) ?_ ?_;rotate_left
      · show Act.put _ (some 29) _ = _
        simp only [Act.put, qz1, qz2, qz3, i64_w, i32_w];rfl
      refine pqz 7 (some 30) (bqz 10 511) rfl rfl (by kernel_rfl) ?_ ?_ (fun _ _ _ h => h) (by rfl) ?_ ?_ ?_;rotate_left 2;intro w';go_simp;(with_reducible rfl);simp only [Act.put, qz1, qz2, qz3, i64_w, i32_w];rfl
      exact norm_ (by simp only [putAll, Act.put, qz1, qz2, qz3]) (hCont (V.heap.size + 1, (Au, cu), V.heap.size) _ ⟨b9.out, d2.out, Nat.le_refl _, b5.out⟩)
  rintro ⟨i9, ⟨Au, cu⟩, B⟩ w5 ⟨d7, a3, g5, d8⟩;have hHeld := And.intro (later d8 HHold.out.1) (later d8 HHold.out.2);have f8 := Aside0.mk d7;have d4 := Aside0.mk a3;have f9 := Aside0.mk g5;have d9 := Aside0.mk d8;have y0 := (blk_cell a3 0).trans rfl;have y1 := (blk_cell a3 1).trans rfl;have y2 := (blk_cell a3 2).trans rfl;have k0 := Go.Proofs.YtmcbkmfpmcbdpaaW.PrintWords.blk_frozen a3 0;have k1 := Go.Proofs.YtmcbkmfpmcbdpaaW.PrintWords.blk_frozen a3 1;have k2 := Go.Proofs.YtmcbkmfpmcbdpaaW.PrintWords.blk_frozen a3 2;clear d7 a3 g5 d8;refine norm_ (a' := ?_) ?_ ?_;rotate_left
  · simp only [putAll, Act.put, qz1, qz2, qz3]
    rfl
  refine last_ (i := 9) (N := none) (bqz 10 1023) rfl rfl (by kernel_rfl) (by decide) (fun K hK => ?_);refine skip_ (w1 := ?_) (by rfl) rfl ?_ ?_;rotate_left
  · go_simp
    rfl
  refine hK.out _ _ ?_;clear hK K;refine done_ (by kernel_rfl) ?_;have e3 := Aside0.mk (show BoxL (((w5.setCell ⟨B, 0, none⟩ (.int .i64 (n : Int))).setCell ⟨B, 1, none⟩ (.slice Au U.length cu)).setCell ⟨B, 2, none⟩ (.slice none 0 0)) B n (.slice Au U.length cu) (.slice none 0 0) from blk_put (blk_put (blk_put d4.out 0 (.int .i64 (n : Int)) rfl) 1 (.slice Au U.length cu) rfl) 2 (.slice none 0 0) rfl);have hBV : V.heap.size ≤ B := f9.out;have hsV := HS2.out
  have g3 : OfS w (((w5.setCell ⟨B, 0, none⟩ (.int .i64 (n : Int))).setCell ⟨B, 1, none⟩ (.slice Au U.length cu)).setCell ⟨B, 2, none⟩ (.slice none 0 0)) (((w5.setCell ⟨B, 0, none⟩ (.int .i64 (n : Int))).setCell ⟨B, 1, none⟩ (.slice Au U.length cu)).setCell ⟨B, 2, none⟩ (.slice none 0 0)) (((w5.setCell ⟨B, 0, none⟩ (.int .i64 (n : Int))).setCell ⟨B, 1, none⟩ (.slice Au U.length cu)).setCell ⟨B, 2, none⟩ (.slice none 0 0)) B n (.slice A1 ls.length c1) (.slice A2 es.length c2) (.slice Au U.length cu) (.slice none 0 0) U [] := by
    have b1 := blk_put d4.out 0 (.int .i64 (n : Int)) rfl;have b2 := blk_put b1 1 (.slice Au U.length cu) rfl
    have far : ∀ {g t : Nat} {cs : Array Value}, V.heap[g]? = some (.cells cs t (0, 0)) → (((w5.setCell ⟨B, 0, none⟩ (.int .i64 (n : Int))).setCell ⟨B, 1, none⟩ (.slice Au U.length cu)).setCell ⟨B, 2, none⟩ (.slice none 0 0)).heap[g]? = some (.cells cs t (0, 0)) := by
      intro g t cs hg;have hgB : g ≠ B := by have := blk_lt hg; omega
      exact blk_far (blk_far (blk_far (blk_below hg d9.out) (p := ⟨B, 0, none⟩) hgB _) (p := ⟨B, 1, none⟩) hgB _) (p := ⟨B, 2, none⟩) hgB _
    refine ⟨far e5.out, far e6.out, e3.out, ?_, Kd.R_nil _ _ _ _ _, fun k h1 h2 => rfl, ?_, ⟨by omega, blk_lt e3.out, Nat.le_refl _, Nat.le_refl _⟩⟩
    · exact Kd.R_set (Kd.R_set (Kd.R_set (Kd.R_lower f8.out HVw.out.size) d4.out (by decide) 0 _) b1 (by decide) 1 _) b2 (by decide) 2 _
    · exact below_set (below_set (below_set (below_then HVw.out HVw.out.size d9.out) (by omega)) (by omega)) (by omega)
  have HS6 := Aside0.mk g3;clear g3 e3 f8 d4 f9 d9 hHeld HHold e4 HVw e5 e6 HS2 hBV hsV y0 y1 y2 k0 k1 k2;generalize (((w5.setCell ⟨B, 0, none⟩ (.int .i64 (n : Int))).setCell ⟨B, 1, none⟩ (.slice Au U.length cu)).setCell ⟨B, 2, none⟩ (.slice none 0 0)) = w6 at HS6 ⊢;have f0 : decide ((64 : Int) < (U.length : Int)) = false := decide_eq_false (by omega);have f1 : ((U.length : Int) > 64) = False := eq_false (by omega);have z1 := HS6.out.out.c1;go_wp2_with fail
  clear f0 f1 z1;obtain ⟨kp, hkp⟩ := plc_ok ls u (by omega);obtain ⟨kq, hkq⟩ := plc_ok U u (by omega);obtain ⟨old, hold⟩ : ∃ old, old = plc ls u := ⟨_, rfl⟩
  obtain ⟨fre, hfre⟩ : ∃ fre, fre = plc U u := ⟨_, rfl⟩
  rw [← hold] at hkp;rw [← hfre] at hkq;have HKp := Aside0.mk hkp;have HKq := Aside0.mk hkq;have HOl := Aside0.mk hold;have HFr := Aside0.mk hfre;clear hkp hkq hold hfre;refine start_ (n := 10) (S := fun w' => w'.cell? ⟨w.heap.size, 1, none⟩ = some (.slice A1 ls.length c1) ∧ w'.cell? ⟨B, 1, none⟩ = some (.slice Au U.length cu)) (ds := []) (bqz 10 0) (by kernel_rfl) rfl rfl ⟨HS6.out.box.c1, HS6.out.out.c1⟩ (fun hHeld => ?_);have HS7 := Aside0.mk (HS6.out.on (below_drew1 (Below.refl w6.heap.size w6)));generalize w6.drew = V at HS7 hHeld ⊢;refine pqz 0 (some 36) (bqz 10 1) rfl rfl (by kernel_rfl) ?_ ?_ (fun _ _ _ h => h) (by rfl) ?_ ?_ ?_;rotate_left 2;intro w';go_simp;(with_reducible rfl);simp only [Act.put, qz1, qz2, qz3, i64_w, i32_w];rfl
  refine pqz 2 (some 38) (bqz 10 5) rfl rfl (by kernel_rfl) ?_ ?_ (fun _ _ _ h => h) (by rfl) ?_ ?_ ?_;rotate_left 2;intro w';go_simp;(with_reducible rfl);simp only [Act.put, qz1, qz2, qz3, i64_w, i32_w];rfl
  refine pqz 4 (some 40) (bqz 10 21) rfl rfl (by kernel_rfl) ?_ ?_ (fun _ _ _ h => h) (by rfl) ?_ ?_ ?_;rotate_left 2;intro w';go_simp;(with_reducible rfl);simp only [Act.put, qz1, qz2, qz3, i64_w, i32_w];rfl
  refine pqz 6 (some 42) (bqz 10 85) rfl rfl (by kernel_rfl) ?_ ?_ (fun _ _ _ h => h) (by rfl) ?_ ?_ ?_;rotate_left 2;intro w';go_simp;(with_reducible rfl);simp only [Act.put, qz1, qz2, qz3, i64_w, i32_w];rfl
  refine tqz 1 (some 37) (bqz 10 87) rfl rfl (by kernel_rfl) ?_ ?_ (fun _ _ _ h => h) (by rfl) ?_ hHeld ?_ ?_;rotate_left 2;rintro w' ⟨s0, s1⟩;go_simp;(with_reducible rfl);simp only [Act.put, qz1, qz2, qz3, i64_w, i32_w];rfl
  refine tqz 5 (some 41) (bqz 10 119) rfl rfl (by kernel_rfl) ?_ ?_ (fun _ _ _ h => h) (by rfl) ?_ hHeld ?_ ?_;rotate_left 2;rintro w' ⟨s0, s1⟩;go_simp;(with_reducible rfl);simp only [Act.put, qz1, qz2, qz3, i64_w, i32_w];rfl
  refine one_ (i := 3) (N := some 39) (bqz 10 127) rfl rfl (by kernel_rfl) (by decide) (fun K hK => ?_);refine goes_ Try.func97 (by kernel_rfl) rfl #[.slice A1 ls.length c1, .string u] (by rfl) rfl rfl (by simp only [List.map_toArray, List.map_cons, List.map_nil]; rfl) ?_;refine (Pxc.calls kp A1 c1 ls u old _ (Kd.C_below b4.out HS7.out.below) hc1 HKp.out).mono ?_;rintro e w8 ⟨rfl, hD⟩;refine ⟨_, rfl, ?_⟩;have HS8 := Aside0.mk (HS7.out.on hD.below);clear hD;refine hK.out _ _ ⟨HS8.out.box.c1, HS8.out.out.c1⟩ (fun hHeld => ?_);clear hK K;refine norm_ (a' := ?_) ?_ ?_;rotate_left
  · show Act.put _ (some 39) _ = _
    simp only [Act.put, qz1, qz2, qz3, i64_w, i32_w];rfl
  refine one_ (i := 7) (N := some 43) (bqz 10 255) rfl rfl (by kernel_rfl) (by decide) (fun K hK => ?_);refine goes_ Try.func97 (by kernel_rfl) rfl #[.slice Au U.length cu, .string u] (by rfl) rfl rfl (by simp only [List.map_toArray, List.map_cons, List.map_nil]; rfl) ?_;obtain ⟨_, _, hv, hcl, hC⟩ := Kd.R_reads HS8.out.ur;injection hv with hA _ hc
  subst hA hc;refine (Pxc.calls kq Au cu U u fre _ hC hcl HKq.out).mono ?_;rintro e w9 ⟨rfl, hD⟩;refine ⟨_, rfl, ?_⟩;have HS9 := Aside0.mk (HS8.out.on hD.below);clear hD hC hcl;refine hK.out _ _ ⟨HS9.out.box.c1, HS9.out.out.c1⟩ (fun hHeld => ?_);clear hK K;refine norm_ (a' := ?_) ?_ ?_;rotate_left
  · show Act.put _ (some 43) _ = _
    simp only [Act.put, qz1, qz2, qz3, i64_w, i32_w];rfl
  refine pqz 8 (some 7) (bqz 10 511) rfl rfl (by kernel_rfl) ?_ ?_ (fun _ _ _ h => h) (by rfl) ?_ ?_ ?_;rotate_left 2;intro w';go_simp;(with_reducible rfl);simp only [Act.put, qz1, qz2, qz3, i64_w, i32_w];rfl
  refine pqz 9 (some 8) (bqz 10 1023) rfl rfl (by kernel_rfl) ?_ ?_ (fun _ _ _ h => h) (by rfl) ?_ ?_ ?_;rotate_left 2;intro w';go_simp;(with_reducible rfl);simp only [Act.put, qz1, qz2, qz3, i64_w, i32_w];rfl
  refine done_ (by kernel_rfl) ?_;have b0 := HS9.out.box.c0;have b1 := HS9.out.box.c1;have b2 := HS9.out.box.c2;clear hHeld HS6 HS7 HS8;go_wp2_with fail
  clear b0 b1 b2;refine (weave_any n ls es old A1 A2 c1 c2 w9 (Kd.C_below b4.out HS9.out.below) (Kd.C_below i0.out HS9.out.below) HM.out).mono ?_;rintro e wW ⟨W, H, ys, g, cL, rfl, hWX, hyl, hF, hB⟩;have HSW := Aside0.mk (HS9.out.weave hB);have HWX := Aside0.mk hWX;have HYL := Aside0.mk hyl;have HFL := Aside0.mk hF;have b0 := HSW.out.box.c0;clear HS9 hWX hF hB hyl;go_wp2
  clear b0;go_loopw [49] (fun i wr => ∃ (k : Nat) (Xv : Value) (X : List Ed), k ≤ n ∧ i = .int .i64 k ∧ Aside0 (Found ls es u ys k X) ∧ Aside0 (X.length ≤ k * 144) ∧ Aside0 (OfS w wr w9 wW B n (.slice A1 ls.length c1) (.slice A2 es.length c2) (.slice Au U.length cu) Xv U X)) (fun i _ => n - (intOf i).toNat)
  case atStart => exact ⟨0, _, [], Nat.zero_le _, rfl, ⟨Found.nil _ _ _ _⟩, ⟨Nat.zero_le _⟩, HSW⟩
  case round =>
    clear HSW;obtain ⟨k, Xv, X, hk, rfl, HFd, HXl, HS⟩ := hrel;by_cases hlt : k < n
    · obtain ⟨AY, cY, hrow⟩ := HWX.out.row (i := k) (by rw [HYL.out]; exact hlt)
      obtain ⟨Y, hY⟩ : ∃ Y, Y = ys.getD k [] := ⟨_, rfl⟩
      rw [← hY] at hrow;have hYF := HFL.out k hlt;rw [← hY] at hYF;have hYl := hYF.len;have HYe := Aside0.mk hY;have HRow := Aside0.mk hrow;have h4 := (HWX.out.all wr HS.out.kept).2;have h5 := (hrow wr HS.out.kept).1;have k0 : (0 : Int) ≤ (k : Int) := by omega
      have k1 : (k : Int) < (ys.length : Int) := by rw [HYL.out]; omega
      clear hrow hY hYF;go_wp2
      clear h4 h5 k0 k1;go_loopw [60] (fun i b6 => ∃ (p : Nat) (Xv : Value), p ≤ Y.length ∧ i = .int .i64 p ∧ Aside0 (OfS w b6 w9 wW B n (.slice A1 ls.length c1) (.slice A2 es.length c2) (.slice Au U.length cu) Xv U (X ++ (Y.take p).map fun t => (⟨(k : Int), fre, t⟩ : Ed)))) (fun i _ => Y.length - (intOf i).toNat)
      case atStart => exact ⟨0, _, Nat.zero_le _, rfl, ⟨by rw [List.take_zero, List.map_nil, List.append_nil]; exact HS.out⟩⟩
      case round =>
        clear HS;obtain ⟨p, Xp, hp, rfl, HS⟩ := hrel;by_cases b3 : p < Y.length
        · obtain ⟨ay, hAy, hy⟩ := atI (HRow.out wr HS.out.kept).2 p b3
          subst hAy;have HT := Aside0.mk (show ((Y.take (p + 1)).map fun t => (⟨(k : Int), fre, t⟩ : Ed)) = ((Y.take p).map fun t => (⟨(k : Int), fre, t⟩ : Ed)) ++ [⟨(k : Int), fre, Y.getD p 0⟩] by rw [take_snocW (0 : Int) b3, List.map_append]; rfl);obtain ⟨z, hz⟩ : ∃ z, z = Y.getD p 0 := ⟨_, rfl⟩
          rw [← hz] at hy HT;obtain ⟨Z, hZ⟩ : ∃ Z, Z = X ++ (Y.take p).map fun t => (⟨(k : Int), fre, t⟩ : Ed) := ⟨_, rfl⟩
          have hZl : Z.length ≤ 1000000 := by
            rw [hZ, List.length_append, List.length_map, List.length_take];have := HXl.out;omega
          rw [← hZ] at HS;have HZe := Aside0.mk hZ;have x2 := HS.out.out.c2;clear hz hZ
          go_wp2_with (at_builtin; refine Kd.R_append k80 (w0 := w) w.heap.size rfl (.tmp 65) (.tmp 70) 23 80 (.agg #[(.int .i64 0), (.int .i64 0), (.int .i64 0)]) 24 rfl Try.underlying23 info80 rfl (by decide) (by omega) Xp Z (⟨(k : Int), fre, z⟩ : Ed) [.int .i64 (k : Int), .int .i64 fre, .int .i64 z] (fun q => wW.heap.size ≤ q) (fun _ => False) rfl rfl (k80_mkM _ _ _ (⟨(k : Int), fre, z⟩ : Ed)) (fun _ hk => hk.elim) (fun q hq => Nat.le_trans HS.out.lt.2.2.2 hq) HS.out.xr HS.out.below HS.out.below.size (by omega) ?_
                       intro v9 j2 ho hb hg hat;obtain ⟨A4, c4, f4⟩ := Kd.R_slice ho;subst f4;have hout := blk_grown HS.out.out hg (Kd.R_ne HS.out.xr HS.out.out (by decide));have y2 := (blk_cell hout 2).trans rfl;have f2 := Go.Proofs.YtmcbkmfpmcbdpaaW.PrintWords.blk_frozen hout 2;have HSn := Aside0.mk (HS.out.put ho hb hg);clear ho hb hg hat hout x2)
          go_roundw
          case rel =>
            have h := HSn.out;rw [List.length_append, List.length_singleton] at h;exact ⟨p + 1, _, by omega, by go_num, ⟨by rw [HT.out, ← List.append_assoc, ← HZe.out]; exact h⟩⟩
          case measure => simp [intOf]; omega
        · rw [List.take_of_length_le (by omega)] at HS
          obtain ⟨Z, hZ⟩ : ∃ Z, Z = X ++ Y.map fun t => (⟨(k : Int), fre, t⟩ : Ed) := ⟨_, rfl⟩
          have hZl : Z.length ≤ k * 144 + 16 := by
            rw [hZ, List.length_append, List.length_map];have := HXl.out;omega
          rw [← hZ] at HS;have HZe := Aside0.mk hZ;clear hZ;obtain ⟨K, hK⟩ : ∃ K, K = farK es ys old Y := ⟨_, rfl⟩
          have HKe := Aside0.mk hK;clear hK
          go_wp2_with (first
            | (go_at_call 111
               refine (wfar_any n ls es old W H k ys wr (HWX.out.all wr HS.out.kept).1 HM.out hlt HYL.out HFL.out).mono ?_;rintro e f5 ⟨M, f, c, rfl, hG, hcl, hK, hMb, hB⟩;have HS11 := Aside0.mk (HS.out.on hB);have e2 := Aside0.mk hG;have g7 := Aside0.mk (show HasK f K by rw [HKe.out, HYe.out]; exact hK);have g8 := Aside0.mk (And.intro hMb hcl);have f6 := hB.size;clear hG hcl hK hMb hB)
            | (at_range
               refine wpList_grange _ prKB rfl _ 103 rfl 3 Try.underlying103 M c f rfl e2.out ?_;intro i8 hgr hg hsz;have hbl : Below f5.heap.size f5 i8 := (Below.refl _ _).grown hg (Nat.le_refl _) (fun k e => by cases e);have HS12 := Aside0.mk (HS11.out.on hbl);have d1 := Aside0.mk hgr;clear hgr hg hsz hbl))
          go_frame
          obtain ⟨r, hr⟩ : ∃ r, r = f5.heap.size := ⟨_, rfl⟩
          have hrW : wW.heap.size ≤ r := by rw [hr]; exact HS11.out.lt.2.2.2
          rw [← hr] at d1 ⊢;have hc : c ≤ 128 := Nat.le_trans g8.out.2 (Nat.mul_le_mul hl8 hn16);have HRW := Aside0.mk hrW;have HKB := Aside0.mk (show ∀ a ∈ K, (0 ≤ a.1 ∧ a.1 < (ls.length : Int)) ∧ (0 ≤ a.2 ∧ a.2 < (n : Int)) from fun a ha => farK_in HM.out (u := u) (by rw [← HOl.out]; exact HFL.out) (by rw [← HOl.out, ← HKe.out]; exact ha));clear HS HS11 e2 hr f6 hrW;go_loopw [] (fun b6 => ∃ (left : Int × Int → Bool) (cnt : Nat) (Ks : List (Int × Int)) (Xk : Value), Aside0 (GR Try.prog 71 ptL ptOk b6 M r f left cnt) ∧ Aside0 (Ks.length + cnt ≤ c) ∧ Aside0 (∀ a, ptOk a → (left a = true ↔ a ∈ K ∧ a ∉ Ks)) ∧ Aside0 (∀ a ∈ Ks, a ∈ K) ∧ Aside0 (OfS w b6 w9 wW B n (.slice A1 ls.length c1) (.slice A2 es.length c2) (.slice Au U.length cu) Xk U (Z ++ Ks.map fun a => (⟨(k : Int), plc U (ls.getD a.1.toNat ByteArray.empty), a.2⟩ : Ed)))) (fun b6 => b6.rangeLeft M r)
          case atStart => exact ⟨_, c, [], Xp, d1, ⟨by simp⟩, ⟨fun a ha => by show (f a).isSome = true ↔ _; rw [g7.out a]; simp⟩, ⟨fun a ha => by cases ha⟩, ⟨by rw [List.map_nil, List.append_nil]; exact HS12.out⟩⟩
          case round =>
            clear d1 HS12;obtain ⟨left, cnt, Ks, Xk, HG, HN, HL, HKs, HS⟩ := hrel;go_wp2_with (at_next; refine wpList_gnext _ prKB rfl _ rfl M r f left cnt rfl HG.out ?_ ?_)
            rotate_left
            · intro ya yb v a5 h7 hy hly hfy e9 b3 g4 hsz hen
              have hyK := (HL.out (ya, yb) hy).1 hly;have hyB : (0 ≤ ya ∧ ya < (ls.length : Int)) ∧ (0 ≤ yb ∧ yb < (n : Int)) := HKB.out (ya, yb) hyK.1;have HS13 := Aside0.mk (HS.out.turn HRW.out HG.out.iter g4);have b7 := Aside0.mk e9;obtain ⟨q, hq⟩ : ∃ q : Nat, ya = (q : Int) := ⟨ya.toNat, by omega⟩
              subst hq;have h8 : (Instr.entry (.pointer (some ⟨r, 0, none⟩))).run Try.prog a5 = .ok (.tuple #[.agg #[.int .i64 (q : Int), .int .i64 yb], v]) a5 := hen;have hql : q < ls.length := by omega
              have HYK := Aside0.mk (And.intro hy (And.intro hyK b3));have HYB := Aside0.mk hyB.2;clear hen e9 b3 g4 hsz hly hfy hy hyK hyB;go_wp2_with fail
              clear h8;obtain ⟨a1, i4, hs⟩ := atS b4.out q hql;subst i4;obtain ⟨E, hE⟩ : ∃ E, E = a5.heap.size := ⟨_, rfl⟩
              rw [← hE];have e0 := (blk_cell (blk_new a5 (Obj.cells #[Value.int IntKind.i64 (q : Int), Value.int IntKind.i64 yb] 71)) 0).trans rfl;have e1 := (blk_cell (blk_new a5 (Obj.cells #[Value.int IntKind.i64 (q : Int), Value.int IntKind.i64 yb] 71)) 1).trans rfl;have hEb := blk_new a5 (Obj.cells #[Value.int IntKind.i64 (q : Int), Value.int IntKind.i64 yb] 71);rw [← hE] at e0 e1 hEb;have d6 := below_drew1 (below_alloc (Below.refl a5.heap.size a5) (Obj.cells #[Value.int IntKind.i64 (q : Int), Value.int IntKind.i64 yb] 71));have HS14 := Aside0.mk (HS13.out.on d6);have a9 := Aside0.mk (b7.out.same (d6.block M b7.out.mlt) (d6.block r b7.out.lt_));obtain ⟨nm, hnm⟩ : ∃ nm, nm = ls.getD q ByteArray.empty := ⟨_, rfl⟩
              rw [← hnm] at hs;have hs' := later HS14.out.below hs;have HSs := Aside0.mk hs;obtain ⟨pl, hpl⟩ : ∃ pl, pl = plc U nm := ⟨_, rfl⟩
              obtain ⟨kz, hkz⟩ := plc_ok U nm (by omega);rw [← hpl] at hkz;have HKz := Aside0.mk hkz;have HEq := Aside0.mk (show (⟨(k : Int), pl, yb⟩ : Ed) = (fun a : Int × Int => (⟨(k : Int), plc U (ls.getD a.1.toNat ByteArray.empty), a.2⟩ : Ed)) ((q : Int), yb) by simp only [Int.toNat_natCast]; rw [hpl, hnm]);obtain ⟨X', hX'⟩ : ∃ X', X' = Z ++ Ks.map fun a => (⟨(k : Int), plc U (ls.getD a.1.toNat ByteArray.empty), a.2⟩ : Ed) := ⟨_, rfl⟩
              have hXl : X'.length ≤ 1000000 := by
                rw [hX', List.length_append, List.length_map];have := HN.out;omega
              rw [← hX'] at HS14;have HXe := Aside0.mk hX';have q0 : (0 : Int) ≤ (q : Int) := by omega
              have q1 : (q : Int) < (ls.length : Int) := by omega
              clear hs hE d6 HS13 b7 hnm hpl hkz hX' HS;generalize (a5.alloc (Obj.cells #[Value.int IntKind.i64 (q : Int), Value.int IntKind.i64 yb] 71)) = W1 at HS14 a9 hs' e0 e1 hEb ⊢;refine start_ (n := 19) (S := fun w' => w'.cell? ⟨B, 2, none⟩ = some Xk ∧ w'.cell? ⟨B, 1, none⟩ = some (.slice Au U.length cu) ∧ w'.cell? ⟨w.heap.size, 1, none⟩ = some (.slice (some a1) ls.length c1) ∧ w'.cell? ⟨E, 0, none⟩ = some (.int .i64 (q : Int)) ∧ w'.cell? ⟨E, 1, none⟩ = some (.int .i64 yb) ∧ w'.cell? (a1.add q) = some (.string nm)) (ds := [18]) (bqz 19 0) (by kernel_rfl) rfl rfl ⟨HS14.out.out.c2, HS14.out.out.c1, HS14.out.box.c1, e0, e1, hs'⟩ (fun hHeld => ?_);have HEb := Aside0.mk (blk_drew hEb);generalize W1.drew = V at HS14 a9 hHeld hs' HEb ⊢; clear e0 e1 hs' hEb
              refine pqz 0 (some 83) (bqz 19 1) rfl rfl (by kernel_rfl) ?_ ?_ (fun _ _ _ h => h) (by rfl) ?_ ?_ ?_;rotate_left 2;intro w';go_simp;(with_reducible rfl);simp only [Act.put, qz1, qz2, qz3, i64_w, i32_w];rfl
              refine pqz 2 (some 85) (bqz 19 5) rfl rfl (by kernel_rfl) ?_ ?_ (fun _ _ _ h => h) (by rfl) ?_ ?_ ?_;rotate_left 2;intro w';go_simp;(with_reducible rfl);simp only [Act.put, qz1, qz2, qz3, i64_w, i32_w];rfl
              refine pqz 3 (some 86) (bqz 19 13) rfl rfl (by kernel_rfl) ?_ ?_ (fun _ _ _ h => h) (by rfl) ?_ ?_ ?_;rotate_left 2;intro w';go_simp;(with_reducible rfl);simp only [Act.put, qz1, qz2, qz3, i64_w, i32_w];rfl
              refine pqz 5 (some 88) (bqz 19 45) rfl rfl (by kernel_rfl) ?_ ?_ (fun _ _ _ h => h) (by rfl) ?_ ?_ ?_;rotate_left 2;intro w';go_simp;(with_reducible rfl);simp only [Act.put, qz1, qz2, qz3, i64_w, i32_w];rfl
              refine pqz 7 (some 90) (bqz 19 173) rfl rfl (by kernel_rfl) ?_ ?_ (fun _ _ _ h => h) (by rfl) ?_ ?_ ?_;rotate_left 2;intro w';go_simp;(with_reducible rfl);simp only [Act.put, qz1, qz2, qz3, i64_w, i32_w];rfl
              refine pqz 12 (some 95) (bqz 19 4269) rfl rfl (by kernel_rfl) ?_ ?_ (fun _ _ _ h => h) (by rfl) ?_ ?_ ?_;rotate_left 2;intro w';go_simp;(with_reducible rfl);simp only [Act.put, qz1, qz2, qz3, i64_w, i32_w];rfl
              refine tqz 1 (some 84) (bqz 19 4271) rfl rfl (by kernel_rfl) ?_ ?_ (fun _ _ _ h => h) (by rfl) ?_ hHeld ?_ ?_;rotate_left 2;rintro w' ⟨s0, s1, s2, s3, s4, s5⟩;go_simp;(with_reducible rfl);simp only [Act.put, qz1, qz2, qz3, i64_w, i32_w];rfl
              refine tqz 4 (some 87) (bqz 19 4287) rfl rfl (by kernel_rfl) ?_ ?_ (fun _ _ _ h => h) (by rfl) ?_ hHeld ?_ ?_;rotate_left 2;rintro w' ⟨s0, s1, s2, s3, s4, s5⟩;go_simp;(with_reducible rfl);simp only [Act.put, qz1, qz2, qz3, i64_w, i32_w];rfl
              refine tqz 6 (some 89) (bqz 19 4351) rfl rfl (by kernel_rfl) ?_ ?_ (fun _ _ _ h => h) (by rfl) ?_ hHeld ?_ ?_;rotate_left 2;rintro w' ⟨s0, s1, s2, s3, s4, s5⟩;go_simp;(with_reducible rfl);simp only [Act.put, qz1, qz2, qz3, i64_w, i32_w];rfl
              refine tqz 8 (some 91) (bqz 19 4607) rfl rfl (by kernel_rfl) ?_ ?_ (fun _ _ _ h => h) (by rfl) ?_ hHeld ?_ ?_;rotate_left 2;rintro w' ⟨s0, s1, s2, s3, s4, s5⟩;go_simp;(with_reducible rfl);simp only [Act.put, qz1, qz2, qz3, i64_w, i32_w];rfl
              refine pqz 9 (some 92) (bqz 19 5119) rfl rfl (by kernel_rfl) ?_ ?_ (fun _ _ _ h => h) (by rfl) ?_ ?_ ?_;rotate_left 2;intro w';go_simp;(with_reducible rfl);simp only [Act.put, qz1, qz2, qz3, i64_w, i32_w];rfl
              refine tqz 10 (some 93) (bqz 19 6143) rfl rfl (by kernel_rfl) ?_ ?_ (fun _ _ _ h => h) (by rfl) ?_ hHeld ?_ ?_;rotate_left 2;rintro w' ⟨s0, s1, s2, s3, s4, s5⟩;go_simp;(with_reducible rfl);simp only [Act.put, qz1, qz2, qz3, i64_w, i32_w];rfl
              refine tqz 13 (some 96) (bqz 19 14335) rfl rfl (by kernel_rfl) ?_ ?_ (fun _ _ _ h => h) (by rfl) ?_ hHeld ?_ ?_;rotate_left 2;rintro w' ⟨s0, s1, s2, s3, s4, s5⟩;go_simp;(with_reducible rfl);simp only [Act.put, qz1, qz2, qz3, i64_w, i32_w];rfl
              refine one_ (i := 11) (N := some 94) (bqz 19 16383) rfl rfl (by kernel_rfl) (by decide) (fun K hK => ?_);refine goes_ Try.func97 (by kernel_rfl) rfl #[.slice Au U.length cu, .string nm] (by rfl) rfl rfl (by simp only [List.map_toArray, List.map_cons, List.map_nil]; rfl) ?_;obtain ⟨_, _, hv, hcl, hC⟩ := Kd.R_reads HS14.out.ur;injection hv with hA _ hc
              subst hA hc;refine (Pxc.calls kz Au cu U nm pl _ hC hcl HKz.out).mono ?_;rintro e j3 ⟨rfl, hD⟩;refine ⟨_, rfl, ?_⟩;have HS15 := Aside0.mk (HS14.out.on hD.below);have g6 := Aside0.mk (a9.out.same (hD.below.block M a9.out.mlt) (hD.below.block r a9.out.lt_));have a6 := Aside0.mk hD.below;have d3 := Aside0.mk (blk_below HEb.out hD.below);clear hD hC hcl;refine hK.out _ _ ⟨later a6.out hHeld.1, later a6.out hHeld.2.1, later a6.out hHeld.2.2.1, later a6.out hHeld.2.2.2.1, later a6.out hHeld.2.2.2.2.1, later a6.out hHeld.2.2.2.2.2⟩ (fun hHeld => ?_);clear hK K;refine norm_ (a' := ?_) ?_ ?_;rotate_left
              · show Act.put _ (some 94) _ = _
                simp only [Act.put, qz1, qz2, qz3, i64_w, i32_w];rfl
              refine pqz 14 (some 97) (bqz 19 32767) rfl rfl (by kernel_rfl) ?_ ?_ (fun _ _ _ h => h) (by rfl) ?_ ?_ ?_;rotate_left 2;intro w';go_simp;(with_reducible rfl);simp only [Act.put, qz1, qz2, qz3, i64_w, i32_w];rfl
              refine one_ (i := 15) (N := some 98) (bqz 19 65535) rfl rfl (by kernel_rfl) (by decide) (fun K hK => ?_);refine value_ (w1 := ?_) (v := ?_) (by rfl) rfl ?_ ?_;rotate_left 2
              · go_simp
                constructor
                · rfl
                · rfl
              refine hK.out _ _ ⟨later (below_alloc (Below.refl _ _) _) hHeld.1, later (below_alloc (Below.refl _ _) _) hHeld.2.1, later (below_alloc (Below.refl _ _) _) hHeld.2.2.1, later (below_alloc (Below.refl _ _) _) hHeld.2.2.2.1, later (below_alloc (Below.refl _ _) _) hHeld.2.2.2.2.1, later (below_alloc (Below.refl _ _) _) hHeld.2.2.2.2.2⟩ (fun hHeld => ?_);clear hK K;refine norm_ (a' := ?_) ?_ ?_;rotate_left
              · show Act.put _ (some 98) _ = _
                simp only [Act.put, qz1, qz2, qz3, i64_w, i32_w];rfl
              refine one_ (i := 16) (N := some 99) (bqz 19 131071) rfl rfl (by kernel_rfl) (by decide) (fun K hK => ?_);have HH := Aside0.mk hHeld;refine Kd.R_append_step k80 (w0 := w) w.heap.size (by rfl) (.tmp 84) (.tmp 98) 23 80 (.agg #[(.int .i64 0), (.int .i64 0), (.int .i64 0)]) 24 rfl Try.underlying23 info80 rfl (by decide) (by omega) Xk X' (⟨(k : Int), pl, yb⟩ : Ed) [.int .i64 (k : Int), .int .i64 pl, .int .i64 yb] (fun q => wW.heap.size ≤ q) (fun _ => False) rfl rfl ?aP (fun _ hk => hk.elim) ?aF ?aO ?aB ?aS ?aL ?_
              (case aP => exact k80_mkM _ _ _ (⟨(k : Int), pl, yb⟩ : Ed))
              (case aF => exact fun q hq => Nat.le_trans HS15.out.lt.2.2.2 hq)
              (case aO => exact HS15.out.xr)
              (case aB => exact HS15.out.below)
              (case aS => exact HS15.out.below.size)
              (case aL => omega)
              intro v9 j4 ho hb hg hat;obtain ⟨A4, c4, f4⟩ := Kd.R_slice ho;subst f4;have hout := blk_grown HS15.out.out hg (Kd.R_ne HS15.out.xr HS15.out.out (by decide));have hbox := blk_grown HS15.out.box hg (Kd.R_ne HS15.out.xr HS15.out.box (by decide));have hEe := blk_grown d3.out hg (Kd.R_ne HS15.out.xr d3.out (by decide));have f3 := later hb HSs.out;have z2 := (blk_cell hout 2).trans rfl;have fz := Go.Proofs.YtmcbkmfpmcbdpaaW.PrintWords.blk_frozen hout 2;have HSn := Aside0.mk (HS15.out.put ho hb hg);have HGn := Aside0.mk (HS15.out.range g6.out hg (.slice A4 (X' ++ [(⟨(k : Int), pl, yb⟩ : Ed)]).length c4));clear ho hb hg hat;refine hK.out _ _ ⟨z2, (blk_cell hout 1).trans rfl, (blk_cell hbox 1).trans rfl, (blk_cell hEe 0).trans rfl, (blk_cell hEe 1).trans rfl, f3⟩ (fun hHeld => ?_);clear hK K;refine norm_ (a' := ?_) ?_ ?_;rotate_left
              · show Act.put _ (some 99) _ = _
                simp only [Act.put, qz1, qz2, qz3, i64_w, i32_w];rfl
              refine pqz 17 (some 100) (bqz 19 262143) rfl rfl (by kernel_rfl) ?_ ?_ (fun _ _ _ h => h) (by rfl) ?_ ?_ ?_;rotate_left 2;intro w';go_simp;(with_reducible rfl);simp only [Act.put, qz1, qz2, qz3, i64_w, i32_w];rfl
              refine last_ (i := 18) (N := none) (bqz 19 524287) rfl rfl (by kernel_rfl) (by decide) (fun K hK => ?_);refine skip_ (w1 := ?_) (by rfl) rfl ?_ ?_;rotate_left
              · go_simp
                rfl
              refine hK.out _ _ ?_;clear hK K;refine done_ (by kernel_rfl) ?_;clear hHeld z2 fz f3 hEe hbox;go_wp2
              go_roundw
              case rel =>
                have hn := HN.out;have hS := HSn.out;rw [List.length_append, List.length_singleton] at hS;have hG := HGn.out;rw [List.length_append, List.length_singleton] at hG;refine ⟨fun x => left x && !decide (x = ((q : Int), yb)), h7, Ks ++ [((q : Int), yb)], .slice A4 (X'.length + 1) c4, ⟨hG⟩, ⟨by rw [List.length_append, List.length_singleton]; have := HYK.out.2.2; omega⟩, ⟨fun a ha => ?_⟩, ⟨fun a ha => ?_⟩, ⟨?_⟩⟩
                · rw [Bool.and_eq_true, HL.out a ha, List.mem_append, List.mem_singleton, Bool.not_eq_true', decide_eq_false_iff_not]
                  constructor
                  · rintro ⟨⟨h1, h2⟩, h3⟩
                    exact ⟨h1, fun h => h.elim h2 h3⟩
                  · rintro ⟨h1, h2⟩
                    exact ⟨⟨h1, fun h => h2 (.inl h)⟩, fun h => h2 (.inr h)⟩
                · rcases List.mem_append.1 ha with h | h
                  · exact HKs.out a h
                  · rw [List.mem_singleton] at h
                    rw [h];exact HYK.out.2.1.1
                · have he : (⟨(k : Int), pl, yb⟩ : Ed) = ⟨(k : Int), plc U (ls.getD ((q : Int), yb).1.toNat ByteArray.empty), ((q : Int), yb).2⟩ := HEq.out
                  rw [List.map_append, ← List.append_assoc, ← HXe.out, List.map_singleton, ← he];exact hS
              case measure =>
                have h1 := HGn.out.left_eq;rw [List.length_append, List.length_singleton] at h1;rw [h1, HG.out.left_eq];exact HYK.out.2.2
            · intro h0 hl
              have hall : ∀ a, a ∈ Ks ↔ a ∈ K := fun a => ⟨HKs.out a, fun ha => by
                have hb := HKB.out a ha;have hok : ptOk a := by unfold ptOk i64in; omega
                have hla : left a = false := hl a.1 a.2 hok;apply Classical.byContradiction;intro hn;have := (HL.out a hok).2 ⟨ha, hn⟩;rw [hla] at this
                cases this⟩
              have HAll := Aside0.mk hall
              have hXl : (Z ++ Ks.map fun a => (⟨(k : Int), plc U (ls.getD a.1.toNat ByteArray.empty), a.2⟩ : Ed)).length ≤ (k + 1) * 144 := by
                rw [List.length_append, List.length_map];have := HN.out;omega
              obtain ⟨X', hX'⟩ : ∃ X', X' = Z ++ Ks.map fun a => (⟨(k : Int), plc U (ls.getD a.1.toNat ByteArray.empty), a.2⟩ : Ed) := ⟨_, rfl⟩
              rw [← hX'] at hXl HS;have HXe := Aside0.mk hX';obtain ⟨Ax, cx, hv, _, _⟩ := Kd.R_reads HS.out.xr;subst hv;have x2 := HS.out.out.c2;have f0 : decide ((1000000 : Int) < (X'.length : Int)) = false := decide_eq_false (by omega);have f1 : ((X'.length : Int) > 1000000) = False := eq_false (by omega);clear h0 hl hall hX';go_wp2
              clear f0 f1 x2;go_roundw
              case rel =>
                refine ⟨k + 1, _, X', by omega, by go_num, ⟨?_⟩, ⟨hXl⟩, HS⟩;have h := HFd.out.more (Ks := Ks) (fun a => by rw [HAll.out a, HKe.out, HYe.out, HOl.out]);rw [← HUe.out, ← HFr.out, ← HYe.out, ← HZe.out, ← HXe.out] at h;exact h
              case measure => simp [intOf]; omega
    · have ek : k = n := by omega
      subst ek;obtain ⟨Ax, cx, hv, hclx, hCx⟩ := Kd.R_reads HS.out.xr;subst hv;obtain ⟨_, _, hv, hclu, hCu⟩ := Kd.R_reads HS.out.ur;injection hv with hA _ hc
      subst hA hc;have x0 := HS.out.out.c0;have x1 := HS.out.out.c1;have x2 := HS.out.out.c2;have hXl := HXl.out;have HCx := Aside0.mk (And.intro hCx hclx);have HCu := Aside0.mk (And.intro hCu hclu);clear hCx hclx hCu hclu;go_wp2_with fail
      clear x0 x1 x2;have hmS := weak_may (X := X) HM.out hu (by omega) (by omega) (by rw [← HOl.out]; exact HFL.out) HFd.out;rw [← HUe.out] at hmS;refine (Pxe.calls k _ _ U _ _ X k U (sortE X) 0 wr HCu.out.1 HCu.out.2 HCx.out.1 HCx.out.2 (by unfold Pxe.f; rw [if_pos ⟨by omega, by omega⟩, hmS]; rfl)).mono ?_;rintro e j5 ⟨v1', v2', rfl, hR1', hR2', hB⟩;obtain ⟨A8, c8, i5⟩ := Kd.R_slice hR1';obtain ⟨A9, c9, i7⟩ := Kd.R_slice hR2';subst i5 i7;have a4 := Aside0.mk (blk_below HS.out.res hB);have h9 := Aside0.mk (below_then HS.out.below HS.out.below.size hB);have i2 := Aside0.mk (Kd.R_lower hR1' HS.out.below.size);have i3 := Aside0.mk (Kd.R_lower hR2' HS.out.below.size);have HSE := Aside0.mk (HFd.out.sorted (fun e he => by have h := may_edge HM.out e he; exact ⟨h.1, h.2.1⟩) (by rw [← HOl.out]; exact HFL.out));have y0 := bcz a4 0 rfl;have y1 := bcz a4 1 rfl;have y2 := bcz a4 2 rfl;have g0 := Go.Proofs.YtmcbkmfpmcbdpaaW.PrintWords.blk_frozen a4.out 0;have g1 := Go.Proofs.YtmcbkmfpmcbdpaaW.PrintWords.blk_frozen a4.out 1;have g2 := Go.Proofs.YtmcbkmfpmcbdpaaW.PrintWords.blk_frozen a4.out 2;clear hB hR1' hR2' hmS;go_wp2
      have e7 := blk_put a4.out 0 (.int .i64 (k : Int)) rfl;have e8 := blk_put e7 1 (.slice A8 U.length c8) rfl;have hYa := blk_put e8 2 (.slice A9 (sortE X).length c9) rfl;refine bodyPost_ret (results_ct rfl _ _ (w.heap.size + 1) 25 #[.int .i64 (k : Int), .slice A8 U.length c8, .slice A9 (sortE X).length c9] (0, 0) _ rfl hYa Try.underlying25 rfl (by kernel_rfl)) rfl ?_;rw [← HSE.out];exact ⟨_, _, rfl, Kd.R_set (Kd.R_set (Kd.R_set i2.out a4.out (by decide) 0 _) e7 (by decide) 1 _) e8 (by decide) 2 _, Kd.R_set (Kd.R_set (Kd.R_set i3.out a4.out (by decide) 0 _) e7 (by decide) 1 _) e8 (by decide) 2 _, below_set (below_set (below_set h9.out (by omega)) (by omega)) (by omega)⟩
end Go.Proofs.Ytmcbkmfpmcbdpaa.H
namespace Go.Proofs.Ytmcbkmfpmcbdpaa.H
open Go.RowKit Go.Proofs.Ytmcbkmfpmcbdpaa.Pr Go.Proofs.YtmcbkmfpmcbdpaaW.PrintWords Go.Proofs.Ytmcbkmfpmcbdpaa.Sem Go.Proofs.YtmcbkmfpmcbdpaaW.PrintLast
set_option maxHeartbeats 8000000 in
set_option maxRecDepth 100000 in
theorem wof_no (n : Int) (ls : List ByteArray) (es : List Ed) (u : ByteArray) (A1 A2 : Option Addr) (c1 c2 : Nat) (w : World) (hr1 : Kd.C Kd.string w A1 ls.length ls) (hr2 : Kd.C k80 w A2 es.length es) (hm : mayR n ls es = false ∨ (mayR n ls es = true ∧ 200 < u.size)) :
  Calls Try.prog 59 #[.agg #[.int .i64 n, .slice A1 ls.length c1, .slice A2 es.length c2], .string u] w fun e w' => e = .returned (.tuple #[.agg #[.int .i64 0, .slice none 0 0, .slice none 0 0], .int .i64 1]) ∧ Below w.heap.size w w' := by
 have HB := Aside0.mk (Below.refl w.heap.size w);have HR1 := Aside0.mk hr1;have HR2 := Aside0.mk hr2;clear hr1 hr2;rcases hm with hm | ⟨hm, hu⟩
 ·have HM := Aside0.mk hm;clear hm;go_enter Try.func59, Try.ntmps59
  go_wp2_with fail
  refine (check_no n ls es A1 A2 c1 c2 _ (Kd.C_below HR1.out (below_alloc (below_alloc HB.out _) _)) (Kd.C_below HR2.out (below_alloc (below_alloc HB.out _) _)) (by rw [may_same]; exact HM.out)).mono ?_;rintro e w1 ⟨rfl, hB⟩;have HY6 := Aside0.mk (show w1.heap[w.heap.size + 1]? = some (.cells #[.int .i64 0, .slice none 0 0, .slice none 0 0] 25 (0, 0)) from blk_below (by have := blk_new (w.alloc (.cells #[.int .i64 n, .slice A1 ls.length c1, .slice A2 es.length c2] 25)) (.cells #[.int .i64 0, .slice none 0 0, .slice none 0 0] 25); simpa using this) hB);have HB6 := Aside0.mk (below_then (below_alloc (below_alloc HB.out _) _) (below_alloc (below_alloc HB.out _) _).size hB);have y0 := bcz HY6 0 rfl;have y1 := bcz HY6 1 rfl;have y2 := bcz HY6 2 rfl;have g0 := Go.Proofs.YtmcbkmfpmcbdpaaW.PrintWords.blk_frozen HY6.out 0;have g1 := Go.Proofs.YtmcbkmfpmcbdpaaW.PrintWords.blk_frozen HY6.out 1;have g2 := Go.Proofs.YtmcbkmfpmcbdpaaW.PrintWords.blk_frozen HY6.out 2;clear hB;go_wp2
  refine bodyPost_ret (results_ct rfl _ _ (w.heap.size + 1) 25 #[.int .i64 0, .slice none 0 0, .slice none 0 0] (0, 0) _ rfl (blk_put (blk_put (blk_put HY6.out 0 (.int .i64 0) rfl) 1 (.slice none 0 0) rfl) 2 (.slice none 0 0) rfl) Try.underlying25 rfl (by kernel_rfl)) rfl ?_;exact ⟨rfl, below_set (below_set (below_set HB6.out (by omega)) (by omega)) (by omega)⟩
 ·have HM := Aside0.mk hm;have hs1 : decide ((200 : Int) < (u.size : Int)) = true := decide_eq_true (by omega);have hs2 : ((u.size : Int) > 200) = True := eq_true (by omega);clear hm;go_enter Try.func59, Try.ntmps59
  go_wp2_with fail
  refine (check_yes n ls es A1 A2 c1 c2 _ (Kd.C_below HR1.out (below_alloc (below_alloc HB.out _) _)) (Kd.C_below HR2.out (below_alloc (below_alloc HB.out _) _)) (by rw [may_same]; exact HM.out)).mono ?_;rintro e w1 ⟨rfl, hB⟩;have HY6 := Aside0.mk (show w1.heap[w.heap.size + 1]? = some (.cells #[.int .i64 0, .slice none 0 0, .slice none 0 0] 25 (0, 0)) from blk_below (by have := blk_new (w.alloc (.cells #[.int .i64 n, .slice A1 ls.length c1, .slice A2 es.length c2] 25)) (.cells #[.int .i64 0, .slice none 0 0, .slice none 0 0] 25); simpa using this) hB);have HB6 := Aside0.mk (below_then (below_alloc (below_alloc HB.out _) _) (below_alloc (below_alloc HB.out _) _).size hB);have y0 := bcz HY6 0 rfl;have y1 := bcz HY6 1 rfl;have y2 := bcz HY6 2 rfl;have g0 := Go.Proofs.YtmcbkmfpmcbdpaaW.PrintWords.blk_frozen HY6.out 0;have g1 := Go.Proofs.YtmcbkmfpmcbdpaaW.PrintWords.blk_frozen HY6.out 1;have g2 := Go.Proofs.YtmcbkmfpmcbdpaaW.PrintWords.blk_frozen HY6.out 2;clear hB;go_wp2
  refine bodyPost_ret (results_ct rfl _ _ (w.heap.size + 1) 25 #[.int .i64 0, .slice none 0 0, .slice none 0 0] (0, 0) _ rfl (blk_put (blk_put (blk_put HY6.out 0 (.int .i64 0) rfl) 1 (.slice none 0 0) rfl) 2 (.slice none 0 0) rfl) Try.underlying25 rfl (by kernel_rfl)) rfl ?_;exact ⟨rfl, below_set (below_set (below_set HB6.out (by omega)) (by omega)) (by omega)⟩
end Go.Proofs.Ytmcbkmfpmcbdpaa.H
namespace Go.Proofs.Ytmcbkmfpmcbdpaa.Pr
open Go.RowKit Go.Proofs.YtmcbkmfpmcbdpaaW.PrintWords Go.Proofs.YtmcbkmfpmcbdpaaW.PrintLast Go.Proofs.YtmcbkmfpmcbdpaaW.PrintMore
def Pxf.f (a0_0 : Int) (l0_1 : List ByteArray) (l0_2 : List S80) (a1 : ByteArray) : Option (Int × List ByteArray × List S80 × Int) :=
 if H.mayR a0_0 l0_1 l0_2 = true ∧ a1.size ≤ 200 then (if a0_0 ≤ 16 ∧ l0_1.length ≤ 8 then some (a0_0, H.uniS (l0_1 ++ [a1]), Sem.sortE (H.weakE a0_0.toNat l0_1 l0_2 a1), 0) else none) else some (0, [], [], 1)
theorem Pxf.calls (a0_0 : Int) (A0_1 : Option Addr) (c0_1 : Nat) (l0_1 : List ByteArray) (A0_2 : Option Addr) (c0_2 : Nat) (l0_2 : List S80) (a1 : ByteArray) (r1 : Int) (r2 : List ByteArray) (r3 : List S80) (r4 : Int) (w : World) (hr0_1 : Kd.C Kd.string w A0_1 l0_1.length l0_1) (hc0_1 : l0_1.length ≤ c0_1) (hr0_2 : Kd.C k80 w A0_2 l0_2.length l0_2) (hc0_2 : l0_2.length ≤ c0_2) (h : Pxf.f a0_0 l0_1 l0_2 a1 = some (r1, r2, r3, r4)) :
  Calls Try.prog 59 #[.agg #[.int .i64 a0_0, .slice A0_1 l0_1.length c0_1, .slice A0_2 l0_2.length c0_2], .string a1] w fun e w' => ∃ v1_ v2_ : Value, e = .returned (.tuple #[.agg #[.int .i64 r1, v1_, v2_], .int .i64 r4]) ∧ Kd.R Kd.string 9 w' w.heap.size (fun _ => True) v1_ r2 ∧ Kd.R k80 80 w' w.heap.size (fun _ => True) v2_ r3 ∧ Below w.heap.size w w' := by
 unfold Pxf.f at h;by_cases hm : H.mayR a0_0 l0_1 l0_2 = true ∧ a1.size ≤ 200
 ·rw [if_pos hm] at h;split at h
  ·rename_i hs;simp only [Option.some.injEq, Prod.mk.injEq] at h;obtain ⟨rfl, rfl, rfl, rfl⟩ := h;have hn := H.lt_n hm.1;obtain ⟨n, rfl⟩ : ∃ n : Nat, a0_0 = (n : Int) := ⟨a0_0.toNat, by omega⟩
   rw [Int.toNat_natCast];exact H.wof_any n l0_1 l0_2 a1 A0_1 A0_2 c0_1 c0_2 w hr0_1 hc0_1 hr0_2 hm.1 hm.2 (by omega) hs.2
  ·cases h
 ·rw [if_neg hm] at h;simp only [Option.some.injEq, Prod.mk.injEq] at h;obtain ⟨rfl, rfl, rfl, rfl⟩ := h;refine (H.wof_no a0_0 l0_1 l0_2 a1 A0_1 A0_2 c0_1 c0_2 w hr0_1 hr0_2 ?_).mono fun e w' hp => ⟨_, _, hp.1, Kd.R_nil _ _ _ _ _, Kd.R_nil _ _ _ _ _, hp.2⟩
  cases h1 : H.mayR a0_0 l0_1 l0_2 with
  | false => exact .inl rfl
  | true => exact .inr ⟨rfl, Nat.lt_of_not_le fun h2 => hm ⟨h1, h2⟩⟩
end Go.Proofs.Ytmcbkmfpmcbdpaa.Pr
namespace Go.Proofs.Ytmcbkmfpmcbdpaa.H
open Go.RowKit Go.Proofs.Ytmcbkmfpmcbdpaa.Pr Go.Proofs.YtmcbkmfpmcbdpaaW.PrintWords Go.Proofs.Ytmcbkmfpmcbdpaa.Sem Go.Proofs.Ytmcbkmfpmcbdpaa.PL
theorem idx_inj {n i j a b : Nat} (hj : j < n) (hb : b < n) (h : i * n + j = a * n + b) : i = a ∧ j = b := by
 have h1 : ∀ x y : Nat, y < n → (x * n + y) / n = x := fun x y hy => by
  rw [Nat.mul_comm, Nat.mul_add_div (by omega), Nat.div_eq_of_lt hy, Nat.add_zero]
 have h2 := h1 i j hj
 rw [h, h1 a b hb] at h2
 subst h2
 exact ⟨rfl, by omega⟩
theorem idx_lt {n i j : Nat} (hi : i < n) (hj : j < n) : i * n + j < n * n := by
 have : (i + 1) * n ≤ n * n := Nat.mul_le_mul_right n hi
 rw [Nat.succ_mul] at this
 omega
theorem idx_w {n i j : Nat} (hn : n ≤ 16) (hi : i < n) (hj : j < n) : wrap64 (wrap64 ((i : Int) * (n : Int)) + (j : Int)) = ((i * n + j : Nat) : Int) := by
 have hb : i * n ≤ 16 * 16 := Nat.mul_le_mul (by omega) hn
 have e : (i : Int) * (n : Int) = ((i * n : Nat) : Int) := by push_cast; rfl
 rw [e]
 unfold wrap64
 omega
def at2 (n : Nat) (T : List Bool) (i j : Nat) : Bool := T.getD (i * n + j) false
theorem at2_set {n : Nat} {T : List Bool} (hT : T.length = n * n) {a b i j : Nat} (ha : a < n) (hb : b < n) (hj : j < n) : at2 n (T.set (a * n + b) true) i j = (decide (i = a ∧ j = b) || at2 n T i j) := by
 unfold at2
 rw [getD_set _ _ _ (by rw [hT]; exact idx_lt ha hb)]
 congr 1
 exact decide_eq_decide.2 ⟨fun h => idx_inj hj hb h, fun h => by rw [h.1, h.2]⟩
structure GoodU (n : Nat) (es : List Ed) (old : Int) (T : List Bool) : Prop where
  len : T.length = n * n
  iff : ∀ i j, i < n → j < n → (at2 n T i j = true ↔ (j : Int) ∈ reachL n (esU es old) (i : Int))
theorem good_of {n : Nat} {es : List Ed} {old : Int} (hes : ∀ e ∈ es, (0 ≤ e.f0 ∧ e.f0 < (n : Int)) ∧ (0 ≤ e.f2 ∧ e.f2 < (n : Int))) {T : List Bool} (hl : T.length = n * n) (hd : ∀ i, i < n → at2 n T i i = true) (hs : ∀ i j, i < n → j < n → at2 n T i j = true → Rch (esU es old) i j) (hc : ∀ i, i < n → ∀ e ∈ es, ¬ (e.f1 = old ∧ at2 n T i e.f0.toNat = true ∧ at2 n T i e.f2.toNat = false)) : GoodU n es old T := by
 refine ⟨hl, fun i j hi hj => ?_⟩
 have hT : Tells n (esU es old) i (reachT n (esU es old) (i : Int)) := reach_tells (n := n) (es := esU es old) (v := (i : Int)) (fun e he => by have := hes e (esU_mem.1 he).1; omega) (by omega) (by omega)
 unfold reachL
 rw [placesT_memW, hT.len, Int.toNat_natCast, hT.iff]
 constructor
 ·intro h
  exact ⟨by omega, by omega, hs i j hi hj h⟩
 ·rintro ⟨_, _, h⟩
  have key : ∀ j, Rch (esU es old) i j → j < n ∧ at2 n T i j = true := by
   intro j h
   induction h with
   | refl => exact ⟨hi, hd i hi⟩
   | step _ he ih =>
    rename_i e _
    have he' := esU_mem.1 he
    have hb := hes e he'.1
    refine ⟨by omega, ?_⟩
    cases q : at2 n T i e.f2.toNat with
    | true => rfl
    | false => exact (hc i hi e he'.1 ⟨he'.2, ih.2, q⟩).elim
  exact (key j h).2
end Go.Proofs.Ytmcbkmfpmcbdpaa.H
namespace Go.Proofs.Ytmcbkmfpmcbdpaa.H
open Go.RowKit Go.Proofs.Ytmcbkmfpmcbdpaa.Pr Go.Proofs.YtmcbkmfpmcbdpaaW.PrintWords Go.Proofs.Ytmcbkmfpmcbdpaa.Sem Go.Proofs.YtmcbkmfpmcbdpaaW.PrintLast
theorem info4w : (Try.prog.info? 4).map (fun i => (i.zero, i.size, i.bytes)) = some (some (.bool false), 1, 1) := by kernel_rfl
structure UI (n : Nat) (es : List Ed) (old : Int) (T : List Bool) : Prop where
  len : T.length = n * n
  diag : ∀ i, i < n → at2 n T i i = true
  snd : ∀ i j, i < n → j < n → at2 n T i j = true → Rch (esU es old) i j
def Comes (n : Nat) (old : Int) (T : List Bool) (i : Nat) (e : Ed) : Prop := e.f1 = old ∧ at2 n T i e.f0.toNat = true ∧ at2 n T i e.f2.toNat = false
theorem UI.put {n : Nat} {es : List Ed} {old : Int} {T : List Bool} (h : UI n es old T) {i : Nat} (hi : i < n) {e : Ed} (he : e ∈ es) (hb : (0 ≤ e.f0 ∧ e.f0 < (n : Int)) ∧ (0 ≤ e.f2 ∧ e.f2 < (n : Int))) (hc : Comes n old T i e) : UI n es old (T.set (i * n + e.f2.toNat) true) ∧ unmet (T.set (i * n + e.f2.toNat) true) < unmet T := by
 have h2 : e.f2.toNat < n := by omega
 have h0 : e.f0.toNat < n := by omega
 refine ⟨⟨by rw [List.length_set]; exact h.len, fun a ha => by rw [at2_set h.len hi h2 ha, h.diag a ha, Bool.or_true], fun a b ha hb' q => ?_⟩, ?_⟩
 ·rw [at2_set h.len hi h2 hb'] at q
  by_cases c : a = i ∧ b = e.f2.toNat
  ·rw [c.1, c.2]
   exact .step (h.snd i e.f0.toNat hi h0 hc.2.1) (esU_mem.2 ⟨he, hc.1⟩)
  ·rw [decide_eq_false c, Bool.false_or] at q
   exact h.snd a b ha hb' q
 ·have := unmet_set T (i * n + e.f2.toNat) (by rw [h.len]; exact idx_lt hi h2) hc.2.2
  omega
structure PassS (n : Nat) (es : List Ed) (old : Int) (T0 T : List Bool) (b : Bool) (i k : Nat) : Prop where
  ui : UI n es old T
  few : unmet T ≤ unmet T0
  yes : b = true → unmet T < unmet T0
  no : b = false → T = T0 ∧ (∀ a, a < i → ∀ e ∈ es, ¬ Comes n old T0 a e) ∧ ∀ t, t < k → ¬ Comes n old T0 i (es.getD t z80)
structure US (w wr : World) (n : Nat) (v1 v2 : Value) (g N cT : Nat) (T : List Bool) : Prop where
  box : BoxL wr w.heap.size n v1 v2
  row : Kd.R Kd.bool 4 wr w.heap.size (fun _ => True) (.slice (some ⟨g, 0, none⟩) N cT) T
  below : Below w.heap.size w wr
theorem US.on {w wr wr' : World} {n : Nat} {v1 v2 : Value} {g N cT : Nat} {T : List Bool} (h : US w wr n v1 v2 g N cT T) (hb : Below wr.heap.size wr wr') : US w wr' n v1 v2 g N cT T :=
 ⟨blk_below h.box hb, Kd.R_below h.row hb, below_then h.below h.below.size hb⟩
theorem US.set {w wr : World} {n : Nat} {v1 v2 : Value} {g N cT : Nat} {T : List Bool} (h : US w wr n v1 v2 g N cT T) (j : Nat) : US w (wr.setCell ⟨g, j, none⟩ (.bool true)) n v1 v2 g N cT (T.set j true) := by
 have hp := Kd.R_putg h.row (j : Int) true
 rw [Int.toNat_natCast] at hp
 exact ⟨blk_grown h.box hp.2 (Kd.R_ne h.row h.box (by decide)), hp.1, h.below.grown hp.2 h.below.size (fun k hk => Kd.R_base h.row k hk)⟩
theorem US.cell {w wr : World} {n : Nat} {v1 v2 : Value} {g N cT : Nat} {T : List Bool} (h : US w wr n v1 v2 g N cT T) {j : Nat} (hj : j < N) : wr.cell? ⟨g, j, none⟩ = some (.bool (T.getD j false)) ∧ wr.frozen? ⟨g, j, none⟩ = false := by
 have hp := Kd.R_celln false h.row (j : Int) (by omega) (by omega)
 rw [Int.toNat_natCast] at hp
 exact hp
set_option maxHeartbeats 16000000 in
set_option maxRecDepth 100000 in
theorem unseen_any (n : Nat) (ls : List ByteArray) (es : List Ed) (old : Int) (A1 A2 : Option Addr) (c1 c2 : Nat) (w : World) (hr2 : Kd.C k80 w A2 es.length es) (hm : mayR n ls es = true) (hn16 : n ≤ 16) :
  Calls Try.prog 112 #[.agg #[.int .i64 n, .slice A1 ls.length c1, .slice A2 es.length c2], .int .i64 old] w fun e w' => ∃ v0 T, e = .returned v0 ∧ Kd.R Kd.bool 4 w' w.heap.size (fun _ => True) v0 T ∧ GoodU n es old T ∧ Below w.heap.size w w' := by
 have HB := Aside0.mk (Below.refl w.heap.size w);have a4 := Aside0.mk hr2;have HM := Aside0.mk hm;have HES := Aside0.mk (lt_in hm);have hn := lt_n hm;have hel := lt_len hm;have hN : n * n ≤ 16 * 16 := Nat.mul_le_mul hn16 hn16;obtain ⟨N, hNe⟩ : ∃ N, N = n * n := ⟨_, rfl⟩
 have a9 : wrap64 ((n : Int) * (n : Int)) = (N : Int) := by
  rw [hNe, show (n : Int) * (n : Int) = ((n * n : Nat) : Int) by push_cast; rfl];unfold wrap64;omega
 have b1 : N ≤ 256 := by omega
 have HNe := Aside0.mk hNe;clear hr2 hm hN hNe;go_enter Try.func112, Try.ntmps112
 go_wp2_with (
  (with_reducible refine gate_dst (N := 17) rfl ?_)
  refine Kd.R_make Kd.bool _ 4 rfl (N := 17) rfl 41 _ _ rfl (wrap64 ((n : Int) * (n : Int))) rfl rfl Try.underlying41 (.bool false) 1 info4w rfl (by decide) (by omega) false (ok := fun _ => True) (okp := fun _ => True) rfl (fun _ hk => hk) trivial (by omega) (by omega) (Below.refl _ _) (Nat.le_refl _) ?_;intro v2 w2 ho hb hg hnew;clear hg hnew;rw [a9, Int.toNat_natCast] at ho;have HO := Aside0.mk ho;have a0 := Aside0.mk hb;clear ho hb)
 have a5 : 0 < N := by rw [HNe.out]; exact Nat.mul_pos (by omega) (by omega)
 obtain ⟨g, cT, a3, _⟩ := Kd.R_form HO.out (by rw [List.length_replicate]; exact a5);rw [List.length_replicate] at a3;subst a3;have HS0 := Aside0.mk (US.mk (blk_below (blk_new w _) a0.out) (Kd.R_lower HO.out (by simp)) (below_then (below_alloc HB.out _) (by simp) a0.out) : US w w2 n (.slice A1 ls.length c1) (.slice A2 es.length c2) g N cT (List.replicate N false));clear HO a0 HB;go_loopw [7] (fun i wr => ∃ (k : Nat) (T : List Bool), k ≤ n ∧ i = .int .i64 k ∧ Aside0 (T.length = n * n) ∧ Aside0 (∀ a b, a < n → b < n → at2 n T a b = decide (a = b ∧ a < k)) ∧ Aside0 (US w wr n (.slice A1 ls.length c1) (.slice A2 es.length c2) g N cT T)) (fun i _ => n - (intOf i).toNat)
 case atStart => exact ⟨0, _, Nat.zero_le _, rfl, ⟨by rw [List.length_replicate, HNe.out]⟩, ⟨fun a b ha hb => by
  unfold at2;rw [List.getD_eq_getElem?_getD, List.getElem?_replicate];split <;> simp⟩, HS0⟩
 case round =>
  clear HS0;obtain ⟨k, T, hk, rfl, HL, HA, HS⟩ := hrel;by_cases hlt : k < n
  ·obtain ⟨ia, hia⟩ : ∃ ia, ia = k * n + k := ⟨_, rfl⟩
   have b0 : wrap64 (wrap64 ((k : Int) * (n : Int)) + (k : Int)) = (ia : Int) := by rw [idx_w hn16 hlt hlt, hia]
   have hiN : ia < N := by rw [hia, HNe.out]; exact idx_lt hlt hlt
   obtain ⟨hc, hf⟩ := HS.out.cell hiN;have i0 : (0 : Int) ≤ (ia : Int) := Int.natCast_nonneg _;have i1 : (ia : Int) < (N : Int) := Int.ofNat_lt.2 hiN;have HIa := Aside0.mk hia;clear hia;go_wp2
   go_roundw
   case rel =>
    refine ⟨k + 1, T.set ia true, by omega, by go_num, ⟨by rw [List.length_set]; exact HL.out⟩, ⟨fun a b ha hb => ?_⟩, ⟨HS.out.set ia⟩⟩;rw [HIa.out, at2_set HL.out hlt hlt hb, HA.out a b ha hb, ← Bool.decide_or];exact decide_eq_decide.2 (by omega)
   case measure => simp [intOf]; omega
  ·have HU := Aside0.mk (UI.mk HL.out (fun i hi => by rw [HA.out i i hi hi]; exact decide_eq_true ⟨rfl, by omega⟩) (fun a b ha hb h => by
    rw [HA.out a b ha hb] at h;rw [(of_decide_eq_true h).1];exact .refl _) : UI n es old T)
   have a2 : unmet T + 1 ≤ N + 1 := by have := unmet_le T; rw [HL.out, ← HNe.out] at this; omega
   clear HL HA;go_wp2
   clear hk hlt;go_loopg [8] (N + 1) (fun q f wr => ∃ (b : Bool) (T : List Bool), f = .bool b ∧ Aside0 (UI n es old T) ∧ Aside0 (b = false → ∀ i, i < n → ∀ e ∈ es, ¬ Comes n old T i e) ∧ Aside0 (unmet T + (if b then 1 else 0) ≤ q) ∧ Aside0 (US w wr n (.slice A1 ls.length c1) (.slice A2 es.length c2) g N cT T))
   case atStart => exact ⟨true, T, rfl, HU, ⟨fun h => by cases h⟩, ⟨a2⟩, HS⟩
   case round =>
    clear HU HS a2;obtain ⟨b, T0, rfl, HU, HC, HQ, HS⟩ := hrel
    cases b with
    | false =>
     go_wp2
     go_ret
     exact ⟨_, rfl, T0, HS.out.row, good_of (fun e he => HES.out e he) HU.out.len HU.out.diag HU.out.snd (HC.out trivial), HS.out.below⟩
    | true =>
     clear HC;go_wp2
     go_loopw [8, 9] (fun f i wr => ∃ (b : Bool) (T : List Bool) (k : Nat), k ≤ n ∧ f = .bool b ∧ i = .int .i64 k ∧ Aside0 (PassS n es old T0 T b k 0) ∧ Aside0 (US w wr n (.slice A1 ls.length c1) (.slice A2 es.length c2) g N cT T)) (fun _ i _ => n - (intOf i).toNat)
     case atStart => exact ⟨false, T0, 0, Nat.zero_le _, rfl, rfl, ⟨⟨HU.out, Nat.le_refl _, (fun h => by cases h), (fun _ => ⟨rfl, (fun a ha => by omega), (fun t ht => by omega)⟩)⟩⟩, HS⟩
     case round =>
      clear HU HS;obtain ⟨b, T, i, hi, rfl, rfl, HP, HS⟩ := hrel;by_cases hlt : i < n
      ·go_wp2
       go_loopw [8, 10] (fun f j wr => ∃ (b : Bool) (T : List Bool) (k : Nat), k ≤ es.length ∧ f = .bool b ∧ j = .int .i64 k ∧ Aside0 (PassS n es old T0 T b i k) ∧ Aside0 (US w wr n (.slice A1 ls.length c1) (.slice A2 es.length c2) g N cT T)) (fun _ j _ => es.length - (intOf j).toNat)
       case atStart => exact ⟨b, T, 0, Nat.zero_le _, rfl, rfl, HP, HS⟩
       case round =>
        clear HP HS;obtain ⟨b, T, k, hk, rfl, rfl, HP, HS⟩ := hrel;have x2 := HS.out.box.c2;by_cases hlt2 : k < es.length
        ·obtain ⟨ad, hA, g0, g1, g2⟩ := atE a4.out k hlt2;subst hA;replace g0 := later HS.out.below g0;replace g1 := later HS.out.below g1;replace g2 := later HS.out.below g2;obtain ⟨e, he⟩ : ∃ e, e = es.getD k z80 := ⟨_, rfl⟩
         have hem : e ∈ es := by rw [he, List.getD_eq_getElem?_getD, List.getElem?_eq_getElem hlt2]; exact List.getElem_mem hlt2
         have hb := HES.out e hem;rw [← he] at g0 g1 g2;obtain ⟨a, ha⟩ : ∃ a : Nat, e.f0 = (a : Int) := ⟨e.f0.toNat, by omega⟩
         obtain ⟨c, hc⟩ : ∃ c : Nat, e.f2 = (c : Int) := ⟨e.f2.toNat, by omega⟩
         have han : a < n := by omega
         have hcn : c < n := by omega
         rw [ha] at g0;rw [hc] at g2;obtain ⟨ia, hia⟩ : ∃ ia, ia = i * n + a := ⟨_, rfl⟩
         obtain ⟨ic, hic⟩ : ∃ ic, ic = i * n + c := ⟨_, rfl⟩
         have b0 : wrap64 (wrap64 ((i : Int) * (n : Int)) + (a : Int)) = (ia : Int) := by rw [idx_w hn16 hlt han, hia]
         have b2 : wrap64 (wrap64 ((i : Int) * (n : Int)) + (c : Int)) = (ic : Int) := by rw [idx_w hn16 hlt hcn, hic]
         have hiN : ia < N := by rw [hia, HNe.out]; exact idx_lt hlt han
         have hcN : ic < N := by rw [hic, HNe.out]; exact idx_lt hlt hcn
         have t1 := fun o => ((HS.out.on (below_alloc (Below.refl wr.heap.size wr) o)).cell hiN).1
         have t2 := fun o => ((HS.out.on (below_alloc (Below.refl wr.heap.size wr) o)).cell hcN).1
         have i0 : (0 : Int) ≤ (ia : Int) := Int.natCast_nonneg _;have i1 : (ia : Int) < (N : Int) := Int.ofNat_lt.2 hiN;have j0 : (0 : Int) ≤ (ic : Int) := Int.natCast_nonneg _;have j1 : (ic : Int) < (N : Int) := Int.ofNat_lt.2 hcN;have HCm := Aside0.mk (show Comes n old T i e ↔ e.f1 = old ∧ T.getD ia false = true ∧ T.getD ic false = false by unfold Comes at2; rw [ha, hc, Int.toNat_natCast, Int.toNat_natCast, hia, hic]);have HEe := Aside0.mk (And.intro he (And.intro hem hb));have HIc := Aside0.mk (show ic = i * n + e.f2.toNat by rw [hc, Int.toNat_natCast, hic]);clear he hem hb ha hc hia hic;by_cases ho : e.f1 = old
         ·have a6 := decide_eq_true ho;have a7 : (e.f1 == old) = true := by simpa using ho
          have a1 := Aside0.mk ho;clear ho
          cases hta : T.getD ia false with
          | false =>
           simp only [hta] at t1;have HTa := Aside0.mk hta;clear hta;go_wp2
           go_roundw
           case rel =>
            refine ⟨b, T, k + 1, by omega, rfl, by go_num, ⟨⟨HP.out.ui, HP.out.few, HP.out.yes, fun h => ?_⟩⟩, ⟨HS.out.on (below_alloc (Below.refl _ _) _)⟩⟩;obtain ⟨h1, h2, h3⟩ := HP.out.no h;refine ⟨h1, h2, fun t ht => ?_⟩;rcases Nat.lt_succ_iff_lt_or_eq.1 ht with q | rfl
            ·exact h3 t q
            ·rw [← HEe.out.1, ← h1, HCm.out]; exact fun h => by rw [HTa.out] at h; exact absurd h.2.1 (by decide)
           case measure => simp [intOf]; omega
          | true =>
           simp only [hta] at t1;have HTa := Aside0.mk hta;clear hta
           cases htc : T.getD ic false with
           | true =>
            simp only [htc] at t2;have HTc := Aside0.mk htc;clear htc;go_wp2
            go_roundw
            case rel =>
             refine ⟨b, T, k + 1, by omega, rfl, by go_num, ⟨⟨HP.out.ui, HP.out.few, HP.out.yes, fun h => ?_⟩⟩, ⟨HS.out.on (below_alloc (Below.refl _ _) _)⟩⟩;obtain ⟨h1, h2, h3⟩ := HP.out.no h;refine ⟨h1, h2, fun t ht => ?_⟩;rcases Nat.lt_succ_iff_lt_or_eq.1 ht with q | rfl
             ·exact h3 t q
             ·rw [← HEe.out.1, ← h1, HCm.out]; exact fun h => by rw [HTc.out] at h; exact absurd h.2.2 (by decide)
            case measure => simp [intOf]; omega
           | false =>
            simp only [htc] at t2;have HTc := Aside0.mk htc;have f2 := fun o => (((HS.out.on (below_alloc (Below.refl wr.heap.size wr) o)).cell hcN)).2
            clear htc;go_wp2
            go_roundw
            case rel =>
             have hp := HP.out.ui.put hlt HEe.out.2.1 HEe.out.2.2 (HCm.out.2 ⟨a1.out, HTa.out, HTc.out⟩);rw [← HIc.out] at hp;have hfew := HP.out.few;exact ⟨true, T.set ic true, k + 1, by omega, rfl, by go_num, ⟨⟨hp.1, by omega, fun _ => by omega, fun h => by cases h⟩⟩, ⟨(HS.out.on (below_alloc (Below.refl _ _) _)).set ic⟩⟩
            case measure => simp [intOf]; omega
         ·have a6 := decide_eq_false ho;have a7 : (e.f1 == old) = false := by simpa using ho
          have a1 := Aside0.mk ho;clear ho;go_wp2
          go_roundw
          case rel =>
           refine ⟨b, T, k + 1, by omega, rfl, by go_num, ⟨⟨HP.out.ui, HP.out.few, HP.out.yes, fun h => ?_⟩⟩, ⟨HS.out.on (below_alloc (Below.refl _ _) _)⟩⟩;obtain ⟨h1, h2, h3⟩ := HP.out.no h;refine ⟨h1, h2, fun t ht => ?_⟩;rcases Nat.lt_succ_iff_lt_or_eq.1 ht with q | rfl
           ·exact h3 t q
           ·rw [← HEe.out.1, ← h1, HCm.out]; exact fun h => a1.out h.1
          case measure => simp [intOf]; omega
        ·go_wp2
         go_roundw
         case rel =>
          refine ⟨b, T, i + 1, by omega, rfl, by go_num, ⟨⟨HP.out.ui, HP.out.few, HP.out.yes, fun h => ?_⟩⟩, HS⟩;obtain ⟨h1, h2, h3⟩ := HP.out.no h;refine ⟨h1, fun a ha e he => ?_, fun t ht => by omega⟩;rcases Nat.lt_succ_iff_lt_or_eq.1 ha with q | rfl
          ·exact h2 a q e he
          ·obtain ⟨t, ht, rfl⟩ := List.getElem_of_mem he;have := h3 t (by omega);rw [List.getD_eq_getElem?_getD, List.getElem?_eq_getElem ht, Option.getD_some] at this;exact this
         case measure => simp [intOf]; omega
      ·go_wp2
       have hq := HQ.out
       have hpot : unmet T + (if b then 1 else 0) < unmet T0 + 1 := by
        cases b with
        | true => have := HP.out.yes rfl; simp; omega
        | false => have := HP.out.few; simp; omega
       have a8 : unmet T + (if b then 1 else 0) < gk := by simp only [if_true] at hq; omega
       go_roundg (unmet T + (if b then 1 else 0))
       case measure => exact a8
       case rel => exact ⟨b, T, rfl, ⟨HP.out.ui⟩, ⟨fun h a ha e he => by obtain ⟨h1, h2, _⟩ := HP.out.no h; rw [h1]; exact h2 a (by omega) e he⟩, ⟨Nat.le_refl _⟩, HS⟩
def refG (n : Nat) (ls : List ByteArray) (U : List ByteArray) (old : Int) (T : List Bool) (i k : Nat) (e : Ed) : List Ed := if e.f1 ≠ old ∧ at2 n T i e.f0.toNat = true ∧ at2 n T e.f2.toNat k = true then [⟨(i : Int), plc U (ls.getD e.f1.toNat ByteArray.empty), (k : Int)⟩] else []
def refI (n : Nat) (ls : List ByteArray) (es : List Ed) (U : List ByteArray) (old fre : Int) (T : List Bool) (i k : Nat) : List Ed := (if at2 n T i k = true then [⟨(i : Int), fre, (k : Int)⟩] else []) ++ es.flatMap (refG n ls U old T i k)
theorem flat_lenW {α β : Type} (f : α → List β) (c : Nat) (h : ∀ a, (f a).length ≤ c) : ∀ l : List α, (l.flatMap f).length ≤ l.length * c
 | [] => by simp
 | a :: r => by
  have h1 := h a
  have h2 := flat_lenW f c h r
  rw [List.flatMap_cons, List.length_append, List.length_cons, Nat.succ_mul]
  omega
theorem refG_len (n : Nat) (ls : List ByteArray) (U : List ByteArray) (old : Int) (T : List Bool) (i k : Nat) (e : Ed) : (refG n ls U old T i k e).length ≤ 1 := by unfold refG; split <;> simp
theorem refI_len (n : Nat) (ls : List ByteArray) (es : List Ed) (U : List ByteArray) (old fre : Int) (T : List Bool) (i k : Nat) : (refI n ls es U old fre T i k).length ≤ 1 + es.length := by
 unfold refI
 rw [List.length_append]
 have := flat_lenW (refG n ls U old T i k) 1 (refG_len n ls U old T i k) es
 rw [Nat.mul_one] at this
 by_cases q : at2 n T i k = true
 ·rw [if_pos q, List.length_singleton]; omega
 ·rw [if_neg q, List.length_nil]; omega
def refX (n : Nat) (ls : List ByteArray) (es : List Ed) (U : List ByteArray) (old fre : Int) (T : List Bool) (k : Nat) : List Ed := (List.range k).flatMap fun i => (List.range n).flatMap (refI n ls es U old fre T i)
theorem refX_eq {n : Nat} {ls : List ByteArray} {es : List Ed} {u : ByteArray} {T : List Bool} (hm : mayR n ls es = true) (hG : GoodU n es (plc ls u) T) : sortE (refX n ls es (uniS (ls ++ [u])) (plc ls u) (plc (uniS (ls ++ [u])) u) T n) = sortE (weakE n ls es u) := by
 have hes : ∀ e ∈ es, (0 ≤ e.f0 ∧ e.f0 < (n : Int)) ∧ (0 ≤ e.f2 ∧ e.f2 < (n : Int)) := fun e he => by have := may_edge hm e he; exact ⟨this.1, this.2.1⟩
 unfold refX;refine strict_unique _ _ (sortE_sorted _) (sortE_sorted _) fun e => ?_
 rw [sortE_mem, sortE_mem];unfold weakE;simp only [List.mem_flatMap, List.mem_range];constructor
 ·rintro ⟨i, hi, k, hk, h⟩;have hi : i < n := by omega
  have hk : k < n := by omega
  refine ⟨i, hi, ?_⟩;unfold weakI;rw [List.mem_append];unfold refI at h;rw [List.mem_append] at h;rcases h with h | h
  ·split at h
   ·rename_i h1;rw [List.mem_singleton] at h;left
    rw [rowsU_at es _ hi];exact List.mem_map.2 ⟨(k : Int), (hG.iff i k hi hk).1 h1, h.symm⟩
   ·cases h
  ·obtain ⟨x, hx, h⟩ := List.mem_flatMap.1 h;unfold refG at h;split at h
   ·rename_i h1;rw [List.mem_singleton] at h;have hb := hes x hx;right
    refine List.mem_map.2 ⟨(x.f1, (k : Int)), farK_mem.2 ⟨x.f0, ?_, x, hx, rfl, h1.1, rfl, ?_⟩, h.symm⟩
    ·rw [rowsU_at es _ hi];have := (hG.iff i x.f0.toNat hi (by omega)).1 h1.2.1;rwa [Int.toNat_of_nonneg hb.1.1] at this
    ·rw [rowsU_at es _ (show x.f2.toNat < n by omega)];exact (hG.iff x.f2.toNat k (by omega) hk).1 h1.2.2
   ·cases h
 ·rintro ⟨i, hi, h⟩;unfold weakI at h;rw [List.mem_append] at h
  have nod : ∀ a : Nat, a < n → ∀ x, x ∈ reachL n (esU es (plc ls u)) (a : Int) → 0 ≤ x ∧ x < (n : Int) := fun a ha x hx => by
   unfold reachL at hx;have h := placesT_memW.1 hx;have hl : (reachT n (esU es (plc ls u)) (a : Int)).length = n := (reach_tells (n := n) (es := esU es (plc ls u)) (v := (a : Int)) (fun e he => by have := hes e (esU_mem.1 he).1; omega) (by omega) (by omega)).len;rw [hl] at h;exact ⟨h.1, h.2.1⟩
  rcases h with h | h
  ·obtain ⟨t, ht, rfl⟩ := List.mem_map.1 h;rw [rowsU_at es _ hi] at ht;have hn2 := nod i hi t ht;obtain ⟨k, rfl⟩ := Int.eq_ofNat_of_zero_le hn2.1;have hk : k < n := by omega
   refine ⟨i, by omega, k, by omega, ?_⟩;unfold refI;rw [List.mem_append, if_pos ((hG.iff i k hi hk).2 ht)];exact .inl (List.mem_singleton.2 rfl)
  ·obtain ⟨a, ha, rfl⟩ := List.mem_map.1 h;obtain ⟨m, hmm, x, hx, h0, h1, h2, h3⟩ := farK_mem.1 ha;have hb := hes x hx;rw [rowsU_at es _ hi] at hmm;rw [rowsU_at es _ (show x.f2.toNat < n by omega)] at h3;have hn2 := nod x.f2.toNat (by omega) _ h3;obtain ⟨k, hk2⟩ := Int.eq_ofNat_of_zero_le hn2.1;have hk : k < n := by omega
   refine ⟨i, by omega, k, by omega, ?_⟩;unfold refI;rw [List.mem_append];right
   refine List.mem_flatMap.2 ⟨x, hx, ?_⟩;unfold refG;rw [if_pos ⟨h1, (hG.iff i x.f0.toNat hi (by omega)).2 (by rw [Int.toNat_of_nonneg hb.1.1, h0]; exact hmm), (hG.iff x.f2.toNat k (by omega) hk).2 (by rw [hk2] at h3; exact h3)⟩, List.mem_singleton, ← h2, hk2]
theorem range_snoc {β : Type} (f : Nat → List β) (k : Nat) : (List.range (k + 1)).flatMap f = (List.range k).flatMap f ++ f k := by
 rw [List.range_succ, List.flatMap_append, List.flatMap_cons, List.flatMap_nil, List.append_nil]
theorem take_snocF {β : Type} (f : Ed → List β) {es : List Ed} {j : Nat} (h : j < es.length) : (es.take (j + 1)).flatMap f = (es.take j).flatMap f ++ f (es.getD j z80) := by
 rw [take_snocE h, List.flatMap_append, List.flatMap_cons, List.flatMap_nil, List.append_nil]
theorem refR_len (n : Nat) (ls : List ByteArray) (es : List Ed) (U : List ByteArray) (old fre : Int) (T : List Bool) (i k : Nat) (hel : es.length ≤ 60) : ((List.range k).flatMap (refI n ls es U old fre T i)).length ≤ k * 61 := by
 have h := flat_lenW (refI n ls es U old fre T i) 61 (fun k => by have := refI_len n ls es U old fre T i k; omega) (List.range k)
 rw [List.length_range] at h
 exact h
theorem refX_len (n : Nat) (ls : List ByteArray) (es : List Ed) (U : List ByteArray) (old fre : Int) (T : List Bool) (k : Nat) (hn : n ≤ 16) (hel : es.length ≤ 60) : (refX n ls es U old fre T k).length ≤ k * 1000 := by
 have h := flat_lenW (fun i => (List.range n).flatMap (refI n ls es U old fre T i)) 1000 (fun i => by have := refR_len n ls es U old fre T i n hel; omega) (List.range k)
 rw [List.length_range] at h
 exact h
theorem refX_zero (n : Nat) (ls : List ByteArray) (es : List Ed) (U : List ByteArray) (old fre : Int) (T : List Bool) : refX n ls es U old fre T 0 = [] := by simp [refX]
theorem refX_succ (n : Nat) (ls : List ByteArray) (es : List Ed) (U : List ByteArray) (old fre : Int) (T : List Bool) (k : Nat) : refX n ls es U old fre T (k + 1) = refX n ls es U old fre T k ++ (List.range n).flatMap (refI n ls es U old fre T k) := range_snoc _ k
theorem T_later {W V wr : World} {g N cT : Nat} {T : List Bool} (h : Kd.R Kd.bool 4 W V.heap.size (fun _ => True) (.slice (some ⟨g, 0, none⟩) N cT) T) (hk : ∀ k, V.heap.size ≤ k → k < W.heap.size → wr.heap[k]? = W.heap[k]?) {j : Nat} (hj : j < N) : wr.cell? ⟨g, j, none⟩ = some (.bool (T.getD j false)) := by
 have hp := Kd.R_celln false (Kd.R_move (w1 := wr) (Kd.R_bound h) fun k hk' => hk k hk'.2.1 hk'.2.2.1) (j : Int) (by omega) (by omega)
 rw [Int.toNat_natCast] at hp
 exact hp.1
set_option maxHeartbeats 16000000 in
set_option maxRecDepth 100000 in
theorem of57_any (n : Nat) (ls : List ByteArray) (es : List Ed) (u : ByteArray) (A1 A2 : Option Addr) (c1 c2 : Nat) (w : World) (hr1 : Kd.C Kd.string w A1 ls.length ls) (hc1 : ls.length ≤ c1) (hr2 : Kd.C k80 w A2 es.length es) (hm : mayR n ls es = true) (hn16 : n ≤ 16) (hel : es.length ≤ 60) :
    Calls Try.prog 61 #[.agg #[.int .i64 n, .slice A1 ls.length c1, .slice A2 es.length c2], .string u] w fun e w' => ∃ v1_ v2_ : Value, e = .returned (.agg #[.int .i64 n, v1_, v2_]) ∧ Kd.R Kd.string 9 w' w.heap.size (fun _ => True) v1_ (uniS (ls ++ [u])) ∧ Kd.R k80 80 w' w.heap.size (fun _ => True) v2_ (sortE (weakE n ls es u)) ∧ Below w.heap.size w w' := by
  have HB := Aside0.mk (Below.refl w.heap.size w);have a7 := Aside0.mk hr1;have b8 := Aside0.mk hr2;have HM := Aside0.mk hm;have HES := Aside0.mk (fun e he => may_edge hm e he);have hn := lt_n hm;have hll := (may_lab hm).1;have hN : n * n ≤ 16 * 16 := Nat.mul_le_mul hn16 hn16;obtain ⟨N, hNe⟩ : ∃ N, N = n * n := ⟨_, rfl⟩
  have e6 : N ≤ 256 := by omega
  have HNe := Aside0.mk hNe;clear hr1 hr2 hm hN hNe;obtain ⟨U, hU⟩ : ∃ U, U = uniS (ls ++ [u]) := ⟨_, rfl⟩
  have hUl : U.length ≤ 1000000 := by
    rw [hU];refine Nat.le_trans (uniS_len _) ?_;rw [List.length_append, List.length_singleton];omega
  have HUe := Aside0.mk hU;obtain ⟨ku, hku⟩ := (runion_ev ls [u] (by omega) (by simp)).rounds;rw [← hU] at hku;have HKu := Aside0.mk hku;obtain ⟨old, hold⟩ : ∃ old, old = plc ls u := ⟨_, rfl⟩
  obtain ⟨fre, hfre⟩ : ∃ fre, fre = plc U u := ⟨_, rfl⟩
  obtain ⟨kp, hkp⟩ := (rplace_ev ls u (by omega)).rounds;obtain ⟨kq, hkq⟩ := (rplace_ev U u hUl).rounds;rw [← hold] at hkp;rw [← hfre] at hkq;have HKp := Aside0.mk hkp;have HKq := Aside0.mk hkq;have HOl := Aside0.mk hold;have HFr := Aside0.mk hfre;rw [← hU];clear hU hku hkp hkq hold hfre;go_enter Try.func61, Try.ntmps61
  go_wp2_with fail
  refine (Pr02b.calls ku A1 c1 ls (some ⟨w.heap.size + 1 + 1, 0, none⟩) 1 [u] U _ (Kd.C_below a7.out (below_alloc (below_alloc (below_alloc HB.out _) _) _)) hc1 (OneW.read (by have := blk_new ((w.alloc (.cells #[.int .i64 n, .slice A1 ls.length c1, .slice A2 es.length c2] 25)).alloc (.cells #[.int .i64 0, .slice none 0 0, .slice none 0 0] 25)) (Obj.cells #[.string u] 9); simpa [OneW] using this)) (Nat.le_refl 1) HKu.out).mono ?_;rintro e w3 ⟨v3, rfl, hR, a3⟩;obtain ⟨Au, cu, e3⟩ := Kd.R_slice hR;subst e3;have d0 := Aside0.mk (show BoxL w3 w.heap.size n (.slice A1 ls.length c1) (.slice A2 es.length c2) from blk_below (blk_alloc (blk_alloc (blk_new w _) _) _) a3);have d1 := Aside0.mk (show w3.heap[w.heap.size + 1]? = some (.cells #[.int .i64 0, .slice none 0 0, .slice none 0 0] 25 (0, 0)) from blk_below (blk_alloc (by have := blk_new (w.alloc (.cells #[.int .i64 n, .slice A1 ls.length c1, .slice A2 es.length c2] 25)) (.cells #[.int .i64 0, .slice none 0 0, .slice none 0 0] 25); simpa using this) _) a3);have hbb := below_alloc (below_alloc (below_alloc HB.out (.cells #[.int .i64 n, .slice A1 ls.length c1, .slice A2 es.length c2] 25)) (.cells #[.int .i64 0, .slice none 0 0, .slice none 0 0] 25)) (Obj.cells #[.string u] 9);have b9 := Aside0.mk (Kd.R_lower hR hbb.size : Kd.R Kd.string 9 w3 w.heap.size (fun _ => True) (.slice Au U.length cu) U);have b7 := Aside0.mk (below_then hbb hbb.size a3);have HS3 := Aside0.mk (show w.heap.size + 1 < w3.heap.size from Nat.lt_of_lt_of_le (by simp) a3.size);clear hR a3 hbb;go_wp2_with fail
  have d2 : OfS w (w3.alloc (Obj.cells #[.int .i64 (n : Int), .slice Au U.length cu, .slice none 0 0] 25)) (w3.alloc (Obj.cells #[.int .i64 (n : Int), .slice Au U.length cu, .slice none 0 0] 25)) (w3.alloc (Obj.cells #[.int .i64 (n : Int), .slice Au U.length cu, .slice none 0 0] 25)) w3.heap.size n (.slice A1 ls.length c1) (.slice A2 es.length c2) (.slice Au U.length cu) (.slice none 0 0) U [] :=
    ⟨blk_alloc d0.out _, blk_alloc d1.out _, blk_new w3 _, Kd.R_below b9.out (below_alloc (Below.refl _ _) _), Kd.R_nil _ _ _ _ _, fun k h1 h2 => rfl, below_alloc b7.out _, ⟨HS3.out, blk_lt (blk_new w3 _), Nat.le_refl _, Nat.le_refl _⟩⟩
  have HS6 := Aside0.mk d2;obtain ⟨B, hB⟩ : ∃ B, B = w3.heap.size := ⟨_, rfl⟩
  rw [← hB] at HS6 ⊢;clear d2 d0 d1 b9 b7 HS3 hB;generalize (w3.alloc (Obj.cells #[Value.int IntKind.i64 (n : Int), Value.slice Au U.length cu, Value.slice none 0 0] 25)) = w6 at HS6 ⊢;refine start_ (n := 10) (S := fun w' => w'.cell? ⟨w.heap.size, 1, none⟩ = some (.slice A1 ls.length c1) ∧ w'.cell? ⟨B, 1, none⟩ = some (.slice Au U.length cu)) (ds := []) (bqz 10 0) (by kernel_rfl) rfl rfl ⟨HS6.out.box.c1, HS6.out.out.c1⟩ (fun hHeld => ?_);have HS7 := Aside0.mk (HS6.out.on (below_drew1 (Below.refl w6.heap.size w6)));generalize w6.drew = V at HS7 hHeld ⊢;refine pqz 0 (some 23) (bqz 10 1) rfl rfl (by kernel_rfl) ?_ ?_ (fun _ _ _ h => h) (by rfl) ?_ ?_ ?_;rotate_left 2;intro w';go_simp;(with_reducible rfl);simp only [Act.put, qz1, qz2, qz3, i64_w, i32_w];rfl
  refine pqz 2 (some 25) (bqz 10 5) rfl rfl (by kernel_rfl) ?_ ?_ (fun _ _ _ h => h) (by rfl) ?_ ?_ ?_;rotate_left 2;intro w';go_simp;(with_reducible rfl);simp only [Act.put, qz1, qz2, qz3, i64_w, i32_w];rfl
  refine pqz 4 (some 27) (bqz 10 21) rfl rfl (by kernel_rfl) ?_ ?_ (fun _ _ _ h => h) (by rfl) ?_ ?_ ?_;rotate_left 2;intro w';go_simp;(with_reducible rfl);simp only [Act.put, qz1, qz2, qz3, i64_w, i32_w];rfl
  refine pqz 6 (some 29) (bqz 10 85) rfl rfl (by kernel_rfl) ?_ ?_ (fun _ _ _ h => h) (by rfl) ?_ ?_ ?_;rotate_left 2;intro w';go_simp;(with_reducible rfl);simp only [Act.put, qz1, qz2, qz3, i64_w, i32_w];rfl
  refine tqz 1 (some 24) (bqz 10 87) rfl rfl (by kernel_rfl) ?_ ?_ (fun _ _ _ h => h) (by rfl) ?_ hHeld ?_ ?_;rotate_left 2;rintro w' ⟨s0, s1⟩;go_simp;(with_reducible rfl);simp only [Act.put, qz1, qz2, qz3, i64_w, i32_w];rfl
  refine tqz 5 (some 28) (bqz 10 119) rfl rfl (by kernel_rfl) ?_ ?_ (fun _ _ _ h => h) (by rfl) ?_ hHeld ?_ ?_;rotate_left 2;rintro w' ⟨s0, s1⟩;go_simp;(with_reducible rfl);simp only [Act.put, qz1, qz2, qz3, i64_w, i32_w];rfl
  refine one_ (i := 3) (N := some 26) (bqz 10 127) rfl rfl (by kernel_rfl) (by decide) (fun K hK => ?_);refine goes_ Try.func99 (by kernel_rfl) rfl #[.slice A1 ls.length c1, .string u] (by rfl) rfl rfl (by simp only [List.map_toArray, List.map_cons, List.map_nil]; rfl) ?_;refine (Pr02a.calls kp A1 c1 ls u old _ (Kd.C_below a7.out HS7.out.below) hc1 HKp.out).mono ?_;rintro e w8 ⟨rfl, hD⟩;refine ⟨_, rfl, ?_⟩;have HS8 := Aside0.mk (HS7.out.on hD.below);clear hD;refine hK.out _ _ ⟨HS8.out.box.c1, HS8.out.out.c1⟩ (fun hHeld => ?_);clear hK K;refine norm_ (a' := ?_) ?_ ?_;rotate_left
  · show Act.put _ (some 26) _ = _
    simp only [Act.put, qz1, qz2, qz3, i64_w, i32_w];rfl
  refine one_ (i := 7) (N := some 30) (bqz 10 255) rfl rfl (by kernel_rfl) (by decide) (fun K hK => ?_);refine goes_ Try.func99 (by kernel_rfl) rfl #[.slice Au U.length cu, .string u] (by rfl) rfl rfl (by simp only [List.map_toArray, List.map_cons, List.map_nil]; rfl) ?_;obtain ⟨_, _, hv, hcl, hC⟩ := Kd.R_reads HS8.out.ur;injection hv with hA _ hc
  subst hA hc;refine (Pr02a.calls kq Au cu U u fre _ hC hcl HKq.out).mono ?_;rintro e w9 ⟨rfl, hD⟩;refine ⟨_, rfl, ?_⟩;have HS9 := Aside0.mk (HS8.out.on hD.below);clear hD hC hcl;refine hK.out _ _ ⟨HS9.out.box.c1, HS9.out.out.c1⟩ (fun hHeld => ?_);clear hK K;refine norm_ (a' := ?_) ?_ ?_;rotate_left
  · show Act.put _ (some 30) _ = _
    simp only [Act.put, qz1, qz2, qz3, i64_w, i32_w];rfl
  refine pqz 8 (some 7) (bqz 10 511) rfl rfl (by kernel_rfl) ?_ ?_ (fun _ _ _ h => h) (by rfl) ?_ ?_ ?_;rotate_left 2;intro w';go_simp;(with_reducible rfl);simp only [Act.put, qz1, qz2, qz3, i64_w, i32_w];rfl
  refine pqz 9 (some 8) (bqz 10 1023) rfl rfl (by kernel_rfl) ?_ ?_ (fun _ _ _ h => h) (by rfl) ?_ ?_ ?_;rotate_left 2;intro w';go_simp;(with_reducible rfl);simp only [Act.put, qz1, qz2, qz3, i64_w, i32_w];rfl
  refine done_ (by kernel_rfl) ?_;have b0 := HS9.out.box.c0;have b1 := HS9.out.box.c1;have b2 := HS9.out.box.c2;clear hHeld HS6 HS7 HS8;go_wp2_with fail
  clear b0 b1 b2;refine (unseen_any n ls es old A1 A2 c1 c2 w9 (Kd.C_below b8.out HS9.out.below) HM.out hn16).mono ?_;rintro e wW ⟨v0, T, rfl, hR, hG, hB⟩;obtain ⟨g, cT, d6, _⟩ := Kd.R_form hR (by rw [hG.len]; exact Nat.mul_pos (by omega) (by omega));rw [hG.len, ← HNe.out] at d6;subst d6;have HSW := Aside0.mk (HS9.out.weave hB);have HT := Aside0.mk (fun (wr : World) (hk : ∀ k, w9.heap.size ≤ k → k < wW.heap.size → wr.heap[k]? = wW.heap[k]?) (j : Nat) (hj : j < N) => T_later hR hk hj);have HGd := Aside0.mk hG;clear HS9 hR hG hB;go_wp2
  go_loopw [10] (fun i wr => ∃ (k : Nat) (Xv : Value), k ≤ n ∧ i = .int .i64 k ∧ Aside0 (OfS w wr w9 wW B n (.slice A1 ls.length c1) (.slice A2 es.length c2) (.slice Au U.length cu) Xv U (refX n ls es U old fre T k))) (fun i _ => n - (intOf i).toNat)
  case atStart => exact ⟨0, _, Nat.zero_le _, rfl, ⟨by rw [refX_zero]; exact HSW.out⟩⟩
  case round =>
    clear HSW;obtain ⟨i, Xi, hi, rfl, HS⟩ := hrel;by_cases hlt : i < n
    · have HZl := Aside0.mk (refX_len n ls es U old fre T i hn16 hel)
      have HRl := Aside0.mk (fun k => refR_len n ls es U old fre T i k hel);obtain ⟨Z, hZ⟩ : ∃ Z, Z = refX n ls es U old fre T i := ⟨_, rfl⟩
      rw [← hZ] at HS HZl;have HZe := Aside0.mk hZ;clear hZ;go_wp2
      go_loopw [11] (fun v wr => ∃ (k : Nat) (Xv : Value), k ≤ n ∧ v = .int .i64 k ∧ Aside0 (OfS w wr w9 wW B n (.slice A1 ls.length c1) (.slice A2 es.length c2) (.slice Au U.length cu) Xv U (Z ++ (List.range k).flatMap (refI n ls es U old fre T i)))) (fun v _ => n - (intOf v).toNat)
      case atStart => exact ⟨0, _, Nat.zero_le _, rfl, ⟨by rw [List.range_zero, List.flatMap_nil, List.append_nil]; exact HS.out⟩⟩
      case round =>
        clear HS;obtain ⟨k, Xk, hk, rfl, HS⟩ := hrel;by_cases hlt2 : k < n
        · obtain ⟨Y, hY⟩ : ∃ Y, Y = Z ++ (List.range k).flatMap (refI n ls es U old fre T i) := ⟨_, rfl⟩
          have hYl : Y.length ≤ 20000 := by
            rw [hY, List.length_append];have h1 := HZl.out;have h2 := HRl.out k;omega
          have HYl := Aside0.mk hYl;rw [← hY] at HS;have HYe := Aside0.mk hY;obtain ⟨ia, hia⟩ : ∃ ia, ia = i * n + k := ⟨_, rfl⟩
          have a5 : wrap64 (wrap64 ((i : Int) * (n : Int)) + (k : Int)) = (ia : Int) := by rw [idx_w hn16 hlt hlt2, hia]
          have hiN : ia < N := by rw [hia, HNe.out]; exact idx_lt hlt hlt2
          have t1 := HT.out wr HS.out.kept ia hiN;have i0 : (0 : Int) ≤ (ia : Int) := Int.natCast_nonneg _;have i1 : (ia : Int) < (N : Int) := Int.ofNat_lt.2 hiN;obtain ⟨tb, htb⟩ : ∃ tb, tb = T.getD ia false := ⟨_, rfl⟩
          rw [← htb] at t1;have HAt := Aside0.mk (show at2 n T i k = tb by unfold at2; rw [htb, hia]);clear hia hY htb hYl;go_upto_if 51 with (fail)
          go_cut [] (fun wc => ∃ (Xv : Value), Aside0 (OfS w wc w9 wW B n (.slice A1 ls.length c1) (.slice A2 es.length c2) (.slice Au U.length cu) Xv U (Y ++ (if at2 n T i k = true then [⟨(i : Int), fre, (k : Int)⟩] else []))))
          case first =>
            clear a5 t1 i0 i1
            cases tb with
            | true =>
              have x2 := HS.out.out.c2;have hYl : Y.length ≤ 1000000 := Nat.le_trans HYl.out (by decide)
              go_wp2_with (at_builtin; refine Kd.R_append k80 (w0 := w) w.heap.size rfl (.tmp 53) (.tmp 58) 23 80 (.agg #[(.int .i64 0), (.int .i64 0), (.int .i64 0)]) 24 rfl Try.underlying23 info80 rfl (by decide) (by omega) Xk Y (⟨(i : Int), fre, (k : Int)⟩ : Ed) [.int .i64 (i : Int), .int .i64 fre, .int .i64 (k : Int)] (fun q => wW.heap.size ≤ q) (fun _ => False) rfl rfl (k80_mkM _ _ _ (⟨(i : Int), fre, (k : Int)⟩ : Ed)) (fun _ hk => hk.elim) (fun q hq => Nat.le_trans HS.out.lt.2.2.2 hq) HS.out.xr HS.out.below HS.out.below.size (by omega) ?_
                           intro v9 e7 ho hb hg hat;obtain ⟨A4, c4, b5⟩ := Kd.R_slice ho;subst b5;have hout := blk_grown HS.out.out hg (Kd.R_ne HS.out.xr HS.out.out (by decide));have y2 := (blk_cell hout 2).trans rfl;have f2 := Go.Proofs.YtmcbkmfpmcbdpaaW.PrintWords.blk_frozen hout 2;have HSn := Aside0.mk (HS.out.put ho hb hg);clear ho hb hg hat hout x2)
              go_meet
              case rel =>
                have h := HSn.out;rw [List.length_append, List.length_singleton] at h;exact ⟨_, ⟨by rw [if_pos HAt.out]; exact h⟩⟩
            | false =>
              go_wp2
              go_meet
              case rel => exact ⟨_, ⟨by rw [if_neg (by rw [HAt.out]; decide), List.append_nil]; exact HS.out⟩⟩
          case rest =>
            clear HS t1 a5 i0 i1 hiN HAt;obtain ⟨Xc, HS⟩ := hcut;obtain ⟨Y2, a4⟩ : ∃ Y2, Y2 = Y ++ (if at2 n T i k = true then [⟨(i : Int), fre, (k : Int)⟩] else []) := ⟨_, rfl⟩
            have HY2l := Aside0.mk (show Y2.length ≤ 20001 by
              rw [a4, List.length_append];have := HYl.out;split <;> simp <;> omega)
            rw [← a4] at HS;have e0 := Aside0.mk a4;clear a4;go_wp2
            go_loopw [12] (fun v wr => ∃ (j : Nat) (Xv : Value), j ≤ es.length ∧ v = .int .i64 j ∧ Aside0 (OfS w wr w9 wW B n (.slice A1 ls.length c1) (.slice A2 es.length c2) (.slice Au U.length cu) Xv U (Y2 ++ (es.take j).flatMap (refG n ls U old T i k)))) (fun v _ => es.length - (intOf v).toNat)
            case atStart => exact ⟨0, _, Nat.zero_le _, rfl, ⟨by rw [List.take_zero, List.flatMap_nil, List.append_nil]; exact HS.out⟩⟩
            case round =>
              clear HS;obtain ⟨j, Xj, hj, rfl, HS⟩ := hrel;have x2 := HS.out.box.c2;by_cases hlt3 : j < es.length
              · obtain ⟨ad, hA, g0, g1, g2⟩ := atE b8.out j hlt3
                subst hA;replace g0 := later HS.out.below g0;replace g1 := later HS.out.below g1;replace g2 := later HS.out.below g2;have HG := Aside0.mk (take_snocF (refG n ls U old T i k) hlt3);obtain ⟨e, he⟩ : ∃ e, e = es.getD j z80 := ⟨_, rfl⟩
                have hem : e ∈ es := by rw [he, List.getD_eq_getElem?_getD, List.getElem?_eq_getElem hlt3]; exact List.getElem_mem hlt3
                have hb := HES.out e hem;rw [← he] at g0 g1 g2 HG;obtain ⟨a, ha⟩ : ∃ a : Nat, e.f0 = (a : Int) := ⟨e.f0.toNat, by omega⟩
                obtain ⟨c, hc⟩ : ∃ c : Nat, e.f2 = (c : Int) := ⟨e.f2.toNat, by omega⟩
                obtain ⟨q, hq⟩ : ∃ q : Nat, e.f1 = (q : Int) := ⟨e.f1.toNat, by omega⟩
                have han : a < n := by omega
                have hcn : c < n := by omega
                have hql : q < ls.length := by omega
                rw [ha] at g0;rw [hc] at g2;rw [hq] at g1;obtain ⟨ia, hia⟩ : ∃ ia, ia = i * n + a := ⟨_, rfl⟩
                obtain ⟨ic, hic⟩ : ∃ ic, ic = c * n + k := ⟨_, rfl⟩
                have a5 : wrap64 (wrap64 ((i : Int) * (n : Int)) + (a : Int)) = (ia : Int) := by rw [idx_w hn16 hlt han, hia]
                have e5 : wrap64 (wrap64 ((c : Int) * (n : Int)) + (k : Int)) = (ic : Int) := by rw [idx_w hn16 hcn hlt2, hic]
                have hiN : ia < N := by rw [hia, HNe.out]; exact idx_lt hlt han
                have hcN : ic < N := by rw [hic, HNe.out]; exact idx_lt hcn hlt2
                have t1 := fun o => HT.out (wr.alloc o) (HS.out.on (below_alloc (Below.refl wr.heap.size wr) o)).kept ia hiN
                have t2 := fun o => HT.out (wr.alloc o) (HS.out.on (below_alloc (Below.refl wr.heap.size wr) o)).kept ic hcN
                have i0 : (0 : Int) ≤ (ia : Int) := Int.natCast_nonneg _;have i1 : (ia : Int) < (N : Int) := Int.ofNat_lt.2 hiN;have j0 : (0 : Int) ≤ (ic : Int) := Int.natCast_nonneg _;have j1 : (ic : Int) < (N : Int) := Int.ofNat_lt.2 hcN;obtain ⟨ta, hta⟩ : ∃ ta, ta = T.getD ia false := ⟨_, rfl⟩
                obtain ⟨tc, htc⟩ : ∃ tc, tc = T.getD ic false := ⟨_, rfl⟩
                simp only [← hta] at t1;simp only [← htc] at t2;obtain ⟨nm, hnm⟩ : ∃ nm, nm = ls.getD q ByteArray.empty := ⟨_, rfl⟩
                have HGe := Aside0.mk (show refG n ls U old T i k e = if (q : Int) ≠ old ∧ ta = true ∧ tc = true then [⟨(i : Int), plc U nm, (k : Int)⟩] else [] by unfold refG at2; rw [ha, hc, hq, Int.toNat_natCast, Int.toNat_natCast, Int.toNat_natCast, ← hia, ← hic, ← hta, ← htc, ← hnm]);have HNm := Aside0.mk hnm;clear he hem hb ha hc hq hia hic hta htc hnm;by_cases ho : (q : Int) = old
                · have d3 := decide_eq_true ho
                  have d4 : ((q : Int) == old) = true := by simpa using ho
                  have d5 : ((q : Int) != old) = false := by simpa using ho
                  have a6 := Aside0.mk ho;clear ho;go_wp2
                  go_roundw
                  case rel => exact ⟨j + 1, _, by omega, by go_num, ⟨by rw [HG.out, HGe.out, if_neg (fun h => h.1 a6.out), List.append_nil]; exact HS.out.on (below_alloc (Below.refl _ _) _)⟩⟩
                  case measure => simp [intOf]; omega
                · have d3 := decide_eq_false ho
                  have d4 : ((q : Int) == old) = false := by simpa using ho
                  have d5 : ((q : Int) != old) = true := by simpa using ho
                  have a6 := Aside0.mk ho;clear ho
                  cases ta with
                  | false =>
                    go_wp2
                    go_roundw
                    case rel => exact ⟨j + 1, _, by omega, by go_num, ⟨by rw [HG.out, HGe.out, if_neg (fun h => absurd h.2.1 (by decide)), List.append_nil]; exact HS.out.on (below_alloc (Below.refl _ _) _)⟩⟩
                    case measure => simp [intOf]; omega
                  | true =>
                    cases tc with
                    | false =>
                      go_wp2
                      go_roundw
                      case rel => exact ⟨j + 1, _, by omega, by go_num, ⟨by rw [HG.out, HGe.out, if_neg (fun h => absurd h.2.2 (by decide)), List.append_nil]; exact HS.out.on (below_alloc (Below.refl _ _) _)⟩⟩
                      case measure => simp [intOf]; omega
                    | true =>
                      rw [if_pos ⟨a6.out, rfl, rfl⟩] at HGe;go_wp2_with fail
                      clear a5 e5 t1 t2 i0 i1 j0 j1 d3 d4 d5 x2 g0 g1 g2;obtain ⟨a1, e2, hs⟩ := atS a7.out q hql;subst e2;rw [← HNm.out] at hs;obtain ⟨E, hE⟩ : ∃ E, E = wr.heap.size := ⟨_, rfl⟩
                      rw [← hE];have hEb := blk_new wr (Obj.cells #[Value.int IntKind.i64 (a : Int), Value.int IntKind.i64 (q : Int), Value.int IntKind.i64 (c : Int)] 80);rw [← hE] at hEb;have e1 := (blk_cell hEb 1).trans rfl;have HS14 := Aside0.mk (HS.out.on (below_drew1 (below_alloc (Below.refl wr.heap.size wr) (Obj.cells #[Value.int IntKind.i64 (a : Int), Value.int IntKind.i64 (q : Int), Value.int IntKind.i64 (c : Int)] 80))));have HEne := Aside0.mk (show some E ≠ Xj.ownBlock from fun h => by have h2 := ((Kd.R_bound HS.out.xr).1 E h.symm).2.2.1; rw [hE] at h2; exact absurd h2 (Nat.lt_irrefl _));have hs' := later HS14.out.below hs;have HSs := Aside0.mk hs;obtain ⟨pl, hpl⟩ : ∃ pl, pl = plc U nm := ⟨_, rfl⟩
                      obtain ⟨kz, hkz⟩ := (rplace_ev U nm hUl).rounds;rw [← hpl] at hkz HGe;have HKz := Aside0.mk hkz;obtain ⟨X', hX'⟩ : ∃ X', X' = Y2 ++ (es.take j).flatMap (refG n ls U old T i k) := ⟨_, rfl⟩
                      have hXl : X'.length ≤ 1000000 := by
                        rw [hX', List.length_append];have h1 := HY2l.out;have h2 := flat_lenW (refG n ls U old T i k) 1 (refG_len n ls U old T i k) (es.take j);rw [List.length_take] at h2;omega
                      rw [← hX'] at HS14;have HXe := Aside0.mk hX';have q0 : (0 : Int) ≤ (q : Int) := Int.natCast_nonneg _;have q1 : (q : Int) < (ls.length : Int) := Int.ofNat_lt.2 hql;clear hs hE hpl hkz hX' HS;generalize (wr.alloc (Obj.cells #[Value.int IntKind.i64 (a : Int), Value.int IntKind.i64 (q : Int), Value.int IntKind.i64 (c : Int)] 80)) = W1 at HS14 hs' e1 hEb ⊢;refine start_ (n := 18) (S := fun w' => w'.cell? ⟨B, 2, none⟩ = some Xj ∧ w'.cell? ⟨B, 1, none⟩ = some (.slice Au U.length cu) ∧ w'.cell? ⟨w.heap.size, 1, none⟩ = some (.slice (some a1) ls.length c1) ∧ w'.cell? ⟨E, 1, none⟩ = some (.int .i64 (q : Int)) ∧ w'.cell? (a1.add q) = some (.string nm)) (ds := [17]) (bqz 18 0) (by kernel_rfl) rfl rfl ⟨HS14.out.out.c2, HS14.out.out.c1, HS14.out.box.c1, e1, hs'⟩ (fun hHeld => ?_);have HEb := Aside0.mk (blk_drew hEb);generalize W1.drew = V at HS14 hHeld hs' HEb ⊢; clear e1 hs' hEb
                      refine pqz 0 (some 99) (bqz 18 1) rfl rfl (by kernel_rfl) ?_ ?_ (fun _ _ _ h => h) (by rfl) ?_ ?_ ?_;rotate_left 2;intro w';go_simp;(with_reducible rfl);simp only [Act.put, qz1, qz2, qz3, i64_w, i32_w];rfl
                      refine pqz 2 (some 101) (bqz 18 5) rfl rfl (by kernel_rfl) ?_ ?_ (fun _ _ _ h => h) (by rfl) ?_ ?_ ?_;rotate_left 2;intro w';go_simp;(with_reducible rfl);simp only [Act.put, qz1, qz2, qz3, i64_w, i32_w];rfl
                      refine pqz 3 (some 102) (bqz 18 13) rfl rfl (by kernel_rfl) ?_ ?_ (fun _ _ _ h => h) (by rfl) ?_ ?_ ?_;rotate_left 2;intro w';go_simp;(with_reducible rfl);simp only [Act.put, qz1, qz2, qz3, i64_w, i32_w];rfl
                      refine pqz 5 (some 104) (bqz 18 45) rfl rfl (by kernel_rfl) ?_ ?_ (fun _ _ _ h => h) (by rfl) ?_ ?_ ?_;rotate_left 2;intro w';go_simp;(with_reducible rfl);simp only [Act.put, qz1, qz2, qz3, i64_w, i32_w];rfl
                      refine pqz 7 (some 106) (bqz 18 173) rfl rfl (by kernel_rfl) ?_ ?_ (fun _ _ _ h => h) (by rfl) ?_ ?_ ?_;rotate_left 2;intro w';go_simp;(with_reducible rfl);simp only [Act.put, qz1, qz2, qz3, i64_w, i32_w];rfl
                      refine pqz 12 (some 111) (bqz 18 4269) rfl rfl (by kernel_rfl) ?_ ?_ (fun _ _ _ h => h) (by rfl) ?_ ?_ ?_;rotate_left 2;intro w';go_simp;(with_reducible rfl);simp only [Act.put, qz1, qz2, qz3, i64_w, i32_w];rfl
                      refine tqz 1 (some 100) (bqz 18 4271) rfl rfl (by kernel_rfl) ?_ ?_ (fun _ _ _ h => h) (by rfl) ?_ hHeld ?_ ?_;rotate_left 2;rintro w' ⟨s0, s1, s2, s3, s4⟩;go_simp;(with_reducible rfl);simp only [Act.put, qz1, qz2, qz3, i64_w, i32_w];rfl
                      refine tqz 4 (some 103) (bqz 18 4287) rfl rfl (by kernel_rfl) ?_ ?_ (fun _ _ _ h => h) (by rfl) ?_ hHeld ?_ ?_;rotate_left 2;rintro w' ⟨s0, s1, s2, s3, s4⟩;go_simp;(with_reducible rfl);simp only [Act.put, qz1, qz2, qz3, i64_w, i32_w];rfl
                      refine tqz 6 (some 105) (bqz 18 4351) rfl rfl (by kernel_rfl) ?_ ?_ (fun _ _ _ h => h) (by rfl) ?_ hHeld ?_ ?_;rotate_left 2;rintro w' ⟨s0, s1, s2, s3, s4⟩;go_simp;(with_reducible rfl);simp only [Act.put, qz1, qz2, qz3, i64_w, i32_w];rfl
                      refine tqz 8 (some 107) (bqz 18 4607) rfl rfl (by kernel_rfl) ?_ ?_ (fun _ _ _ h => h) (by rfl) ?_ hHeld ?_ ?_;rotate_left 2;rintro w' ⟨s0, s1, s2, s3, s4⟩;go_simp;(with_reducible rfl);simp only [Act.put, qz1, qz2, qz3, i64_w, i32_w];rfl
                      refine pqz 9 (some 108) (bqz 18 5119) rfl rfl (by kernel_rfl) ?_ ?_ (fun _ _ _ h => h) (by rfl) ?_ ?_ ?_;rotate_left 2;intro w';go_simp;(with_reducible rfl);simp only [Act.put, qz1, qz2, qz3, i64_w, i32_w];rfl
                      refine tqz 10 (some 109) (bqz 18 6143) rfl rfl (by kernel_rfl) ?_ ?_ (fun _ _ _ h => h) (by rfl) ?_ hHeld ?_ ?_;rotate_left 2;rintro w' ⟨s0, s1, s2, s3, s4⟩;go_simp;(with_reducible rfl);simp only [Act.put, qz1, qz2, qz3, i64_w, i32_w];rfl
                      refine one_ (i := 11) (N := some 110) (bqz 18 8191) rfl rfl (by kernel_rfl) (by decide) (fun K hK => ?_);refine goes_ Try.func99 (by kernel_rfl) rfl #[.slice Au U.length cu, .string nm] (by rfl) rfl rfl (by simp only [List.map_toArray, List.map_cons, List.map_nil]; rfl) ?_;obtain ⟨_, _, hv, hcl, hC⟩ := Kd.R_reads HS14.out.ur;injection hv with hA _ hc
                      subst hA hc;refine (Pr02a.calls kz Au cu U nm pl _ hC hcl HKz.out).mono ?_;rintro e e8 ⟨rfl, hD⟩;refine ⟨_, rfl, ?_⟩;have HS15 := Aside0.mk (HS14.out.on hD.below);have a2 := Aside0.mk hD.below;have b6 := Aside0.mk (blk_below HEb.out hD.below);clear hD hC hcl;refine hK.out _ _ ⟨later a2.out hHeld.1, later a2.out hHeld.2.1, later a2.out hHeld.2.2.1, later a2.out hHeld.2.2.2.1, later a2.out hHeld.2.2.2.2⟩ (fun hHeld => ?_);clear hK K;refine norm_ (a' := ?_) ?_ ?_;rotate_left
                      · show Act.put _ (some 110) _ = _
                        simp only [Act.put, qz1, qz2, qz3, i64_w, i32_w];rfl
                      refine pqz 13 (some 112) (bqz 18 16383) rfl rfl (by kernel_rfl) ?_ ?_ (fun _ _ _ h => h) (by rfl) ?_ ?_ ?_;rotate_left 2;intro w';go_simp;(with_reducible rfl);simp only [Act.put, qz1, qz2, qz3, i64_w, i32_w];rfl
                      refine one_ (i := 14) (N := some 113) (bqz 18 32767) rfl rfl (by kernel_rfl) (by decide) (fun K hK => ?_);refine value_ (w1 := ?_) (v := ?_) (by rfl) rfl ?_ ?_;rotate_left 2
                      · go_simp
                        constructor
                        · rfl
                        · rfl
                      refine hK.out _ _ ⟨later (below_alloc (Below.refl _ _) _) hHeld.1, later (below_alloc (Below.refl _ _) _) hHeld.2.1, later (below_alloc (Below.refl _ _) _) hHeld.2.2.1, later (below_alloc (Below.refl _ _) _) hHeld.2.2.2.1, later (below_alloc (Below.refl _ _) _) hHeld.2.2.2.2⟩ (fun hHeld => ?_);clear hK K;refine norm_ (a' := ?_) ?_ ?_;rotate_left
                      · show Act.put _ (some 113) _ = _
                        simp only [Act.put, qz1, qz2, qz3, i64_w, i32_w];rfl
                      refine one_ (i := 15) (N := some 114) (bqz 18 65535) rfl rfl (by kernel_rfl) (by decide) (fun K hK => ?_);have HH := Aside0.mk hHeld;refine Kd.R_append_step k80 (w0 := w) w.heap.size (by rfl) (.tmp 100) (.tmp 113) 23 80 (.agg #[(.int .i64 0), (.int .i64 0), (.int .i64 0)]) 24 rfl Try.underlying23 info80 rfl (by decide) (by omega) Xj X' (⟨(i : Int), pl, (k : Int)⟩ : Ed) [.int .i64 (i : Int), .int .i64 pl, .int .i64 (k : Int)] (fun q => wW.heap.size ≤ q) (fun _ => False) rfl rfl ?aP (fun _ hk => hk.elim) ?aF ?aO ?aB ?aS ?aL ?_
                      (case aP => exact k80_mkM _ _ _ (⟨(i : Int), pl, (k : Int)⟩ : Ed))
                      (case aF => exact fun q hq => Nat.le_trans HS15.out.lt.2.2.2 hq)
                      (case aO => exact HS15.out.xr)
                      (case aB => exact HS15.out.below)
                      (case aS => exact HS15.out.below.size)
                      (case aL => omega)
                      intro v9 e9 ho hb hg hat;obtain ⟨A4, c4, b5⟩ := Kd.R_slice ho;subst b5;have hout := blk_grown HS15.out.out hg (Kd.R_ne HS15.out.xr HS15.out.out (by decide));have hbox := blk_grown HS15.out.box hg (Kd.R_ne HS15.out.xr HS15.out.box (by decide));have hEe := blk_grown b6.out hg HEne.out;have b4 := later hb HSs.out;have z2 := (blk_cell hout 2).trans rfl;have fz := Go.Proofs.YtmcbkmfpmcbdpaaW.PrintWords.blk_frozen hout 2;have HSn := Aside0.mk (HS15.out.put ho hb hg);clear ho hb hg hat;refine hK.out _ _ ⟨z2, (blk_cell hout 1).trans rfl, (blk_cell hbox 1).trans rfl, (blk_cell hEe 1).trans rfl, b4⟩ (fun hHeld => ?_);clear hK K;refine norm_ (a' := ?_) ?_ ?_;rotate_left
                      · show Act.put _ (some 114) _ = _
                        simp only [Act.put, qz1, qz2, qz3, i64_w, i32_w];rfl
                      refine pqz 16 (some 115) (bqz 18 131071) rfl rfl (by kernel_rfl) ?_ ?_ (fun _ _ _ h => h) (by rfl) ?_ ?_ ?_;rotate_left 2;intro w';go_simp;(with_reducible rfl);simp only [Act.put, qz1, qz2, qz3, i64_w, i32_w];rfl
                      refine last_ (i := 17) (N := none) (bqz 18 262143) rfl rfl (by kernel_rfl) (by decide) (fun K hK => ?_);refine skip_ (w1 := ?_) (by rfl) rfl ?_ ?_;rotate_left
                      · go_simp
                        rfl
                      refine hK.out _ _ ?_;clear hK K;refine done_ (by kernel_rfl) ?_;clear hHeld z2 fz b4 hEe hbox;go_wp2
                      go_roundw
                      case rel =>
                        have h := HSn.out;rw [List.length_append, List.length_singleton] at h;exact ⟨j + 1, _, by omega, by go_num, ⟨by rw [HG.out, HGe.out, ← List.append_assoc, ← HXe.out]; exact h⟩⟩
                      case measure => simp [intOf]; omega
              · rw [List.take_of_length_le (by omega)] at HS
                go_wp2
                go_roundw
                case rel => exact ⟨k + 1, _, by omega, by go_num, ⟨by rw [range_snoc, ← List.append_assoc, ← HYe.out, refI, ← List.append_assoc, ← e0.out]; exact HS.out⟩⟩
                case measure => simp [intOf]; omega
        · have ek : k = n := by omega
          rw [ek, HZe.out, ← refX_succ] at HS;go_wp2
          go_roundw
          case rel => exact ⟨i + 1, _, by omega, by go_num, HS⟩
          case measure => simp [intOf]; omega
    · have ei : i = n := by omega
      rw [ei] at HS;obtain ⟨Ax, cx, hv, hclx, hCx⟩ := Kd.R_reads HS.out.xr;subst hv;have x0 := HS.out.out.c0;have x1 := HS.out.out.c1;have x2 := HS.out.out.c2;have hXl := refX_len n ls es U old fre T n hn16 hel;have HCx := Aside0.mk hCx;clear hCx hclx;go_wp2_with fail
      clear x0 x1 x2;refine (rsort_any n Au U.length cu (refX n ls es U old fre T n) Ax cx wr HCx.out (by omega)).mono ?_;rintro e f3 ⟨v2, rfl, a8, hB⟩;obtain ⟨A9, c9, e4⟩ := Kd.R_slice a8;subst e4;have a0 := Aside0.mk (blk_below HS.out.res hB);have d7 := Aside0.mk (below_then HS.out.below HS.out.below.size hB);have d8 := Aside0.mk (Kd.R_below HS.out.ur hB);have d9 := Aside0.mk (Kd.R_lower a8 HS.out.below.size);have hse := refX_eq (u := u) HM.out (T := T) (by rw [← HOl.out]; exact HGd.out);rw [← HOl.out, ← HUe.out, ← HFr.out] at hse;have HSE := Aside0.mk hse;have y0 := bcz a0 0 rfl;have y1 := bcz a0 1 rfl;have y2 := bcz a0 2 rfl;have g0 := Go.Proofs.YtmcbkmfpmcbdpaaW.PrintWords.blk_frozen a0.out 0;have g1 := Go.Proofs.YtmcbkmfpmcbdpaaW.PrintWords.blk_frozen a0.out 1;have g2 := Go.Proofs.YtmcbkmfpmcbdpaaW.PrintWords.blk_frozen a0.out 2;clear hB a8 hse;go_wp2
      have a9 := blk_put a0.out 0 (.int .i64 (n : Int)) rfl;have b3 := blk_put a9 1 (.slice Au U.length cu) rfl;have hYa := blk_put b3 2 (.slice A9 (sortE (refX n ls es U old fre T n)).length c9) rfl;refine bodyPost_ret (results_cell_row rfl _ _ (w.heap.size + 1) 25 #[.int .i64 (n : Int), .slice Au U.length cu, .slice A9 (sortE (refX n ls es U old fre T n)).length c9] (0, 0) _ rfl hYa Try.underlying25 rfl (by kernel_rfl)) rfl ?_;rw [← HSE.out];exact ⟨_, _, rfl, Kd.R_set (Kd.R_set (Kd.R_set d8.out a0.out (by decide) 0 _) a9 (by decide) 1 _) b3 (by decide) 2 _, Kd.R_set (Kd.R_set (Kd.R_set d9.out a0.out (by decide) 0 _) a9 (by decide) 1 _) b3 (by decide) 2 _, below_set (below_set (below_set d7.out (by omega)) (by omega)) (by omega)⟩
def light26 (n : Int) (ls : List ByteArray) (es : List Ed) : Bool :=
 (ls.take 70).all (fun s => decide (s.size ≤ 300)) && (decide (ls.length < 70) && (decide (es.length ≤ 200) && (decide (n ≤ 60) || decide (2048 < n))))
theorem take_getD {α : Type} (d : α) {xs : List α} {k m : Nat} (hk : k < m) : (xs.take m).getD k d = xs.getD k d := by
 simp [List.getD_eq_getElem?_getD, List.getElem?_take, hk]
set_option maxRecDepth 100000 in
theorem light26_any (n : Int) (ls : List ByteArray) (es : List Ed) (A1 A2 : Option Addr) (c1 c2 : Nat) (w : World) (hr1 : Kd.C Kd.string w A1 ls.length ls) (hl2 : es.length ≤ 9223372036854775807) :
  Calls Try.prog 66 #[.agg #[.int .i64 n, .slice A1 ls.length c1, .slice A2 es.length c2]] w fun e w' => e = .returned (.bool (light26 n ls es)) ∧ Below w.heap.size w w' := by
 have a5 := C_len hr1;have a3 := Aside0.mk hr1;clear hr1;have a2 := Aside0.mk (Below.refl w.heap.size w);go_enter Try.func66, Try.ntmps66
 go_wp2
 go_loopw [3] (fun i wr => ∃ k : Nat, k ≤ ls.length ∧ k ≤ 70 ∧ i = .int .i64 k ∧ Aside0 (∀ j, j < k → decide ((ls.getD j ByteArray.empty).size ≤ 300) = true) ∧ Aside0 (BoxL wr w.heap.size n (.slice A1 ls.length c1) (.slice A2 es.length c2)) ∧ Aside0 (Below w.heap.size w wr)) (fun i _ => ls.length - (intOf i).toNat)
 case atStart => exact ⟨0, Nat.zero_le _, by omega, rfl, ⟨fun j hj => by omega⟩, ⟨blk_new w _⟩, ⟨below_alloc a2.out _⟩⟩
 case round =>
  obtain ⟨k, hk, a4, rfl, hz, HXr, HBr⟩ := hrel;have b1 := HXr.out.c1;by_cases hlt : k < ls.length ∧ k < 70
  ·obtain ⟨a0, a1⟩ := hlt;obtain ⟨ad, hA, g0⟩ := atS a3.out k a0;subst hA;replace g0 := later HBr.out g0;obtain ⟨s, hs⟩ : ∃ s, s = ls.getD k ByteArray.empty := ⟨_, rfl⟩
   rw [← hs] at g0;have hs' := Aside0.mk hs; clear hs
   by_cases hL : (300 : Int) < (s.size : Int)
   ·have HBad := Aside0.mk (show light26 n ls es = false by
     unfold light26;rw [all_no ByteArray.empty (k := k) (by rw [List.length_take]; omega) (by rw [take_getD _ a1, ← hs'.out]; exact decide_eq_false (by omega))];rfl)
    go_wp2
    go_ret
    exact ⟨ret_bool HBad.out.symm, HBr.out⟩
   ·have HOk := Aside0.mk (show decide (s.size ≤ 300) = true from decide_eq_true (by omega));go_wp2
    go_roundw
    case rel => exact ⟨k + 1, by omega, by omega, by go_num, ⟨fun j hj => by
     rcases Nat.lt_succ_iff_lt_or_eq.1 hj with h | rfl
     ·exact hz.out j h
     ·rw [← hs'.out]; exact HOk.out⟩, HXr, HBr⟩
    case measure => simp [intOf]; omega
  ·have HAll := Aside0.mk (show (ls.take 70).all (fun s => decide (s.size ≤ 300)) = true from
    all_yes ByteArray.empty (k := k) (by rw [List.length_take]; omega) (fun j hj => by rw [take_getD _ (by omega)]; exact hz.out j hj))
   have b0 := HXr.out.c0;have b2 := HXr.out.c2;have e0 : light26 n ls es = (decide (ls.length < 70) && (decide (es.length ≤ 200) && (decide (n ≤ 60) || decide (2048 < n)))) := by unfold light26; rw [HAll.out, Bool.true_and]
   have E0 := Aside0.mk e0;clear e0;by_cases q0 : (k : Int) < (ls.length : Int)
   ·have q1 : ¬ (k : Int) < 70 := by omega
    have q2 : ¬ (ls.length : Int) < 70 := by omega
    have HF := Aside0.mk (show (decide (ls.length < 70) && (decide (es.length ≤ 200) && (decide (n ≤ 60) || decide (2048 < n)))) = false by rw [decide_eq_false (by omega)]; rfl);go_wp2
    go_ret
    exact ⟨ret_bool (E0.out.trans HF.out).symm, HBr.out⟩
   ·by_cases q2 : (ls.length : Int) < 70
    ·by_cases q3 : (es.length : Int) ≤ 200
     ·by_cases q4 : n ≤ 60
      ·have HF := Aside0.mk (show (decide (ls.length < 70) && (decide (es.length ≤ 200) && (decide (n ≤ 60) || decide (2048 < n)))) = true by rw [decide_eq_true (by omega), decide_eq_true (by omega), decide_eq_true q4]; rfl);go_wp2
       go_ret
       exact ⟨ret_bool (E0.out.trans HF.out).symm, HBr.out⟩
      ·have HF := Aside0.mk (show (decide (ls.length < 70) && (decide (es.length ≤ 200) && (decide (n ≤ 60) || decide (2048 < n)))) = decide (2048 < n) by rw [decide_eq_true (by omega), decide_eq_true (by omega), decide_eq_false q4]; rfl);go_wp2
       go_ret
       exact ⟨ret_bool (E0.out.trans HF.out).symm, HBr.out⟩
     ·have HF := Aside0.mk (show (decide (ls.length < 70) && (decide (es.length ≤ 200) && (decide (n ≤ 60) || decide (2048 < n)))) = false by rw [decide_eq_true (by omega), decide_eq_false (by omega)]; rfl);go_wp2
      go_ret
      exact ⟨ret_bool (E0.out.trans HF.out).symm, HBr.out⟩
    ·have HF := Aside0.mk (show (decide (ls.length < 70) && (decide (es.length ≤ 200) && (decide (n ≤ 60) || decide (2048 < n)))) = false by rw [decide_eq_false (by omega)]; rfl);go_wp2
     go_ret
     exact ⟨ret_bool (E0.out.trans HF.out).symm, HBr.out⟩
def light33 (n : Int) (ls : List ByteArray) (es : List Ed) : Bool :=
 light26 n ls es && ((decide (n ≤ 16) || decide (2048 < n)) && (decide (es.length ≤ 60) && decide (ls.length ≤ 8)))
theorem light33_any (n : Int) (ls : List ByteArray) (es : List Ed) (A1 A2 : Option Addr) (c1 c2 : Nat) (w : World) (hr1 : Kd.C Kd.string w A1 ls.length ls) (hl2 : es.length ≤ 9223372036854775807) :
  Calls Try.prog 15 #[.agg #[.int .i64 n, .slice A1 ls.length c1, .slice A2 es.length c2]] w fun e w' => e = .returned (.bool (light33 n ls es)) ∧ Below w.heap.size w w' := by
 have HC : ∀ W, Below w.heap.size w W → Calls Try.prog 66 #[.agg #[.int .i64 n, .slice A1 ls.length c1, .slice A2 es.length c2]] W fun e w' => e = .returned (.bool (light26 n ls es)) ∧ Below W.heap.size W w' := fun W hW =>
  light26_any n ls es A1 A2 c1 c2 W (Kd.C_below hr1 hW) hl2
 have HC' := Lib.hid HC;clear HC;have a2 := C_len hr1;clear hr1;have a0 := Aside0.mk (Below.refl w.heap.size w);obtain ⟨r, hr⟩ : ∃ r, r = light33 n ls es := ⟨_, rfl⟩
 rw [← hr];unfold light33 at hr
 cases q : light26 n ls es with
 | false =>
  rw [q] at hr HC';have HR := Aside0.mk hr;clear q hr;go_enter Try.func15, Try.ntmps15
  go_wp2_with fail
  refine (HC'.out _ (below_alloc a0.out _)).mono ?_;rintro e w1 ⟨rfl, hB⟩;have a1 := Aside0.mk (below_then (below_alloc a0.out _) (by simp) hB);clear hB;go_wp2
  go_ret
  exact ⟨ret_bool HR.out.symm, a1.out⟩
 | true =>
  rw [q, Bool.true_and] at hr;rw [q] at HC';clear q;by_cases q0 : n ≤ 16
  ·by_cases q1 : (es.length : Int) ≤ 60
   ·have HR := Aside0.mk (show decide (ls.length ≤ 8) = r by rw [hr, decide_eq_true q0, decide_eq_true (show es.length ≤ 60 by omega)]; rfl);clear hr;go_enter Try.func15, Try.ntmps15
    go_wp2_with fail
    refine (HC'.out _ (below_alloc a0.out _)).mono ?_;rintro e w1 ⟨rfl, hB⟩;have a1 := Aside0.mk (below_then (below_alloc a0.out _) (by simp) hB);have hX : BoxL w1 w.heap.size n (.slice A1 ls.length c1) (.slice A2 es.length c2) := blk_below (blk_new w _) hB;have b0 := hX.c0;have b1 := hX.c1;have b2 := hX.c2;clear hB hX;go_wp2
    go_ret
    exact ⟨ret_bool (by rw [← HR.out]; apply decide_eq_decide.2; omega), a1.out⟩
   ·have HR := Aside0.mk (show r = false by rw [hr, decide_eq_false (show ¬ es.length ≤ 60 by omega)]; simp);clear hr;go_enter Try.func15, Try.ntmps15
    go_wp2_with fail
    refine (HC'.out _ (below_alloc a0.out _)).mono ?_;rintro e w1 ⟨rfl, hB⟩;have a1 := Aside0.mk (below_then (below_alloc a0.out _) (by simp) hB);have hX : BoxL w1 w.heap.size n (.slice A1 ls.length c1) (.slice A2 es.length c2) := blk_below (blk_new w _) hB;have b0 := hX.c0;have b1 := hX.c1;have b2 := hX.c2;clear hB hX;go_wp2
    go_ret
    exact ⟨ret_bool HR.out.symm, a1.out⟩
  ·by_cases q2 : 2048 < n
   ·by_cases q1 : (es.length : Int) ≤ 60
    ·have HR := Aside0.mk (show decide (ls.length ≤ 8) = r by rw [hr, decide_eq_false q0, decide_eq_true q2, decide_eq_true (show es.length ≤ 60 by omega)]; rfl);clear hr;go_enter Try.func15, Try.ntmps15
     go_wp2_with fail
     refine (HC'.out _ (below_alloc a0.out _)).mono ?_;rintro e w1 ⟨rfl, hB⟩;have a1 := Aside0.mk (below_then (below_alloc a0.out _) (by simp) hB);have hX : BoxL w1 w.heap.size n (.slice A1 ls.length c1) (.slice A2 es.length c2) := blk_below (blk_new w _) hB;have b0 := hX.c0;have b1 := hX.c1;have b2 := hX.c2;clear hB hX;go_wp2
     go_ret
     exact ⟨ret_bool (by rw [← HR.out]; apply decide_eq_decide.2; omega), a1.out⟩
    ·have HR := Aside0.mk (show r = false by rw [hr, decide_eq_false (show ¬ es.length ≤ 60 by omega)]; simp);clear hr;go_enter Try.func15, Try.ntmps15
     go_wp2_with fail
     refine (HC'.out _ (below_alloc a0.out _)).mono ?_;rintro e w1 ⟨rfl, hB⟩;have a1 := Aside0.mk (below_then (below_alloc a0.out _) (by simp) hB);have hX : BoxL w1 w.heap.size n (.slice A1 ls.length c1) (.slice A2 es.length c2) := blk_below (blk_new w _) hB;have b0 := hX.c0;have b1 := hX.c1;have b2 := hX.c2;clear hB hX;go_wp2
     go_ret
     exact ⟨ret_bool HR.out.symm, a1.out⟩
   ·have HR := Aside0.mk (show r = false by rw [hr, decide_eq_false q0, decide_eq_false q2]; simp);clear hr;go_enter Try.func15, Try.ntmps15
    go_wp2_with fail
    refine (HC'.out _ (below_alloc a0.out _)).mono ?_;rintro e w1 ⟨rfl, hB⟩;have a1 := Aside0.mk (below_then (below_alloc a0.out _) (by simp) hB);have hX : BoxL w1 w.heap.size n (.slice A1 ls.length c1) (.slice A2 es.length c2) := blk_below (blk_new w _) hB;have b0 := hX.c0;have b1 := hX.c1;have b2 := hX.c2;clear hB hX;go_wp2
    go_ret
    exact ⟨ret_bool HR.out.symm, a1.out⟩
def succL (es : List Ed) (node label : Int) : List Int := (es.filter fun e => decide (e.f0 = node) && decide (e.f1 = label)).map (·.f2)
theorem succL_snoc (es : List Ed) (e : Ed) (a b : Int) : succL (es ++ [e]) a b = if e.f0 = a ∧ e.f1 = b then succL es a b ++ [e.f2] else succL es a b := by
 unfold succL
 by_cases h : e.f0 = a ∧ e.f1 = b
 ·rw [if_pos h]; simp [h.1, h.2]
 ·rw [if_neg h]
  have : (decide (e.f0 = a) && decide (e.f1 = b)) = false := by simpa using h
  simp [this]
theorem succL_len (es : List Ed) (a b : Int) : (succL es a b).length ≤ es.length := by
 unfold succL; rw [List.length_map]; exact List.length_filter_le _ _
def MadeI (w : World) (xs : List Int) (e : Ending) (w' : World) : Prop := ∃ v, e = .returned v ∧ Kd.R (Kd.int .i64) 3 w' w.heap.size (fun _ => True) v xs ∧ Below w.heap.size w w'
theorem emptyI (W : World) (base : Nat) (hb : base ≤ W.heap.size) : Kd.R (Kd.int .i64) 3 (W.alloc (.cells #[] 3)) base (fun _ => True) (.slice (some ⟨W.heap.size, 0, none⟩) 0 0) [] :=
 Kd.R_of_own (enc := Value.int .i64) (own_lit_of (enc := Value.int .i64) W base 3 [] hb (by simp)) (fun _ _ => trivial)
set_option maxRecDepth 100000 in
theorem succ_any (n : Int) (ls : List ByteArray) (es : List Ed) (a b : Int) (v1 : Value) (A2 : Option Addr) (c2 : Nat) (w : World) (hr2 : Kd.C k80 w A2 es.length es) (hlen : es.length ≤ 1000000) :
  Calls Try.prog 151 #[.agg #[.int .i64 n, v1, .slice A2 es.length c2], .int .i64 a, .int .i64 b] w (MadeI w (succL es a b)) := by
 have HR := Aside0.mk hr2;clear hr2;have HB0 := Aside0.mk (Below.refl w.heap.size w);go_enter Try.func151, Try.ntmps151
 go_wp2
 go_loopw [7, 8] (fun v i wr => ∃ k : Nat, k ≤ es.length ∧ i = .int .i64 k ∧ Aside0 (Kd.R (Kd.int .i64) 3 wr w.heap.size (fun _ => True) v (succL (es.take k) a b)) ∧ Aside0 (BoxL wr w.heap.size n v1 (.slice A2 es.length c2)) ∧ Aside0 (Below w.heap.size w wr)) (fun _ i _ => es.length - (intOf i).toNat)
 case atStart =>
  refine ⟨0, Nat.zero_le _, rfl, ⟨?_⟩, ⟨blk_below (blk_new w _) (below_alloc (Below.refl _ _) _)⟩, ⟨by repeat (first | exact HB0.out | apply below_alloc)⟩⟩;have := emptyI (w.alloc (Obj.cells #[Value.int IntKind.i64 n, v1, Value.slice A2 es.length c2] 25)) w.heap.size (by simp);simpa [succL] using this
 case round =>
  obtain ⟨k, hk, rfl, HO, HXr, HBr⟩ := hrel;have b2 := HXr.out.c2;by_cases hlt : k < es.length
  ·obtain ⟨ad, hA, g0, g1, g2⟩ := atE HR.out k hlt;subst hA;replace g0 := later HBr.out g0;replace g1 := later HBr.out g1;replace g2 := later HBr.out g2;obtain ⟨x, hx⟩ : ∃ x, x = es.getD k z80 := ⟨_, rfl⟩
   rw [← hx] at g0 g1 g2;have he : es.take (k + 1) = es.take k ++ [x] := by rw [hx]; exact take_snoc z80 hlt
   have HE := Aside0.mk he;clear hx he;obtain ⟨L, hL⟩ : ∃ L, L = succL (es.take k) a b := ⟨_, rfl⟩
   have hLl : L.length ≤ 1000000 := by rw [hL]; have := succL_len (es.take k) a b; rw [List.length_take] at this; omega
   rw [← hL] at HO;have HL := Aside0.mk hL;clear hL;by_cases q0 : x.f0 = a
   ·by_cases q1 : x.f1 = b
    ·have p0 : (x.f0 == a) = true := by simp [q0]
     have p1 : (x.f1 == b) = true := by simp [q1]
     have HN := Aside0.mk (show succL (es.take (k + 1)) a b = L ++ [x.f2] by rw [HE.out, succL_snoc, if_pos ⟨q0, q1⟩, HL.out]);clear q0 q1;go_wp2_with (at_builtin; refine Kd.R_append (Kd.int .i64) (w0 := w) w.heap.size rfl (.tmp 35) (.tmp 42) 28 3 (.int .i64 0) 8 rfl Try.underlying28 info3 rfl (by decide) (by omega) u7 L x.f2 [.int .i64 x.f2] (fun _ => True) (fun _ => False) rfl rfl rfl (fun _ hk => hk.elim) (fun _ _ => trivial) HO.out HBr.out HBr.out.size (by omega) ?_; intro v2 w2 ho hb hg hat; have HO2 := Aside0.mk ho; have HB2 := Aside0.mk hb; have HX2 := Aside0.mk (blk_grown (g := w.heap.size) HXr.out hg (Kd.R_ne HO.out HXr.out (by decide))); clear ho hb hg hat)
     go_roundw
     case rel => exact ⟨k + 1, by omega, by go_num, ⟨by rw [HN.out]; exact HO2.out⟩, HX2, HB2⟩
     case measure => simp [intOf]; omega
    ·have p0 : (x.f0 == a) = true := by simp [q0]
     have p1 : (x.f1 == b) = false := by simp [q1]
     have HN := Aside0.mk (show succL (es.take (k + 1)) a b = L by rw [HE.out, succL_snoc, if_neg (fun h => q1 h.2), HL.out]);clear q0 q1;go_wp2
     go_roundw
     case rel => exact ⟨k + 1, by omega, by go_num, ⟨by rw [HN.out]; exact HO.out⟩, HXr, HBr⟩
     case measure => simp [intOf]; omega
   ·have p0 : (x.f0 == a) = false := by simp [q0]
    have HN := Aside0.mk (show succL (es.take (k + 1)) a b = L by rw [HE.out, succL_snoc, if_neg (fun h => q0 h.1), HL.out]);clear q0;go_wp2
    go_roundw
    case rel => exact ⟨k + 1, by omega, by go_num, ⟨by rw [HN.out]; exact HO.out⟩, HXr, HBr⟩
    case measure => simp [intOf]; omega
  ·have ek : es.take k = es := List.take_of_length_le (by omega);rw [ek] at HO;clear ek;go_wp2
   go_ret
   exact ⟨_, rfl, HO.out, HBr.out⟩
end Go.Proofs.Ytmcbkmfpmcbdpaa.H
namespace Go.Proofs.Ytmcbkmfpmcbdpaa.H
open Go.RowKit Go.Proofs.Ytmcbkmfpmcbdpaa.Pr Go.Proofs.YtmcbkmfpmcbdpaaW.PrintWords Go.Proofs.Ytmcbkmfpmcbdpaa.Sem
theorem any_take {α : Type} (d : α) (p : α → Bool) {xs : List α} {j : Nat} (hj : j < xs.length) : (xs.take (j + 1)).any p = ((xs.take j).any p || p (xs.getD j d)) := by
 rw [take_snoc d hj, List.any_append]
 simp
theorem pair_eq {x y : Pair} : x = y ↔ x.f0 = y.f0 ∧ x.f1 = y.f1 := by
 obtain ⟨a, b⟩ := x
 obtain ⟨c, d⟩ := y
 simp
instance : DecidableEq Pair := fun x y => decidable_of_iff _ (pair_eq (x := x) (y := y)).symm
end Go.Proofs.Ytmcbkmfpmcbdpaa.H
namespace Go.Proofs.Ytmcbkmfpmcbdpaa.H
open Go.RowKit Go.Proofs.Ytmcbkmfpmcbdpaa.Pr Go.Proofs.YtmcbkmfpmcbdpaaW.PrintWords Go.Proofs.Ytmcbkmfpmcbdpaa.Sem Go.Proofs.YtmcbkmfpmcbdpaaW.PrintLast
def pairsTo (n k : Nat) : List Pair := (List.range k).flatMap fun s : Nat => (List.range n).map fun t : Nat => (⟨(s : Int), (t : Int)⟩ : Pair)
theorem pairsTo_succ (n k : Nat) : pairsTo n (k + 1) = pairsTo n k ++ (List.range n).map fun t : Nat => (⟨(k : Int), (t : Int)⟩ : Pair) := by
 unfold pairsTo
 rw [List.range_succ, List.flatMap_append]
 simp
theorem pairsTo_length (n k : Nat) : (pairsTo n k).length = k * n := by
 induction k with
 | zero => simp [pairsTo]
 | succ k ih => rw [pairsTo_succ, List.length_append, ih]; simp [Nat.succ_mul]
def bothB (es : List Ed) (S : Int → Int → Bool) (p : Pair) : Bool := followsB es S false p.f0 p.f1 && followsB es S true p.f0 p.f1
def passK (es : List Ed) : List Pair → (Int → Int → Bool) → List Pair
 | [], _ => []
 | p :: r, S => if bothB es S p then p :: passK es r S else passK es r (lessP S p.f0 p.f1)
def passS (es : List Ed) : List Pair → (Int → Int → Bool) → (Int → Int → Bool)
 | [], S => S
 | p :: r, S => if bothB es S p then passS es r S else passS es r (lessP S p.f0 p.f1)
theorem passK_sub (es : List Ed) : ∀ (r : List Pair) (S : Int → Int → Bool), List.Sublist (passK es r S) r
 | [], S => List.Sublist.refl _
 | x :: r, S => by
  unfold passK
  split
  ·exact (passK_sub es r S).cons_cons x
  ·exact (passK_sub es r _).cons x
def rounds (es : List Ed) : Nat → List Pair → (Int → Int → Bool) → List Pair
 | 0, rel, _ => rel
 | f + 1, rel, S => if (passK es rel S).length = rel.length then passK es rel S else rounds es f (passK es rel S) (passS es rel S)
def greatL (n : Nat) (es : List Ed) : List Pair := rounds es (n * n + 1) (pairsTo n n) (relS (pairsTo n n))
theorem step_delete {P : Program} {ops : Array Oper} {o : Oper} {a : Act} {Q : Exit → Act → World → Prop} {K : Act → World → Prop} {W w1 : World} (hw : Region.wanted o (yielded ops a.tmps) = true) (m x : Operand) (t k : TypeId)
  (hop : o.op = Op.call { callee := Callee.builtin Builtin.delete, args := #[m, x], argTypes := #[t, k] }) {b : Nat} {key : Value} (hm : a.eval m = .map (some b)) (hx : a.eval x = key)
  (hrun : (Builtin.delete_ #[t, k] o.type #[.map (some b), key]).run P W = .ok (.tuple #[]) w1) (h : K (a.put o.dst (.tuple #[])) w1) :
  if Region.wanted o (yielded ops a.tmps) = true then Oper.wp P o a W K Q else K (a.put o.dst undef) W := by
 rw [if_pos hw]
 unfold Oper.wp
 simp [execOp, hop, resolve, invoke, builtin, hm, hx, hrun, Result.andThen]
 exact h
def folR (n : Nat) (es : List Ed) (P : List Bool) (s t : Int) : Bool :=
 es.all fun e => !(e.f0 == s) || ((succL es t e.f1).any fun q => P.getD (e.f2 * n + q).toNat false)
theorem succL_at {n : Int} {ls : List ByteArray} {es : List Ed} (h : mayR n ls es = true) (a b : Int) {k : Nat} (hk : k < (succL es a b).length) : 0 ≤ (succL es a b).getD k 0 ∧ (succL es a b).getD k 0 < n := by
 have hm : (succL es a b).getD k 0 ∈ succL es a b := by
  rw [List.getD_eq_getElem?_getD, List.getElem?_eq_getElem hk]
  exact List.getElem_mem hk
 unfold succL at hm
 obtain ⟨e, he, h2⟩ := List.mem_map.1 hm
 obtain ⟨j, hj, hej⟩ := List.getElem_of_mem (List.mem_filter.1 he).1
 have := (es_at h hj).2
 rw [List.getD_eq_getElem?_getD, List.getElem?_eq_getElem hj] at this
 simp only [Option.getD_some, hej] at this
 rw [h2] at this
 exact this
theorem mul_node {n : Nat} {x q : Int} (hx : 0 ≤ x ∧ x < n) (hq : 0 ≤ q ∧ q < n) (hn : n ≤ 2048) : 0 ≤ x * n ∧ x * n ≤ 4194304 ∧ 0 ≤ x * n + q ∧ x * n + q < ((n * n : Nat) : Int) := by
 obtain ⟨a, rfl⟩ := Int.eq_ofNat_of_zero_le hx.1
 obtain ⟨b, rfl⟩ := Int.eq_ofNat_of_zero_le hq.1
 have ha : a < n := by omega
 have hb : b < n := by omega
 have h1 : a * n + b < n * n := by
  have : (a + 1) * n ≤ n * n := Nat.mul_le_mul_right n ha
  rw [Nat.succ_mul] at this
  omega
 have h2 : a * n ≤ 2048 * 2048 := Nat.mul_le_mul (by omega) hn
 have e1 : ((a : Int) * (n : Int)) = ((a * n : Nat) : Int) := by simp
 rw [e1]
 omega
set_option maxHeartbeats 8000000 in
set_option maxRecDepth 100000 in
theorem folR_any (n : Nat) (ls : List ByteArray) (es : List Ed) (P : List Bool) (s t : Int) (r : Bool) (hr : folR n es P s t = r) (v1 : Value) (A2 A3 : Option Addr) (c2 c3 : Nat) (w : World) (hr2 : Kd.C k80 w A2 es.length es) (hr3 : Kd.C Kd.bool w A3 P.length P) (hm : mayR n ls es = true) (hP : P.length = n * n) :
  Calls Try.prog 119 #[.agg #[.int .i64 n, v1, .slice A2 es.length c2], .slice A3 P.length c3, .int .i64 s, .int .i64 t] w fun e w' => e = .returned (.bool r) ∧ Below w.heap.size w w' := by
 have HB := Aside0.mk (Below.refl w.heap.size w);have a7 := Aside0.mk hr2;have b4 := Aside0.mk hr3;have HM := Aside0.mk hm;have hn := (n_le hm).2;have hel := es_le hm;have HRES := Aside0.mk hr;have HP := Aside0.mk hP;clear hr2 hr3 hm hr hP;go_enter Try.func119, Try.ntmps119
 go_wp2
 go_loopw [10] (fun i wr => ∃ k : Nat, k ≤ es.length ∧ i = .int .i64 k ∧ Aside0 (∀ j, j < k → (!((es.getD j z80).f0 == s) || ((succL es t (es.getD j z80).f1).any fun q => P.getD ((es.getD j z80).f2 * n + q).toNat false)) = true) ∧ Aside0 (BoxL wr w.heap.size n v1 (.slice A2 es.length c2)) ∧ Aside0 (Below w.heap.size w wr)) (fun i _ => es.length - (intOf i).toNat)
 case atStart => exact ⟨0, Nat.zero_le _, rfl, ⟨fun j hj => by omega⟩, ⟨blk_new w _⟩, ⟨below_alloc HB.out _⟩⟩
 case round =>
  obtain ⟨k, hk, rfl, hz, HXr, HBr⟩ := hrel;have b2 := HXr.out.c2;by_cases hlt : k < es.length
  ·obtain ⟨ad, hA, g0, g1, g2⟩ := atE a7.out k hlt;subst hA;replace g0 := later HBr.out g0;replace g1 := later HBr.out g1;replace g2 := later HBr.out g2;have hxn := (es_at HM.out hlt).2;obtain ⟨x, hx⟩ : ∃ x, x = es.getD k z80 := ⟨_, rfl⟩
   rw [← hx] at g0 g1 g2 hxn;have hx' := Aside0.mk hx;have HXN := Aside0.mk hxn;clear hx hxn;have a3 := Aside0.mk (HXr.out.below (below_alloc (Below.refl _ _) (Obj.cells #[Value.int IntKind.i64 x.f0, Value.int IntKind.i64 x.f1, Value.int IntKind.i64 x.f2] 80)));have a1 := Aside0.mk (below_then HBr.out HBr.out.size (below_alloc (Below.refl _ _) (Obj.cells #[Value.int IntKind.i64 x.f0, Value.int IntKind.i64 x.f1, Value.int IntKind.i64 x.f2] 80)))
   cases p0 : (x.f0 == s) with
   | false =>
    have p1 : (x.f0 != s) = true := by simpa [bne] using p0
    have HQ := Aside0.mk p0;clear p0;go_wp2
    go_roundw
    case rel => exact ⟨k + 1, by omega, by go_num, ⟨fun j hj => by
     rcases Nat.lt_succ_iff_lt_or_eq.1 hj with h | rfl
     ·exact hz.out j h
     ·rw [← hx'.out, HQ.out]; rfl⟩, a3, a1⟩
    case measure => simp [intOf]; omega
   | true =>
    have p1 : (x.f0 != s) = false := by simpa [bne] using p0
    have HQ := Aside0.mk p0;clear p0;obtain ⟨L, hL⟩ : ∃ L, L = succL es t x.f1 := ⟨_, rfl⟩
    have hLl : L.length ≤ 1000000 := by rw [hL]; exact Nat.le_trans (succL_len _ _ _) hel
    have HL := Aside0.mk hL;have hLn : ∀ j, j < L.length → 0 ≤ L.getD j 0 ∧ L.getD j 0 < n := fun j hj => by rw [hL] at hj ⊢; exact succL_at HM.out t x.f1 hj
    have HLn := Aside0.mk hLn;clear hL hLn;have c0' := fun o => later (below_alloc (Below.refl _ _) o) HXr.out.c0
    have c1' := fun o => later (below_alloc (Below.refl _ _) o) HXr.out.c1
    have c2' := fun o => later (below_alloc (Below.refl _ _) o) HXr.out.c2
    go_wp2_with fail
    clear c0' c1' c2' g0 g1 g2 b2;obtain ⟨E, hE⟩ : ∃ E, E = wr.heap.size := ⟨_, rfl⟩
    rw [← hE];have e2 := (blk_cell (blk_new wr (Obj.cells #[Value.int IntKind.i64 x.f0, Value.int IntKind.i64 x.f1, Value.int IntKind.i64 x.f2] 80)) 2).trans rfl;rw [← hE] at e2;clear hE;generalize (wr.alloc (Obj.cells #[Value.int IntKind.i64 x.f0, Value.int IntKind.i64 x.f1, Value.int IntKind.i64 x.f2] 80)) = U at a3 a1 e2 ⊢;refine (succ_any n ls es t x.f1 _ (some ad) c2 _ (Kd.C_below a7.out a1.out) hel).mono ?_;rintro e w3 ⟨va, rfl, hRa, hBa⟩;obtain ⟨Aa, ca, rfl, _, hCa⟩ := Kd.R_reads hRa;rw [← HL.out] at hCa ⊢;have HCa := Aside0.mk hCa;have b5 := Aside0.mk (a3.out.below hBa);have a2 := Aside0.mk (below_then a1.out a1.out.size hBa);have b3 := Aside0.mk (later hBa e2);clear hRa hBa hCa e2 a3 a1;go_wp2
    go_loopw [13, 14] (fun b i b7 => ∃ j : Nat, j ≤ L.length ∧ i = .int .i64 j ∧ b = .bool ((L.take j).any fun q => P.getD (x.f2 * n + q).toNat false) ∧ Aside0 (Below w3.heap.size w3 b7)) (fun _ i _ => L.length - (intOf i).toNat)
    case atStart => exact ⟨0, Nat.zero_le _, rfl, by simp, ⟨Below.refl _ _⟩⟩
    case round =>
     obtain ⟨j, hj, rfl, rfl, a0⟩ := hrel;by_cases hlt4 : j < L.length
     ·obtain ⟨av, hAv, g0⟩ := atI HCa.out j hlt4;subst hAv;have hqn := HLn.out j hlt4;have f0 := fun o => later (pw_below_drewN a0.out o) g0
      have f2 := fun o => later (pw_below_drewN a0.out o) b3.out
      obtain ⟨q, hq⟩ : ∃ q, q = L.getD j 0 := ⟨_, rfl⟩
      rw [← hq] at f0 hqn;have a4 := Aside0.mk (show ((L.take (j + 1)).any fun q => P.getD (x.f2 * n + q).toNat false) = (((L.take j).any fun q => P.getD (x.f2 * n + q).toNat false) || P.getD (x.f2 * n + q).toNat false) by rw [any_take 0 _ hlt4, hq]);clear g0 hq;have hmul := mul_node HXN.out hqn (by omega);have hPl := HP.out;obtain ⟨ap, hAp, gp⟩ := atB b4.out (x.f2 * n + q).toNat (by omega);subst hAp;have fp := fun o => later (below_then a2.out a2.out.size (pw_below_drewN a0.out o)) gp
      obtain ⟨z, a5⟩ : ∃ z, z = P.getD (x.f2 * n + q).toNat false := ⟨_, rfl⟩
      rw [← a5] at fp a4;clear gp;have b0 : IntKind.i64.wrap (x.f2 * (n : Int)) = x.f2 * (n : Int) := by rw [IntKind.wrap_i64]; omega
      have b1 : IntKind.i64.wrap (x.f2 * (n : Int) + q) = x.f2 * (n : Int) + q := by rw [IntKind.wrap_i64]; omega
      have a8 := hmul.2.2.1;have a9 : x.f2 * (n : Int) + q < (P.length : Int) := by rw [hPl]; exact hmul.2.2.2
      have HZ := Aside0.mk a5;clear hmul hPl a5
      cases hacc : ((L.take j).any fun q => P.getD (x.f2 * n + q).toNat false) with
      | true =>
       clear b0 b1 a8 a9;go_wp2_with fail
       go_quiet (fail)
       go_wp2
       go_roundw
       case rel => exact ⟨j + 1, by omega, by go_num, by rw [a4.out, hacc]; rfl, ⟨pw_below_drewN a0.out _⟩⟩
       case measure => simp [intOf]; omega
      | false =>
       go_wp2_with fail
       go_quiet (fail)
       clear b0 b1 a8 a9;go_wp2
       go_roundw
       case rel => exact ⟨j + 1, by omega, by go_num, by rw [a4.out, hacc]; rfl, ⟨pw_below_drewN a0.out _⟩⟩
       case measure => simp [intOf]; omega
     ·have ej : L.take j = L := List.take_of_length_le (by omega);obtain ⟨fd, hfd⟩ : ∃ fd, fd = (L.any fun q => P.getD (x.f2 * n + q).toNat false) := ⟨_, rfl⟩
      rw [ej, ← hfd];have HFd := Aside0.mk hfd;have b6 := Aside0.mk (b5.out.below a0.out);have a6 := Aside0.mk (below_then a2.out a2.out.size a0.out);clear ej hfd
      cases fd with
      | false =>
       have HF := Aside0.mk (show r = false by
        rw [← HRES.out];exact all_no z80 hlt (by rw [← hx'.out, HQ.out, ← HL.out, ← HFd.out]; rfl))
       go_wp2
       go_ret
       exact ⟨ret_bool HF.out.symm, a6.out⟩
      | true =>
       go_wp2
       go_roundw
       case rel => exact ⟨k + 1, by omega, by go_num, ⟨fun j hj => by
        rcases Nat.lt_succ_iff_lt_or_eq.1 hj with h | rfl
        ·exact hz.out j h
        ·rw [← hx'.out, HQ.out, ← HL.out, ← HFd.out]; rfl⟩, b6, a6⟩
       case measure => simp [intOf]; omega
  ·have HF := Aside0.mk (show r = true by rw [← HRES.out]; exact all_yes z80 hlt hz.out);go_wp2
   go_ret
   exact ⟨ret_bool HF.out.symm, HBr.out⟩
def stepP (n : Nat) (es : List Ed) (P : List Bool) (i : Nat) : List Bool :=
 if P.getD i false && (!folR n es P ((i / n : Nat) : Int) ((i % n : Nat) : Int) || !folR n es P ((i % n : Nat) : Int) ((i / n : Nat) : Int)) then P.set i false else P
def sweepTo (n : Nat) (es : List Ed) (P : List Bool) : Nat → List Bool
 | 0 => P
 | k + 1 => stepP n es (sweepTo n es P k) k
def iterP (n : Nat) (es : List Ed) : Nat → List Bool → List Bool
 | 0, P => P
 | f + 1, P => if sweepTo n es P (n * n) = P then P else iterP n es f (sweepTo n es P (n * n))
def pairsR (n : Nat) (es : List Ed) : List Bool := iterP n es (n * n + 1) (List.replicate (n * n) true)
theorem stepP_length (n : Nat) (es : List Ed) (P : List Bool) (i : Nat) : (stepP n es P i).length = P.length := by
 unfold stepP; split
 ·rw [List.length_set]
 ·rfl
theorem sweepTo_length (n : Nat) (es : List Ed) (P : List Bool) : ∀ k, (sweepTo n es P k).length = P.length
 | 0 => rfl
 | k + 1 => by rw [sweepTo, stepP_length, sweepTo_length n es P k]
theorem count_set_lt {P : List Bool} {i : Nat} (h : P.getD i false = true) : (P.set i false).count true + 1 = P.count true := by
 have hi : i < P.length := by
  rcases Nat.lt_or_ge i P.length with h' | h'
  ·exact h'
  ·rw [List.getD_eq_getElem?_getD, List.getElem?_eq_none h'] at h; cases h
 have hv : P[i] = true := by rw [List.getD_eq_getElem?_getD, List.getElem?_eq_getElem hi] at h; exact h
 rw [List.count_set hi, hv]
 have : 0 < P.count true := List.count_pos_iff.2 (hv ▸ List.getElem_mem hi)
 simp
 omega
theorem stepP_count (n : Nat) (es : List Ed) (P : List Bool) (i : Nat) : stepP n es P i = P ∨ (stepP n es P i).count true < P.count true := by
 unfold stepP
 split
 ·rename_i h
  simp only [Bool.and_eq_true] at h
  right
  have := count_set_lt h.1
  omega
 ·exact .inl rfl
theorem sweepTo_count (n : Nat) (es : List Ed) (P : List Bool) : ∀ k, sweepTo n es P k = P ∨ (sweepTo n es P k).count true < P.count true
 | 0 => .inl rfl
 | k + 1 => by
  rw [sweepTo]
  rcases sweepTo_count n es P k with h | h
  ·rw [h]; exact stepP_count n es P k
  ·rcases stepP_count n es (sweepTo n es P k) k with h2 | h2
   ·rw [h2]; exact .inr h
   ·exact .inr (Nat.lt_trans h2 h)
theorem frozen_later {w w1 : World} (hb : Below w.heap.size w w1) {a : Addr} (ha : a.block < w.heap.size) : w1.frozen? a = w.frozen? a := World.frozen?_of_block (hb.block _ ha)
abbrev RB (w : World) (base : Nat) (v : Value) (xs : List Bool) : Prop := Kd.R Kd.bool 4 w base (fun _ => True) v xs
theorem pull_all {N : Nat} {P : List Bool} (hl : P.length = N) (h : ∀ j, j < N → P.getD j false = true) : P = List.replicate N true := by
 apply List.ext_getElem
 ·simp [hl]
 ·intro i h1 h2
  have := h i (by omega)
  rw [List.getD_eq_getElem?_getD, List.getElem?_eq_getElem h1] at this
  simpa using this
set_option maxHeartbeats 16000000 in
set_option maxRecDepth 100000 in
theorem pairsR_any (n : Nat) (ls : List ByteArray) (es : List Ed) (v1 : Value) (A2 : Option Addr) (c2 : Nat) (w : World) (hr2 : Kd.C k80 w A2 es.length es) (hm : mayR n ls es = true) :
  Calls Try.prog 71 #[.agg #[.int .i64 n, v1, .slice A2 es.length c2]] w fun e w' => ∃ v, e = .returned v ∧ RB w' w.heap.size v (pairsR n es) ∧ Below w.heap.size w w' := by
 have HB := Aside0.mk (Below.refl w.heap.size w);have d8 := Aside0.mk hr2;have HM := Aside0.mk hm;have hn := n_le hm;obtain ⟨N, hN⟩ : ∃ N, N = n * n := ⟨_, rfl⟩
 have e4 : N ≤ 4194304 := by rw [hN]; exact Nat.mul_le_mul (show n ≤ 2048 by omega) (show n ≤ 2048 by omega)
 have hw : IntKind.i64.wrap ((n : Int) * (n : Int)) = (N : Int) := by
  have e1 : ((n : Int) * (n : Int)) = (N : Int) := by rw [hN]; simp
  rw [e1, IntKind.wrap_i64];omega
 have HN := Aside0.mk hN;have hmk := print_make_of (P := Try.prog) 41 4 (.bool false) 1 Try.underlying41 (by kernel_rfl) rfl (by omega) N (by omega);clear hr2 hm hN;go_enter Try.func71, Try.ntmps71
 go_wp2
 clear hmk;obtain ⟨g, hg⟩ : ∃ g, g = w.heap.size + 1 := ⟨_, rfl⟩
 have HG := Aside0.mk (show w.heap.size ≤ g by omega)
 have d1 : RB ((w.alloc (Obj.cells #[Value.int IntKind.i64 n, v1, Value.slice A2 es.length c2] 25)).alloc (Obj.cells (madeCells #[Value.bool false] N) 4)) w.heap.size (.slice (some ⟨g, 0, none⟩) N N) (List.replicate N false) := by
  have h : RB ((w.alloc (Obj.cells #[Value.int IntKind.i64 n, v1, Value.slice A2 es.length c2] 25)).alloc (Obj.cells (madeCells #[Value.bool false] N) 4)) w.heap.size (.slice (some ⟨(w.alloc (Obj.cells #[Value.int IntKind.i64 n, v1, Value.slice A2 es.length c2] 25)).heap.size, 0, none⟩) N N) (List.replicate N false) :=
   Kd.R_of_own (enc := Value.bool) (own_made_of' (enc := Value.bool) (d := false) (w.alloc (Obj.cells #[Value.int IntKind.i64 n, v1, Value.slice A2 es.length c2] 25)) w.heap.size 4 N (by simp) (by omega)) (fun _ _ => trivial)
  rw [show (w.alloc (Obj.cells #[Value.int IntKind.i64 n, v1, Value.slice A2 es.length c2] 25)).heap.size = w.heap.size + 1 by simp] at h;rw [hg];exact h
 rw [← hg];have d2 := Aside0.mk (show BoxL ((w.alloc (Obj.cells #[Value.int IntKind.i64 n, v1, Value.slice A2 es.length c2] 25)).alloc (Obj.cells (madeCells #[Value.bool false] N) 4)) w.heap.size n v1 (.slice A2 es.length c2) from blk_below (blk_new w _) (below_alloc (Below.refl _ _) _));have b8 := Aside0.mk (show Below w.heap.size w ((w.alloc (Obj.cells #[Value.int IntKind.i64 n, v1, Value.slice A2 es.length c2] 25)).alloc (Obj.cells (madeCells #[Value.bool false] N) 4)) by repeat (first | exact HB.out | apply below_alloc));have a0 := Aside0.mk d1;clear hg d1;go_loopw [5] (fun i wr => ∃ (k : Nat) (P : List Bool), k ≤ N ∧ i = .int .i64 k ∧ Aside0 (RB wr w.heap.size (.slice (some ⟨g, 0, none⟩) N N) P) ∧ Aside0 (P.length = N ∧ ∀ j, j < k → P.getD j false = true) ∧ Aside0 (BoxL wr w.heap.size n v1 (.slice A2 es.length c2)) ∧ Aside0 (Below w.heap.size w wr)) (fun i _ => N - (intOf i).toNat)
 case atStart => exact ⟨0, _, Nat.zero_le _, rfl, a0, ⟨by simp, fun j hj => by omega⟩, d2, b8⟩
 case round =>
  clear d2 b8 a0;obtain ⟨k, P, hk, rfl, a0, HP, a1, a2⟩ := hrel;by_cases hlt : k < N
  ·have hcell := Kd.R_cell false (by have := a0.out; rw [← HP.out.1] at this; exact this) (k : Int) (by omega) (by have := HP.out.1; omega);have hc := hcell.1;have hf := hcell.2;rw [Int.toNat_natCast] at hc hf;obtain ⟨a6, a5⟩ := Kd.R_putg a0.out (k : Int) true;rw [Int.toNat_natCast] at a6 a5;have HR2' := Aside0.mk a6;have b1 := Aside0.mk (blk_grown (g := w.heap.size) a1.out a5 (by have := Kd.R_ne a0.out a1.out (by decide); simpa [Value.ownBlock] using this));have b0 := Aside0.mk (below_set (g := g) (j := k) (v := .bool true) a2.out HG.out);clear hcell a6 a5;go_wp2
   go_roundw
   case rel =>
    refine ⟨k + 1, P.set k true, by omega, by go_num, HR2', ⟨by rw [List.length_set]; exact HP.out.1, fun j hj => ?_⟩, b1, b0⟩;by_cases e : j = k
    ·subst e;have := HP.out.1;simp [List.getD_eq_getElem?_getD, List.getElem?_set, this, hlt]
    ·have := HP.out.2 j (by omega);rw [List.getD_eq_getElem?_getD] at this ⊢;rw [List.getElem?_set_ne (by omega)];exact this
   case measure => simp [intOf]; omega
  ·have ek : k = N := by omega
   have hP : P = List.replicate N true := pull_all HP.out.1 (fun j hj => HP.out.2 j (by omega));rw [hP] at a0;have HST := Aside0.mk (show ∃ f, (if true then iterP n es f (List.replicate N true) else List.replicate N true) = pairsR n es ∧ (List.replicate N true).count true < f ∧ (List.replicate N true).length = N from ⟨n * n + 1, by rw [if_pos rfl, HN.out]; rfl, by simp [HN.out], by simp⟩);clear hP HP;go_wp2
   clear hk hlt ek;have d3 : (List.replicate N true).count true ≤ N := by simp
   generalize List.replicate N true = P0 at a0 HST d3;have hnz : ((n : Int) == 0) = false := by have := hn.1; simp; omega
   have e3 : ¬ n = 0 := by have := hn.1; omega
   go_loopg [6] (2 * N + 1) (fun m b wr => ∃ (P : List Bool) (more : Bool), b = .bool more ∧ Aside0 (2 * P.count true + (if more then 1 else 0) ≤ m) ∧ Aside0 (∃ f, (if more then iterP n es f P else P) = pairsR n es ∧ P.count true < f ∧ P.length = N) ∧ Aside0 (RB wr w.heap.size (.slice (some ⟨g, 0, none⟩) N N) P) ∧ Aside0 (BoxL wr w.heap.size n v1 (.slice A2 es.length c2)) ∧ Aside0 (Below w.heap.size w wr))
   case atStart => exact ⟨P0, true, rfl, ⟨by simp; omega⟩, HST, a0, a1, a2⟩
   case round =>
    clear HST a0 a1 a2 d3;obtain ⟨P, more, rfl, d6, HST, a0, a1, a2⟩ := hrel
    cases more with
    | false =>
     have HF := Aside0.mk (show P = pairsR n es by obtain ⟨f, h, _⟩ := HST.out; simpa using h);go_wp2
     go_ret
     exact ⟨_, rfl, by rw [← HF.out]; exact a0.out, a2.out⟩
    | true =>
     go_wp2
     go_loopw [6, 7] (fun b i b7 => ∃ k : Nat, k ≤ N ∧ i = .int .i64 k ∧ b = .bool (decide (sweepTo n es P k ≠ P)) ∧ Aside0 (RB b7 w.heap.size (.slice (some ⟨g, 0, none⟩) N N) (sweepTo n es P k)) ∧ Aside0 (BoxL b7 w.heap.size n v1 (.slice A2 es.length c2)) ∧ Aside0 (Below w.heap.size w b7)) (fun _ i _ => N - (intOf i).toNat)
     case atStart => exact ⟨0, Nat.zero_le _, rfl, by simp [sweepTo], a0, a1, a2⟩
     case round =>
      clear a0 a1 a2;obtain ⟨k, hk, rfl, rfl, a0, a1, a2⟩ := hrel;by_cases hlt : k < N
      ·have HPl := Aside0.mk (show (sweepTo n es P k).length = N by obtain ⟨f, _, _, h⟩ := HST.out; rw [sweepTo_length]; exact h);obtain ⟨Pk, hPk⟩ : ∃ Pk, Pk = sweepTo n es P k := ⟨_, rfl⟩
       obtain ⟨ch, hch⟩ : ∃ ch, ch = decide (sweepTo n es P k ≠ P) := ⟨_, rfl⟩
       have HStep := Aside0.mk (show sweepTo n es P (k + 1) = stepP n es Pk k by rw [hPk]; rfl);rw [← hch];rw [← hPk] at a0 HPl;have HPk := Aside0.mk hPk;have HCh := Aside0.mk hch;clear hPk hch;have hcell := Kd.R_cell false (by have := a0.out; rw [← HPl.out] at this; exact this) (k : Int) (by omega) (by have := HPl.out; omega);have hc := hcell.1;have hf := hcell.2;rw [Int.toNat_natCast] at hc hf;obtain ⟨z, hz⟩ : ∃ z, z = Pk.getD k false := ⟨_, rfl⟩
       have hrd : rdOf false Pk (k : Int) = Pk.getD k false := by simp [rdOf]
       rw [hrd, ← hz] at hc;have HZ := Aside0.mk hz;have b9 := Aside0.mk hf;clear hcell hz hrd hf;have i0 : (0 : Int) ≤ (k : Int) := by omega
       have i1 : (k : Int) < (N : Int) := by omega
       have hcd := fun m => later (pw_below_drewN (Below.refl wr.heap.size wr) m) hc
       cases z with
       | false =>
        have HSame := Aside0.mk (show stepP n es Pk k = Pk by unfold stepP; rw [← HZ.out]; rfl);clear hc;go_wp2_with fail
        go_quiet (fail)
        go_wp2
        go_roundw
        case rel => exact ⟨k + 1, by omega, by go_num, by rw [HCh.out, HStep.out, HSame.out, HPk.out], ⟨by rw [HStep.out, HSame.out]; exact Kd.R_below a0.out (pw_below_drewN (Below.refl _ _) _)⟩, ⟨a1.out.below (pw_below_drewN (Below.refl _ _) _)⟩, ⟨pw_below_drewN a2.out _⟩⟩
        case measure => simp [intOf]; omega
       | true =>
        have b2 := Aside0.mk hc;obtain ⟨kq, hkq⟩ : ∃ q, q = k / n := ⟨_, rfl⟩
        obtain ⟨kr, hkr⟩ : ∃ q, q = k % n := ⟨_, rfl⟩
        have hkl : kq ≤ 4194304 := by rw [hkq]; exact Nat.le_trans (Nat.div_le_self _ _) (by omega)
        have hq : IntKind.i64.wrap (Int.tdiv (k : Int) (n : Int)) = (kq : Int) := by
         rw [show Int.tdiv (k : Int) (n : Int) = ((k / n : Nat) : Int) from rfl, ← hkq, IntKind.wrap_i64];omega
        have e2 : wrap64 (Int.tdiv (k : Int) (n : Int)) = (kq : Int) := by rw [← i64_w]; exact hq
        have hr : Int.tmod (k : Int) (n : Int) = (kr : Int) := by rw [hkr]; rfl
        have e5 : IntKind.i64.wrap ((k : Int) / (n : Int)) = (kq : Int) := hq;have e6 : wrap64 ((k : Int) / (n : Int)) = (kq : Int) := e2;have hr2 : (k : Int) % (n : Int) = (kr : Int) := hr;have hkrl : kr ≤ 4194304 := by rw [hkr]; exact Nat.le_trans (Nat.mod_le _ _) (by omega)
        have e7 : IntKind.i64.wrap ((k : Int) % (n : Int)) = (kr : Int) := by rw [hr2, IntKind.wrap_i64]; omega
        have HKq := Aside0.mk hkq;have HKr := Aside0.mk hkr;clear hkq hkr hkl hkrl hcd;obtain ⟨f1, b5⟩ : ∃ f, f = folR n es Pk kq kr := ⟨_, rfl⟩
        obtain ⟨f2, b6⟩ : ∃ f, f = folR n es Pk kr kq := ⟨_, rfl⟩
        have hfo : ∀ (a b : Int) (r : Bool), folR n es Pk a b = r → ∀ W, Below wr.heap.size wr W → Calls Try.prog 119 #[.agg #[.int .i64 n, v1, .slice A2 es.length c2], .slice (some ⟨g, 0, none⟩) N N, .int .i64 a, .int .i64 b] W fun e w' => e = .returned (.bool r) ∧ Below W.heap.size W w' := fun a b r hr W hW => by
         have := folR_any n ls es Pk a b r hr v1 A2 (some ⟨g, 0, none⟩) c2 N W (Kd.C_below d8.out (below_then a2.out a2.out.size hW)) (Kd.C_below (Kd.R_reads' a0.out).2.2 hW) HM.out (by rw [HPl.out, HN.out]);rwa [HPl.out] at this
        have b3 := Lib.hid (hfo kq kr f1 b5.symm);have d0 := Lib.hid (hfo kr kq f2 b6.symm);have HFs := Aside0.mk (show (!folR n es Pk (kq : Int) (kr : Int) || !folR n es Pk (kr : Int) (kq : Int)) = (!f1 || !f2) by rw [← b5, ← b6]);clear hfo b5 b6
        cases f1 with
        | false =>
         go_wp2_with fail
         refine start_ (n := 28) (S := fun w' => w'.cell? ⟨w.heap.size, 0, none⟩ = some (.int .i64 (n : Int)) ∧ w'.cell? ⟨w.heap.size, 1, none⟩ = some v1 ∧ w'.cell? ⟨w.heap.size, 2, none⟩ = some (.slice A2 es.length c2) ∧ w'.cell? ⟨g, k, none⟩ = some (.bool true)) (ds := []) (bqz 28 0) (by kernel_rfl) rfl rfl ⟨a1.out.c0, a1.out.c1, a1.out.c2, hc⟩ (fun hHeld => ?_);have HV := Aside0.mk (below_drew1 (Below.refl wr.heap.size wr));generalize wr.drew = V at HV hHeld ⊢;clear hc;refine pqz 0 (some 32) (bqz 28 1) rfl rfl (by kernel_rfl) ?_ ?_ (fun _ _ _ h => h) (by rfl) ?_ ?_ ?_;rotate_left 2;intro w';go_simp;(with_reducible rfl);simp only [Act.put, qz1, qz2, qz3, i64_w, i32_w];rfl
         refine pqz 1 (some 33) (bqz 28 3) rfl rfl (by kernel_rfl) ?_ ?_ (fun _ _ _ h => h) (by rfl) ?_ ?_ ?_;rotate_left 2;intro w';go_simp;(with_reducible rfl);simp only [Act.put, qz1, qz2, qz3, i64_w, i32_w];rfl
         refine pqz 2 (some 34) (bqz 28 7) rfl rfl (by kernel_rfl) ?_ ?_ (fun _ _ _ h => h) (by rfl) ?_ ?_ ?_;rotate_left 2;intro w';go_simp;(with_reducible rfl);simp only [Act.put, qz1, qz2, qz3, i64_w, i32_w];rfl
         refine tqz 3 (some 35) (bqz 28 15) rfl rfl (by kernel_rfl) ?_ ?_ (fun _ _ _ h => h) (by rfl) ?_ hHeld ?_ ?_;rotate_left 2;rintro w' ⟨s0, s1, s2, s3⟩;go_simp;(with_reducible rfl);simp only [Act.put, qz1, qz2, qz3, i64_w, i32_w];rfl
         refine pqz 4 (some 36) (bqz 28 31) rfl rfl (by kernel_rfl) ?_ ?_ (fun _ _ _ h => h) (by rfl) ?_ ?_ ?_;rotate_left 2;intro w';go_simp;(with_reducible rfl);simp only [Act.put, qz1, qz2, qz3, i64_w, i32_w];rfl
         refine pqz 6 (some 38) (bqz 28 95) rfl rfl (by kernel_rfl) ?_ ?_ (fun _ _ _ h => h) (by rfl) ?_ ?_ ?_;rotate_left 2;intro w';go_simp;(with_reducible rfl);simp only [Act.put, qz1, qz2, qz3, i64_w, i32_w];rfl
         refine pqz 7 (some 39) (bqz 28 223) rfl rfl (by kernel_rfl) ?_ ?_ (fun _ _ _ h => h) (by rfl) ?_ ?_ ?_;rotate_left 2;intro w';go_simp;(with_reducible rfl);simp only [Act.put, qz1, qz2, qz3, i64_w, i32_w];rfl
         refine pqz 8 (some 40) (bqz 28 479) rfl rfl (by kernel_rfl) ?_ ?_ (fun _ _ _ h => h) (by rfl) ?_ ?_ ?_;rotate_left 2;intro w';go_simp;(with_reducible rfl);simp only [Act.put, qz1, qz2, qz3, i64_w, i32_w];rfl
         refine pqz 9 (some 41) (bqz 28 991) rfl rfl (by kernel_rfl) ?_ ?_ (fun _ _ _ h => h) (by rfl) ?_ ?_ ?_;rotate_left 2;intro w';go_simp;(with_reducible rfl);simp only [Act.put, qz1, qz2, qz3, i64_w, i32_w];rfl
         refine pqz 10 (some 42) (bqz 28 2015) rfl rfl (by kernel_rfl) ?_ ?_ (fun _ _ _ h => h) (by rfl) ?_ ?_ ?_;rotate_left 2;intro w';go_simp;(with_reducible rfl);simp only [Act.put, qz1, qz2, qz3, i64_w, i32_w];rfl
         refine pqz 11 (some 43) (bqz 28 4063) rfl rfl (by kernel_rfl) ?_ ?_ (fun _ _ _ h => h) (by rfl) ?_ ?_ ?_;rotate_left 2;intro w';go_simp;(with_reducible rfl);simp only [Act.put, qz1, qz2, qz3, i64_w, i32_w];rfl
         refine pqz 12 (some 44) (bqz 28 8159) rfl rfl (by kernel_rfl) ?_ ?_ (fun _ _ _ h => h) (by rfl) ?_ ?_ ?_;rotate_left 2;intro w';go_simp;(with_reducible rfl);simp only [Act.put, qz1, qz2, qz3, i64_w, i32_w];rfl
         refine tqz 5 (some 37) (bqz 28 8191) rfl rfl (by kernel_rfl) ?_ ?_ (fun _ _ _ h => h) (by rfl) ?_ hHeld ?_ ?_;rotate_left 2;rintro w' ⟨s0, s1, s2, s3⟩;go_simp;(with_reducible rfl);simp only [Act.put, qz1, qz2, qz3, i64_w, i32_w];rfl
         refine one_ (i := 13) (N := some 45) (bqz 28 16383) rfl rfl (by kernel_rfl) (by decide) (fun K hK => ?_);refine goes_ Try.func119 (by kernel_rfl) rfl #[.agg #[.int .i64 n, v1, .slice A2 es.length c2], .slice (some ⟨g, 0, none⟩) N N, .int .i64 (kq : Int), .int .i64 (kr : Int)] (by rfl) rfl rfl (by simp only [List.map_toArray, List.map_cons, List.map_nil]; rfl) ?_;refine (b3.out _ HV.out).mono ?_;rintro e w3 ⟨rfl, hB⟩;refine ⟨_, rfl, ?_⟩;have a3 := Aside0.mk hB;have a4 := Aside0.mk (below_then HV.out HV.out.size hB);clear hB;refine hK.out _ _ ⟨later a3.out hHeld.1, later a3.out hHeld.2.1, later a3.out hHeld.2.2.1, later a3.out hHeld.2.2.2⟩ (fun hHeld => ?_);clear hK K;refine norm_ (a' := ?_) ?_ ?_;rotate_left
         ·show Act.put _ (some 45) _ = _;simp only [Act.put, qz1, qz2, qz3, i64_w, i32_w];rfl
         refine pqz 14 (some 46) (bqz 28 32767) rfl rfl (by kernel_rfl) ?_ ?_ (fun _ _ _ h => h) (by rfl) ?_ ?_ ?_;rotate_left 2;intro w';go_simp;(with_reducible rfl);simp only [Act.put, qz1, qz2, qz3, i64_w, i32_w];rfl
         refine pqz 15 (some 47) (bqz 28 65535) rfl rfl (by kernel_rfl) ?_ ?_ (fun _ _ _ h => h) (by rfl) ?_ ?_ ?_;rotate_left 2;intro w';go_simp;(with_reducible rfl);simp only [Act.put, qz1, qz2, qz3, i64_w, i32_w];rfl
         refine pure_ (i := 16) (N := some 48) (v := undef) (a' := ?_) (bqz 28 131071) rfl rfl (by kernel_rfl) (fun _ _ _ h => h) (Or.inr ⟨by rfl, rfl⟩) ?_ ?_;rotate_left
         ·simp only [Act.put, qz1, qz2, qz3, i64_w, i32_w];rfl
         refine pure_ (i := 17) (N := some 49) (v := undef) (a' := ?_) (bqz 28 262143) rfl rfl (by kernel_rfl) (fun _ _ _ h => h) (Or.inr ⟨by rfl, rfl⟩) ?_ ?_;rotate_left
         ·simp only [Act.put, qz1, qz2, qz3, i64_w, i32_w];rfl
         refine pure_ (i := 18) (N := some 50) (v := undef) (a' := ?_) (bqz 28 524287) rfl rfl (by kernel_rfl) (fun _ _ _ h => h) (Or.inr ⟨by rfl, rfl⟩) ?_ ?_;rotate_left
         ·simp only [Act.put, qz1, qz2, qz3, i64_w, i32_w];rfl
         refine pure_ (i := 19) (N := some 51) (v := undef) (a' := ?_) (bqz 28 1048575) rfl rfl (by kernel_rfl) (fun _ _ _ h => h) (Or.inr ⟨by rfl, rfl⟩) ?_ ?_;rotate_left
         ·simp only [Act.put, qz1, qz2, qz3, i64_w, i32_w];rfl
         refine pure_ (i := 20) (N := some 52) (v := undef) (a' := ?_) (bqz 28 2097151) rfl rfl (by kernel_rfl) (fun _ _ _ h => h) (Or.inr ⟨by rfl, rfl⟩) ?_ ?_;rotate_left
         ·simp only [Act.put, qz1, qz2, qz3, i64_w, i32_w];rfl
         refine pure_ (i := 21) (N := some 53) (v := undef) (a' := ?_) (bqz 28 4194303) rfl rfl (by kernel_rfl) (fun _ _ _ h => h) (Or.inr ⟨by rfl, rfl⟩) ?_ ?_;rotate_left
         ·simp only [Act.put, qz1, qz2, qz3, i64_w, i32_w];rfl
         refine pure_ (i := 22) (N := some 54) (v := undef) (a' := ?_) (bqz 28 8388607) rfl rfl (by kernel_rfl) (fun _ _ _ h => h) (Or.inr ⟨by rfl, rfl⟩) ?_ ?_;rotate_left
         ·simp only [Act.put, qz1, qz2, qz3, i64_w, i32_w];rfl
         refine pure_ (i := 23) (N := some 55) (v := undef) (a' := ?_) (bqz 28 16777215) rfl rfl (by kernel_rfl) (fun _ _ _ h => h) (Or.inr ⟨by rfl, rfl⟩) ?_ ?_;rotate_left
         ·simp only [Act.put, qz1, qz2, qz3, i64_w, i32_w];rfl
         refine pure_ (i := 24) (N := some 56) (v := undef) (a' := ?_) (bqz 28 33554431) rfl rfl (by kernel_rfl) (fun _ _ _ h => h) (Or.inr ⟨by rfl, rfl⟩) ?_ ?_;rotate_left
         ·simp only [Act.put, qz1, qz2, qz3, i64_w, i32_w];rfl
         refine pure_ (i := 25) (N := some 57) (v := undef) (a' := ?_) (bqz 28 67108863) rfl rfl (by kernel_rfl) (fun _ _ _ h => h) (Or.inr ⟨by rfl, rfl⟩) ?_ ?_;rotate_left
         ·simp only [Act.put, qz1, qz2, qz3, i64_w, i32_w];rfl
         refine pqz 26 (some 58) (bqz 28 134217727) rfl rfl (by kernel_rfl) ?_ ?_ (fun _ _ _ h => h) (by rfl) ?_ ?_ ?_;rotate_left 2;intro w';go_simp;(with_reducible rfl);simp only [Act.put, qz1, qz2, qz3, i64_w, i32_w];rfl
         refine pqz 27 (some 59) (bqz 28 268435455) rfl rfl (by kernel_rfl) ?_ ?_ (fun _ _ _ h => h) (by rfl) ?_ ?_ ?_;rotate_left 2;intro w';go_simp;(with_reducible rfl);simp only [Act.put, qz1, qz2, qz3, i64_w, i32_w];rfl
         refine done_ (by kernel_rfl) ?_;have HSet := Aside0.mk (show stepP n es Pk k = Pk.set k false by unfold stepP; rw [← HZ.out, ← HKq.out, ← HKr.out, HFs.out]; rfl);have d9 := later a4.out b2.out;have e0 := (frozen_later a4.out (World.block_lt_of_cell? _ _ b2.out)).trans b9.out;obtain ⟨a6, a5⟩ := Kd.R_putg (Kd.R_below a0.out a4.out) (k : Int) false;rw [Int.toNat_natCast] at a6 a5;have HR2' := Aside0.mk a6;have b1 := Aside0.mk (blk_grown (g := w.heap.size) (a1.out.below a4.out) a5 (by have := Kd.R_ne a0.out a1.out (by decide); simpa [Value.ownBlock] using this));have b0 := Aside0.mk (below_set (g := g) (j := k) (v := .bool false) (below_then a2.out a2.out.size a4.out) HG.out)
         have HDec := Aside0.mk (show decide (sweepTo n es P (k + 1) ≠ P) = true by
          rw [HStep.out, HSet.out, decide_eq_true_eq];intro e;have h1 := count_set_lt (P := Pk) (i := k) HZ.out.symm;rw [e] at h1;rcases sweepTo_count n es P k with h2 | h2
          ·rw [← HPk.out] at h2; rw [h2] at h1; omega
          ·rw [← HPk.out] at h2; omega)
         clear a6 a5;go_wp2
         go_roundw
         case rel => exact ⟨k + 1, by omega, by go_num, by rw [HDec.out], ⟨by rw [HStep.out, HSet.out]; exact HR2'.out⟩, b1, b0⟩
         case measure => simp [intOf]; omega
        | true =>
         cases f2 with
         | false =>
          go_wp2_with fail
          refine start_ (n := 28) (S := fun w' => w'.cell? ⟨w.heap.size, 0, none⟩ = some (.int .i64 (n : Int)) ∧ w'.cell? ⟨w.heap.size, 1, none⟩ = some v1 ∧ w'.cell? ⟨w.heap.size, 2, none⟩ = some (.slice A2 es.length c2) ∧ w'.cell? ⟨g, k, none⟩ = some (.bool true)) (ds := []) (bqz 28 0) (by kernel_rfl) rfl rfl ⟨a1.out.c0, a1.out.c1, a1.out.c2, hc⟩ (fun hHeld => ?_);have HV := Aside0.mk (below_drew1 (Below.refl wr.heap.size wr));generalize wr.drew = V at HV hHeld ⊢;clear hc;refine pqz 0 (some 32) (bqz 28 1) rfl rfl (by kernel_rfl) ?_ ?_ (fun _ _ _ h => h) (by rfl) ?_ ?_ ?_;rotate_left 2;intro w';go_simp;(with_reducible rfl);simp only [Act.put, qz1, qz2, qz3, i64_w, i32_w];rfl
          refine pqz 1 (some 33) (bqz 28 3) rfl rfl (by kernel_rfl) ?_ ?_ (fun _ _ _ h => h) (by rfl) ?_ ?_ ?_;rotate_left 2;intro w';go_simp;(with_reducible rfl);simp only [Act.put, qz1, qz2, qz3, i64_w, i32_w];rfl
          refine pqz 2 (some 34) (bqz 28 7) rfl rfl (by kernel_rfl) ?_ ?_ (fun _ _ _ h => h) (by rfl) ?_ ?_ ?_;rotate_left 2;intro w';go_simp;(with_reducible rfl);simp only [Act.put, qz1, qz2, qz3, i64_w, i32_w];rfl
          refine tqz 3 (some 35) (bqz 28 15) rfl rfl (by kernel_rfl) ?_ ?_ (fun _ _ _ h => h) (by rfl) ?_ hHeld ?_ ?_;rotate_left 2;rintro w' ⟨s0, s1, s2, s3⟩;go_simp;(with_reducible rfl);simp only [Act.put, qz1, qz2, qz3, i64_w, i32_w];rfl
          refine pqz 4 (some 36) (bqz 28 31) rfl rfl (by kernel_rfl) ?_ ?_ (fun _ _ _ h => h) (by rfl) ?_ ?_ ?_;rotate_left 2;intro w';go_simp;(with_reducible rfl);simp only [Act.put, qz1, qz2, qz3, i64_w, i32_w];rfl
          refine pqz 6 (some 38) (bqz 28 95) rfl rfl (by kernel_rfl) ?_ ?_ (fun _ _ _ h => h) (by rfl) ?_ ?_ ?_;rotate_left 2;intro w';go_simp;(with_reducible rfl);simp only [Act.put, qz1, qz2, qz3, i64_w, i32_w];rfl
          refine pqz 7 (some 39) (bqz 28 223) rfl rfl (by kernel_rfl) ?_ ?_ (fun _ _ _ h => h) (by rfl) ?_ ?_ ?_;rotate_left 2;intro w';go_simp;(with_reducible rfl);simp only [Act.put, qz1, qz2, qz3, i64_w, i32_w];rfl
          refine pqz 8 (some 40) (bqz 28 479) rfl rfl (by kernel_rfl) ?_ ?_ (fun _ _ _ h => h) (by rfl) ?_ ?_ ?_;rotate_left 2;intro w';go_simp;(with_reducible rfl);simp only [Act.put, qz1, qz2, qz3, i64_w, i32_w];rfl
          refine pqz 9 (some 41) (bqz 28 991) rfl rfl (by kernel_rfl) ?_ ?_ (fun _ _ _ h => h) (by rfl) ?_ ?_ ?_;rotate_left 2;intro w';go_simp;(with_reducible rfl);simp only [Act.put, qz1, qz2, qz3, i64_w, i32_w];rfl
          refine pqz 10 (some 42) (bqz 28 2015) rfl rfl (by kernel_rfl) ?_ ?_ (fun _ _ _ h => h) (by rfl) ?_ ?_ ?_;rotate_left 2;intro w';go_simp;(with_reducible rfl);simp only [Act.put, qz1, qz2, qz3, i64_w, i32_w];rfl
          refine pqz 11 (some 43) (bqz 28 4063) rfl rfl (by kernel_rfl) ?_ ?_ (fun _ _ _ h => h) (by rfl) ?_ ?_ ?_;rotate_left 2;intro w';go_simp;(with_reducible rfl);simp only [Act.put, qz1, qz2, qz3, i64_w, i32_w];rfl
          refine pqz 12 (some 44) (bqz 28 8159) rfl rfl (by kernel_rfl) ?_ ?_ (fun _ _ _ h => h) (by rfl) ?_ ?_ ?_;rotate_left 2;intro w';go_simp;(with_reducible rfl);simp only [Act.put, qz1, qz2, qz3, i64_w, i32_w];rfl
          refine tqz 5 (some 37) (bqz 28 8191) rfl rfl (by kernel_rfl) ?_ ?_ (fun _ _ _ h => h) (by rfl) ?_ hHeld ?_ ?_;rotate_left 2;rintro w' ⟨s0, s1, s2, s3⟩;go_simp;(with_reducible rfl);simp only [Act.put, qz1, qz2, qz3, i64_w, i32_w];rfl
          refine one_ (i := 13) (N := some 45) (bqz 28 16383) rfl rfl (by kernel_rfl) (by decide) (fun K hK => ?_);refine goes_ Try.func119 (by kernel_rfl) rfl #[.agg #[.int .i64 n, v1, .slice A2 es.length c2], .slice (some ⟨g, 0, none⟩) N N, .int .i64 (kq : Int), .int .i64 (kr : Int)] (by rfl) rfl rfl (by simp only [List.map_toArray, List.map_cons, List.map_nil]; rfl) ?_;refine (b3.out _ HV.out).mono ?_;rintro e w3 ⟨rfl, hB⟩;refine ⟨_, rfl, ?_⟩;have a3 := Aside0.mk hB;have a4 := Aside0.mk (below_then HV.out HV.out.size hB);clear hB;refine hK.out _ _ ⟨later a3.out hHeld.1, later a3.out hHeld.2.1, later a3.out hHeld.2.2.1, later a3.out hHeld.2.2.2⟩ (fun hHeld => ?_);clear hK K;refine norm_ (a' := ?_) ?_ ?_;rotate_left
          ·show Act.put _ (some 45) _ = _;simp only [Act.put, qz1, qz2, qz3, i64_w, i32_w];rfl
          refine pqz 14 (some 46) (bqz 28 32767) rfl rfl (by kernel_rfl) ?_ ?_ (fun _ _ _ h => h) (by rfl) ?_ ?_ ?_;rotate_left 2;intro w';go_simp;(with_reducible rfl);simp only [Act.put, qz1, qz2, qz3, i64_w, i32_w];rfl
          refine pqz 15 (some 47) (bqz 28 65535) rfl rfl (by kernel_rfl) ?_ ?_ (fun _ _ _ h => h) (by rfl) ?_ ?_ ?_;rotate_left 2;intro w';go_simp;(with_reducible rfl);simp only [Act.put, qz1, qz2, qz3, i64_w, i32_w];rfl
          refine pqz 17 (some 49) (bqz 28 196607) rfl rfl (by kernel_rfl) ?_ ?_ (fun _ _ _ h => h) (by rfl) ?_ ?_ ?_;rotate_left 2;intro w';go_simp;(with_reducible rfl);simp only [Act.put, qz1, qz2, qz3, i64_w, i32_w];rfl
          refine pqz 18 (some 50) (bqz 28 458751) rfl rfl (by kernel_rfl) ?_ ?_ (fun _ _ _ h => h) (by rfl) ?_ ?_ ?_;rotate_left 2;intro w';go_simp;(with_reducible rfl);simp only [Act.put, qz1, qz2, qz3, i64_w, i32_w];rfl
          refine pqz 19 (some 51) (bqz 28 983039) rfl rfl (by kernel_rfl) ?_ ?_ (fun _ _ _ h => h) (by rfl) ?_ ?_ ?_;rotate_left 2;intro w';go_simp;(with_reducible rfl);simp only [Act.put, qz1, qz2, qz3, i64_w, i32_w];rfl
          refine pqz 20 (some 52) (bqz 28 2031615) rfl rfl (by kernel_rfl) ?_ ?_ (fun _ _ _ h => h) (by rfl) ?_ ?_ ?_;rotate_left 2;intro w';go_simp;(with_reducible rfl);simp only [Act.put, qz1, qz2, qz3, i64_w, i32_w];rfl
          refine pqz 21 (some 53) (bqz 28 4128767) rfl rfl (by kernel_rfl) ?_ ?_ (fun _ _ _ h => h) (by rfl) ?_ ?_ ?_;rotate_left 2;intro w';go_simp;(with_reducible rfl);simp only [Act.put, qz1, qz2, qz3, i64_w, i32_w];rfl
          refine pqz 22 (some 54) (bqz 28 8323071) rfl rfl (by kernel_rfl) ?_ ?_ (fun _ _ _ h => h) (by rfl) ?_ ?_ ?_;rotate_left 2;intro w';go_simp;(with_reducible rfl);simp only [Act.put, qz1, qz2, qz3, i64_w, i32_w];rfl
          refine pqz 23 (some 55) (bqz 28 16711679) rfl rfl (by kernel_rfl) ?_ ?_ (fun _ _ _ h => h) (by rfl) ?_ ?_ ?_;rotate_left 2;intro w';go_simp;(with_reducible rfl);simp only [Act.put, qz1, qz2, qz3, i64_w, i32_w];rfl
          refine tqz 16 (some 48) (bqz 28 16777215) rfl rfl (by kernel_rfl) ?_ ?_ (fun _ _ _ h => h) (by rfl) ?_ hHeld ?_ ?_;rotate_left 2;rintro w' ⟨s0, s1, s2, s3⟩;go_simp;(with_reducible rfl);simp only [Act.put, qz1, qz2, qz3, i64_w, i32_w];rfl
          refine one_ (i := 24) (N := some 56) (bqz 28 33554431) rfl rfl (by kernel_rfl) (by decide) (fun K hK => ?_);refine goes_ Try.func119 (by kernel_rfl) rfl #[.agg #[.int .i64 n, v1, .slice A2 es.length c2], .slice (some ⟨g, 0, none⟩) N N, .int .i64 (kr : Int), .int .i64 (kq : Int)] (by rfl) rfl rfl (by simp only [List.map_toArray, List.map_cons, List.map_nil]; rfl) ?_;refine (d0.out _ a4.out).mono ?_;rintro e w4 ⟨rfl, hB⟩;refine ⟨_, rfl, ?_⟩;have a7 := Aside0.mk hB;have a8 := Aside0.mk (below_then a4.out a4.out.size hB);clear hB;refine hK.out _ _ ⟨later a7.out hHeld.1, later a7.out hHeld.2.1, later a7.out hHeld.2.2.1, later a7.out hHeld.2.2.2⟩ (fun hHeld => ?_);clear hK K;refine norm_ (a' := ?_) ?_ ?_;rotate_left
          ·show Act.put _ (some 56) _ = _;simp only [Act.put, qz1, qz2, qz3, i64_w, i32_w];rfl
          refine pqz 25 (some 57) (bqz 28 67108863) rfl rfl (by kernel_rfl) ?_ ?_ (fun _ _ _ h => h) (by rfl) ?_ ?_ ?_;rotate_left 2;intro w';go_simp;(with_reducible rfl);simp only [Act.put, qz1, qz2, qz3, i64_w, i32_w];rfl
          refine pqz 26 (some 58) (bqz 28 134217727) rfl rfl (by kernel_rfl) ?_ ?_ (fun _ _ _ h => h) (by rfl) ?_ ?_ ?_;rotate_left 2;intro w';go_simp;(with_reducible rfl);simp only [Act.put, qz1, qz2, qz3, i64_w, i32_w];rfl
          refine pqz 27 (some 59) (bqz 28 268435455) rfl rfl (by kernel_rfl) ?_ ?_ (fun _ _ _ h => h) (by rfl) ?_ ?_ ?_;rotate_left 2;intro w';go_simp;(with_reducible rfl);simp only [Act.put, qz1, qz2, qz3, i64_w, i32_w];rfl
          refine done_ (by kernel_rfl) ?_;have HSet := Aside0.mk (show stepP n es Pk k = Pk.set k false by unfold stepP; rw [← HZ.out, ← HKq.out, ← HKr.out, HFs.out]; rfl);have d9 := later a8.out b2.out;have e0 := (frozen_later a8.out (World.block_lt_of_cell? _ _ b2.out)).trans b9.out;obtain ⟨a6, a5⟩ := Kd.R_putg (Kd.R_below a0.out a8.out) (k : Int) false;rw [Int.toNat_natCast] at a6 a5;have HR2' := Aside0.mk a6;have b1 := Aside0.mk (blk_grown (g := w.heap.size) (a1.out.below a8.out) a5 (by have := Kd.R_ne a0.out a1.out (by decide); simpa [Value.ownBlock] using this));have b0 := Aside0.mk (below_set (g := g) (j := k) (v := .bool false) (below_then a2.out a2.out.size a8.out) HG.out)
          have HDec := Aside0.mk (show decide (sweepTo n es P (k + 1) ≠ P) = true by
           rw [HStep.out, HSet.out, decide_eq_true_eq];intro e;have h1 := count_set_lt (P := Pk) (i := k) HZ.out.symm;rw [e] at h1;rcases sweepTo_count n es P k with h2 | h2
           ·rw [← HPk.out] at h2; rw [h2] at h1; omega
           ·rw [← HPk.out] at h2; omega)
          clear a6 a5;go_wp2
          go_roundw
          case rel => exact ⟨k + 1, by omega, by go_num, by rw [HDec.out], ⟨by rw [HStep.out, HSet.out]; exact HR2'.out⟩, b1, b0⟩
          case measure => simp [intOf]; omega
         | true =>
          have HSame := Aside0.mk (show stepP n es Pk k = Pk by unfold stepP; rw [← HZ.out, ← HKq.out, ← HKr.out, HFs.out]; rfl);go_wp2_with fail
          refine start_ (n := 28) (S := fun w' => w'.cell? ⟨w.heap.size, 0, none⟩ = some (.int .i64 (n : Int)) ∧ w'.cell? ⟨w.heap.size, 1, none⟩ = some v1 ∧ w'.cell? ⟨w.heap.size, 2, none⟩ = some (.slice A2 es.length c2) ∧ w'.cell? ⟨g, k, none⟩ = some (.bool true)) (ds := []) (bqz 28 0) (by kernel_rfl) rfl rfl ⟨a1.out.c0, a1.out.c1, a1.out.c2, hc⟩ (fun hHeld => ?_);have HV := Aside0.mk (below_drew1 (Below.refl wr.heap.size wr));generalize wr.drew = V at HV hHeld ⊢;clear hc;refine pqz 0 (some 32) (bqz 28 1) rfl rfl (by kernel_rfl) ?_ ?_ (fun _ _ _ h => h) (by rfl) ?_ ?_ ?_;rotate_left 2;intro w';go_simp;(with_reducible rfl);simp only [Act.put, qz1, qz2, qz3, i64_w, i32_w];rfl
          refine pqz 1 (some 33) (bqz 28 3) rfl rfl (by kernel_rfl) ?_ ?_ (fun _ _ _ h => h) (by rfl) ?_ ?_ ?_;rotate_left 2;intro w';go_simp;(with_reducible rfl);simp only [Act.put, qz1, qz2, qz3, i64_w, i32_w];rfl
          refine pqz 2 (some 34) (bqz 28 7) rfl rfl (by kernel_rfl) ?_ ?_ (fun _ _ _ h => h) (by rfl) ?_ ?_ ?_;rotate_left 2;intro w';go_simp;(with_reducible rfl);simp only [Act.put, qz1, qz2, qz3, i64_w, i32_w];rfl
          refine tqz 3 (some 35) (bqz 28 15) rfl rfl (by kernel_rfl) ?_ ?_ (fun _ _ _ h => h) (by rfl) ?_ hHeld ?_ ?_;rotate_left 2;rintro w' ⟨s0, s1, s2, s3⟩;go_simp;(with_reducible rfl);simp only [Act.put, qz1, qz2, qz3, i64_w, i32_w];rfl
          refine pqz 4 (some 36) (bqz 28 31) rfl rfl (by kernel_rfl) ?_ ?_ (fun _ _ _ h => h) (by rfl) ?_ ?_ ?_;rotate_left 2;intro w';go_simp;(with_reducible rfl);simp only [Act.put, qz1, qz2, qz3, i64_w, i32_w];rfl
          refine pqz 6 (some 38) (bqz 28 95) rfl rfl (by kernel_rfl) ?_ ?_ (fun _ _ _ h => h) (by rfl) ?_ ?_ ?_;rotate_left 2;intro w';go_simp;(with_reducible rfl);simp only [Act.put, qz1, qz2, qz3, i64_w, i32_w];rfl
          refine pqz 7 (some 39) (bqz 28 223) rfl rfl (by kernel_rfl) ?_ ?_ (fun _ _ _ h => h) (by rfl) ?_ ?_ ?_;rotate_left 2;intro w';go_simp;(with_reducible rfl);simp only [Act.put, qz1, qz2, qz3, i64_w, i32_w];rfl
          refine pqz 8 (some 40) (bqz 28 479) rfl rfl (by kernel_rfl) ?_ ?_ (fun _ _ _ h => h) (by rfl) ?_ ?_ ?_;rotate_left 2;intro w';go_simp;(with_reducible rfl);simp only [Act.put, qz1, qz2, qz3, i64_w, i32_w];rfl
          refine pqz 9 (some 41) (bqz 28 991) rfl rfl (by kernel_rfl) ?_ ?_ (fun _ _ _ h => h) (by rfl) ?_ ?_ ?_;rotate_left 2;intro w';go_simp;(with_reducible rfl);simp only [Act.put, qz1, qz2, qz3, i64_w, i32_w];rfl
          refine pqz 10 (some 42) (bqz 28 2015) rfl rfl (by kernel_rfl) ?_ ?_ (fun _ _ _ h => h) (by rfl) ?_ ?_ ?_;rotate_left 2;intro w';go_simp;(with_reducible rfl);simp only [Act.put, qz1, qz2, qz3, i64_w, i32_w];rfl
          refine pqz 11 (some 43) (bqz 28 4063) rfl rfl (by kernel_rfl) ?_ ?_ (fun _ _ _ h => h) (by rfl) ?_ ?_ ?_;rotate_left 2;intro w';go_simp;(with_reducible rfl);simp only [Act.put, qz1, qz2, qz3, i64_w, i32_w];rfl
          refine pqz 12 (some 44) (bqz 28 8159) rfl rfl (by kernel_rfl) ?_ ?_ (fun _ _ _ h => h) (by rfl) ?_ ?_ ?_;rotate_left 2;intro w';go_simp;(with_reducible rfl);simp only [Act.put, qz1, qz2, qz3, i64_w, i32_w];rfl
          refine tqz 5 (some 37) (bqz 28 8191) rfl rfl (by kernel_rfl) ?_ ?_ (fun _ _ _ h => h) (by rfl) ?_ hHeld ?_ ?_;rotate_left 2;rintro w' ⟨s0, s1, s2, s3⟩;go_simp;(with_reducible rfl);simp only [Act.put, qz1, qz2, qz3, i64_w, i32_w];rfl
          refine one_ (i := 13) (N := some 45) (bqz 28 16383) rfl rfl (by kernel_rfl) (by decide) (fun K hK => ?_);refine goes_ Try.func119 (by kernel_rfl) rfl #[.agg #[.int .i64 n, v1, .slice A2 es.length c2], .slice (some ⟨g, 0, none⟩) N N, .int .i64 (kq : Int), .int .i64 (kr : Int)] (by rfl) rfl rfl (by simp only [List.map_toArray, List.map_cons, List.map_nil]; rfl) ?_;refine (b3.out _ HV.out).mono ?_;rintro e w3 ⟨rfl, hB⟩;refine ⟨_, rfl, ?_⟩;have a3 := Aside0.mk hB;have a4 := Aside0.mk (below_then HV.out HV.out.size hB);clear hB;refine hK.out _ _ ⟨later a3.out hHeld.1, later a3.out hHeld.2.1, later a3.out hHeld.2.2.1, later a3.out hHeld.2.2.2⟩ (fun hHeld => ?_);clear hK K;refine norm_ (a' := ?_) ?_ ?_;rotate_left
          ·show Act.put _ (some 45) _ = _;simp only [Act.put, qz1, qz2, qz3, i64_w, i32_w];rfl
          refine pqz 14 (some 46) (bqz 28 32767) rfl rfl (by kernel_rfl) ?_ ?_ (fun _ _ _ h => h) (by rfl) ?_ ?_ ?_;rotate_left 2;intro w';go_simp;(with_reducible rfl);simp only [Act.put, qz1, qz2, qz3, i64_w, i32_w];rfl
          refine pqz 15 (some 47) (bqz 28 65535) rfl rfl (by kernel_rfl) ?_ ?_ (fun _ _ _ h => h) (by rfl) ?_ ?_ ?_;rotate_left 2;intro w';go_simp;(with_reducible rfl);simp only [Act.put, qz1, qz2, qz3, i64_w, i32_w];rfl
          refine pqz 17 (some 49) (bqz 28 196607) rfl rfl (by kernel_rfl) ?_ ?_ (fun _ _ _ h => h) (by rfl) ?_ ?_ ?_;rotate_left 2;intro w';go_simp;(with_reducible rfl);simp only [Act.put, qz1, qz2, qz3, i64_w, i32_w];rfl
          refine pqz 18 (some 50) (bqz 28 458751) rfl rfl (by kernel_rfl) ?_ ?_ (fun _ _ _ h => h) (by rfl) ?_ ?_ ?_;rotate_left 2;intro w';go_simp;(with_reducible rfl);simp only [Act.put, qz1, qz2, qz3, i64_w, i32_w];rfl
          refine pqz 19 (some 51) (bqz 28 983039) rfl rfl (by kernel_rfl) ?_ ?_ (fun _ _ _ h => h) (by rfl) ?_ ?_ ?_;rotate_left 2;intro w';go_simp;(with_reducible rfl);simp only [Act.put, qz1, qz2, qz3, i64_w, i32_w];rfl
          refine pqz 20 (some 52) (bqz 28 2031615) rfl rfl (by kernel_rfl) ?_ ?_ (fun _ _ _ h => h) (by rfl) ?_ ?_ ?_;rotate_left 2;intro w';go_simp;(with_reducible rfl);simp only [Act.put, qz1, qz2, qz3, i64_w, i32_w];rfl
          refine pqz 21 (some 53) (bqz 28 4128767) rfl rfl (by kernel_rfl) ?_ ?_ (fun _ _ _ h => h) (by rfl) ?_ ?_ ?_;rotate_left 2;intro w';go_simp;(with_reducible rfl);simp only [Act.put, qz1, qz2, qz3, i64_w, i32_w];rfl
          refine pqz 22 (some 54) (bqz 28 8323071) rfl rfl (by kernel_rfl) ?_ ?_ (fun _ _ _ h => h) (by rfl) ?_ ?_ ?_;rotate_left 2;intro w';go_simp;(with_reducible rfl);simp only [Act.put, qz1, qz2, qz3, i64_w, i32_w];rfl
          refine pqz 23 (some 55) (bqz 28 16711679) rfl rfl (by kernel_rfl) ?_ ?_ (fun _ _ _ h => h) (by rfl) ?_ ?_ ?_;rotate_left 2;intro w';go_simp;(with_reducible rfl);simp only [Act.put, qz1, qz2, qz3, i64_w, i32_w];rfl
          refine tqz 16 (some 48) (bqz 28 16777215) rfl rfl (by kernel_rfl) ?_ ?_ (fun _ _ _ h => h) (by rfl) ?_ hHeld ?_ ?_;rotate_left 2;rintro w' ⟨s0, s1, s2, s3⟩;go_simp;(with_reducible rfl);simp only [Act.put, qz1, qz2, qz3, i64_w, i32_w];rfl
          refine one_ (i := 24) (N := some 56) (bqz 28 33554431) rfl rfl (by kernel_rfl) (by decide) (fun K hK => ?_);refine goes_ Try.func119 (by kernel_rfl) rfl #[.agg #[.int .i64 n, v1, .slice A2 es.length c2], .slice (some ⟨g, 0, none⟩) N N, .int .i64 (kr : Int), .int .i64 (kq : Int)] (by rfl) rfl rfl (by simp only [List.map_toArray, List.map_cons, List.map_nil]; rfl) ?_;refine (d0.out _ a4.out).mono ?_;rintro e w4 ⟨rfl, hB⟩;refine ⟨_, rfl, ?_⟩;have a7 := Aside0.mk hB;have a8 := Aside0.mk (below_then a4.out a4.out.size hB);clear hB;refine hK.out _ _ ⟨later a7.out hHeld.1, later a7.out hHeld.2.1, later a7.out hHeld.2.2.1, later a7.out hHeld.2.2.2⟩ (fun hHeld => ?_);clear hK K;refine norm_ (a' := ?_) ?_ ?_;rotate_left
          ·show Act.put _ (some 56) _ = _;simp only [Act.put, qz1, qz2, qz3, i64_w, i32_w];rfl
          refine pqz 25 (some 57) (bqz 28 67108863) rfl rfl (by kernel_rfl) ?_ ?_ (fun _ _ _ h => h) (by rfl) ?_ ?_ ?_;rotate_left 2;intro w';go_simp;(with_reducible rfl);simp only [Act.put, qz1, qz2, qz3, i64_w, i32_w];rfl
          refine pqz 26 (some 58) (bqz 28 134217727) rfl rfl (by kernel_rfl) ?_ ?_ (fun _ _ _ h => h) (by rfl) ?_ ?_ ?_;rotate_left 2;intro w';go_simp;(with_reducible rfl);simp only [Act.put, qz1, qz2, qz3, i64_w, i32_w];rfl
          refine pqz 27 (some 59) (bqz 28 268435455) rfl rfl (by kernel_rfl) ?_ ?_ (fun _ _ _ h => h) (by rfl) ?_ ?_ ?_;rotate_left 2;intro w';go_simp;(with_reducible rfl);simp only [Act.put, qz1, qz2, qz3, i64_w, i32_w];rfl
          refine done_ (by kernel_rfl) ?_;go_wp2
          go_roundw
          case rel => exact ⟨k + 1, by omega, by go_num, by rw [HCh.out, HStep.out, HSame.out, HPk.out], ⟨by rw [HStep.out, HSame.out]; exact Kd.R_below a0.out a8.out⟩, ⟨a1.out.below a8.out⟩, ⟨below_then a2.out a2.out.size a8.out⟩⟩
          case measure => simp [intOf]; omega
      ·have ek : k = N := by omega
       obtain ⟨P2, a9⟩ : ∃ P2, P2 = sweepTo n es P k := ⟨_, rfl⟩
       have hst : ∃ f, (if decide (P2 ≠ P) then iterP n es f P2 else P2) = pairsR n es ∧ P2.count true < f ∧ P2.length = N := by
        obtain ⟨f, h1, h2, h3⟩ := HST.out;replace h1 : iterP n es f P = pairsR n es := by simpa using h1
        cases f with
        | zero => omega
        | succ f =>
         unfold iterP at h1;rw [← HN.out, ← ek, ← a9] at h1;by_cases e : P2 = P
         ·rw [if_pos e] at h1;rw [decide_eq_false (by simpa using e)];exact ⟨f + 1, by rw [e]; simpa using h1, by rw [e]; exact h2, by rw [e]; exact h3⟩
         ·rw [if_neg e] at h1
          have d5 : P2.count true < P.count true := by
           rcases sweepTo_count n es P k with h4 | h4
           ·exact absurd (a9.trans h4) e
           ·rw [a9]; exact h4
          rw [decide_eq_true e];exact ⟨f, by simpa using h1, by omega, by rw [a9, sweepTo_length]; exact h3⟩
       have b4 := Aside0.mk hst
       have hms : 2 * P2.count true + (if decide (P2 ≠ P) then 1 else 0) < 2 * P.count true + 1 := by
        by_cases e : P2 = P
        ·rw [decide_eq_false (by simpa using e), e]; simp
        ·have d5 : P2.count true < P.count true := by
          rcases sweepTo_count n es P k with h4 | h4
          ·exact absurd (a9.trans h4) e
          ·rw [a9]; exact h4
         rw [decide_eq_true e];simp;omega
       have HMs := Aside0.mk hms;rw [← a9] at a0 ⊢;obtain ⟨ch, hch⟩ : ∃ ch, ch = decide (P2 ≠ P) := ⟨_, rfl⟩
       rw [← hch] at b4 HMs ⊢
       have d4 : 2 * P2.count true + (if ch then 1 else 0) < gk := by
        have h1 := HMs.out;have h2 : 2 * P.count true + 1 ≤ gk := by simpa using d6.out
        omega
       have d7 := Aside0.mk d4;clear d4 hch a9 hst hms;go_wp2
       go_roundg (2 * P2.count true + (if ch then 1 else 0))
       case measure => exact d7.out
       case rel => exact ⟨P2, ch, rfl, ⟨Nat.le_refl _⟩, b4, a0, a1, a2⟩
end Go.Proofs.Ytmcbkmfpmcbdpaa.H
namespace Go.Proofs.Ytmcbkmfpmcbdpaa.H
open Go.RowKit Go.Proofs.Ytmcbkmfpmcbdpaa.Pr Go.Proofs.YtmcbkmfpmcbdpaaW.PrintWords Go.Proofs.Ytmcbkmfpmcbdpaa.Sem
def Post (es : List Ed) (S : Int → Int → Bool) : Prop := ∀ a b, S a b = true → followsB es S false a b = true ∧ followsB es S true a b = true
theorem fol_iff (es : List Ed) (S : Int → Int → Bool) (a b : Int) : followsB es S false a b = true ↔ ∀ e ∈ es, e.f0 = a → ∃ f ∈ es, f.f0 = b ∧ e.f1 = f.f1 ∧ S e.f2 f.f2 = true := by
 unfold followsB outE answers
 simp only [Bool.false_eq_true, if_false, List.all_eq_true, List.any_eq_true, List.mem_filter, decide_eq_true_eq, Bool.and_eq_true, beq_iff_eq]
 constructor
 ·intro h e he hea
  obtain ⟨f, ⟨h1, h2⟩, h3, h4⟩ := h e ⟨he, hea⟩
  exact ⟨f, h1, h2, h3, h4⟩
 ·rintro h e ⟨he, hea⟩
  obtain ⟨f, h1, h2, h3, h4⟩ := h e he hea
  exact ⟨f, ⟨h1, h2⟩, h3, h4⟩
theorem folT_iff (es : List Ed) (S : Int → Int → Bool) (a b : Int) : followsB es S true a b = true ↔ ∀ e ∈ es, e.f0 = b → ∃ f ∈ es, f.f0 = a ∧ e.f1 = f.f1 ∧ S f.f2 e.f2 = true := by
 unfold followsB outE answers
 simp only [if_true, List.all_eq_true, List.any_eq_true, List.mem_filter, decide_eq_true_eq, Bool.and_eq_true, beq_iff_eq]
 constructor
 ·intro h e he hea
  obtain ⟨f, ⟨h1, h2⟩, h3, h4⟩ := h e ⟨he, hea⟩
  exact ⟨f, h1, h2, h3, h4⟩
 ·rintro h e ⟨he, hea⟩
  obtain ⟨f, h1, h2, h3, h4⟩ := h e he hea
  exact ⟨f, ⟨h1, h2⟩, h3, h4⟩
theorem fol_mono {es : List Ed} {S S' : Int → Int → Bool} (h : ∀ x y, S x y = true → S' x y = true) (t : Bool) (a b : Int) (hf : followsB es S t a b = true) : followsB es S' t a b = true := by
 cases t with
 | false =>
  rw [fol_iff] at hf ⊢
  intro e he hea
  obtain ⟨f, h1, h2, h3, h4⟩ := hf e he hea
  exact ⟨f, h1, h2, h3, h _ _ h4⟩
 | true =>
  rw [folT_iff] at hf ⊢
  intro e he hea
  obtain ⟨f, h1, h2, h3, h4⟩ := hf e he hea
  exact ⟨f, h1, h2, h3, h _ _ h4⟩
theorem both_iff (es : List Ed) (S : Int → Int → Bool) (p : Pair) : bothB es S p = true ↔ followsB es S false p.f0 p.f1 = true ∧ followsB es S true p.f0 p.f1 = true := by
 unfold bothB
 rw [Bool.and_eq_true]
theorem relS_iff (rel : List Pair) (a b : Int) : relS rel a b = true ↔ (⟨a, b⟩ : Pair) ∈ rel := by
 unfold relS
 rw [List.any_eq_true]
 constructor
 ·rintro ⟨p, hp, h⟩
  simp only [Bool.and_eq_true, decide_eq_true_eq] at h
  have : p = ⟨a, b⟩ := pair_eq.2 h
  rwa [← this]
 ·intro h
  exact ⟨_, h, by simp⟩
theorem pass_keep {es : List Ed} {R : Int → Int → Bool} (hR : Post es R) : ∀ (rel : List Pair) (S : Int → Int → Bool), (∀ x y, R x y = true → S x y = true) → ∀ x y, R x y = true → passS es rel S x y = true
 | [], S, h => h
 | p :: r, S, h => by
  cases hb : bothB es S p with
  | false =>
   have hnp : R p.f0 p.f1 = false := by
    rw [Bool.eq_false_iff]
    intro hp
    have := hR _ _ hp
    have h2 := (both_iff es S p).2 ⟨fol_mono h false _ _ this.1, fol_mono h true _ _ this.2⟩
    rw [hb] at h2
    cases h2
   have h' : ∀ x y, R x y = true → lessP S p.f0 p.f1 x y = true := by
    intro x y hxy
    unfold lessP
    rw [h x y hxy]
    have : ¬ (x = p.f0 ∧ y = p.f1) := by
     rintro ⟨rfl, rfl⟩
     rw [hnp] at hxy
     cases hxy
    have e : (decide (x = p.f0) && decide (y = p.f1)) = false := by simpa using this
    rw [e]
    rfl
   have := pass_keep hR r _ h'
   simpa [passS, hb] using this
  | true =>
   have := pass_keep hR r S h
   simpa [passS, hb] using this
theorem pass_stable (es : List Ed) : ∀ (rel : List Pair) (S : Int → Int → Bool), (passK es rel S).length = rel.length → passK es rel S = rel ∧ ∀ p ∈ rel, bothB es S p = true
 | [], S, _ => ⟨rfl, by simp⟩
 | p :: r, S, h => by
  cases hb : bothB es S p with
  | false =>
   simp [passK, hb] at h
   have := (passK_sub es r (lessP S p.f0 p.f1)).length_le
   omega
  | true =>
   simp [passK, hb] at h
   obtain ⟨a, c⟩ := pass_stable es r S h
   refine ⟨by simp [passK, hb, a], fun q hq => ?_⟩
   rcases List.mem_cons.1 hq with rfl | hq
   ·exact hb
   ·exact c q hq
theorem relS_less {pre r : List Pair} {p : Pair} (h : (pre ++ p :: r).Nodup) : lessP (relS (pre ++ p :: r)) p.f0 p.f1 = relS (pre ++ r) := by
 have hp1 : p ∉ pre := fun hm => by
  have := (List.nodup_append.1 h).2.2 p hm p (List.mem_cons_self ..)
  exact this rfl
 have hp2 : p ∉ r := (List.nodup_cons.1 (List.nodup_append.1 h).2.1).1
 funext a b
 rw [Bool.eq_iff_iff]
 unfold lessP
 rw [Bool.and_eq_true, relS_iff, relS_iff]
 simp only [List.mem_append, List.mem_cons, Bool.not_eq_true', Bool.and_eq_false_iff, decide_eq_false_iff_not]
 constructor
 ·rintro ⟨h1 | h1 | h1, h2⟩
  ·exact .inl h1
  ·rcases pair_eq.1 h1 with ⟨h3, h4⟩
   simp only at h3 h4
   rcases h2 with h2 | h2
   ·exact absurd h3 h2
   ·exact absurd h4 h2
  ·exact .inr h1
 ·intro h1
  refine ⟨?_, ?_⟩
  ·rcases h1 with h1 | h1
   ·exact .inl h1
   ·exact .inr (.inr h1)
  ·by_cases h2 : a = p.f0
   ·by_cases h3 : b = p.f1
    ·have e : (⟨a, b⟩ : Pair) = p := pair_eq.2 ⟨h2, h3⟩
     rw [e] at h1
     rcases h1 with h1 | h1
     ·exact absurd h1 hp1
     ·exact absurd h1 hp2
    ·exact .inr h3
   ·exact .inl h2
theorem pass_rel (es : List Ed) : ∀ (rel pre : List Pair), (pre ++ rel).Nodup → passS es rel (relS (pre ++ rel)) = relS (pre ++ passK es rel (relS (pre ++ rel)))
 | [], pre, _ => by simp [passS, passK]
 | p :: r, pre, h => by
  cases hb : bothB es (relS (pre ++ p :: r)) p with
  | false =>
   have e := relS_less h
   have h2 : (pre ++ r).Nodup := by
    refine h.sublist ?_
    exact List.Sublist.append (List.Sublist.refl _) (List.sublist_cons_self _ _)
   have := pass_rel es r pre h2
   simpa [passS, passK, hb, e] using this
  | true =>
   have := pass_rel es r (pre ++ [p]) (by simpa using h)
   simpa [passS, passK, hb] using this
theorem rounds_spec (es : List Ed) : ∀ (f : Nat) (rel : List Pair), rel.length < f → rel.Nodup → List.Sublist (rounds es f rel (relS rel)) rel ∧ (∀ p ∈ rounds es f rel (relS rel), bothB es (relS (rounds es f rel (relS rel))) p = true) ∧
  ∀ R, Post es R → (∀ x y, R x y = true → relS rel x y = true) → ∀ x y, R x y = true → relS (rounds es f rel (relS rel)) x y = true
 | 0, rel, h, _ => by omega
 | f + 1, rel, h, hn => by
  unfold rounds
  by_cases hl : (passK es rel (relS rel)).length = rel.length
  ·rw [if_pos hl]
   obtain ⟨a, c⟩ := pass_stable es rel (relS rel) hl
   rw [a]
   exact ⟨List.Sublist.refl _, c, fun R _ h => h⟩
  ·rw [if_neg hl]
   have hsub := passK_sub es rel (relS rel)
   have hS : passS es rel (relS rel) = relS (passK es rel (relS rel)) := by
    have := pass_rel es rel [] (by simpa using hn)
    simpa using this
   have hlt := hsub.length_le
   obtain ⟨g1, g2, g3⟩ := rounds_spec es f (passK es rel (relS rel)) (by omega) (hn.sublist hsub)
   rw [hS]
   refine ⟨g1.trans hsub, g2, fun R hR h2 => g3 R hR fun x y hxy => ?_⟩
   have := pass_keep hR rel (relS rel) h2 x y hxy
   rwa [hS] at this
theorem pairsTo_map (n : Nat) : ∀ k, pairsTo n k = (List.range (k * n)).map fun i : Nat => (⟨((i / n : Nat) : Int), ((i % n : Nat) : Int)⟩ : Pair)
 | 0 => by simp [pairsTo]
 | k + 1 => by
  rw [pairsTo_succ, pairsTo_map n k, Nat.succ_mul, List.range_add, List.map_append, List.map_map]
  congr 1
  refine List.map_congr_left fun j hj => ?_
  have hj' := List.mem_range.1 hj
  have e1 : (k * n + j) / n = k := by
   rw [Nat.mul_comm, Nat.mul_add_div (by omega), Nat.div_eq_of_lt hj']
   rfl
  have e2 : (k * n + j) % n = j := by rw [Nat.mul_comm, Nat.mul_add_mod, Nat.mod_eq_of_lt hj']
  simp only [Function.comp, e1, e2]
theorem pairsTo_mem {n : Nat} {p : Pair} : p ∈ pairsTo n n ↔ (0 ≤ p.f0 ∧ p.f0 < n) ∧ (0 ≤ p.f1 ∧ p.f1 < n) := by
 unfold pairsTo
 constructor
 ·intro h
  obtain ⟨s, hs, hp⟩ := List.mem_flatMap.1 h
  obtain ⟨t, ht, rfl⟩ := List.mem_map.1 hp
  have h1 := List.mem_range.1 hs
  have h2 := List.mem_range.1 ht
  simp only
  omega
 ·rintro ⟨⟨h0, h1⟩, h2, h3⟩
  obtain ⟨a, b⟩ := p
  simp only at h0 h1 h2 h3
  obtain ⟨i, rfl⟩ := Int.eq_ofNat_of_zero_le h0
  obtain ⟨j, rfl⟩ := Int.eq_ofNat_of_zero_le h2
  exact List.mem_flatMap.2 ⟨i, List.mem_range.2 (by omega), List.mem_map.2 ⟨j, List.mem_range.2 (by omega), rfl⟩⟩
theorem pairsTo_nodup (n : Nat) : (pairsTo n n).Nodup := by
 rw [pairsTo_map]
 unfold List.Nodup
 rw [List.pairwise_map]
 refine List.Pairwise.imp_of_mem ?_ (List.nodup_range (n := n * n))
 intro a b ha hb hab e
 rcases pair_eq.1 e with ⟨h1, h2⟩
 simp only at h1 h2
 have e1 : a / n = b / n := by omega
 have e2 : a % n = b % n := by omega
 apply hab
 rw [← Nat.div_add_mod a n, ← Nat.div_add_mod b n, e1, e2]
theorem great_spec (n : Nat) (es : List Ed) : List.Sublist (greatL n es) (pairsTo n n) ∧ Post es (relS (greatL n es)) ∧ ∀ R, Post es R → (∀ x y, R x y = true → (0 ≤ x ∧ x < n) ∧ (0 ≤ y ∧ y < n)) → ∀ x y, R x y = true → relS (greatL n es) x y = true := by
 obtain ⟨g1, g2, g3⟩ := rounds_spec es (n * n + 1) (pairsTo n n) (by rw [pairsTo_length]; omega) (pairsTo_nodup n)
 refine ⟨g1, fun a b hab => ?_, fun R hR hr => g3 R hR fun x y hxy => (relS_iff _ _ _).2 (pairsTo_mem.2 (hr x y hxy))⟩
 exact (both_iff es _ ⟨a, b⟩).1 (g2 _ ((relS_iff _ _ _).1 hab))
def Half (es : List Ed) (X : Int → Int → Bool) (a b : Int) : Prop := ∀ e ∈ es, e.f0 = a → ∃ f ∈ es, f.f0 = b ∧ e.f1 = f.f1 ∧ X e.f2 f.f2 = true
def PostR (es : List Ed) (X : Int → Int → Bool) : Prop := ∀ a b, X a b = true → Half es X a b ∧ Half es X b a
theorem succ_mem (es : List Ed) (a l q : Int) : q ∈ succL es a l ↔ ∃ f ∈ es, f.f0 = a ∧ f.f1 = l ∧ f.f2 = q := by
 unfold succL
 simp only [List.mem_map, List.mem_filter, Bool.and_eq_true, decide_eq_true_eq]
 constructor
 ·rintro ⟨f, ⟨h1, h2, h3⟩, h4⟩; exact ⟨f, h1, h2, h3, h4⟩
 ·rintro ⟨f, h1, h2, h3, h4⟩; exact ⟨f, ⟨h1, h2, h3⟩, h4⟩
theorem folR_iff (n : Nat) (es : List Ed) (P : List Bool) (s t : Int) : folR n es P s t = true ↔ ∀ e ∈ es, e.f0 = s → ∃ f ∈ es, f.f0 = t ∧ e.f1 = f.f1 ∧ P.getD (e.f2 * n + f.f2).toNat false = true := by
 unfold folR
 rw [List.all_eq_true]
 constructor
 ·intro h e he hes
  have := h e he
  rw [hes] at this
  simp only [beq_self_eq_true, Bool.not_true, Bool.false_or, List.any_eq_true] at this
  obtain ⟨q, hq, hP⟩ := this
  obtain ⟨f, h1, h2, h3, h4⟩ := (succ_mem es t e.f1 q).1 hq
  exact ⟨f, h1, h2, h3.symm, by rw [h4]; exact hP⟩
 ·intro h e he
  by_cases hes : e.f0 = s
  ·obtain ⟨f, h1, h2, h3, h4⟩ := h e he hes
   simp only [Bool.or_eq_true, List.any_eq_true]
   exact .inr ⟨f.f2, (succ_mem es t e.f1 f.f2).2 ⟨f, h1, h2, h3.symm, rfl⟩, h4⟩
  ·have : (e.f0 == s) = false := by simpa using hes
   rw [this]; rfl
def Within (n : Nat) (X : Int → Int → Bool) (P : List Bool) : Prop := ∀ a b, X a b = true → P.getD (a * n + b).toNat false = true
def InNodes (n : Nat) (X : Int → Int → Bool) : Prop := ∀ a b, X a b = true → (0 ≤ a ∧ a < n) ∧ (0 ≤ b ∧ b < n)
theorem half_fol {n : Nat} {es : List Ed} {X : Int → Int → Bool} {P : List Bool} (hW : Within n X P) {a b : Int} (h : Half es X a b) : folR n es P a b = true := by
 rw [folR_iff]
 intro e he hea
 obtain ⟨f, h1, h2, h3, h4⟩ := h e he hea
 exact ⟨f, h1, h2, h3, hW _ _ h4⟩
theorem idx_split {n : Nat} {a b : Int} (ha : 0 ≤ a ∧ a < n) (hb : 0 ≤ b ∧ b < n) : (a * n + b).toNat / n = a.toNat ∧ (a * n + b).toNat % n = b.toNat ∧ (a * n + b).toNat < n * n := by
 obtain ⟨i, rfl⟩ := Int.eq_ofNat_of_zero_le ha.1
 obtain ⟨j, rfl⟩ := Int.eq_ofNat_of_zero_le hb.1
 have hi : i < n := by omega
 have hj : j < n := by omega
 have e0 : ((i : Int) * (n : Int) + (j : Int)).toNat = i * n + j := by
  have : ((i : Int) * (n : Int)) = ((i * n : Nat) : Int) := by simp
  rw [this]; omega
 rw [e0]
 have h1 : i * n + j < n * n := by
  have : (i + 1) * n ≤ n * n := Nat.mul_le_mul_right n hi
  rw [Nat.succ_mul] at this
  omega
 refine ⟨?_, ?_, h1⟩
 ·rw [Nat.mul_comm, Nat.mul_add_div (by omega), Nat.div_eq_of_lt hj]; rfl
 ·rw [Nat.mul_comm, Nat.mul_add_mod, Nat.mod_eq_of_lt hj]; rfl
theorem step_keep {n : Nat} {es : List Ed} {X : Int → Int → Bool} (hX : PostR es X) (hN : InNodes n X) {P : List Bool} (hW : Within n X P) (i : Nat) : Within n X (stepP n es P i) := by
 unfold stepP
 split
 ·rename_i h
  simp only [Bool.and_eq_true, Bool.or_eq_true, Bool.not_eq_true'] at h
  intro a b hab
  obtain ⟨ha, hb⟩ := hN a b hab
  obtain ⟨s1, s2, s3⟩ := idx_split ha hb
  have hne : i ≠ (a * n + b).toNat := by
   intro e
   rw [e, s1, s2] at h
   have ea : ((a.toNat : Nat) : Int) = a := Int.toNat_of_nonneg ha.1
   have eb : ((b.toNat : Nat) : Int) = b := Int.toNat_of_nonneg hb.1
   rw [ea, eb, half_fol hW (hX a b hab).1, half_fol hW (hX a b hab).2] at h
   rcases h.2 with h | h <;> cases h
  have := hW a b hab
  rw [List.getD_eq_getElem?_getD] at this ⊢
  rw [List.getElem?_set_ne hne]
  exact this
 ·exact hW
theorem sweep_keep {n : Nat} {es : List Ed} {X : Int → Int → Bool} (hX : PostR es X) (hN : InNodes n X) {P : List Bool} (hW : Within n X P) : ∀ k, Within n X (sweepTo n es P k)
 | 0 => hW
 | k + 1 => step_keep hX hN (sweep_keep hX hN hW k) k
theorem iter_spec (n : Nat) (es : List Ed) : ∀ (f : Nat) (P : List Bool), P.length = n * n → P.count true < f → (iterP n es f P).length = n * n ∧ sweepTo n es (iterP n es f P) (n * n) = iterP n es f P ∧
  ∀ X, PostR es X → InNodes n X → Within n X P → Within n X (iterP n es f P)
 | 0, P, _, h => by omega
 | f + 1, P, hl, h => by
  unfold iterP
  by_cases hs : sweepTo n es P (n * n) = P
  ·rw [if_pos hs]
   exact ⟨hl, hs, fun X _ _ h => h⟩
  ·rw [if_neg hs]
   have hc : (sweepTo n es P (n * n)).count true < P.count true := by
    rcases sweepTo_count n es P (n * n) with h' | h'
    ·exact absurd h' hs
    ·exact h'
   obtain ⟨g1, g2, g3⟩ := iter_spec n es f (sweepTo n es P (n * n)) (by rw [sweepTo_length]; exact hl) (by omega)
   exact ⟨g1, g2, fun X hX hN hW => g3 X hX hN (sweep_keep hX hN hW _)⟩
theorem sweep_down (n : Nat) (es : List Ed) (P : List Bool) (k : Nat) : ∀ d, (sweepTo n es P (k + d)).count true ≤ (sweepTo n es P k).count true
 | 0 => Nat.le_refl _
 | d + 1 => by
  rw [← Nat.add_assoc, sweepTo]
  rcases stepP_count n es (sweepTo n es P (k + d)) (k + d) with h | h
  ·rw [h]; exact sweep_down n es P k d
  ·exact Nat.le_trans (Nat.le_of_lt h) (sweep_down n es P k d)
theorem sweep_fixed {n : Nat} {es : List Ed} {P : List Bool} {m : Nat} (h : sweepTo n es P m = P) {k : Nat} (hk : k ≤ m) : sweepTo n es P k = P := by
 rcases sweepTo_count n es P k with h' | h'
 ·exact h'
 ·have := sweep_down n es P k (m - k)
  rw [show k + (m - k) = m by omega, h] at this
  omega
theorem stable_fol {n : Nat} {es : List Ed} {P : List Bool} (h : sweepTo n es P (n * n) = P) {i : Nat} (hi : i < n * n) (hP : P.getD i false = true) : folR n es P ((i / n : Nat) : Int) ((i % n : Nat) : Int) = true ∧ folR n es P ((i % n : Nat) : Int) ((i / n : Nat) : Int) = true := by
 have h1 := sweep_fixed h (show i ≤ n * n by omega)
 have h2 := sweep_fixed h (show i + 1 ≤ n * n by omega)
 rw [sweepTo, h1] at h2
 unfold stepP at h2
 split at h2
 ·have := count_set_lt hP
  rw [h2] at this
  omega
 ·rename_i hc
  rw [hP] at hc
  simpa using hc
def relP (n : Nat) (P : List Bool) : Int → Int → Bool := fun a b => decide ((0 ≤ a ∧ a < n) ∧ (0 ≤ b ∧ b < n)) && P.getD (a * n + b).toNat false
theorem relP_iff (n : Nat) (P : List Bool) (a b : Int) : relP n P a b = true ↔ ((0 ≤ a ∧ a < n) ∧ (0 ≤ b ∧ b < n)) ∧ P.getD (a * n + b).toNat false = true := by
 unfold relP
 rw [Bool.and_eq_true, decide_eq_true_eq]
theorem relP_post {n : Nat} {ls : List ByteArray} {es : List Ed} (hm : mayR n ls es = true) {P : List Bool} (h : sweepTo n es P (n * n) = P) : PostR es (relP n P) := by
 intro a b hab
 obtain ⟨⟨ha, hb⟩, hP⟩ := (relP_iff n P a b).1 hab
 obtain ⟨s1, s2, s3⟩ := idx_split ha hb
 have hf := stable_fol h s3 hP
 rw [s1, s2, Int.toNat_of_nonneg ha.1, Int.toNat_of_nonneg hb.1] at hf
 have node : ∀ e ∈ es, 0 ≤ e.f2 ∧ e.f2 < (n : Int) := by
  intro e he
  obtain ⟨j, hj, rfl⟩ := List.getElem_of_mem he
  have := (es_at hm hj).2
  rw [List.getD_eq_getElem?_getD, List.getElem?_eq_getElem hj] at this
  exact this
 have half : ∀ s t, folR n es P s t = true → Half es (relP n P) s t := by
  intro s t hst e he hes
  obtain ⟨f, h1, h2, h3, h4⟩ := (folR_iff n es P s t).1 hst e he hes
  exact ⟨f, h1, h2, h3, (relP_iff n P _ _).2 ⟨⟨node e he, node f h1⟩, h4⟩⟩
 exact ⟨half a b hf.1, half b a hf.2⟩
theorem great_rel (n : Nat) (ls : List ByteArray) (es : List Ed) (hm : mayR n ls es = true) (a b : Int) : relS (greatL n es) a b = relP n (pairsR n es) a b := by
 obtain ⟨g1, g2, g3⟩ := great_spec n es;obtain ⟨i1, i2, i3⟩ := iter_spec n es (n * n + 1) (List.replicate (n * n) true) (by simp) (by simp);have hin : ∀ x y, relS (greatL n es) x y = true → (0 ≤ x ∧ x < n) ∧ (0 ≤ y ∧ y < n) := fun x y h => pairsTo_mem.1 (g1.subset ((relS_iff _ _ _).1 h))
 rw [Bool.eq_iff_iff];constructor
 ·intro h;refine (relP_iff _ _ _ _).2 ⟨hin a b h, ?_⟩
  have hX : PostR es (fun x y => relS (greatL n es) x y || relS (greatL n es) y x) := by
   have key : ∀ x y, relS (greatL n es) x y = true → Half es (fun x y => relS (greatL n es) x y || relS (greatL n es) y x) x y ∧ Half es (fun x y => relS (greatL n es) x y || relS (greatL n es) y x) y x := by
    intro x y hxy;obtain ⟨k1, k2⟩ := g2 x y hxy;rw [fol_iff] at k1;rw [folT_iff] at k2;refine ⟨fun e he hex => ?_, fun e he hey => ?_⟩
    ·obtain ⟨f, h1, h2, h3, h4⟩ := k1 e he hex;exact ⟨f, h1, h2, h3, by simp [h4]⟩
    ·obtain ⟨f, h1, h2, h3, h4⟩ := k2 e he hey;exact ⟨f, h1, h2, h3, by simp [h4]⟩
   intro x y hxy;simp only [Bool.or_eq_true] at hxy;rcases hxy with hxy | hxy
   ·exact key x y hxy
   ·exact (key y x hxy).symm
  refine i3 _ hX (fun x y hxy => ?_) (fun x y hxy => ?_) a b (by simp [h])
  ·simp only [Bool.or_eq_true] at hxy;rcases hxy with hxy | hxy
   ·exact hin x y hxy
   ·exact (hin y x hxy).symm
  ·simp only [Bool.or_eq_true] at hxy
   have hxn : (0 ≤ x ∧ x < n) ∧ (0 ≤ y ∧ y < n) := by
    rcases hxy with hxy | hxy
    ·exact hin x y hxy
    ·exact (hin y x hxy).symm
   have := (idx_split hxn.1 hxn.2).2.2;rw [List.getD_eq_getElem?_getD, List.getElem?_replicate, if_pos this];rfl
 ·intro h;have hP := relP_post hm i2
  have hX : Post es (fun x y => relP n (pairsR n es) x y || relP n (pairsR n es) y x) := by
   have key : ∀ x y, relP n (pairsR n es) x y = true → (followsB es (fun x y => relP n (pairsR n es) x y || relP n (pairsR n es) y x) false x y = true ∧ followsB es (fun x y => relP n (pairsR n es) x y || relP n (pairsR n es) y x) true x y = true) ∧ (followsB es (fun x y => relP n (pairsR n es) x y || relP n (pairsR n es) y x) false y x = true ∧ followsB es (fun x y => relP n (pairsR n es) x y || relP n (pairsR n es) y x) true y x = true) := by
    intro x y hxy;obtain ⟨k1, k2⟩ := hP x y hxy;rw [fol_iff, folT_iff, fol_iff, folT_iff];refine ⟨⟨fun e he hex => ?_, fun e he hey => ?_⟩, fun e he hey => ?_, fun e he hex => ?_⟩
    ·obtain ⟨f, h1, h2, h3, h4⟩ := k1 e he hex;exact ⟨f, h1, h2, h3, by unfold pairsR; simp [h4]⟩
    ·obtain ⟨f, h1, h2, h3, h4⟩ := k2 e he hey;exact ⟨f, h1, h2, h3, by unfold pairsR; simp [h4]⟩
    ·obtain ⟨f, h1, h2, h3, h4⟩ := k2 e he hey;exact ⟨f, h1, h2, h3, by unfold pairsR; simp [h4]⟩
    ·obtain ⟨f, h1, h2, h3, h4⟩ := k1 e he hex;exact ⟨f, h1, h2, h3, by unfold pairsR; simp [h4]⟩
   intro x y hxy;simp only [Bool.or_eq_true] at hxy;rcases hxy with hxy | hxy
   ·exact (key x y hxy).1
   ·exact (key y x hxy).2
  refine g3 _ hX (fun x y hxy => ?_) a b (by simp [h]);simp only [Bool.or_eq_true] at hxy;rcases hxy with hxy | hxy
  ·exact ((relP_iff _ _ _ _).1 hxy).1
  ·exact ((relP_iff _ _ _ _).1 hxy).1.symm
def Nd (n : Nat) (s : Int) : Prop := 0 ≤ s ∧ s < n
def Bis (n : Nat) (es : List Ed) (s t : Int) : Prop := relS (greatL n es) s t = true
theorem Bis.nodes {n : Nat} {es : List Ed} {s t : Int} (h : Bis n es s t) : Nd n s ∧ Nd n t := by
 have h1 := (relS_iff _ _ _).1 h
 exact pairsTo_mem.1 ((great_spec n es).1.subset h1)
theorem Bis.step {n : Nat} {es : List Ed} {s t : Int} (h : Bis n es s t) {e : Ed} (he : e ∈ es) (hs : e.f0 = s) : ∃ f ∈ es, f.f0 = t ∧ e.f1 = f.f1 ∧ Bis n es e.f2 f.f2 :=
 (fol_iff es _ s t).1 ((great_spec n es).2.1 s t h).1 e he hs
theorem Bis.back {n : Nat} {es : List Ed} {s t : Int} (h : Bis n es s t) {e : Ed} (he : e ∈ es) (ht : e.f0 = t) : ∃ f ∈ es, f.f0 = s ∧ e.f1 = f.f1 ∧ Bis n es f.f2 e.f2 :=
 (folT_iff es _ s t).1 ((great_spec n es).2.1 s t h).2 e he ht
theorem Bis.of {n : Nat} {es : List Ed} {R : Int → Int → Prop} (hN : ∀ s t, R s t → Nd n s ∧ Nd n t)
  (h1 : ∀ s t, R s t → ∀ e ∈ es, e.f0 = s → ∃ f ∈ es, f.f0 = t ∧ e.f1 = f.f1 ∧ R e.f2 f.f2) (h2 : ∀ s t, R s t → ∀ e ∈ es, e.f0 = t → ∃ f ∈ es, f.f0 = s ∧ e.f1 = f.f1 ∧ R f.f2 e.f2) {s t : Int} (h : R s t) : Bis n es s t := by
 classical
 refine (great_spec n es).2.2 (fun a b => decide (R a b)) ?_ ?_ s t (decide_eq_true h)
 ·intro a b hab
  have hab := of_decide_eq_true hab
  refine ⟨(fol_iff _ _ _ _).2 fun e he hs => ?_, (folT_iff _ _ _ _).2 fun e he hs => ?_⟩
  ·obtain ⟨f, hf, x, y, z⟩ := h1 a b hab e he hs
   exact ⟨f, hf, x, y, decide_eq_true z⟩
  ·obtain ⟨f, hf, x, y, z⟩ := h2 a b hab e he hs
   exact ⟨f, hf, x, y, decide_eq_true z⟩
 ·intro x y hxy
  exact hN x y (of_decide_eq_true hxy)
theorem Bis.refl {n : Nat} {es : List Ed} (hes : ∀ e ∈ es, Nd n e.f0 ∧ Nd n e.f2) {s : Int} (hs : Nd n s) : Bis n es s s :=
 Bis.of (R := fun a b => a = b ∧ Nd n a) (fun a b h => ⟨h.2, h.1 ▸ h.2⟩) (fun a b h e he hs => ⟨e, he, h.1 ▸ hs, rfl, rfl, (hes e he).2⟩) (fun a b h e he hs => ⟨e, he, by rw [h.1]; exact hs, rfl, rfl, (hes e he).2⟩) ⟨rfl, hs⟩
theorem Bis.symm {n : Nat} {es : List Ed} {s t : Int} (h : Bis n es s t) : Bis n es t s :=
 Bis.of (R := fun a b => Bis n es b a) (fun a b h => ⟨h.nodes.2, h.nodes.1⟩) (fun a b h e he hs => by
  obtain ⟨f, hf, x, y, z⟩ := h.back he hs; exact ⟨f, hf, x, y, z⟩) (fun a b h e he hs => by
  obtain ⟨f, hf, x, y, z⟩ := h.step he hs; exact ⟨f, hf, x, y, z⟩) h
theorem Bis.trans {n : Nat} {es : List Ed} {s t u : Int} (h : Bis n es s t) (g : Bis n es t u) : Bis n es s u :=
 Bis.of (R := fun a c => ∃ b, Bis n es a b ∧ Bis n es b c) (fun a c ⟨b, x, y⟩ => ⟨x.nodes.1, y.nodes.2⟩) (fun a c ⟨b, x, y⟩ e he hs => by
  obtain ⟨f, hf, x1, x2, x3⟩ := x.step he hs
  obtain ⟨g, hg, y1, y2, y3⟩ := y.step hf x1
  exact ⟨g, hg, y1, x2.trans y2, f.f2, x3, y3⟩) (fun a c ⟨b, x, y⟩ e he hs => by
  obtain ⟨f, hf, y1, y2, y3⟩ := y.back he hs
  obtain ⟨g, hg, x1, x2, x3⟩ := x.back hf y1
  exact ⟨g, hg, x1, y2.trans x2, f.f2, x3, y3⟩) ⟨t, h, g⟩
def Into (es : List Ed) (H : Int → Int) (s l h : Int) : Prop := ∃ e ∈ es, e.f0 = s ∧ e.f1 = l ∧ H e.f2 = h
structure RefI (n : Nat) (es : List Ed) (B H : Int → Int) : Prop where
  i3 : ∀ s t, Bis n es s t → B s = B t
  i6 : ∀ s t, Nd n s → Nd n t → B s = B t → H s = H t
  i4 : ∀ s t, Nd n s → Nd n t → B s = B t → ∀ l h, Into es H s l h → Into es H t l h
def CutR (n : Nat) (B B' : Int → Int) (X : Int → Prop) : Prop := ∀ s t, Nd n s → Nd n t → (B' s = B' t ↔ B s = B t ∧ (X s ↔ X t))
structure RefJ (n : Nat) (es : List Ed) (B0 H0 B H : Int → Int) (fresh old : Int) (k : Nat) : Prop where
  base : RefI n es B0 H0
  fin : ∀ s t, Nd n s → Nd n t → B s = B t → B0 s = B0 t
  i3 : ∀ s t, Bis n es s t → B s = B t
  taken : ∃ b, (∀ s, Nd n s → H s = if B0 s = b then fresh else H0 s) ∧ (∀ s, Nd n s → B0 s = b → H0 s = old)
  new : ∀ s, Nd n s → H0 s ≠ fresh
  ne : fresh ≠ old
  some_ : ∀ l : Int, 0 ≤ l → l < k → ∀ s t, Nd n s → Nd n t → B s = B t → Into es H s l fresh → Into es H t l fresh
  only : ∀ l : Int, 0 ≤ l → l < k → ∀ s t, Nd n s → Nd n t → B s = B t → (Into es H s l fresh ∧ ¬ Into es H s l old) → (Into es H t l fresh ∧ ¬ Into es H t l old)
section
variable {n : Nat} {es : List Ed} {B H B0 H0 B' : Int → Int} {fresh old : Int} {k : Nat}
theorem RefI.take (h : RefI n es B H) {b : Int} {H' : Int → Int} (hH : ∀ s, Nd n s → H' s = if B s = b then fresh else H s) (ho : ∀ s, Nd n s → B s = b → H s = old) (hn : ∀ s, Nd n s → H s ≠ fresh) (hne : fresh ≠ old) : RefJ n es B H B H' fresh old 0 :=
 ⟨h, fun _ _ _ _ e => e, h.i3, ⟨b, hH, ho⟩, hn, hne, fun l h0 h1 => by omega, fun l h0 h1 => by omega⟩
theorem RefJ.i6 (h : RefJ n es B0 H0 B H fresh old k) {s t : Int} (hs : Nd n s) (ht : Nd n t) (e : B s = B t) : H s = H t := by
 obtain ⟨b, hb, _⟩ := h.taken
 rw [hb s hs, hb t ht, h.fin s t hs ht e, h.base.i6 s t hs ht (h.fin s t hs ht e)]
theorem RefJ.resp (h : RefJ n es B0 H0 B H fresh old k) {s t : Int} (hst : Bis n es s t) {l x : Int} (hi : Into es H s l x) : Into es H t l x := by
 obtain ⟨e, he, h0, h1, h2⟩ := hi
 obtain ⟨f, hf, g0, g1, g2⟩ := hst.step he h0
 exact ⟨f, hf, g0, by rw [← g1]; exact h1, by rw [← h2]; exact (h.i6 g2.nodes.1 g2.nodes.2 (h.i3 _ _ g2)).symm⟩
theorem RefJ.cut (h : RefJ n es B0 H0 B H fresh old k) {X : Int → Prop} (hX : ∀ s t, Bis n es s t → X s → X t) (hc : CutR n B B' X) : RefJ n es B0 H0 B' H fresh old k where
 base := h.base
 fin := fun s t hs ht e => h.fin s t hs ht ((hc s t hs ht).1 e).1
 i3 := fun s t hst => (hc s t hst.nodes.1 hst.nodes.2).2 ⟨h.i3 s t hst, hX s t hst, hX t s hst.symm⟩
 taken := h.taken
 new := h.new
 ne := h.ne
 some_ := fun l h0 h1 s t hs ht e => h.some_ l h0 h1 s t hs ht ((hc s t hs ht).1 e).1
 only := fun l h0 h1 s t hs ht e => h.only l h0 h1 s t hs ht ((hc s t hs ht).1 e).1
theorem RefJ.label (h : RefJ n es B0 H0 B H fresh old k) {B1 B2 : Int → Int} (h1 : CutR n B B1 fun s => Into es H s k fresh) (h2 : CutR n B1 B2 fun s => Into es H s k fresh ∧ ¬ Into es H s k old) : RefJ n es B0 H0 B2 H fresh old (k + 1) := by
 have j1 := h.cut (fun s t hst hi => h.resp hst hi) h1
 have j2 := j1.cut (B' := B2) (fun s t hst hi => ⟨h.resp hst hi.1, fun hn => hi.2 (h.resp hst.symm hn)⟩) h2
 refine ⟨j2.base, j2.fin, j2.i3, j2.taken, j2.new, j2.ne, fun l h0 hl s t hs ht e => ?_, fun l h0 hl s t hs ht e => ?_⟩
 ·by_cases hk : l < k
  ·exact j2.some_ l h0 hk s t hs ht e
  ·have : l = k := by omega
   subst this
   exact ((h1 s t hs ht).1 ((h2 s t hs ht).1 e).1).2.1
 ·by_cases hk : l < k
  ·exact j2.only l h0 hk s t hs ht e
  ·have : l = k := by omega
   subst this
   exact ((h2 s t hs ht).1 e).2.1
theorem RefJ.end_ (h : RefJ n es B0 H0 B H fresh old k) (hes : ∀ e ∈ es, Nd n e.f0 ∧ (0 ≤ e.f1 ∧ e.f1 < k) ∧ Nd n e.f2) : RefI n es B H where
 i3 := h.i3
 i6 := fun s t hs ht e => h.i6 hs ht e
 i4 := by
  intro s t hs ht e l x hi;obtain ⟨f, hf, f0, f1, f2⟩ := id hi;have hl := (hes f hf).2.1;rw [f1] at hl;obtain ⟨b, hb, hbo⟩ := h.taken;have e0 := h.fin s t hs ht e;have elder : ∀ s t, Nd n s → Nd n t → B0 s = B0 t → ∀ y, Into es H0 s l y → Into es H0 t l y := fun s t hs ht e y => h.base.i4 s t hs ht e l y
  by_cases hx : x = fresh
  ·subst hx;exact h.some_ l hl.1 hl.2 s t hs ht e hi
  ·have hf2 : H0 f.f2 = x := by
    have := hb f.f2 (hes f hf).2.2;rw [f2] at this;split at this
    ·exact absurd this hx
    ·exact this.symm
   have h0 : Into es H0 t l x := elder s t hs ht e0 x ⟨f, hf, f0, f1, hf2⟩;by_cases ho : x = old
   ·subst ho;by_cases hsome : Into es H s l fresh
    ·by_cases hto : Into es H t l x
     ·exact hto
     ·exact absurd hi ((h.only l hl.1 hl.2 t s ht hs e.symm ⟨h.some_ l hl.1 hl.2 s t hs ht e hsome, hto⟩).2)
    ·have hnt : ¬ Into es H t l fresh := fun hn => hsome (h.some_ l hl.1 hl.2 t s ht hs e.symm hn)
     obtain ⟨g, hg, g0, g1, g2⟩ := h0;refine ⟨g, hg, g0, g1, ?_⟩;rw [hb g.f2 (hes g hg).2.2];by_cases hgb : B0 g.f2 = b
     ·exact absurd ⟨g, hg, g0, g1, by rw [hb g.f2 (hes g hg).2.2, if_pos hgb]⟩ hnt
     ·rw [if_neg hgb]; exact g2
   ·obtain ⟨g, hg, g0, g1, g2⟩ := h0;refine ⟨g, hg, g0, g1, ?_⟩;rw [hb g.f2 (hes g hg).2.2];by_cases hgb : B0 g.f2 = b
    ·exact absurd (g2.symm.trans (hbo g.f2 (hes g hg).2.2 hgb)) ho
    ·rw [if_neg hgb]; exact g2
structure RefB (n : Nat) (es : List Ed) (B : Int → Int) (k : Nat) : Prop where
  i3 : ∀ s t, Bis n es s t → B s = B t
  has : ∀ l : Int, 0 ≤ l → l < k → ∀ s t, Nd n s → Nd n t → B s = B t → (∃ e ∈ es, e.f0 = s ∧ e.f1 = l) → ∃ e ∈ es, e.f0 = t ∧ e.f1 = l
theorem RefB.label (h : RefB n es B k) (hc : CutR n B B' fun s => ∃ e ∈ es, e.f0 = s ∧ e.f1 = k) : RefB n es B' (k + 1) := by
 refine ⟨fun s t hst => (hc s t hst.nodes.1 hst.nodes.2).2 ⟨h.i3 s t hst, ?_, ?_⟩, fun l h0 hl s t hs ht e => ?_⟩
 ·rintro ⟨e, he, h0, h1⟩
  obtain ⟨f, hf, g0, g1, _⟩ := hst.step he h0
  exact ⟨f, hf, g0, by rw [← g1]; exact h1⟩
 ·rintro ⟨e, he, h0, h1⟩
  obtain ⟨f, hf, g0, g1, _⟩ := hst.symm.step he h0
  exact ⟨f, hf, g0, by rw [← g1]; exact h1⟩
 ·by_cases hk : l < k
  ·exact h.has l h0 hk s t hs ht ((hc s t hs ht).1 e).1
  ·have : l = k := by omega
   subst this
   exact ((hc s t hs ht).1 e).2.1
theorem RefB.start : RefB n es (fun _ => 0) 0 := ⟨fun _ _ _ => rfl, fun l h0 h1 => by omega⟩
theorem RefB.end_ (h : RefB n es B k) {h0 : Int} (hH : ∀ s, Nd n s → H s = h0) (hes : ∀ e ∈ es, Nd n e.f0 ∧ (0 ≤ e.f1 ∧ e.f1 < k) ∧ Nd n e.f2) : RefI n es B H where
 i3 := h.i3
 i6 := fun s t hs ht _ => by rw [hH s hs, hH t ht]
 i4 := by
  intro s t hs ht e l x ⟨f, hf, f0, f1, f2⟩
  have hl := (hes f hf).2.1
  rw [f1] at hl
  obtain ⟨g, hg, g0, g1⟩ := h.has l hl.1 hl.2 s t hs ht e ⟨f, hf, f0, f1⟩
  exact ⟨g, hg, g0, g1, by rw [hH _ (hes g hg).2.2, ← hH _ (hes f hf).2.2]; exact f2⟩
theorem RefI.last (h : RefI n es B H) (h1 : ∀ s t, Nd n s → Nd n t → H s = H t → B s = B t) (hes : ∀ e ∈ es, Nd n e.f0 ∧ Nd n e.f2) {s t : Int} (hs : Nd n s) (ht : Nd n t) : Bis n es s t ↔ B s = B t := by
 refine ⟨h.i3 s t, fun e => Bis.of (R := fun a b => Nd n a ∧ Nd n b ∧ B a = B b) (fun a b x => ⟨x.1, x.2.1⟩) ?_ ?_ ⟨hs, ht, e⟩⟩
 ·rintro a b ⟨ha, hb, hab⟩ e he rfl
  obtain ⟨f, hf, f0, f1, f2⟩ := h.i4 _ b ha hb hab e.f1 (H e.f2) ⟨e, he, rfl, rfl, rfl⟩
  exact ⟨f, hf, f0, f1.symm, (hes e he).2, (hes f hf).2, h1 _ _ (hes e he).2 (hes f hf).2 f2.symm⟩
 ·rintro a b ⟨ha, hb, hab⟩ e he rfl
  obtain ⟨f, hf, f0, f1, f2⟩ := h.i4 _ a hb ha hab.symm e.f1 (H e.f2) ⟨e, he, rfl, rfl, rfl⟩
  exact ⟨f, hf, f0, f1.symm, (hes f hf).2, (hes e he).2, h1 _ _ (hes f hf).2 (hes e he).2 f2⟩
end
end Go.Proofs.Ytmcbkmfpmcbdpaa.H
