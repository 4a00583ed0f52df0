/-
  The law QuotLeast: for every input the call returns true, and what came in reads as it read before.
  Condition: none.
-/
import Derived.Test.YtmcbkmfpmcbdpaaZQuotLeast5
set_option linter.unusedVariables false
set_option linter.unusedSimpArgs false
namespace Go.Proofs.Ytmcbkmfpmcbdpaa.H
open Go.RowKit Go.Proofs.Ytmcbkmfpmcbdpaa.Pr Go.Proofs.YtmcbkmfpmcbdpaaW.PrintWords Go.Proofs.Ytmcbkmfpmcbdpaa.Sem Go.Proofs.Ytmcbkmfpmcbdpaa.PL
theorem rdI (ks : List Int) {i : Nat} (hi : i < ks.length) : rd ks (i : Int) = ks[i] := by
 show ks.getD (i : Int).toNat 0 = _
 rw [Int.toNat_natCast, List.getD_eq_getElem?_getD, List.getElem?_eq_getElem hi]
 rfl
theorem firstN_of {ks : List Int} {i j : Nat} (hi : i < ks.length) (hj : j ≤ i) (h : ks[j]'(by omega) = ks[i]) (hb : ∀ m (hm : m < j), ks[m]'(by omega) ≠ ks[i]) : firstN ks i = j := by
 have hle := firstN_le hi
 rcases Nat.lt_trichotomy (firstN ks i) j with q | q | q
 ·exact absurd (firstN_same hi) (hb _ q)
 ·exact q
 ·exact absurd h (firstN_least hi q)
theorem first_ev (ks : List Int) {i : Nat} (hi : i < ks.length) (hl : ks.length ≤ 1000000000) : Ev (fun k => Pr31c.f k ks (i : Int)) (firstN ks i : Int) := by
 have key : ∀ (d j : Nat) (hji : j + d = i), (∀ m (hm : m < j), ks[m]'(by omega) ≠ ks[i]) → Ev (fun k => Pr31c.l0 k ks (i : Int) (j : Int)) (firstN ks i : Int) := by
  intro d
  induction d with
  | zero =>
   intro j h hb
   obtain rfl : j = i := by omega
   rw [firstN_of hi (Nat.le_refl _) rfl hb]
   exact Ev.step (fun k => Pr31c.l0.eq_2 ..) (Ev.neg (by omega) (Ev.now _))
  | succ d ih =>
   intro j h hb
   refine Ev.step (fun k => Pr31c.l0.eq_2 ..) (Ev.pos (by omega) (Ev.pos (by omega) (Ev.pos (by omega) (Ev.pos (by omega) (Ev.pos (by omega) ?_)))))
   rw [rdI ks (show j < ks.length by omega), rdI ks hi]
   by_cases q : ks[j]'(by omega) = ks[i]
   ·rw [firstN_of hi (by omega) q hb]
    exact Ev.pos q (Ev.now _)
   ·refine Ev.neg q ?_
    rw [w1n (by omega)]
    refine ih (j + 1) (by omega) fun m hm => ?_
    rcases Nat.lt_succ_iff_lt_or_eq.1 hm with h1 | h1
    ·exact hb m h1
    ·subst h1; exact q
 exact key i 0 (by omega) fun m hm => by omega
theorem newN_succ (ks : List Int) (m : Nat) : newN ks (m + 1) = newN ks m + if firstN ks m = m then 1 else 0 := by
 unfold newN
 rw [List.range_succ, List.filter_append, List.length_append]
 congr 1
 by_cases q : firstN ks m = m
 ·simp [q]
 ·simp [q]
theorem newN_le (ks : List Int) (m : Nat) : newN ks m ≤ m := by
 unfold newN
 have := List.length_filter_le (fun k => firstN ks k == k) (List.range m)
 simpa using this
theorem count_ev (ks : List Int) (hl : ks.length ≤ 1000000000) : Ev (fun k => Pr31b.f k ks) ((fstK ks).length : Int) := by
 have key : ∀ d i : Nat, i + d = ks.length → Ev (fun k => Pr31b.l0 k ks (newN ks i : Int) (i : Int)) ((fstK ks).length : Int) := by
  intro d
  induction d with
  | zero =>
   intro i h
   obtain rfl : i = ks.length := by omega
   rw [count_new]
   exact Ev.step (fun k => Pr31b.l0.eq_2 ..) (Ev.neg (by omega) (Ev.now _))
  | succ d ih =>
   intro i h
   have hi : i < ks.length := by omega
   have hn := newN_le ks i
   have ih' := ih (i + 1) (by omega)
   rw [newN_succ] at ih'
   refine Ev.step (fun k => Pr31b.l0.eq_2 ..) (Ev.pos (by omega) (Ev.bind (first_ev ks hi hl) ?_))
   rw [w1n (by omega), w1n (by omega)]
   by_cases q : firstN ks i = i
   ·rw [if_pos q] at ih'
    exact Ev.pos (by omega) ih'
   ·rw [if_neg q] at ih'
    exact Ev.neg (by omega) ih'
 exact key ks.length 0 (by omega)
theorem plain_ev (ks : List Int) (hl : ks.length ≤ 1000000000) : Ev (fun k => Pr31a.f k ks) (numK ks) := by
 have key : ∀ d i : Nat, i + d = ks.length → Ev (fun k => Pr31a.l0 k ks ((numK ks).take i) (i : Int)) (numK ks) := by
  intro d
  induction d with
  | zero =>
   intro i h;rw [List.take_of_length_le (by rw [numK_length]; omega)];exact Ev.step (fun k => Pr31a.l0.eq_2 ..) (Ev.neg (by omega) (Ev.now _))
  | succ d ih =>
   intro i h;have hi : i < ks.length := by omega
   have hf := firstN_le hi;have ih' := ih (i + 1) (by omega);rw [take_snocD (0 : Int) (show i < (numK ks).length by rw [numK_length]; exact hi), numK_new hi] at ih';have hlen : ((numK ks).take i).length < 17592186044416 := by rw [List.length_take]; omega
   have inner : ∀ d2 m : Nat, m + d2 = firstN ks i → Ev (fun k => Pr31a.l1 k ks ((numK ks).take i) (i : Int) (firstN ks i : Int) (newN ks m : Int) (m : Int)) (numK ks) := by
    intro d2
    induction d2 with
    | zero =>
     intro m h2;obtain rfl : m = firstN ks i := by omega
     refine Ev.step (fun k => Pr31a.l1.eq_2 ..) (Ev.neg (by omega) (Ev.pos hlen ?_));rw [w1n (by omega)];exact ih'
    | succ d2 ih2 =>
     intro m h2;have hn := newN_le ks m;have ih2' := ih2 (m + 1) (by omega);rw [newN_succ] at ih2';refine Ev.step (fun k => Pr31a.l1.eq_2 ..) (Ev.pos (by omega) (Ev.bind (first_ev ks (show m < ks.length by omega) hl) ?_));rw [w1n (by omega), w1n (by omega)];by_cases q : firstN ks m = m
     ·rw [if_pos q] at ih2';exact Ev.pos (by omega) ih2'
     ·rw [if_neg q] at ih2';exact Ev.neg (by omega) ih2'
   exact Ev.step (fun k => Pr31a.l0.eq_2 ..) (Ev.pos (by omega) (Ev.bind (first_ev ks hi hl) (inner (firstN ks i) 0 (by omega))))
 exact key ks.length 0 (by omega)
theorem sortE_sorted (es : List Ed) : (sortE es).Pairwise elt := (fold_ins es [] List.Pairwise.nil).1
theorem sortE_mem (es : List Ed) (x : Ed) : x ∈ sortE es ↔ x ∈ es := by
 have := (fold_ins es [] List.Pairwise.nil).2 x
 rw [show sortE es = es.foldl (fun o e => insE e o) [] from rfl, this]
 simp
def imE (c : List Int) (e : Ed) : Ed := ⟨c.getD e.f0.toNat 0, e.f1, c.getD e.f2.toNat 0⟩
theorem numK_numK (ks : List Int) : numK (numK ks) = numK ks ∧ (fstK (numK ks)).length = (fstK ks).length := numK_ker _ _ (ker_numK ks)
theorem inW_numK (ks : List Int) (hl : ks.length ≤ 1000000000) : inW (numK ks) = true := by
 unfold inW
 rw [Bool.and_eq_true, List.all_eq_true, decide_eq_true_eq]
 refine ⟨fun x hx => ?_, by rw [numK_length]; exact hl⟩
 have h1 := numK_range ks x hx
 have h2 := fstK_length_le ks
 simp only [Bool.and_eq_true, decide_eq_true_eq]
 omega
theorem cls_in {ks : List Int} {x : Int} (h0 : 0 ≤ x) (h1 : x < (ks.length : Int)) : 0 ≤ (numK ks).getD x.toNat 0 ∧ (numK ks).getD x.toNat 0 < ((fstK ks).length : Int) := by
 refine numK_range ks _ ?_
 have : x.toNat < (numK ks).length := by rw [numK_length]; omega
 rw [List.getD_eq_getElem?_getD, List.getElem?_eq_getElem this]
 exact List.getElem_mem this
theorem may_quot {n : Nat} {ls : List ByteArray} {es : List Ed} {ks : List Int} (hm : mayR n ls es = true) (hl : ks.length = n) : mayR ((fstK ks).length : Int) ls (sortE (es.map (imE (numK ks)))) = true := by
 have hn := lt_n hm
 have hf := fstK_length_le ks
 have h0 : 1 ≤ (fstK ks).length := by
  have hmem : ks[0]'(by omega) ∈ fstK ks := (fstK_mem _ _).2 (List.getElem_mem _)
  exact List.length_pos_of_mem hmem
 refine may_of ⟨by omega, by omega⟩ (may_lab hm).1 (may_rise hm) (may_lab hm).2 ?_ (sortE_sorted _) fun e he => ?_
 ·have h1 := sortE_length (es.map (imE (numK ks)))
  rw [List.length_map] at h1
  have := es_le hm
  omega
 ·obtain ⟨f, hf, rfl⟩ := List.mem_map.1 ((sortE_mem _ _).1 he)
  have h1 := may_edge hm f hf
  exact ⟨cls_in h1.1.1 (by omega), cls_in h1.2.1.1 (by omega), h1.2.2⟩
theorem quotOf_ev {n : Nat} {ls : List ByteArray} {es : List Ed} {ks : List Int} (hm : mayR n ls es = true) (hl : ks.length = n) (hw : inW ks = true) : Ev (fun k => Pxg.f k (n : Int) ls es ks) (((fstK ks).length : Int), ls, sortE (es.map (imE (numK ks))), 0) := by
 have hn := lt_n hm;have hel := es_le hm;have hc := numK_length ks;have hkk := numK_numK ks
 have key : ∀ d i : Nat, i + d = es.length → Ev (fun k => Pxg.l0 k (numK ks) es (es.length : Int) (i : Int) ((fstK ks).length : Int) ls ((es.take i).map (imE (numK ks)))) (((fstK ks).length : Int), ls, sortE (es.map (imE (numK ks))), (0 : Int)) := by
  intro d
  induction d with
  | zero =>
   intro i h;rw [List.take_of_length_le (by omega)];refine Ev.step (fun k => Pxg.l0.eq_2 ..) (Ev.neg (by omega) (Ev.bindS (a := (((fstK ks).length : Int), ls, sortE (es.map (imE (numK ks))), (0 : Int))) ?_ (Ev.now _)));unfold Pxf.f;rw [if_pos ⟨by rw [List.length_map]; exact hel, by have := (may_lab hm).1; omega⟩, if_pos (may_quot hm hl)]
  | succ d ih =>
   intro i h;have hi : i < es.length := by omega
   have ih' := ih (i + 1) (by omega);have hmem : es[i] ∈ es := List.getElem_mem hi;have he := may_edge hm _ hmem;rw [take_snocD z80 hi, List.map_append] at ih';have hd : es.getD i z80 = es[i] := getD_get hi
   have hr : rd_T80 es (i : Int) = es[i] := by
    show es.getD (i : Int).toNat _ = _;rw [Int.toNat_natCast, hd]
   rw [hd] at ih';refine Ev.step (fun k => Pxg.l0.eq_2 ..) (Ev.pos (by omega) (Ev.pos (by omega) (Ev.pos (by omega) ?_)));rw [hr, w1n (by omega)];exact Ev.pos he.1.1 (Ev.pos (by omega) (Ev.pos he.2.1.1 (Ev.pos (by omega) (Ev.pos (by rw [List.length_map, List.length_take]; omega) ih'))))
 refine Ev.bindS (a := 0) (by unfold Pxe.f; rw [hm]; rfl) (Ev.pos rfl (Ev.step (fun k => Pxg.j0.eq_2 ..) (Ev.neg (by simp; omega) (Ev.bindS (a := numK ks) (by unfold Pxb.f; rw [if_pos hw]) (Ev.bindS (a := ((fstK ks).length : Int)) ?_ (key es.length 0 (by omega)))))));unfold Pxc.f;rw [if_pos (inW_numK ks (by omega)), hkk.2]
def hitE (c : List Int) (f b t : Nat) (e : Ed) : Bool := decide (e.f1 = (b : Int)) && (decide (c.getD e.f0.toNat 0 = (f : Int)) && decide (c.getD e.f2.toNat 0 = (t : Int)))
def rowT (c : List Int) (es : List Ed) (f b T : Nat) : List Ed := ((List.range T).filter fun t => es.any (hitE c f b t)).map fun t : Nat => (⟨(f : Int), (b : Int), (t : Int)⟩ : Ed)
def rowB (c : List Int) (es : List Ed) (m f B : Nat) : List Ed := (List.range B).flatMap fun b => rowT c es f b m
def rowF (c : List Int) (es : List Ed) (m L F : Nat) : List Ed := (List.range F).flatMap fun f => rowB c es m f L
theorem rowT_succ (c : List Int) (es : List Ed) (f b T : Nat) : rowT c es f b (T + 1) = rowT c es f b T ++ (if es.any (hitE c f b T) then [(⟨(f : Int), (b : Int), (T : Int)⟩ : Ed)] else []) := by
 unfold rowT
 rw [List.range_succ, List.filter_append, List.map_append]
 congr 1
 rw [List.filter_cons]
 split <;> rfl
theorem rowB_succ (c : List Int) (es : List Ed) (m f B : Nat) : rowB c es m f (B + 1) = rowB c es m f B ++ rowT c es f B m := by
 unfold rowB
 rw [List.range_succ, List.flatMap_append]
 simp
theorem rowF_succ (c : List Int) (es : List Ed) (m L F : Nat) : rowF c es m L (F + 1) = rowF c es m L F ++ rowB c es m F L := by
 unfold rowF
 rw [List.range_succ, List.flatMap_append]
 simp
theorem rowT_len (c : List Int) (es : List Ed) (f b : Nat) : ∀ T, (rowT c es f b T).length ≤ T := fun T => by
 unfold rowT
 rw [List.length_map]
 exact Nat.le_trans (List.length_filter_le _ _) (by rw [List.length_range]; exact Nat.le_refl _)
theorem rowB_len (c : List Int) (es : List Ed) (m f : Nat) : ∀ B, (rowB c es m f B).length ≤ B * m
 | 0 => by simp [rowB]
 | B + 1 => by
  rw [rowB_succ, List.length_append, Nat.succ_mul]
  exact Nat.add_le_add (rowB_len c es m f B) (rowT_len c es f B m)
theorem rowF_len (c : List Int) (es : List Ed) (m L : Nat) : ∀ F, (rowF c es m L F).length ≤ F * (L * m)
 | 0 => by simp [rowF]
 | F + 1 => by
  rw [rowF_succ, List.length_append, Nat.succ_mul]
  exact Nat.add_le_add (rowF_len c es m L F) (rowB_len c es m F L)
theorem rowT_mem (c : List Int) (es : List Ed) (f b T : Nat) (x : Ed) : x ∈ rowT c es f b T ↔ ∃ t, t < T ∧ es.any (hitE c f b t) = true ∧ x = ⟨(f : Int), (b : Int), (t : Int)⟩ := by
 unfold rowT
 simp only [List.mem_map, List.mem_filter, List.mem_range]
 constructor
 ·rintro ⟨t, ⟨h1, h2⟩, rfl⟩
  exact ⟨t, h1, h2, rfl⟩
 ·rintro ⟨t, h1, h2, rfl⟩
  exact ⟨t, ⟨h1, h2⟩, rfl⟩
theorem rowF_mem (c : List Int) (es : List Ed) (m L F : Nat) (x : Ed) : x ∈ rowF c es m L F ↔ ∃ f b t, f < F ∧ b < L ∧ t < m ∧ es.any (hitE c f b t) = true ∧ x = ⟨(f : Int), (b : Int), (t : Int)⟩ := by
 unfold rowF rowB
 simp only [List.mem_flatMap, List.mem_range, rowT_mem]
 constructor
 ·rintro ⟨f, h1, b, h2, t, h3, h4, rfl⟩
  exact ⟨f, b, t, h1, h2, h3, h4, rfl⟩
 ·rintro ⟨f, b, t, h1, h2, h3, h4, rfl⟩
  exact ⟨f, h1, b, h2, t, h3, h4, rfl⟩
theorem rowT_sorted (c : List Int) (es : List Ed) (f b T : Nat) : (rowT c es f b T).Pairwise elt := by
 unfold rowT
 rw [List.pairwise_map]
 refine List.Pairwise.filter _ (List.pairwise_lt_range.imp fun h => ?_)
 exact .inr ⟨rfl, .inr ⟨rfl, by show ((_ : Nat) : Int) < ((_ : Nat) : Int); omega⟩⟩
theorem rowB_sorted (c : List Int) (es : List Ed) (m f B : Nat) : (rowB c es m f B).Pairwise elt := by
 unfold rowB
 rw [List.pairwise_flatMap]
 refine ⟨fun b _ => rowT_sorted c es f b m, List.pairwise_lt_range.imp fun h => fun x hx y hy => ?_⟩
 obtain ⟨t, _, _, rfl⟩ := (rowT_mem ..).1 hx
 obtain ⟨u, _, _, rfl⟩ := (rowT_mem ..).1 hy
 exact .inr ⟨rfl, .inl (by show ((_ : Nat) : Int) < ((_ : Nat) : Int); omega)⟩
theorem rowF_sorted (c : List Int) (es : List Ed) (m L F : Nat) : (rowF c es m L F).Pairwise elt := by
 unfold rowF
 rw [List.pairwise_flatMap]
 refine ⟨fun f _ => rowB_sorted c es m f L, List.pairwise_lt_range.imp fun h => fun x hx y hy => ?_⟩
 unfold rowB at hx hy
 simp only [List.mem_flatMap, rowT_mem] at hx hy
 obtain ⟨b, _, t, _, _, rfl⟩ := hx
 obtain ⟨d, _, u, _, _, rfl⟩ := hy
 exact .inl (by show ((_ : Nat) : Int) < ((_ : Nat) : Int); omega)
theorem rowF_sortE {n : Nat} {ls : List ByteArray} {es : List Ed} {ks : List Int} (hm : mayR n ls es = true) (hl : ks.length = n) : rowF (numK ks) es (fstK ks).length ls.length (fstK ks).length = sortE (es.map (imE (numK ks))) := by
 refine strict_unique _ _ (rowF_sorted ..) (sortE_sorted _) fun x => ?_
 rw [rowF_mem, sortE_mem, List.mem_map]
 constructor
 ·rintro ⟨f, b, t, h1, h2, h3, h4, rfl⟩
  obtain ⟨e, he, hh⟩ := List.any_eq_true.1 h4
  unfold hitE at hh
  simp only [Bool.and_eq_true, decide_eq_true_eq] at hh
  refine ⟨e, he, ?_⟩
  unfold imE
  rw [hh.1, hh.2.1, hh.2.2]
 ·rintro ⟨e, he, rfl⟩
  have h1 := may_edge hm e he
  have ha := cls_in (ks := ks) h1.1.1 (by omega)
  have hb := cls_in (ks := ks) h1.2.1.1 (by omega)
  have hc := h1.2.2
  refine ⟨((numK ks).getD e.f0.toNat 0).toNat, e.f1.toNat, ((numK ks).getD e.f2.toNat 0).toNat, by omega, by omega, by omega, List.any_eq_true.2 ⟨e, he, ?_⟩, ?_⟩
  ·unfold hitE
   simp only [Bool.and_eq_true, decide_eq_true_eq]
   exact ⟨by omega, by omega, by omega⟩
  ·unfold imE
   rw [Int.toNat_of_nonneg ha.1, Int.toNat_of_nonneg hb.1, Int.toNat_of_nonneg (by omega)]
section
variable {n : Nat} {ls : List ByteArray} {es : List Ed} {c : List Int} {m : Nat}
theorem any_snoc {p : Ed → Bool} {i : Nat} (h : i < es.length) : (es.take (i + 1)).any p = ((es.take i).any p || p es[i]) := by
 rw [take_snocD z80 h, List.any_append, show es.getD i z80 = es[i] from getD_get h]
 simp
theorem lead_ev (hm : mayR n ls es = true) (hc : c.length = n) (N x5 X : Int) (ls0 LS : List ByteArray) (f b t : Nat) (out : List Ed) (ho : out.length < 5864062014805) {r : Int × List ByteArray × List Ed}
  (h : Ev (fun k => Pr36a.l2 k c x5 (f : Int) (b : Int) (wrap64 ((t : Int) + 1)) N ls0 es X LS (out ++ if es.any (hitE c f b t) then [(⟨(f : Int), (b : Int), (t : Int)⟩ : Ed)] else [])) r) :
  ∀ d i : Nat, i + d = es.length → Ev (fun k => Pr36a.l3 k c x5 (f : Int) (b : Int) (t : Int) ((es.take i).any (hitE c f b t)) (i : Int) N ls0 es X LS out) r := by
 have hel := es_le hm;intro d
 induction d with
 | zero =>
  intro i hi;refine Ev.step (fun k => Pr36a.l3.eq_2 ..) (Ev.neg (by omega) ?_);rw [List.take_of_length_le (by omega)]
  cases q : es.any (hitE c f b t) with
  | false =>
   rw [q, if_neg (by simp), List.append_nil] at h;exact Ev.neg (by simp) h
  | true =>
   rw [q, if_pos rfl] at h;exact Ev.pos rfl (Ev.pos ho h)
 | succ d ih =>
  intro i hi;have hlt : i < es.length := by omega
  have ih' := ih (i + 1) (by omega);have hmem : es[i] ∈ es := List.getElem_mem hlt;have he := may_edge hm _ hmem
  have hr : rd_T80 es (i : Int) = es[i] := by
   show es.getD (i : Int).toNat _ = _;rw [Int.toNat_natCast, getD_get hlt]
  rw [any_snoc hlt] at ih';refine Ev.step (fun k => Pr36a.l3.eq_2 ..) (Ev.pos (by omega) (Ev.pos (by omega) ?_));rw [hr, w1n (by omega)];generalize hq : (es.take i).any (hitE c f b t) = q at ih' ⊢
  cases q with
  | true =>
   rw [Bool.true_or] at ih';exact Ev.pos rfl ih'
  | false =>
   rw [Bool.false_or] at ih';refine Ev.neg (by simp) ?_;by_cases hb : es[i].f1 = (b : Int)
   ·refine Ev.pos hb (Ev.pos he.1.1 (Ev.pos (by omega) ?_));by_cases hf : rd c es[i].f0 = (f : Int)
    ·refine Ev.pos hf (Ev.pos he.2.1.1 (Ev.pos (by omega) ?_))
     rw [show hitE c f b t es[i] = (rd c es[i].f2 == (t : Int)) by
      unfold hitE;rw [decide_eq_true hb, decide_eq_true (show c.getD es[i].f0.toNat 0 = (f : Int) from hf), Bool.true_and, Bool.true_and];rfl] at ih'
     exact ih'
    ·rw [show hitE c f b t es[i] = false by
      unfold hitE;rw [decide_eq_false (show ¬ c.getD es[i].f0.toNat 0 = (f : Int) from hf), Bool.false_and, Bool.and_false]] at ih'
     exact Ev.neg hf ih'
   ·rw [show hitE c f b t es[i] = false by unfold hitE; rw [decide_eq_false hb, Bool.false_and]] at ih';exact Ev.neg hb ih'
theorem to_ev (hm : mayR n ls es = true) (hc : c.length = n) (hmn : m ≤ 2048) (N X : Int) (ls0 LS : List ByteArray) (f b : Nat) (out : List Ed) (ho : out.length + m < 5864062014805) {r : Int × List ByteArray × List Ed}
  (h : Ev (fun k => Pr36a.l1 k c (m : Int) (f : Int) (wrap64 ((b : Int) + 1)) N ls0 es X LS (out ++ rowT c es f b m)) r) :
  ∀ d t : Nat, t + d = m → Ev (fun k => Pr36a.l2 k c (m : Int) (f : Int) (b : Int) (t : Int) N ls0 es X LS (out ++ rowT c es f b t)) r := by
 intro d
 induction d with
 | zero =>
  intro t ht
  obtain rfl : t = m := by omega
  exact Ev.step (fun k => Pr36a.l2.eq_2 ..) (Ev.neg (by omega) h)
 | succ d ih =>
  intro t ht
  have ih' := ih (t + 1) (by omega)
  have hT := rowT_len c es f b t
  refine Ev.step (fun k => Pr36a.l2.eq_2 ..) (Ev.pos (by omega) ?_)
  rw [rowT_succ, ← List.append_assoc] at ih'
  exact lead_ev hm hc N m X ls0 LS f b t _ (by rw [List.length_append]; omega) (by rw [w1n (by omega)]; exact ih') es.length 0 (by omega)
theorem lab_ev (hm : mayR n ls es = true) (hc : c.length = n) (hmn : m ≤ 2048) (N X : Int) (LS : List ByteArray) (f : Nat) (out : List Ed) (ho : out.length + (ls.length + 1) * m < 5864062014805) {r : Int × List ByteArray × List Ed}
  (h : Ev (fun k => Pr36a.l0 k c (m : Int) (wrap64 ((f : Int) + 1)) N ls es X LS (out ++ rowB c es m f ls.length)) r) :
  ∀ d b : Nat, b + d = ls.length → Ev (fun k => Pr36a.l1 k c (m : Int) (f : Int) (b : Int) N ls es X LS (out ++ rowB c es m f b)) r := by
 have hL := (may_lab hm).1
 intro d
 induction d with
 | zero =>
  intro b hb
  obtain rfl : b = ls.length := by omega
  exact Ev.step (fun k => Pr36a.l1.eq_2 ..) (Ev.neg (by omega) h)
 | succ d ih =>
  intro b hb
  have ih' := ih (b + 1) (by omega)
  have hB := rowB_len c es m f b
  have h1 : b * m ≤ ls.length * m := Nat.mul_le_mul_right m (by omega)
  rw [Nat.succ_mul] at ho
  refine Ev.step (fun k => Pr36a.l1.eq_2 ..) (Ev.pos (by omega) ?_)
  rw [rowB_succ, ← List.append_assoc] at ih'
  have := to_ev (m := m) hm hc hmn N X ls LS f b (out ++ rowB c es m f b) (by rw [List.length_append]; omega) (by rw [w1n (by omega)]; exact ih') m 0 (by omega)
  rw [show rowT c es f b 0 = [] from rfl, List.append_nil] at this
  exact this
theorem from_ev (hm : mayR n ls es = true) (hc : c.length = n) (hmn : m ≤ 2048) (N X : Int) (LS : List ByteArray) :
  ∀ d f : Nat, f + d = m → Ev (fun k => Pr36a.l0 k c (m : Int) (f : Int) N ls es X LS (rowF c es m ls.length f)) (X, LS, rowF c es m ls.length m) := by
 have hL := (may_lab hm).1
 intro d
 induction d with
 | zero =>
  intro f hf
  obtain rfl : f = m := by omega
  exact Ev.step (fun k => Pr36a.l0.eq_2 ..) (Ev.neg (by omega) (Ev.now _))
 | succ d ih =>
  intro f hf
  have ih' := ih (f + 1) (by omega)
  have hF := rowF_len c es m ls.length f
  have h1 : ls.length * m ≤ 64 * 2048 := Nat.mul_le_mul hL hmn
  have h2 : f * (ls.length * m) ≤ 2048 * (64 * 2048) := Nat.mul_le_mul (by omega) h1
  refine Ev.step (fun k => Pr36a.l0.eq_2 ..) (Ev.pos (by omega) ?_)
  rw [rowF_succ] at ih'
  have := lab_ev (m := m) hm hc hmn N X LS f (rowF c es m ls.length f) (by rw [Nat.succ_mul]; omega) (by rw [w1n (by omega)]; exact ih') ls.length 0 (by omega)
  rw [show rowB c es m f 0 = [] from rfl, List.append_nil] at this
  exact this
end
theorem of36_ev {n : Nat} {ls : List ByteArray} {es : List Ed} {ks : List Int} (hm : mayR n ls es = true) (hl : ks.length = n) : Ev (fun k => Pr36a.f k (n : Int) ls es ks) (((fstK ks).length : Int), ls, sortE (es.map (imE (numK ks)))) := by
 have hn := lt_n hm
 have hf := fstK_length_le ks
 have hkk := numK_numK ks
 have hC := count_ev (numK ks) (by rw [numK_length]; omega)
 rw [hkk.2] at hC
 have := from_ev (m := (fstK ks).length) (c := numK ks) hm (by rw [numK_length, hl]) (by omega) (n : Int) ((fstK ks).length : Int) ls (fstK ks).length 0 (by omega)
 rw [rowF_sortE hm hl] at this
 exact Ev.bind (plain_ev ks (by omega)) (Ev.bind hC this)
end Go.Proofs.Ytmcbkmfpmcbdpaa.H
namespace Go.Proofs.Ytmcbkmfpmcbdpaa.Pr
open Go.RowKit Go.Proofs.YtmcbkmfpmcbdpaaW.PrintWords Go.Proofs.YtmcbkmfpmcbdpaaW.PrintLast Go.Proofs.YtmcbkmfpmcbdpaaW.PrintMore Go.Proofs.Ytmcbkmfpmcbdpaa.Sem
def Pr36b.f (a0_0 : Int) (l0_1 : List ByteArray) (l0_2 : List S80) (l1 : List Int) : Option (Int × List ByteArray × List S80) :=
 if H.mayR a0_0 l0_1 l0_2 = true ∧ (l1.length : Int) = a0_0 then some (((PL.fstK l1).length : Int), l0_1, sortE (l0_2.map (H.imE (PL.numK l1)))) else none
theorem Pr36b.callsC (a0_0 : Int) (A0_1 : Option Addr) (c0_1 : Nat) (l0_1 : List ByteArray) (A0_2 : Option Addr) (c0_2 : Nat) (l0_2 : List S80) (A1 : Option Addr) (c1 : Nat) (l1 : List Int) (r1 : Int) (r2 : List ByteArray) (r3 : List S80) (w : World) (hr0_2 : Kd.C k80 w A0_2 l0_2.length l0_2) (hc0_2 : l0_2.length ≤ c0_2) (hr1 : Kd.C (Kd.int .i64) w A1 l1.length l1) (hc1 : l1.length ≤ c1) (h : Pr36b.f a0_0 l0_1 l0_2 l1 = some (r1, r2, r3)) :
  Calls Try.prog 48 #[.agg #[.int .i64 a0_0, .slice A0_1 l0_1.length c0_1, .slice A0_2 l0_2.length c0_2], .slice A1 l1.length c1] w fun e w' => r2 = l0_1 ∧ ∃ v2_ : Value, e = .returned (.agg #[.int .i64 r1, .slice A0_1 l0_1.length c0_1, v2_]) ∧ Kd.R k80 80 w' w.heap.size (fun _ => True) v2_ r3 ∧ Below w.heap.size w w' := by
 unfold Pr36b.f at h;split at h
 ·rename_i hm;obtain ⟨hm, hl⟩ := hm;obtain ⟨m, rfl⟩ : ∃ m : Nat, (m : Int) = a0_0 := ⟨l1.length, hl⟩
  simp only [Option.some.injEq, Prod.mk.injEq] at h;obtain ⟨rfl, rfl, rfl⟩ := h;obtain ⟨k, hk⟩ := (H.of36_ev (ks := l1) hm (by omega)).rounds;refine (Pr36a.calls k (m : Int) (fun _ => False) A0_1 c0_1 l0_1 A0_2 c0_2 l0_2 A1 c1 l1 _ l0_1 _ w w (Below.refl _ _) (Kd.C_kept_came (Kd.heap_iso _ (Kd.heap_pair (Kd.heap_int _) (Kd.heap_pair (Kd.heap_int _) (Kd.heap_int _)))) hr0_2 (Below.refl _ _) (fun _ h => h.elim)) hc0_2 (Kd.C_kept_came (Kd.heap_int _) hr1 (Below.refl _ _) (fun _ h => h.elim)) hc1 hk).mono ?_;rintro e w' ⟨v2, rfl, h⟩;obtain ⟨-, hR, hB, -⟩ := h;exact ⟨rfl, v2, rfl, Kd.R_mono hR (fun _ _ => trivial), hB⟩
 ·cases h
end Go.Proofs.Ytmcbkmfpmcbdpaa.Pr
namespace Go.Proofs.Ytmcbkmfpmcbdpaa.Pr
open Go.RowKit Go.Proofs.YtmcbkmfpmcbdpaaW.PrintWords Go.Proofs.YtmcbkmfpmcbdpaaW.PrintLast Go.Proofs.YtmcbkmfpmcbdpaaW.PrintMore
attribute [local go_sem] max2_int min2_int max_two min_two max_three min_three max_four min_four
set_option linter.unusedVariables false
set_option linter.unusedSimpArgs false
def Pl36a.j0 : Nat → Bool → Int → List ByteArray → List (S80) → Option (Bool)
 | 0, _, _, _, _ => none
 | k + 1, x54, x221000, x221001, x221002 => if x54 = true then (some false) else ((Pra.f x221000 x221001 x221002).bind fun bt236 => (if bt236.2 = 0 then ((Pr31b.f k bt236.1).bind fun t240 => (if t240 = x221000 then ((Pl36b.f k).bind fun t241 => (some t241)) else (some false))) else (some false)))
def Pl36a.f (k : Nat) (a0_0 : Int) (l0_1 : List ByteArray) (l0_2 : List (S80)) : Option (Bool) := (Pl33a.f k a0_0 l0_1 l0_2).bind fun t207 => (if t207 = true then ((Pxd.f k a0_0 l0_1 l0_2).bind fun bt209 => ((Pr26b.f a0_0 l0_1 l0_2).bind fun t221 => (if t221 = true then ((Pr34b.f k a0_0 l0_1 l0_2).bind fun t224 => (if bt209.2.2.2.2 = 0 then ((Pr01b.f k bt209.2.2.2.1 t224).bind fun t227 => (if t227 = true then ((Pr36b.f a0_0 l0_1 l0_2 t224).bind fun bt228 => ((Pr26a.f k bt209.1 bt209.2.1 bt209.2.2.1 bt228.1 bt228.2.1 bt228.2.2).bind fun t235 => (Pl36a.j0 k (!t235) bt209.1 bt209.2.1 bt209.2.2.1))) else (Pl36a.j0 k true bt209.1 bt209.2.1 bt209.2.2.1))) else (Pl36a.j0 k true bt209.1 bt209.2.1 bt209.2.2.1))) else ((Pr26a.f k bt209.1 bt209.2.1 bt209.2.2.1 0 ([] : List ByteArray) ([] : List (S80))).bind fun t222 => (if t222 = true then (if (bt209.2.2.2.1.length : Int) = 0 then (if bt209.2.2.2.2 = 1 then ((Pl36b.f k).bind fun t223 => (some t223)) else (some false)) else (some false)) else (some false)))))) else ((Pl36b.f k).bind fun t208 => (some t208)))
theorem Pl36a.mono_l : ∀ k, (∀ y0 y1 y2 y3, LeO (Pl36a.j0 k y0 y1 y2 y3) (Pl36a.j0 (k + 1) y0 y1 y2 y3))
 | 0 => fun _ _ _ _ r h => by simp [Pl36a.j0] at h
 | k + 1 => by
  have ih0 := Pl36a.mono_l k
  ·intro y0 y1 y2 y3
   unfold Pl36a.j0
   repeat' first
   | (with_reducible exact ih0 _ _ _ _)
   | (with_reducible exact Pxd.mono _ _ _ _)
   | (with_reducible exact Pl33a.mono _ _ _ _)
   | (with_reducible exact Pl36b.mono _)
   | (with_reducible exact Pr01b.mono _ _ _)
   | (with_reducible exact Pr26a.mono _ _ _ _ _ _ _)
   | (with_reducible exact Pr31b.mono _ _)
   | (with_reducible exact Pr34b.mono _ _ _ _)
   | (with_reducible exact LeO.refl _)
   | (with_reducible exact LeO.none _)
   | (with_reducible refine LeO.ite ?_ ?_)
   | (with_reducible refine LeO.bind ?_ (fun _ => ?_))
   | exact ih0 _ _ _ _
   | exact Pxd.mono _ _ _ _
   | exact Pl33a.mono _ _ _ _
   | exact Pl36b.mono _
   | exact Pr01b.mono _ _ _
   | exact Pr26a.mono _ _ _ _ _ _ _
   | exact Pr31b.mono _ _
   | exact Pr34b.mono _ _ _ _
   | exact LeO.none _
   | refine LeO.ite ?_ ?_
   | refine LeO.bind ?_ (fun _ => ?_)
theorem Pl36a.mono : ∀ a0 a1 a2 k, LeO (Pl36a.f k a0 a1 a2) (Pl36a.f (k + 1) a0 a1 a2) := by
 intro a0 a1 a2 k
 have ih0 := Pl36a.mono_l k
 unfold Pl36a.f
 repeat' first
   | (with_reducible exact ih0 _ _ _ _)
   | (with_reducible exact Pxd.mono _ _ _ _)
   | (with_reducible exact Pl33a.mono _ _ _ _)
   | (with_reducible exact Pl36b.mono _)
   | (with_reducible exact Pr01b.mono _ _ _)
   | (with_reducible exact Pr26a.mono _ _ _ _ _ _ _)
   | (with_reducible exact Pr31b.mono _ _)
   | (with_reducible exact Pr34b.mono _ _ _ _)
   | (with_reducible exact LeO.refl _)
   | (with_reducible exact LeO.none _)
   | (with_reducible refine LeO.ite ?_ ?_)
   | (with_reducible refine LeO.bind ?_ (fun _ => ?_))
   | exact ih0 _ _ _ _
   | exact Pxd.mono _ _ _ _
   | exact Pl33a.mono _ _ _ _
   | exact Pl36b.mono _
   | exact Pr01b.mono _ _ _
   | exact Pr26a.mono _ _ _ _ _ _ _
   | exact Pr31b.mono _ _
   | exact Pr34b.mono _ _ _ _
   | exact LeO.none _
   | refine LeO.ite ?_ ?_
   | refine LeO.bind ?_ (fun _ => ?_)
def Pl36a.T7 : Bool × List (List Nat × List Nat) := (true, [([], []), ([0], [0]), ([1], [1]), ([2], [2]), ([2], [2]), ([3, 4, 2, 2], [2, 3, 4]), ([5, 2], [2, 5]), ([2, 6], [2, 6]), ([7, 5], [7]), ([8], [8]), ([8], [8]), ([8], [8]), ([10, 11, 8, 8], [8, 10, 11]), ([9, 12, 12, 8], [8, 9, 12]), ([13, 8], [8, 13]), ([8, 14], [8, 14])])
def Pl36a.B7 : List Nat := [0, 1, 3, 7, 7, 31, 63, 127, 255, 511, 511, 511, 3583, 8191, 16383, 32767]
theorem Pl36a.tab7 : rtab .any (opsOf Try.f9 7) = Pl36a.T7 := by kernel_rfl
theorem Pl36a.bits7 : waitsOk Pl36a.T7.2 Pl36a.B7 = true := by kernel_rfl
def Pl36a.T10 : Bool × List (List Nat × List Nat) := (true, [([], []), ([0], [0]), ([1], [1]), ([2], [2]), ([3, 2, 2], [2, 3]), ([2], [2]), ([5, 2], [2, 5]), ([4, 6, 2], [2, 4, 6]), ([2, 7], [2, 7]), ([8, 4], [8]), ([9, 9], [9]), ([9, 10], [9, 10]), ([11, 10, 0, 1, 2, 3, 4, 5, 6, 7, 8, 9, 10, 11], [11])])
def Pl36a.B10 : List Nat := [0, 1, 3, 7, 15, 7, 39, 127, 255, 511, 1023, 2047, 4095]
theorem Pl36a.tab10 : rtab .any (opsOf Try.f9 10) = Pl36a.T10 := by kernel_rfl
theorem Pl36a.bits10 : waitsOk Pl36a.T10.2 Pl36a.B10 = true := by kernel_rfl
set_option maxHeartbeats 8000000 in
set_option maxRecDepth 100000 in
theorem Pl36a.calls (k : Nat) (a0_0 : Int) (A0_1 : Option Addr) (c0_1 : Nat) (l0_1 : List ByteArray) (A0_2 : Option Addr) (c0_2 : Nat) (l0_2 : List (S80)) (r : Bool) (w : World) (hr0_1 : Kd.C Kd.string w A0_1 l0_1.length l0_1) (hc0_1 : l0_1.length ≤ c0_1) (hr0_2 : Kd.C k80 w A0_2 l0_2.length l0_2) (hc0_2 : l0_2.length ≤ c0_2) (h : Pl36a.f k a0_0 l0_1 l0_2 = some r) (hr_ : Aside0 (r = true)) :
  Calls Try.prog 9 #[.agg #[.int .i64 a0_0, .slice A0_1 l0_1.length c0_1, .slice A0_2 l0_2.length c0_2]] w fun e w' => e = .returned (.bool r) ∧ Below w.heap.size w w' := by
 have z2 := Try.underlying25;have e9 := Aside0.mk hr0_1;have e7 := Aside0.mk hc0_1;clear hr0_1 hc0_1;have f0 := Aside0.mk hr0_2;have e8 := Aside0.mk hc0_2;clear hr0_2 hc0_2;have HB := Aside0.mk (Below.refl w.heap.size w);have H : ((Pl33a.f k a0_0 l0_1 l0_2).bind fun h7 => (if h7 = true then ((Pxd.f k a0_0 l0_1 l0_2).bind fun a2 => ((Pr26b.f a0_0 l0_1 l0_2).bind fun f6 => (if f6 = true then ((Pr34b.f k a0_0 l0_1 l0_2).bind fun b9 => (if a2.2.2.2.2 = 0 then ((Pr01b.f k a2.2.2.2.1 b9).bind fun e1 => (if e1 = true then ((Pr36b.f a0_0 l0_1 l0_2 b9).bind fun b3 => ((Pr26a.f k a2.1 a2.2.1 a2.2.2.1 b3.1 b3.2.1 b3.2.2).bind fun d2 => (Pl36a.j0 k (!d2) a2.1 a2.2.1 a2.2.2.1))) else (Pl36a.j0 k true a2.1 a2.2.1 a2.2.2.1))) else (Pl36a.j0 k true a2.1 a2.2.1 a2.2.2.1))) else ((Pr26a.f k a2.1 a2.2.1 a2.2.2.1 0 ([] : List ByteArray) ([] : List (S80))).bind fun e3 => (if e3 = true then (if (a2.2.2.2.1.length : Int) = 0 then (if a2.2.2.2.2 = 1 then ((Pl36b.f k).bind fun d5 => (some d5)) else (some false)) else (some false)) else (some false)))))) else ((Pl36b.f k).bind fun g0 => (some g0)))) = some r := h;clear h;replace H := Option.bind_eq_some_iff.mp H;obtain ⟨h7, q0, H⟩ := H;replace H : (if h7 = true then ((Pxd.f k a0_0 l0_1 l0_2).bind fun a2 => ((Pr26b.f a0_0 l0_1 l0_2).bind fun f6 => (if f6 = true then ((Pr34b.f k a0_0 l0_1 l0_2).bind fun b9 => (if a2.2.2.2.2 = 0 then ((Pr01b.f k a2.2.2.2.1 b9).bind fun e1 => (if e1 = true then ((Pr36b.f a0_0 l0_1 l0_2 b9).bind fun b3 => ((Pr26a.f k a2.1 a2.2.1 a2.2.2.1 b3.1 b3.2.1 b3.2.2).bind fun d2 => (Pl36a.j0 k (!d2) a2.1 a2.2.1 a2.2.2.1))) else (Pl36a.j0 k true a2.1 a2.2.1 a2.2.2.1))) else (Pl36a.j0 k true a2.1 a2.2.1 a2.2.2.1))) else ((Pr26a.f k a2.1 a2.2.1 a2.2.2.1 0 ([] : List ByteArray) ([] : List (S80))).bind fun e3 => (if e3 = true then (if (a2.2.2.2.1.length : Int) = 0 then (if a2.2.2.2.2 = 1 then ((Pl36b.f k).bind fun d5 => (some d5)) else (some false)) else (some false)) else (some false)))))) else ((Pl36b.f k).bind fun g0 => (some g0))) = some r := H;have A2 := Aside0.mk q0;clear q0;by_cases c3 : h7 = true
 ·subst c3;have H1 : ((Pxd.f k a0_0 l0_1 l0_2).bind fun a2 => ((Pr26b.f a0_0 l0_1 l0_2).bind fun f6 => (if f6 = true then ((Pr34b.f k a0_0 l0_1 l0_2).bind fun b9 => (if a2.2.2.2.2 = 0 then ((Pr01b.f k a2.2.2.2.1 b9).bind fun e1 => (if e1 = true then ((Pr36b.f a0_0 l0_1 l0_2 b9).bind fun b3 => ((Pr26a.f k a2.1 a2.2.1 a2.2.2.1 b3.1 b3.2.1 b3.2.2).bind fun d2 => (Pl36a.j0 k (!d2) a2.1 a2.2.1 a2.2.2.1))) else (Pl36a.j0 k true a2.1 a2.2.1 a2.2.2.1))) else (Pl36a.j0 k true a2.1 a2.2.1 a2.2.2.1))) else ((Pr26a.f k a2.1 a2.2.1 a2.2.2.1 0 ([] : List ByteArray) ([] : List (S80))).bind fun e3 => (if e3 = true then (if (a2.2.2.2.1.length : Int) = 0 then (if a2.2.2.2.2 = 1 then ((Pl36b.f k).bind fun d5 => (some d5)) else (some false)) else (some false)) else (some false)))))) = some r := by rw [if_pos rfl] at H; exact H
  clear H;have H := H1;clear H1;replace H := Option.bind_eq_some_iff.mp H;obtain ⟨⟨a3, a9, b2, d3, d4⟩, i8, H⟩ := H;replace H : ((Pr26b.f a0_0 l0_1 l0_2).bind fun f6 => (if f6 = true then ((Pr34b.f k a0_0 l0_1 l0_2).bind fun b9 => (if d4 = 0 then ((Pr01b.f k d3 b9).bind fun e1 => (if e1 = true then ((Pr36b.f a0_0 l0_1 l0_2 b9).bind fun b3 => ((Pr26a.f k a3 a9 b2 b3.1 b3.2.1 b3.2.2).bind fun d2 => (Pl36a.j0 k (!d2) a3 a9 b2))) else (Pl36a.j0 k true a3 a9 b2))) else (Pl36a.j0 k true a3 a9 b2))) else ((Pr26a.f k a3 a9 b2 0 ([] : List ByteArray) ([] : List (S80))).bind fun e3 => (if e3 = true then (if (d3.length : Int) = 0 then (if d4 = 1 then ((Pl36b.f k).bind fun d5 => (some d5)) else (some false)) else (some false)) else (some false))))) = some r := H;have A4 := Aside0.mk i8;clear i8;replace H := Option.bind_eq_some_iff.mp H;obtain ⟨f6, q2, H⟩ := H;replace H : (if f6 = true then ((Pr34b.f k a0_0 l0_1 l0_2).bind fun b9 => (if d4 = 0 then ((Pr01b.f k d3 b9).bind fun e1 => (if e1 = true then ((Pr36b.f a0_0 l0_1 l0_2 b9).bind fun b3 => ((Pr26a.f k a3 a9 b2 b3.1 b3.2.1 b3.2.2).bind fun d2 => (Pl36a.j0 k (!d2) a3 a9 b2))) else (Pl36a.j0 k true a3 a9 b2))) else (Pl36a.j0 k true a3 a9 b2))) else ((Pr26a.f k a3 a9 b2 0 ([] : List ByteArray) ([] : List (S80))).bind fun e3 => (if e3 = true then (if (d3.length : Int) = 0 then (if d4 = 1 then ((Pl36b.f k).bind fun d5 => (some d5)) else (some false)) else (some false)) else (some false)))) = some r := H;have A5 := Aside0.mk q2;clear q2;by_cases c6 : f6 = true
  ·subst c6;have H1 : ((Pr34b.f k a0_0 l0_1 l0_2).bind fun b9 => (if d4 = 0 then ((Pr01b.f k d3 b9).bind fun e1 => (if e1 = true then ((Pr36b.f a0_0 l0_1 l0_2 b9).bind fun b3 => ((Pr26a.f k a3 a9 b2 b3.1 b3.2.1 b3.2.2).bind fun d2 => (Pl36a.j0 k (!d2) a3 a9 b2))) else (Pl36a.j0 k true a3 a9 b2))) else (Pl36a.j0 k true a3 a9 b2))) = some r := by rw [if_pos rfl] at H; exact H
   clear H;have H := H1;clear H1;replace H := Option.bind_eq_some_iff.mp H;obtain ⟨b9, q3, H⟩ := H;replace H : (if d4 = 0 then ((Pr01b.f k d3 b9).bind fun e1 => (if e1 = true then ((Pr36b.f a0_0 l0_1 l0_2 b9).bind fun b3 => ((Pr26a.f k a3 a9 b2 b3.1 b3.2.1 b3.2.2).bind fun d2 => (Pl36a.j0 k (!d2) a3 a9 b2))) else (Pl36a.j0 k true a3 a9 b2))) else (Pl36a.j0 k true a3 a9 b2)) = some r := H;have A7 := Aside0.mk q3;clear q3;have o2 := Aside0.mk H;clear H;go_enter Try.func9, Try.ntmps9
   go_upto_region 7 with (first | ((with_reducible refine gate_dst (N := 1) rfl ?_); (try (refine gate_guard (by rfl) ?_; dsimp only)); refine box_event ?hg (N := 1) ?hd (cs := #[.int .i64 a0_0, .slice A0_1 l0_1.length c0_1, .slice A0_2 l0_2.length c0_2]) (t := 25) ?hr ?_; (case hd => rfl); (case hg => rfl); (case hr => first | (go_simp; done) | (go_simp; rfl)); intro a8 hg w9 hbox hb; have b0 := Aside0.mk (below_step (wz HB.out) hb); have b1 := Aside0.mk (hbox); have b4 := Aside0.mk ((by rw [hg]; exact (below_size (wz HB.out)) : w.heap.size ≤ a8)); have b5 := Aside0.mk ((by rw [hg]; exact (below_size (wz HB.out)) : w.heap.size ≤ a8)); clear HB; have HB := b0; have a0 := b1; have j2 := b4; have i9 := b5; clear b0 b1 b4 b5; clear hb hbox hg; have j9 : w9.cell? ⟨a8, 0, none⟩ = some (.int .i64 a0_0) := bcz a0 0 rfl; have k0 : w9.cell? ⟨a8, 1, none⟩ = some (.slice A0_1 l0_1.length c0_1) := bcz a0 1 rfl; have k1 : w9.cell? ⟨a8, 2, none⟩ = some (.slice A0_2 l0_2.length c0_2) := bcz a0 2 rfl; have l8 := blk_frozen a0.out 0; have l9 := blk_frozen a0.out 1; have m0 := blk_frozen a0.out 2) | ((with_reducible refine gate_callee (f := 15) rfl ?_); refine goesL_ (some 10) rfl rfl Try.func15 (by kernel_rfl) rfl #[.agg #[.int .i64 a0_0, .slice A0_1 l0_1.length c0_1, .slice A0_2 l0_2.length c0_2]] rfl (by (try simp only [List.map_toArray, List.map_cons, List.map_nil]); first | done | rfl | (simp only [List.length_drop, List.length_take]; rfl)) ?_; (with_reducible refine (Pl33a.calls k a0_0 _ _ l0_1 _ _ l0_2 true _ ?d7 ?d8 ?d9 ?e0 A2.out).mono ?_); (case d7 => exact cz e9.out HB.out); (case d8 => exact e7.out); (case d9 => exact cz f0.out HB.out); (case e0 => exact e8.out); rintro e p0 ⟨rfl, hb⟩; refine ⟨_, rfl, ?_⟩; have b0 := Aside0.mk (blk_below (bz a0.out) hb); have b1 := Aside0.mk (below_step (wz HB.out) hb); clear a0; clear HB; have a0 := b0; have HB := b1; clear b0 b1; (try clear hb); (try clear f5); (try clear hk); (try clear hi); have k2 : p0.cell? ⟨a8, 0, none⟩ = some (.int .i64 a0_0) := bcz a0 0 rfl; have k3 : p0.cell? ⟨a8, 1, none⟩ = some (.slice A0_1 l0_1.length c0_1) := bcz a0 1 rfl; have k4 : p0.cell? ⟨a8, 2, none⟩ = some (.slice A0_2 l0_2.length c0_2) := bcz a0 2 rfl; have m1 := blk_frozen a0.out 0; have m2 := blk_frozen a0.out 1; have m3 := blk_frozen a0.out 2) | ((with_reducible refine gate_callee (f := 49) rfl ?_); refine goesL_ (some 15) rfl rfl Try.func49 (by kernel_rfl) rfl #[.agg #[.int .i64 a0_0, .slice A0_1 l0_1.length c0_1, .slice A0_2 l0_2.length c0_2]] rfl (by (try simp only [List.map_toArray, List.map_cons, List.map_nil]); first | done | rfl | (simp only [List.length_drop, List.length_take]; rfl)) ?_; (with_reducible refine (Pxd.calls k a0_0 _ _ l0_1 _ _ l0_2 a3 a9 b2 d3 d4 _ ?d7 ?d8 ?d9 ?e0 A4.out).mono ?_); (case d7 => exact cz e9.out HB.out); (case d8 => exact e7.out); (case d9 => exact cz f0.out HB.out); (case e0 => exact e8.out); rintro e z9 ⟨t5, t6, t7, rfl, f7, g6, i2, hb⟩; refine ⟨_, rfl, ?_⟩; have b0 := Aside0.mk (Kd.R_lower f7 (below_size (wz HB.out))); have b1 := Aside0.mk (Kd.R_lower g6 (below_size (wz HB.out))); have b4 := Aside0.mk (Kd.R_lower i2 (below_size (wz HB.out))); have b5 := Aside0.mk (blk_below (bz a0.out) hb); have b6 := Aside0.mk (below_step (wz HB.out) hb); clear a0; clear HB; have a5 := b0; have a4 := b1; have a6 := b4; have a0 := b5; have HB := b6; clear b0 b1 b4 b5 b6; (try clear hb); (try clear f5); (try clear hk); (try clear hi); (try clear f7); (try clear g6); (try clear i2)) | ((with_reducible refine gate_dst (N := 3) rfl ?_); (try (refine gate_guard (by rfl) ?_; dsimp only)); refine box_event ?hg (N := 3) ?hd (cs := #[.int .i64 0, .slice none 0 0, .slice none 0 0]) (t := 25) ?hr ?_; (case hd => rfl); (case hg => rfl); (case hr => first | (go_simp; done) | (go_simp; rfl)); intro a7 hg h5 hbox hb; have b0 := Aside0.mk (Kd.R_below (rz a5.out) hb); have b1 := Aside0.mk (Kd.R_below (rz a4.out) hb); have b4 := Aside0.mk (Kd.R_below (rz a6.out) hb); have b5 := Aside0.mk (blk_below (bz a0.out) hb); have b6 := Aside0.mk (below_step (wz HB.out) hb); have b8 := Aside0.mk (hbox); have d6 := Aside0.mk ((by rw [hg]; exact (below_size (wz HB.out)) : w.heap.size ≤ a7)); have f8 := Aside0.mk ((by rw [hg]; exact (below_size (wz HB.out)) : w.heap.size ≤ a7)); have f9 := Aside0.mk ((by rw [hg]; exact Nat.ne_of_lt (blk_lt (g := a8) (o := .cells #[.int .i64 a0_0, .slice A0_1 l0_1.length c0_1, .slice A0_2 l0_2.length c0_2] 25 (0, 0)) (bz a0.out)) : a8 ≠ a7)); have i3 := Aside0.mk ((by rw [hg]; exact Nat.ne_of_gt (blk_lt (g := a8) (o := .cells #[.int .i64 a0_0, .slice A0_1 l0_1.length c0_1, .slice A0_2 l0_2.length c0_2] 25 (0, 0)) (bz a0.out)) : a7 ≠ a8)); clear a5; clear a4; clear a6; clear a0; clear HB; have a5 := b0; have a4 := b1; have a6 := b4; have a0 := b5; have HB := b6; have a1 := b8; have p7 := d6; have p6 := f8; have e2 := f9; have f4 := i3; clear b0 b1 b4 b5 b6 b8 d6 f8 f9 i3; clear hb hbox hg; have y4 := f4.out; have y7 := e2.out; have k5 : h5.cell? ⟨a7, 0, none⟩ = some (.int .i64 0) := bcz a1 0 rfl; have k6 : h5.cell? ⟨a7, 1, none⟩ = some (.slice none 0 0) := bcz a1 1 rfl; have k7 : h5.cell? ⟨a7, 2, none⟩ = some (.slice none 0 0) := bcz a1 2 rfl; have m4 := blk_frozen a1.out 0; have m5 := blk_frozen a1.out 1; have m6 := blk_frozen a1.out 2; obtain ⟨e5, e6, r5⟩ := Kd.R_slice a5.out; subst r5; obtain ⟨f1, f2, r6⟩ := Kd.R_slice a4.out; subst r6; have k8 : h5.cell? ⟨a8, 0, none⟩ = some (.int .i64 a0_0) := bcz a0 0 rfl; have k9 : h5.cell? ⟨a8, 1, none⟩ = some (.slice A0_1 l0_1.length c0_1) := bcz a0 1 rfl; have l4 : h5.cell? ⟨a8, 2, none⟩ = some (.slice A0_2 l0_2.length c0_2) := bcz a0 2 rfl; have m7 := blk_frozen a0.out 0; have m8 := blk_frozen a0.out 1; have m9 := blk_frozen a0.out 2) | ((with_reducible refine gate_callee (f := 18) rfl ?_); refine goesL_ (some 20) rfl rfl Try.func18 (by kernel_rfl) rfl #[.agg #[.int .i64 a0_0, .slice A0_1 l0_1.length c0_1, .slice A0_2 l0_2.length c0_2]] rfl (by (try simp only [List.map_toArray, List.map_cons, List.map_nil]); first | done | rfl | (simp only [List.length_drop, List.length_take]; rfl)) ?_; (with_reducible refine (Pr26b.calls a0_0 _ _ l0_1 _ _ l0_2 true _ ?d7 ?d8 ?d9 ?e0 A5.out).mono ?_); (case d7 => exact Kd.C_below e9.out (wz HB.out)); (case d8 => exact e7.out); (case d9 => exact Kd.C_below f0.out (wz HB.out)); (case e0 => exact e8.out); rintro e p1 ⟨rfl, hb⟩; refine ⟨_, rfl, ?_⟩; have b0 := Aside0.mk (Kd.R_below (rz (Kd.R_mono (Kd.R_far (p := ⟨a7, 2, none⟩) (Kd.R_far (p := ⟨a7, 1, none⟩) (Kd.R_far (p := ⟨a7, 0, none⟩) (Kd.R_types a5.out a1.out (by decide)) (fun _ hk => hk.2) (.int .i64 a3)) (fun _ hk => hk.2) (.slice e5 a9.length e6)) (fun _ hk => hk.2) (.slice f1 b2.length f2)) (fun _ h_ => h_.1))) hb); have b1 := Aside0.mk (Kd.R_below (rz (Kd.R_mono (Kd.R_far (p := ⟨a7, 2, none⟩) (Kd.R_far (p := ⟨a7, 1, none⟩) (Kd.R_far (p := ⟨a7, 0, none⟩) (Kd.R_types a4.out a1.out (by decide)) (fun _ hk => hk.2) (.int .i64 a3)) (fun _ hk => hk.2) (.slice e5 a9.length e6)) (fun _ hk => hk.2) (.slice f1 b2.length f2)) (fun _ h_ => h_.1))) hb); have b4 := Aside0.mk (Kd.R_below (rz (Kd.R_mono (Kd.R_far (p := ⟨a7, 2, none⟩) (Kd.R_far (p := ⟨a7, 1, none⟩) (Kd.R_far (p := ⟨a7, 0, none⟩) (Kd.R_types a6.out a1.out (by decide)) (fun _ hk => hk.2) (.int .i64 a3)) (fun _ hk => hk.2) (.slice e5 a9.length e6)) (fun _ hk => hk.2) (.slice f1 b2.length f2)) (fun _ h_ => h_.1))) hb); have b5 := Aside0.mk (blk_below (g := a8) (o := .cells #[.int .i64 a0_0, .slice A0_1 l0_1.length c0_1, .slice A0_2 l0_2.length c0_2] 25 (0, 0)) (fz a0.out e2.out) hb); have b6 := Aside0.mk (blk_below (g := a7) (o := .cells #[.int .i64 a3, .slice e5 a9.length e6, .slice f1 b2.length f2] 25 (0, 0)) (by (with_reducible repeat (first | refine blk_drewN ?_ _ | refine blk_drew ?_ | refine blk_alloc ?_ _)); refine blk_put (cs := #[.int .i64 a3, .slice e5 a9.length e6, .slice none 0 0]) ?_ 2 _ rfl; (with_reducible repeat (first | refine blk_drewN ?_ _ | refine blk_drew ?_ | refine blk_alloc ?_ _)); refine blk_put (cs := #[.int .i64 a3, .slice none 0 0, .slice none 0 0]) ?_ 1 _ rfl; (with_reducible repeat (first | refine blk_drewN ?_ _ | refine blk_drew ?_ | refine blk_alloc ?_ _)); refine blk_put (cs := #[.int .i64 0, .slice none 0 0, .slice none 0 0]) ?_ 0 _ rfl; (with_reducible repeat (first | refine blk_drewN ?_ _ | refine blk_drew ?_ | refine blk_alloc ?_ _)); exact a1.out) hb); have b8 := Aside0.mk (below_step (wz HB.out) hb); clear a5; clear a4; clear a6; clear a0; clear a1; clear HB; have a5 := b0; have a4 := b1; have a6 := b4; have a0 := b5; have a1 := b6; have HB := b8; clear b0 b1 b4 b5 b6 b8; (try clear hb); (try clear f5); (try clear hk); (try clear hi); have l5 : p1.cell? ⟨a8, 0, none⟩ = some (.int .i64 a0_0) := bcz a0 0 rfl; have l6 : p1.cell? ⟨a8, 1, none⟩ = some (.slice A0_1 l0_1.length c0_1) := bcz a0 1 rfl; have l7 : p1.cell? ⟨a8, 2, none⟩ = some (.slice A0_2 l0_2.length c0_2) := bcz a0 2 rfl; have n0 := blk_frozen a0.out 0; have n1 := blk_frozen a0.out 1; have n2 := blk_frozen a0.out 2) | ((with_reducible refine gate_callee (f := 20) rfl ?_); refine goesL_ (some 38) rfl rfl Try.func20 (by kernel_rfl) rfl #[.agg #[.int .i64 a0_0, .slice A0_1 l0_1.length c0_1, .slice A0_2 l0_2.length c0_2]] rfl (by (try simp only [List.map_toArray, List.map_cons, List.map_nil]); first | done | rfl | (simp only [List.length_drop, List.length_take]; rfl)) ?_; (with_reducible refine (Pr34b.calls k a0_0 _ _ l0_1 _ _ l0_2 b9 _ ?d7 ?d8 ?d9 ?e0 A7.out).mono ?_); (case d7 => exact cz e9.out HB.out); (case d8 => exact e7.out); (case d9 => exact cz f0.out HB.out); (case e0 => exact e8.out); rintro e p2 ⟨z3, rfl, f7, hb⟩; refine ⟨_, rfl, ?_⟩; have b0 := Aside0.mk (Kd.R_below (rz a5.out) hb); have b1 := Aside0.mk (Kd.R_below (rz a4.out) hb); have b4 := Aside0.mk (Kd.R_elder' (rz a6.out) (Kd.R_base f7) hb); have b5 := Aside0.mk (Kd.R_lower (Kd.R_new' f7 (Kd.R_lt (rz a6.out))) (below_size (wz HB.out))); have b6 := Aside0.mk (blk_below (bz a0.out) hb); have b8 := Aside0.mk (blk_below (bz a1.out) hb); have d6 := Aside0.mk (below_step (wz HB.out) hb); clear a5; clear a4; clear a6; clear a0; clear a1; clear HB; have a5 := b0; have a4 := b1; have a6 := b4; have b7 := b5; have a0 := b6; have a1 := b8; have HB := d6; clear b0 b1 b4 b5 b6 b8 d6; (try clear hb); (try clear f5); (try clear hk); (try clear hi); (try clear f7)))
   (try simp only [Act.put, qz1, qz2, qz3])
   go_cut [54] (fun y2 wc => ∃ (kq : Nat) (h1 : Bool), y2 = .bool h1 ∧ Aside0 (Pl36a.j0 kq h1 a3 a9 b2 = some r) ∧ Aside0 (kq ≤ k) ∧ Aside0 (Kd.R Kd.string 9 wc w.heap.size (fun _ => True) (.slice e5 a9.length e6) a9) ∧ Aside0 (Kd.R k80 80 wc w.heap.size (fun _ => True) (.slice f1 b2.length f2) b2) ∧ Aside0 (wc.heap[a8]? = some (.cells #[.int .i64 a0_0, (.slice A0_1 l0_1.length c0_1), (.slice A0_2 l0_2.length c0_2)] 25 (0, 0))) ∧ Aside0 (wc.heap[a7]? = some (.cells #[.int .i64 a3, (.slice e5 a9.length e6), (.slice f1 b2.length f2)] 25 (0, 0))) ∧ Aside0 (Below w.heap.size w wc))
   case first =>
    have H := o2.out;clear o2;by_cases g9 : d4 = 0
    ·rw [if_pos g9] at H;have c23b0 : (d4 == 0) = true := beq_iff_eq.mpr g9;have c23b1 : (d4 != 0) = false := bne_eq_false_iff_eq.mpr g9;clear g9
     (first | rw [c23b0] | (simp only [i64_w, i32_w]; rw [c23b0]) | skip)
     replace H := Option.bind_eq_some_iff.mp H;obtain ⟨e1, n3, H⟩ := H;replace H : (if e1 = true then ((Pr36b.f a0_0 l0_1 l0_2 b9).bind fun b3 => ((Pr26a.f k a3 a9 b2 b3.1 b3.2.1 b3.2.2).bind fun d2 => (Pl36a.j0 k (!d2) a3 a9 b2))) else (Pl36a.j0 k true a3 a9 b2)) = some r := H;have q1 := Aside0.mk n3;clear n3;by_cases i1 : e1 = true
     ·subst i1;have H1 : ((Pr36b.f a0_0 l0_1 l0_2 b9).bind fun b3 => ((Pr26a.f k a3 a9 b2 b3.1 b3.2.1 b3.2.2).bind fun d2 => (Pl36a.j0 k (!d2) a3 a9 b2))) = some r := by rw [if_pos rfl] at H; exact H
      clear H;have H := H1;clear H1;replace H := Option.bind_eq_some_iff.mp H;obtain ⟨⟨h8, i4, h9⟩, n4, H⟩ := H;replace H : ((Pr26a.f k a3 a9 b2 h8 i4 h9).bind fun d2 => (Pl36a.j0 k (!d2) a3 a9 b2)) = some r := H;have x6 := Aside0.mk n4;clear n4;replace H := Option.bind_eq_some_iff.mp H;obtain ⟨d2, n5, H⟩ := H;replace H : (Pl36a.j0 k (!d2) a3 a9 b2) = some r := H;have x7 := Aside0.mk n5;clear n5;have H' := Aside0.mk H;clear H;try go_wp2
      have b0 := Aside0.mk (Kd.R_drew a5.out);have b1 := Aside0.mk (Kd.R_drew a4.out);have b4 := Aside0.mk (Kd.R_drew a6.out);have b5 := Aside0.mk (Kd.R_drew b7.out);have b6 := Aside0.mk (blk_drew a0.out);have b8 := Aside0.mk (blk_drew a1.out);have d6 := Aside0.mk (below_drew1 HB.out);clear a5 a4 a6 b7 a0 a1 HB;have a5 := b0;have a4 := b1;have a6 := b4;have b7 := b5;have a0 := b6;have a1 := b8;have HB := d6;clear b0 b1 b4 b5 b6 b8 d6;obtain ⟨q5, r0, o4⟩ := Kd.R_slice a6.out
      (first | subst o4 | (injection o4 with f1_ f2_ f3_; have f4_ := f1_.symm; have f5_ := f3_.symm; clear f1_ f2_ f3_; subst f4_; subst f5_))
      obtain ⟨o1, o3, o5⟩ := Kd.R_slice b7.out
      (first | subst o5 | (injection o5 with f1_ f2_ f3_; have f4_ := f1_.symm; have f5_ := f3_.symm; clear f1_ f2_ f3_; subst f4_; subst f5_))
      refine start_ (n := 16) (S := fun w' => w'.cell? ⟨a7, 0, none⟩ = some (.int .i64 a3) ∧ w'.cell? ⟨a7, 1, none⟩ = some (.slice e5 a9.length e6) ∧ w'.cell? ⟨a7, 2, none⟩ = some (.slice f1 b2.length f2) ∧ w'.cell? ⟨a8, 0, none⟩ = some (.int .i64 a0_0) ∧ w'.cell? ⟨a8, 1, none⟩ = some (.slice A0_1 l0_1.length c0_1) ∧ w'.cell? ⟨a8, 2, none⟩ = some (.slice A0_2 l0_2.length c0_2)) (ds := []) (bqz 16 0) (by kernel_rfl) rfl rfl ⟨bcz a1 0 rfl, bcz a1 1 rfl, bcz a1 2 rfl, bcz a0 0 rfl, bcz a0 1 rfl, bcz a0 2 rfl⟩ (fun hHeld => ?_); refine with_tabW Pl36a.tab7 Pl36a.bits7 (fun HT_ HW_ => ?_)
      generalize p2.drew = w28 at a5 a4 a6 b7 a0 a1 HB hHeld ⊢;refine pqz 0 (some 39) (bqz 16 1) rfl rfl (any_of HT_.out (by kernel_rfl)) ?_ ?_ (fun _ _ _ h => h) (by rfl) ?_ ?_ ?_;rotate_left 2;intro w';go_simp;(with_reducible rfl);simp only [Act.put, qz1, qz2, qz3, i64_w, i32_w];rfl
      refine pqz 1 (some 40) (bqz 16 3) rfl rfl (any_of HT_.out (by kernel_rfl)) ?_ ?_ (fun _ _ _ h => h) (by rfl) ?_ ?_ ?_;rotate_left 2;intro w';go_simp;(with_reducible rfl);simp only [Act.put, qz1, qz2, qz3, i64_w, i32_w];rfl
      refine pqz 2 (some 41) (bqz 16 7) rfl rfl (any_of HT_.out (by kernel_rfl)) ?_ ?_ (fun _ _ _ h => h) (by rfl) ?_ ?_ ?_;rotate_left 2;intro w';go_simp;(with_reducible rfl);simp only [Act.put, qz1, qz2, qz3, i64_w, i32_w];rfl
      refine pqz 3 (some 42) (bqz 16 15) rfl rfl (any_of HT_.out (by kernel_rfl)) ?_ ?_ (fun _ _ _ h => h) (by rfl) ?_ ?_ ?_;rotate_left 2;intro w';go_simp;(with_reducible rfl);simp only [Act.put, qz1, qz2, qz3, i64_w, i32_w];rfl
      refine pqz 4 (some 43) (bqz 16 31) rfl rfl (any_of HT_.out (by kernel_rfl)) ?_ ?_ (fun _ _ _ h => h) (by rfl) ?_ ?_ ?_;rotate_left 2;intro w';go_simp;(with_reducible rfl);simp only [Act.put, qz1, qz2, qz3, i64_w, i32_w];rfl
      refine one_ (i := 5) (N := some 44) (bqz 16 63) rfl rfl (one_of HT_.out (by kernel_rfl)) (by decide) (fun K hK => ?_);refine goes_ Try.func21 (by kernel_rfl) rfl #[.slice q5 d3.length r0, .slice o1 b9.length o3] (by rfl) rfl rfl (by (try simp only [List.map_toArray, List.map_cons, List.map_nil]); first | done | rfl | (simp only [List.length_drop, List.length_take]; rfl)) ?_;with_reducible refine (Pr01b.calls k _ _ d3 _ _ b9 true _ ?d7 ?d8 ?d9 ?e0 q1.out).mono ?_
      (case d7 => repeat (first | exact (Kd.R_reads' a6.out).2.2 | (with_reducible refine Kd.C_alloc ?_ _) | (with_reducible refine Kd.C_drewN ?_ _) | (with_reducible refine Kd.C_drew ?_)))
      (case d8 => exact (Kd.R_reads' a6.out).2.1)
      (case d9 => repeat (first | exact (Kd.R_reads' b7.out).2.2 | (with_reducible refine Kd.C_alloc ?_ _) | (with_reducible refine Kd.C_drewN ?_ _) | (with_reducible refine Kd.C_drew ?_)))
      (case e0 => exact (Kd.R_reads' b7.out).2.1)
      rintro e w' ⟨rfl, ⟨nd, rfl⟩⟩;refine ⟨_, rfl, ?_⟩;refine hK.out _ _ ⟨bcz a1 0 rfl, bcz a1 1 rfl, bcz a1 2 rfl, bcz a0 0 rfl, bcz a0 1 rfl, bcz a0 2 rfl⟩ (fun hHeld => ?_);clear hK K;refine norm_ (a' := ?_) ?_ ?_;rotate_left
      ·show Act.put _ (some 44) _ = _;simp only [Act.put, qz1, qz2, qz3, i64_w, i32_w];rfl
      refine pqz 6 (some 45) (bqz 16 127) rfl rfl (any_of HT_.out (by kernel_rfl)) ?_ ?_ (fun _ _ _ h => h) (by rfl) ?_ ?_ ?_;rotate_left 2;intro w';go_simp;(with_reducible rfl);simp only [Act.put, qz1, qz2, qz3, i64_w, i32_w];rfl
      refine pqz 7 (some 46) (bqz 16 255) rfl rfl (any_of HT_.out (by kernel_rfl)) ?_ ?_ (fun _ _ _ h => h) (by rfl) ?_ ?_ ?_;rotate_left 2;intro w';go_simp;(with_reducible rfl);simp only [Act.put, qz1, qz2, qz3, i64_w, i32_w];rfl
      refine pqz 8 (some 47) (bqz 16 511) rfl rfl (any_of HT_.out (by kernel_rfl)) ?_ ?_ (fun _ _ _ h => h) (by rfl) ?_ ?_ ?_;rotate_left 2;intro w';go_simp;(with_reducible rfl);simp only [Act.put, qz1, qz2, qz3, i64_w, i32_w];rfl
      refine pqz 11 (some 50) (bqz 16 2559) rfl rfl (any_of HT_.out (by kernel_rfl)) ?_ ?_ (fun _ _ _ h => h) (by rfl) ?_ ?_ ?_;rotate_left 2;intro w';go_simp;(with_reducible rfl);simp only [Act.put, qz1, qz2, qz3, i64_w, i32_w];rfl
      refine tqz 9 (some 48) (bqz 16 3071) rfl rfl (take_ofW HT_.out HW_.out (by kernel_rfl)) ?_ ?_ (fun _ _ _ h => h) (by rfl) ?_ hHeld ?_ ?_;rotate_left 2;rintro w' ⟨s0, s1, s2, s3, s4, s5⟩;go_simp;(with_reducible rfl);simp only [Act.put, qz1, qz2, qz3, i64_w, i32_w];rfl
      refine tqz 10 (some 49) (bqz 16 4095) rfl rfl (take_ofW HT_.out HW_.out (by kernel_rfl)) ?_ ?_ (fun _ _ _ h => h) (by rfl) ?_ hHeld ?_ ?_;rotate_left 2;rintro w' ⟨s0, s1, s2, s3, s4, s5⟩;go_simp;(with_reducible rfl);simp only [Act.put, qz1, qz2, qz3, i64_w, i32_w];rfl
      refine one_ (i := 12) (N := some 51) (bqz 16 8191) rfl rfl (one_of HT_.out (by kernel_rfl)) (by decide) (fun K hK => ?_);refine goes_ Try.func48 (by kernel_rfl) rfl #[.agg #[.int .i64 a0_0, .slice A0_1 l0_1.length c0_1, .slice A0_2 l0_2.length c0_2], .slice o1 b9.length o3] (by rfl) rfl rfl (by (try simp only [List.map_toArray, List.map_cons, List.map_nil]); first | done | rfl | (simp only [List.length_drop, List.length_take]; rfl)) ?_;with_reducible refine (Pr36b.callsC a0_0 _ _ l0_1 _ _ l0_2 _ _ b9 h8 i4 h9 _ ?d9 ?e0 ?j7 ?j8 x6.out).mono ?_
      (case d9 => repeat (first | exact (Kd.C_below f0.out (wz HB.out)) | (with_reducible refine Kd.C_alloc ?_ _) | (with_reducible refine Kd.C_drewN ?_ _) | (with_reducible refine Kd.C_drew ?_)))
      (case e0 => exact e8.out)
      (case j7 => repeat (first | exact (Kd.R_reads' b7.out).2.2 | (with_reducible refine Kd.C_alloc ?_ _) | (with_reducible refine Kd.C_drewN ?_ _) | (with_reducible refine Kd.C_drew ?_)))
      (case j8 => exact (Kd.R_reads' b7.out).2.1)
      rintro e A0 ⟨eq_, z4, rfl, g6, hb⟩;subst i4;refine ⟨_, rfl, ?_⟩;have b0 := Aside0.mk (Kd.R_below (rz a5.out) hb);have b1 := Aside0.mk (Kd.R_elder' (rz a4.out) (Kd.R_base g6) hb);have b4 := Aside0.mk (Kd.R_below (rz a6.out) hb);have b5 := Aside0.mk (Kd.R_below (rz b7.out) hb);have b6 := Aside0.mk trivial;have b8 := Aside0.mk (Kd.R_lower (Kd.R_new' g6 (Kd.R_lt (rz a4.out))) (below_size (wz HB.out)));have d6 := Aside0.mk (blk_below (bz a0.out) hb);have f8 := Aside0.mk (blk_below (bz a1.out) hb);have f9 := Aside0.mk (below_step (wz HB.out) hb);clear a5 a4 a6 b7 a0 a1 HB;have a5 := b0;have a4 := b1;have a6 := b4;have b7 := b5;have j3 := b6;have g2 := b8;have a0 := d6;have a1 := f8;have HB := f9;clear b0 b1 b4 b5 b6 b8 d6 f8 f9
      (try clear hb)
      (try clear f5)
      (try clear hk)
      (try clear hi)
      (try clear f7)
      (try clear g6)
      obtain ⟨q6, r1, o6⟩ := Kd.R_slice g2.out
      (first | subst o6 | (injection o6 with f1_ f2_ f3_; have f4_ := f1_.symm; have f5_ := f3_.symm; clear f1_ f2_ f3_; subst f4_; subst f5_))
      refine hK.out _ _ ⟨bcz a1 0 rfl, bcz a1 1 rfl, bcz a1 2 rfl, bcz a0 0 rfl, bcz a0 1 rfl, bcz a0 2 rfl⟩ (fun hHeld => ?_);clear hK K;refine norm_ (a' := ?_) ?_ ?_;rotate_left
      ·show Act.put _ (some 51) _ = _;simp only [Act.put, qz1, qz2, qz3, i64_w, i32_w];rfl
      refine one_ (i := 13) (N := some 52) (bqz 16 16383) rfl rfl (one_of HT_.out (by kernel_rfl)) (by decide) (fun K hK => ?_);refine goes_ Try.func44 (by kernel_rfl) rfl #[.agg #[.int .i64 a3, .slice e5 a9.length e6, .slice f1 b2.length f2], .agg #[.int .i64 h8, .slice A0_1 l0_1.length c0_1, .slice q6 h9.length r1]] (by rfl) rfl rfl (by (try simp only [List.map_toArray, List.map_cons, List.map_nil]); first | done | rfl | (simp only [List.length_drop, List.length_take]; rfl)) ?_;with_reducible refine (Pr26a.calls k a3 _ _ a9 _ _ b2 h8 _ _ l0_1 _ _ h9 d2 _ ?d7 ?d8 ?d9 ?e0 ?j7 ?j8 ?p8 ?p9 x7.out).mono ?_
      (case d7 => repeat (first | exact (Kd.R_reads' a5.out).2.2 | (with_reducible refine Kd.C_alloc ?_ _) | (with_reducible refine Kd.C_drewN ?_ _) | (with_reducible refine Kd.C_drew ?_)))
      (case d8 => exact (Kd.R_reads' a5.out).2.1)
      (case d9 => repeat (first | exact (Kd.R_reads' a4.out).2.2 | (with_reducible refine Kd.C_alloc ?_ _) | (with_reducible refine Kd.C_drewN ?_ _) | (with_reducible refine Kd.C_drew ?_)))
      (case e0 => exact (Kd.R_reads' a4.out).2.1)
      (case j7 => exact cz e9.out HB.out)
      (case j8 => exact e7.out)
      (case p8 => repeat (first | exact (Kd.R_reads' g2.out).2.2 | (with_reducible refine Kd.C_alloc ?_ _) | (with_reducible refine Kd.C_drewN ?_ _) | (with_reducible refine Kd.C_drew ?_)))
      (case p9 => exact (Kd.R_reads' g2.out).2.1)
      rintro e A1 ⟨rfl, hb⟩;refine ⟨_, rfl, ?_⟩;have b0 := Aside0.mk (Kd.R_below (rz a5.out) hb);have b1 := Aside0.mk (Kd.R_below (rz a4.out) hb);have b4 := Aside0.mk (Kd.R_below (rz a6.out) hb);have b5 := Aside0.mk (Kd.R_below (rz b7.out) hb);have b6 := Aside0.mk trivial;have b8 := Aside0.mk (Kd.R_below (rz g2.out) hb);have d6 := Aside0.mk (blk_below (bz a0.out) hb);have f8 := Aside0.mk (blk_below (bz a1.out) hb);have f9 := Aside0.mk (below_step (wz HB.out) hb);clear a5 a4 a6 b7 j3 g2 a0 a1 HB;have a5 := b0;have a4 := b1;have a6 := b4;have b7 := b5;have j3 := b6;have g2 := b8;have a0 := d6;have a1 := f8;have HB := f9;clear b0 b1 b4 b5 b6 b8 d6 f8 f9
      (try clear hb)
      (try clear f5)
      (try clear hk)
      (try clear hi)
      refine hK.out _ _ ⟨bcz a1 0 rfl, bcz a1 1 rfl, bcz a1 2 rfl, bcz a0 0 rfl, bcz a0 1 rfl, bcz a0 2 rfl⟩ (fun hHeld => ?_);clear hK K;refine norm_ (a' := ?_) ?_ ?_;rotate_left
      ·show Act.put _ (some 52) _ = _;simp only [Act.put, qz1, qz2, qz3, i64_w, i32_w];rfl
      refine pqz 14 (some 53) (bqz 16 32767) rfl rfl (any_of HT_.out (by kernel_rfl)) ?_ ?_ (fun _ _ _ h => h) (by rfl) ?_ ?_ ?_;rotate_left 2;intro w';go_simp;(with_reducible rfl);simp only [Act.put, qz1, qz2, qz3, i64_w, i32_w];rfl
      refine pqz 15 (some 54) (bqz 16 65535) rfl rfl (any_of HT_.out (by kernel_rfl)) ?_ ?_ (fun _ _ _ h => h) (by rfl) ?_ ?_ ?_;rotate_left 2;intro w';go_simp;(with_reducible rfl);simp only [Act.put, qz1, qz2, qz3, i64_w, i32_w];rfl
      refine done_ (done_of HT_.out (by kernel_rfl)) ?_;try go_wp2
      go_meet
      case rel => exact ⟨_, (!d2), (by first | rfl | (simp; done) | (simp [*]; done)), H', ⟨by first | omega | exact Nat.le_refl _⟩, ⟨rz (Kd.R_mono a5.out (fun _ hk => trivial))⟩, ⟨rz (Kd.R_mono a4.out (fun _ hk => trivial))⟩, ⟨bz a0.out⟩, ⟨bz a1.out⟩, ⟨wz HB.out⟩⟩
     ·replace i1 := Bool.eq_false_iff.mpr i1;subst i1;have H1 : (Pl36a.j0 k true a3 a9 b2) = some r := by rw [if_neg (show ¬ (false = true) by decide)] at H; exact H
      clear H;have H := H1;clear H1;have H' := Aside0.mk H;clear H;try go_wp2
      have b0 := Aside0.mk (Kd.R_drew a5.out);have b1 := Aside0.mk (Kd.R_drew a4.out);have b4 := Aside0.mk (Kd.R_drew a6.out);have b5 := Aside0.mk (Kd.R_drew b7.out);have b6 := Aside0.mk (blk_drew a0.out);have b8 := Aside0.mk (blk_drew a1.out);have d6 := Aside0.mk (below_drew1 HB.out);clear a5 a4 a6 b7 a0 a1 HB;have a5 := b0;have a4 := b1;have a6 := b4;have b7 := b5;have a0 := b6;have a1 := b8;have HB := d6;clear b0 b1 b4 b5 b6 b8 d6;obtain ⟨q7, r2, o7⟩ := Kd.R_slice a6.out
      (first | subst o7 | (injection o7 with f1_ f2_ f3_; have f4_ := f1_.symm; have f5_ := f3_.symm; clear f1_ f2_ f3_; subst f4_; subst f5_))
      obtain ⟨q8, r3, o8⟩ := Kd.R_slice b7.out
      (first | subst o8 | (injection o8 with f1_ f2_ f3_; have f4_ := f1_.symm; have f5_ := f3_.symm; clear f1_ f2_ f3_; subst f4_; subst f5_))
      refine start_ (n := 16) (S := fun w' => True) (ds := []) (bqz 16 0) (by kernel_rfl) rfl rfl trivial (fun hHeld => ?_); refine with_tabW Pl36a.tab7 Pl36a.bits7 (fun HT_ HW_ => ?_)
      generalize p2.drew = w35 at a5 a4 a6 b7 a0 a1 HB hHeld ⊢;refine pqz 0 (some 39) (bqz 16 1) rfl rfl (any_of HT_.out (by kernel_rfl)) ?_ ?_ (fun _ _ _ h => h) (by rfl) ?_ ?_ ?_;rotate_left 2;intro w';go_simp;(with_reducible rfl);simp only [Act.put, qz1, qz2, qz3, i64_w, i32_w];rfl
      refine pqz 1 (some 40) (bqz 16 3) rfl rfl (any_of HT_.out (by kernel_rfl)) ?_ ?_ (fun _ _ _ h => h) (by rfl) ?_ ?_ ?_;rotate_left 2;intro w';go_simp;(with_reducible rfl);simp only [Act.put, qz1, qz2, qz3, i64_w, i32_w];rfl
      refine pqz 2 (some 41) (bqz 16 7) rfl rfl (any_of HT_.out (by kernel_rfl)) ?_ ?_ (fun _ _ _ h => h) (by rfl) ?_ ?_ ?_;rotate_left 2;intro w';go_simp;(with_reducible rfl);simp only [Act.put, qz1, qz2, qz3, i64_w, i32_w];rfl
      refine pqz 3 (some 42) (bqz 16 15) rfl rfl (any_of HT_.out (by kernel_rfl)) ?_ ?_ (fun _ _ _ h => h) (by rfl) ?_ ?_ ?_;rotate_left 2;intro w';go_simp;(with_reducible rfl);simp only [Act.put, qz1, qz2, qz3, i64_w, i32_w];rfl
      refine pqz 4 (some 43) (bqz 16 31) rfl rfl (any_of HT_.out (by kernel_rfl)) ?_ ?_ (fun _ _ _ h => h) (by rfl) ?_ ?_ ?_;rotate_left 2;intro w';go_simp;(with_reducible rfl);simp only [Act.put, qz1, qz2, qz3, i64_w, i32_w];rfl
      refine one_ (i := 5) (N := some 44) (bqz 16 63) rfl rfl (one_of HT_.out (by kernel_rfl)) (by decide) (fun K hK => ?_);refine goes_ Try.func21 (by kernel_rfl) rfl #[.slice q7 d3.length r2, .slice q8 b9.length r3] (by rfl) rfl rfl (by (try simp only [List.map_toArray, List.map_cons, List.map_nil]); first | done | rfl | (simp only [List.length_drop, List.length_take]; rfl)) ?_;with_reducible refine (Pr01b.calls k _ _ d3 _ _ b9 false _ ?d7 ?d8 ?d9 ?e0 q1.out).mono ?_
      (case d7 => repeat (first | exact (Kd.R_reads' a6.out).2.2 | (with_reducible refine Kd.C_alloc ?_ _) | (with_reducible refine Kd.C_drewN ?_ _) | (with_reducible refine Kd.C_drew ?_)))
      (case d8 => exact (Kd.R_reads' a6.out).2.1)
      (case d9 => repeat (first | exact (Kd.R_reads' b7.out).2.2 | (with_reducible refine Kd.C_alloc ?_ _) | (with_reducible refine Kd.C_drewN ?_ _) | (with_reducible refine Kd.C_drew ?_)))
      (case e0 => exact (Kd.R_reads' b7.out).2.1)
      rintro e w' ⟨rfl, ⟨nd, rfl⟩⟩;refine ⟨_, rfl, ?_⟩;refine hK.out _ _ trivial (fun hHeld => ?_);clear hK K;refine norm_ (a' := ?_) ?_ ?_;rotate_left
      ·show Act.put _ (some 44) _ = _;simp only [Act.put, qz1, qz2, qz3, i64_w, i32_w];rfl
      refine pqz 6 (some 45) (bqz 16 127) rfl rfl (any_of HT_.out (by kernel_rfl)) ?_ ?_ (fun _ _ _ h => h) (by rfl) ?_ ?_ ?_;rotate_left 2;intro w';go_simp;(with_reducible rfl);simp only [Act.put, qz1, qz2, qz3, i64_w, i32_w];rfl
      refine pqz 7 (some 46) (bqz 16 255) rfl rfl (any_of HT_.out (by kernel_rfl)) ?_ ?_ (fun _ _ _ h => h) (by rfl) ?_ ?_ ?_;rotate_left 2;intro w';go_simp;(with_reducible rfl);simp only [Act.put, qz1, qz2, qz3, i64_w, i32_w];rfl
      refine pqz 8 (some 47) (bqz 16 511) rfl rfl (any_of HT_.out (by kernel_rfl)) ?_ ?_ (fun _ _ _ h => h) (by rfl) ?_ ?_ ?_;rotate_left 2;intro w';go_simp;(with_reducible rfl);simp only [Act.put, qz1, qz2, qz3, i64_w, i32_w];rfl
      refine pure_ (i := 9) (N := some 48) (v := undef) (a' := ?_) (bqz 16 1023) rfl rfl (any_of HT_.out (by kernel_rfl)) (fun _ _ _ h => h) (Or.inr ⟨by rfl, rfl⟩) ?_ ?_;rotate_left
      ·simp only [Act.put, qz1, qz2, qz3, i64_w, i32_w];rfl
      refine pure_ (i := 10) (N := some 49) (v := undef) (a' := ?_) (bqz 16 2047) rfl rfl (any_of HT_.out (by kernel_rfl)) (fun _ _ _ h => h) (Or.inr ⟨by rfl, rfl⟩) ?_ ?_;rotate_left
      ·simp only [Act.put, qz1, qz2, qz3, i64_w, i32_w];rfl
      refine pure_ (i := 11) (N := some 50) (v := undef) (a' := ?_) (bqz 16 4095) rfl rfl (any_of HT_.out (by kernel_rfl)) (fun _ _ _ h => h) (Or.inr ⟨by rfl, rfl⟩) ?_ ?_;rotate_left
      ·simp only [Act.put, qz1, qz2, qz3, i64_w, i32_w];rfl
      refine pure_ (i := 12) (N := some 51) (v := undef) (a' := ?_) (bqz 16 8191) rfl rfl (any_of HT_.out (by kernel_rfl)) (fun _ _ _ h => h) (Or.inr ⟨by rfl, rfl⟩) ?_ ?_;rotate_left
      ·simp only [Act.put, qz1, qz2, qz3, i64_w, i32_w];rfl
      refine pure_ (i := 13) (N := some 52) (v := undef) (a' := ?_) (bqz 16 16383) rfl rfl (any_of HT_.out (by kernel_rfl)) (fun _ _ _ h => h) (Or.inr ⟨by rfl, rfl⟩) ?_ ?_;rotate_left
      ·simp only [Act.put, qz1, qz2, qz3, i64_w, i32_w];rfl
      refine pure_ (i := 14) (N := some 53) (v := undef) (a' := ?_) (bqz 16 32767) rfl rfl (any_of HT_.out (by kernel_rfl)) (fun _ _ _ h => h) (Or.inr ⟨by rfl, rfl⟩) ?_ ?_;rotate_left
      ·simp only [Act.put, qz1, qz2, qz3, i64_w, i32_w];rfl
      refine pqz 15 (some 54) (bqz 16 65535) rfl rfl (any_of HT_.out (by kernel_rfl)) ?_ ?_ (fun _ _ _ h => h) (by rfl) ?_ ?_ ?_;rotate_left 2;intro w';go_simp;(with_reducible rfl);simp only [Act.put, qz1, qz2, qz3, i64_w, i32_w];rfl
      refine done_ (done_of HT_.out (by kernel_rfl)) ?_;try go_wp2
      go_meet
      case rel => exact ⟨_, (true), (by first | rfl | (simp; done) | (simp [*]; done)), H', ⟨by first | omega | exact Nat.le_refl _⟩, ⟨rz a5.out⟩, ⟨rz a4.out⟩, ⟨bz a0.out⟩, ⟨bz a1.out⟩, ⟨wz HB.out⟩⟩
    ·rw [if_neg g9] at H;have c23b0 : (d4 == 0) = false := beq_eq_false_iff_ne.mpr g9;have c23b1 : (d4 != 0) = true := bne_iff_ne.mpr g9
     (first | rw [c23b0] | (simp only [i64_w, i32_w]; rw [c23b0]) | skip)
     have H' := Aside0.mk H;clear H;try go_wp2
     have b0 := Aside0.mk (Kd.R_drew a5.out);have b1 := Aside0.mk (Kd.R_drew a4.out);have b4 := Aside0.mk (Kd.R_drew a6.out);have b5 := Aside0.mk (Kd.R_drew b7.out);have b6 := Aside0.mk (blk_drew a0.out);have b8 := Aside0.mk (blk_drew a1.out);have d6 := Aside0.mk (below_drew1 HB.out);clear a5 a4 a6 b7 a0 a1 HB;have a5 := b0;have a4 := b1;have a6 := b4;have b7 := b5;have a0 := b6;have a1 := b8;have HB := d6;clear b0 b1 b4 b5 b6 b8 d6;refine start_ (n := 16) (S := fun w' => True) (ds := []) (bqz 16 0) (by kernel_rfl) rfl rfl trivial (fun hHeld => ?_); refine with_tabW Pl36a.tab7 Pl36a.bits7 (fun HT_ HW_ => ?_)
     generalize p2.drew = w38 at a5 a4 a6 b7 a0 a1 HB hHeld ⊢;refine pqz 0 (some 39) (bqz 16 1) rfl rfl (any_of HT_.out (by kernel_rfl)) ?_ ?_ (fun _ _ _ h => h) (by rfl) ?_ ?_ ?_;rotate_left 2;intro w';go_simp;(with_reducible rfl);simp only [Act.put, qz1, qz2, qz3, i64_w, i32_w];rfl
     refine pqz 1 (some 40) (bqz 16 3) rfl rfl (any_of HT_.out (by kernel_rfl)) ?_ ?_ (fun _ _ _ h => h) (by rfl) ?_ ?_ ?_;rotate_left 2;intro w';go_simp;(with_reducible rfl);simp only [Act.put, qz1, qz2, qz3, i64_w, i32_w];rfl
     refine pqz 2 (some 41) (bqz 16 7) rfl rfl (any_of HT_.out (by kernel_rfl)) ?_ ?_ (fun _ _ _ h => h) (by rfl) ?_ ?_ ?_;rotate_left 2;intro w';go_simp;(with_reducible rfl);simp only [Act.put, qz1, qz2, qz3, i64_w, i32_w];rfl
     refine pure_ (i := 3) (N := some 42) (v := undef) (a' := ?_) (bqz 16 15) rfl rfl (any_of HT_.out (by kernel_rfl)) (fun _ _ _ h => h) (Or.inr ⟨by rfl, rfl⟩) ?_ ?_;rotate_left
     ·simp only [Act.put, qz1, qz2, qz3, i64_w, i32_w];rfl
     refine pure_ (i := 4) (N := some 43) (v := undef) (a' := ?_) (bqz 16 31) rfl rfl (any_of HT_.out (by kernel_rfl)) (fun _ _ _ h => h) (Or.inr ⟨by rfl, rfl⟩) ?_ ?_;rotate_left
     ·simp only [Act.put, qz1, qz2, qz3, i64_w, i32_w];rfl
     refine pure_ (i := 5) (N := some 44) (v := undef) (a' := ?_) (bqz 16 63) rfl rfl (any_of HT_.out (by kernel_rfl)) (fun _ _ _ h => h) (Or.inr ⟨by rfl, rfl⟩) ?_ ?_;rotate_left
     ·simp only [Act.put, qz1, qz2, qz3, i64_w, i32_w];rfl
     refine pure_ (i := 6) (N := some 45) (v := undef) (a' := ?_) (bqz 16 127) rfl rfl (any_of HT_.out (by kernel_rfl)) (fun _ _ _ h => h) (Or.inr ⟨by rfl, rfl⟩) ?_ ?_;rotate_left
     ·simp only [Act.put, qz1, qz2, qz3, i64_w, i32_w];rfl
     refine pqz 7 (some 46) (bqz 16 255) rfl rfl (any_of HT_.out (by kernel_rfl)) ?_ ?_ (fun _ _ _ h => h) (by rfl) ?_ ?_ ?_;rotate_left 2;intro w';go_simp;(with_reducible rfl);simp only [Act.put, qz1, qz2, qz3, i64_w, i32_w];rfl
     refine pqz 8 (some 47) (bqz 16 511) rfl rfl (any_of HT_.out (by kernel_rfl)) ?_ ?_ (fun _ _ _ h => h) (by rfl) ?_ ?_ ?_;rotate_left 2;intro w';go_simp;(with_reducible rfl);simp only [Act.put, qz1, qz2, qz3, i64_w, i32_w];rfl
     refine pure_ (i := 9) (N := some 48) (v := undef) (a' := ?_) (bqz 16 1023) rfl rfl (any_of HT_.out (by kernel_rfl)) (fun _ _ _ h => h) (Or.inr ⟨by rfl, rfl⟩) ?_ ?_;rotate_left
     ·simp only [Act.put, qz1, qz2, qz3, i64_w, i32_w];rfl
     refine pure_ (i := 10) (N := some 49) (v := undef) (a' := ?_) (bqz 16 2047) rfl rfl (any_of HT_.out (by kernel_rfl)) (fun _ _ _ h => h) (Or.inr ⟨by rfl, rfl⟩) ?_ ?_;rotate_left
     ·simp only [Act.put, qz1, qz2, qz3, i64_w, i32_w];rfl
     refine pure_ (i := 11) (N := some 50) (v := undef) (a' := ?_) (bqz 16 4095) rfl rfl (any_of HT_.out (by kernel_rfl)) (fun _ _ _ h => h) (Or.inr ⟨by rfl, rfl⟩) ?_ ?_;rotate_left
     ·simp only [Act.put, qz1, qz2, qz3, i64_w, i32_w];rfl
     refine pure_ (i := 12) (N := some 51) (v := undef) (a' := ?_) (bqz 16 8191) rfl rfl (any_of HT_.out (by kernel_rfl)) (fun _ _ _ h => h) (Or.inr ⟨by rfl, rfl⟩) ?_ ?_;rotate_left
     ·simp only [Act.put, qz1, qz2, qz3, i64_w, i32_w];rfl
     refine pure_ (i := 13) (N := some 52) (v := undef) (a' := ?_) (bqz 16 16383) rfl rfl (any_of HT_.out (by kernel_rfl)) (fun _ _ _ h => h) (Or.inr ⟨by rfl, rfl⟩) ?_ ?_;rotate_left
     ·simp only [Act.put, qz1, qz2, qz3, i64_w, i32_w];rfl
     refine pure_ (i := 14) (N := some 53) (v := undef) (a' := ?_) (bqz 16 32767) rfl rfl (any_of HT_.out (by kernel_rfl)) (fun _ _ _ h => h) (Or.inr ⟨by rfl, rfl⟩) ?_ ?_;rotate_left
     ·simp only [Act.put, qz1, qz2, qz3, i64_w, i32_w];rfl
     refine pqz 15 (some 54) (bqz 16 65535) rfl rfl (any_of HT_.out (by kernel_rfl)) ?_ ?_ (fun _ _ _ h => h) (by rfl) ?_ ?_ ?_;rotate_left 2;intro w';go_simp;(with_reducible rfl);simp only [Act.put, qz1, qz2, qz3, i64_w, i32_w];rfl
     refine done_ (done_of HT_.out (by kernel_rfl)) ?_;try go_wp2
     go_meet
     case rel => exact ⟨_, (true), (by first | rfl | (simp; done) | (simp [*]; done)), H', ⟨by first | omega | exact Nat.le_refl _⟩, ⟨rz a5.out⟩, ⟨rz a4.out⟩, ⟨bz a0.out⟩, ⟨bz a1.out⟩, ⟨wz HB.out⟩⟩
   case rest =>
    clear o2;(try clear c6);(try clear g9);(try clear c23b0);(try clear c23b1);(try clear i1);(try clear j9);(try clear k0);(try clear k1);(try clear k2);(try clear k3);(try clear k4);(try clear k5);(try clear k6);(try clear k7);(try clear k8);(try clear k9);(try clear l4);(try clear l5);(try clear l6);(try clear l7);(try clear l8);(try clear l9);(try clear m0);(try clear m1);(try clear m2);(try clear m3);(try clear m4);(try clear m5);(try clear m6);(try clear m7);(try clear m8);(try clear m9);(try clear n0);(try clear n1);(try clear n2);obtain ⟨kq, h1, rfl, HA, z8, d0, d1, a0, a1, HB⟩ := hcut
    cases kq with
    | zero => exact absurd HA.out (by simp [Pl36a.j0])
    | succ kj7 =>
     have H := HA.out;clear HA;simp only [Pl36a.j0] at H;by_cases j5 : h1 = true
     ·subst j5;have H1 : (some false) = some r := by rw [if_pos rfl] at H; exact H
      clear H;have H := H1;clear H1;obtain rfl := Option.some.inj H;exact absurd hr_.out (by decide)
     ·replace j5 := Bool.eq_false_iff.mpr j5;subst j5;have H1 : ((Pra.f a3 a9 b2).bind fun j4 => (if j4.2 = 0 then ((Pr31b.f kj7 j4.1).bind fun f3 => (if f3 = a3 then ((Pl36b.f kj7).bind fun g1 => (some g1)) else (some false))) else (some false))) = some r := by rw [if_neg (show ¬ (false = true) by decide)] at H; exact H
      clear H;have H := H1;clear H1;replace H := Option.bind_eq_some_iff.mp H;obtain ⟨⟨i0, g5⟩, n6, H⟩ := H;replace H : (if g5 = 0 then ((Pr31b.f kj7 i0).bind fun f3 => (if f3 = a3 then ((Pl36b.f kj7).bind fun g1 => (some g1)) else (some false))) else (some false)) = some r := H;have i8 := Aside0.mk n6;clear n6;by_cases h2 : g5 = 0
      ·rw [if_pos h2] at H;have c41b0 : (g5 == 0) = true := beq_iff_eq.mpr h2;have c41b1 : (g5 != 0) = false := bne_eq_false_iff_eq.mpr h2;clear h2;replace H := Option.bind_eq_some_iff.mp H;obtain ⟨f3, n7, H⟩ := H;replace H : (if f3 = a3 then ((Pl36b.f kj7).bind fun g1 => (some g1)) else (some false)) = some r := H;have x8 := Aside0.mk n7;clear n7;by_cases h3 : f3 = a3
       ·rw [if_pos h3] at H;have c43b0 : (f3 == a3) = true := beq_iff_eq.mpr h3;have c43b1 : (f3 != a3) = false := bne_eq_false_iff_eq.mpr h3;clear h3;replace H := Option.bind_eq_some_iff.mp H;obtain ⟨g1, n8, H⟩ := H;replace H : (some g1) = some r := H;have x9 := Aside0.mk n8;clear n8;obtain rfl := Option.some.inj H;have y5 := f4.out;have y8 := e2.out;have t8 : wc.cell? ⟨a7, 0, none⟩ = some (.int .i64 a3) := bcz a1 0 rfl;have t9 : wc.cell? ⟨a7, 1, none⟩ = some (.slice e5 a9.length e6) := bcz a1 1 rfl;have u0 : wc.cell? ⟨a7, 2, none⟩ = some (.slice f1 b2.length f2) := bcz a1 2 rfl;have v6 := blk_frozen a1.out 0;have v7 := blk_frozen a1.out 1;have v8 := blk_frozen a1.out 2;try go_wp2_with (first | ((with_reducible refine gate_callee (f := 17) rfl ?_); refine goesL_ (some 57) rfl rfl Try.func17 (by kernel_rfl) rfl #[.agg #[.int .i64 a3, .slice e5 a9.length e6, .slice f1 b2.length f2]] rfl (by (try simp only [List.map_toArray, List.map_cons, List.map_nil]); first | done | rfl | (simp only [List.length_drop, List.length_take]; rfl)) ?_; (with_reducible refine (Pra.calls a3 _ _ a9 _ _ b2 i0 g5 _ ?d7 ?d8 ?d9 ?e0 i8.out).mono ?_); (case d7 => repeat (first | exact (Kd.R_reads' d0.out).2.2 | (with_reducible refine Kd.C_alloc ?_ _) | (with_reducible refine Kd.C_drewN ?_ _) | (with_reducible refine Kd.C_drew ?_))); (case d8 => exact (Kd.R_reads' d0.out).2.1); (case d9 => repeat (first | exact (Kd.R_reads' d1.out).2.2 | (with_reducible refine Kd.C_alloc ?_ _) | (with_reducible refine Kd.C_drewN ?_ _) | (with_reducible refine Kd.C_drew ?_))); (case e0 => exact (Kd.R_reads' d1.out).2.1); rintro e y3 ⟨z5, rfl, f7, hb⟩; refine ⟨_, rfl, ?_⟩; have b0 := Aside0.mk (Kd.R_below (rz d0.out) hb); have b1 := Aside0.mk (Kd.R_below (rz d1.out) hb); have b4 := Aside0.mk (Kd.R_lower f7 (below_size (wz HB.out))); have b5 := Aside0.mk (blk_below (bz a0.out) hb); have b6 := Aside0.mk (blk_below (bz a1.out) hb); have b8 := Aside0.mk (below_step (wz HB.out) hb); clear d0; clear d1; clear a0; clear a1; clear HB; have d0 := b0; have d1 := b1; have e4 := b4; have a0 := b5; have a1 := b6; have HB := b8; clear b0 b1 b4 b5 b6 b8; (try clear hb); (try clear f5); (try clear hk); (try clear hi); (try clear f7)))
        have b0 := Aside0.mk (Kd.R_drew d0.out);have b1 := Aside0.mk (Kd.R_drew d1.out);have b4 := Aside0.mk (Kd.R_drew e4.out);have b5 := Aside0.mk (blk_drew a0.out);have b6 := Aside0.mk (blk_drew a1.out);have b8 := Aside0.mk (below_drew1 HB.out);clear d0 d1 e4 a0 a1 HB;have d0 := b0;have d1 := b1;have e4 := b4;have a0 := b5;have a1 := b6;have HB := b8;clear b0 b1 b4 b5 b6 b8;obtain ⟨q9, r4, o9⟩ := Kd.R_slice e4.out
        (first | subst o9 | (injection o9 with f1_ f2_ f3_; have f4_ := f1_.symm; have f5_ := f3_.symm; clear f1_ f2_ f3_; subst f4_; subst f5_))
        refine start_ (n := 13) (S := fun w' => w'.cell? ⟨a7, 0, none⟩ = some (.int .i64 a3) ∧ w'.cell? ⟨a7, 1, none⟩ = some (.slice e5 a9.length e6) ∧ w'.cell? ⟨a7, 2, none⟩ = some (.slice f1 b2.length f2)) (ds := []) (bqz 13 0) (by kernel_rfl) rfl rfl ⟨bcz a1 0 rfl, bcz a1 1 rfl, bcz a1 2 rfl⟩ (fun hHeld => ?_); refine with_tabW Pl36a.tab10 Pl36a.bits10 (fun HT_ HW_ => ?_)
        generalize y3.drew = w48 at d0 d1 e4 a0 a1 HB hHeld ⊢;refine pqz 0 (some 60) (bqz 13 1) rfl rfl (any_of HT_.out (by kernel_rfl)) ?_ ?_ (fun _ _ _ h => h) (by rfl) ?_ ?_ ?_;rotate_left 2;intro w';go_simp;(with_reducible rfl);simp only [Act.put, qz1, qz2, qz3, i64_w, i32_w];rfl
        refine pqz 1 (some 61) (bqz 13 3) rfl rfl (any_of HT_.out (by kernel_rfl)) ?_ ?_ (fun _ _ _ h => h) (by rfl) ?_ ?_ ?_;rotate_left 2;intro w';go_simp;(with_reducible rfl);simp only [Act.put, qz1, qz2, qz3, i64_w, i32_w];rfl
        refine pqz 2 (some 62) (bqz 13 7) rfl rfl (any_of HT_.out (by kernel_rfl)) ?_ ?_ (fun _ _ _ h => h) (by rfl) ?_ ?_ ?_;rotate_left 2;intro w';go_simp;(with_reducible rfl);simp only [Act.put, qz1, qz2, qz3, i64_w, i32_w];rfl
        refine pqz 3 (some 63) (bqz 13 15) rfl rfl (any_of HT_.out (by kernel_rfl)) ?_ ?_ (fun _ _ _ h => h) (by rfl) ?_ ?_ ?_;rotate_left 2;intro w';go_simp;(with_reducible rfl);simp only [Act.put, qz1, qz2, qz3, i64_w, i32_w];rfl
        refine pqz 5 (some 65) (bqz 13 47) rfl rfl (any_of HT_.out (by kernel_rfl)) ?_ ?_ (fun _ _ _ h => h) (by rfl) ?_ ?_ ?_;rotate_left 2;intro w';go_simp;(with_reducible rfl);simp only [Act.put, qz1, qz2, qz3, i64_w, i32_w];rfl
        refine tqz 6 (some 66) (bqz 13 111) rfl rfl (take_ofW HT_.out HW_.out (by kernel_rfl)) ?_ ?_ (fun _ _ _ h => h) (by rfl) ?_ hHeld ?_ ?_;rotate_left 2;rintro w' ⟨s0, s1, s2⟩;go_simp;(with_reducible rfl);simp only [Act.put, qz1, qz2, qz3, i64_w, i32_w];rfl
        refine one_ (i := 4) (N := some 64) (bqz 13 127) rfl rfl (one_of HT_.out (by kernel_rfl)) (by decide) (fun K hK => ?_);refine goes_ Try.func50 (by kernel_rfl) rfl #[.slice q9 i0.length r4] (by rfl) rfl rfl (by (try simp only [List.map_toArray, List.map_cons, List.map_nil]); first | done | rfl | (simp only [List.length_drop, List.length_take]; rfl)) ?_;with_reducible refine (Pr31b.calls kj7 _ _ i0 f3 _ ?d7 ?d8 x8.out).mono ?_
        (case d7 => repeat (first | exact (Kd.R_reads' e4.out).2.2 | (with_reducible refine Kd.C_alloc ?_ _) | (with_reducible refine Kd.C_drewN ?_ _) | (with_reducible refine Kd.C_drew ?_)))
        (case d8 => exact (Kd.R_reads' e4.out).2.1)
        rintro e w' ⟨rfl, ⟨nd, rfl⟩⟩;refine ⟨_, rfl, ?_⟩;refine hK.out _ _ ⟨bcz a1 0 rfl, bcz a1 1 rfl, bcz a1 2 rfl⟩ (fun hHeld => ?_);clear hK K;refine norm_ (a' := ?_) ?_ ?_;rotate_left
        ·show Act.put _ (some 64) _ = _;simp only [Act.put, qz1, qz2, qz3, i64_w, i32_w];rfl
        refine pqz 7 (some 67) (bqz 13 255) rfl rfl (any_of HT_.out (by kernel_rfl)) ?_ ?_ (fun _ _ _ h => h) (by rfl) ?_ ?_ ?_;rotate_left 2;intro w';go_simp;(with_reducible rfl);simp only [Act.put, qz1, qz2, qz3, i64_w, i32_w];rfl
        refine pqz 8 (some 68) (bqz 13 511) rfl rfl (any_of HT_.out (by kernel_rfl)) ?_ ?_ (fun _ _ _ h => h) (by rfl) ?_ ?_ ?_;rotate_left 2;intro w';go_simp;(with_reducible rfl);simp only [Act.put, qz1, qz2, qz3, i64_w, i32_w];rfl
        refine pqz 9 (some 69) (bqz 13 1023) rfl rfl (any_of HT_.out (by kernel_rfl)) ?_ ?_ (fun _ _ _ h => h) (by rfl) ?_ ?_ ?_;rotate_left 2;intro w';go_simp;(with_reducible rfl);simp only [Act.put, qz1, qz2, qz3, i64_w, i32_w];rfl
        refine one_ (i := 10) (N := some 70) (bqz 13 2047) rfl rfl (one_of HT_.out (by kernel_rfl)) (by decide) (fun K hK => ?_);refine goes_ Try.func46 (by kernel_rfl) rfl #[] (by rfl) rfl rfl (by (try simp only [List.map_toArray, List.map_cons, List.map_nil]); first | done | rfl | (simp only [List.length_drop, List.length_take]; rfl)) ?_;with_reducible refine (Pl36b.calls kj7  g1 _ x9.out hr_).mono ?_
        rintro e A3 ⟨rfl, hb⟩;refine ⟨_, rfl, ?_⟩;have b0 := Aside0.mk (Kd.R_below (rz d0.out) hb);have b1 := Aside0.mk (Kd.R_below (rz d1.out) hb);have b4 := Aside0.mk (Kd.R_below (rz e4.out) hb);have b5 := Aside0.mk (blk_below (bz a0.out) hb);have b6 := Aside0.mk (blk_below (bz a1.out) hb);have b8 := Aside0.mk (below_step (wz HB.out) hb);clear d0 d1 e4 a0 a1 HB;have d0 := b0;have d1 := b1;have e4 := b4;have a0 := b5;have a1 := b6;have HB := b8;clear b0 b1 b4 b5 b6 b8
        (try clear hb)
        (try clear f5)
        (try clear hk)
        (try clear hi)
        refine hK.out _ _ ⟨bcz a1 0 rfl, bcz a1 1 rfl, bcz a1 2 rfl⟩ (fun hHeld => ?_);clear hK K;refine norm_ (a' := ?_) ?_ ?_;rotate_left
        ·show Act.put _ (some 70) _ = _;simp only [Act.put, qz1, qz2, qz3, i64_w, i32_w];rfl
        refine pqz 11 (some 71) (bqz 13 4095) rfl rfl (any_of HT_.out (by kernel_rfl)) ?_ ?_ (fun _ _ _ h => h) (by rfl) ?_ ?_ ?_;rotate_left 2;intro w';go_simp;(with_reducible rfl);simp only [Act.put, qz1, qz2, qz3, i64_w, i32_w];rfl
        refine pqz 12 (some 2) (bqz 13 8191) rfl rfl (any_of HT_.out (by kernel_rfl)) ?_ ?_ (fun _ _ _ h => h) (by rfl) ?_ ?_ ?_;rotate_left 2;intro w';go_simp;(with_reducible rfl);simp only [Act.put, qz1, qz2, qz3, i64_w, i32_w];rfl
        refine done_ (done_of HT_.out (by kernel_rfl)) ?_;try go_wp2
        go_ret
        exact ⟨by first | rfl | (simp [errW_none, errW_some] <;> rfl) | (simp [*, errW_none, errW_some] <;> rfl), wz HB.out⟩
       ·rw [if_neg h3] at H;have c43b0 : (f3 == a3) = false := beq_eq_false_iff_ne.mpr h3;have c43b1 : (f3 != a3) = true := bne_iff_ne.mpr h3;obtain rfl := Option.some.inj H;exact absurd hr_.out (by decide)
      ·rw [if_neg h2] at H;have c41b0 : (g5 == 0) = false := beq_eq_false_iff_ne.mpr h2;have c41b1 : (g5 != 0) = true := bne_iff_ne.mpr h2;obtain rfl := Option.some.inj H;exact absurd hr_.out (by decide)
  ·replace c6 := Bool.eq_false_iff.mpr c6;subst c6;have H1 : ((Pr26a.f k a3 a9 b2 0 ([] : List ByteArray) ([] : List (S80))).bind fun e3 => (if e3 = true then (if (d3.length : Int) = 0 then (if d4 = 1 then ((Pl36b.f k).bind fun d5 => (some d5)) else (some false)) else (some false)) else (some false))) = some r := by rw [if_neg (show ¬ (false = true) by decide)] at H; exact H
   clear H;have H := H1;clear H1;replace H := Option.bind_eq_some_iff.mp H;obtain ⟨e3, n9, H⟩ := H;replace H : (if e3 = true then (if (d3.length : Int) = 0 then (if d4 = 1 then ((Pl36b.f k).bind fun d5 => (some d5)) else (some false)) else (some false)) else (some false)) = some r := H;have y0 := Aside0.mk n9;clear n9;by_cases j6 : e3 = true
   ·subst j6;have H1 : (if (d3.length : Int) = 0 then (if d4 = 1 then ((Pl36b.f k).bind fun d5 => (some d5)) else (some false)) else (some false)) = some r := by rw [if_pos rfl] at H; exact H
    clear H;have H := H1;clear H1;by_cases h0 : (d3.length : Int) = 0
    ·rw [if_pos h0] at H;have c62b0 : ((d3.length : Int) == 0) = true := beq_iff_eq.mpr h0;have c62b1 : ((d3.length : Int) != 0) = false := bne_eq_false_iff_eq.mpr h0;clear h0;by_cases h4 : d4 = 1
     ·rw [if_pos h4] at H;have c63b0 : (d4 == 1) = true := beq_iff_eq.mpr h4;have c63b1 : (d4 != 1) = false := bne_eq_false_iff_eq.mpr h4;clear h4;replace H := Option.bind_eq_some_iff.mp H;obtain ⟨d5, o0, H⟩ := H;replace H : (some d5) = some r := H;have y1 := Aside0.mk o0;clear o0;obtain rfl := Option.some.inj H;go_enter Try.func9, Try.ntmps9
      go_wp2_with (first | ((with_reducible refine gate_dst (N := 1) rfl ?_); (try (refine gate_guard (by rfl) ?_; dsimp only)); refine box_event ?hg (N := 1) ?hd (cs := #[.int .i64 a0_0, .slice A0_1 l0_1.length c0_1, .slice A0_2 l0_2.length c0_2]) (t := 25) ?hr ?_; (case hd => rfl); (case hg => rfl); (case hr => first | (go_simp; done) | (go_simp; rfl)); intro a8 hg p3 hbox hb; have b0 := Aside0.mk (below_step (wz HB.out) hb); have b1 := Aside0.mk (hbox); have b4 := Aside0.mk ((by rw [hg]; exact (below_size (wz HB.out)) : w.heap.size ≤ a8)); have b5 := Aside0.mk ((by rw [hg]; exact (below_size (wz HB.out)) : w.heap.size ≤ a8)); clear HB; have HB := b0; have a0 := b1; have j2 := b4; have i9 := b5; clear b0 b1 b4 b5; clear hb hbox hg; have u1 : p3.cell? ⟨a8, 0, none⟩ = some (.int .i64 a0_0) := bcz a0 0 rfl; have u2 : p3.cell? ⟨a8, 1, none⟩ = some (.slice A0_1 l0_1.length c0_1) := bcz a0 1 rfl; have u3 : p3.cell? ⟨a8, 2, none⟩ = some (.slice A0_2 l0_2.length c0_2) := bcz a0 2 rfl; have v9 := blk_frozen a0.out 0; have w0 := blk_frozen a0.out 1; have w2 := blk_frozen a0.out 2) | ((with_reducible refine gate_callee (f := 15) rfl ?_); refine goesL_ (some 10) rfl rfl Try.func15 (by kernel_rfl) rfl #[.agg #[.int .i64 a0_0, .slice A0_1 l0_1.length c0_1, .slice A0_2 l0_2.length c0_2]] rfl (by (try simp only [List.map_toArray, List.map_cons, List.map_nil]); first | done | rfl | (simp only [List.length_drop, List.length_take]; rfl)) ?_; (with_reducible refine (Pl33a.calls k a0_0 _ _ l0_1 _ _ l0_2 true _ ?d7 ?d8 ?d9 ?e0 A2.out).mono ?_); (case d7 => exact cz e9.out HB.out); (case d8 => exact e7.out); (case d9 => exact cz f0.out HB.out); (case e0 => exact e8.out); rintro e p4 ⟨rfl, hb⟩; refine ⟨_, rfl, ?_⟩; have b0 := Aside0.mk (blk_below (bz a0.out) hb); have b1 := Aside0.mk (below_step (wz HB.out) hb); clear a0; clear HB; have a0 := b0; have HB := b1; clear b0 b1; (try clear hb); (try clear f5); (try clear hk); (try clear hi); have u4 : p4.cell? ⟨a8, 0, none⟩ = some (.int .i64 a0_0) := bcz a0 0 rfl; have u5 : p4.cell? ⟨a8, 1, none⟩ = some (.slice A0_1 l0_1.length c0_1) := bcz a0 1 rfl; have u6 : p4.cell? ⟨a8, 2, none⟩ = some (.slice A0_2 l0_2.length c0_2) := bcz a0 2 rfl; have w3 := blk_frozen a0.out 0; have w4 := blk_frozen a0.out 1; have w5 := blk_frozen a0.out 2) | ((with_reducible refine gate_callee (f := 49) rfl ?_); refine goesL_ (some 15) rfl rfl Try.func49 (by kernel_rfl) rfl #[.agg #[.int .i64 a0_0, .slice A0_1 l0_1.length c0_1, .slice A0_2 l0_2.length c0_2]] rfl (by (try simp only [List.map_toArray, List.map_cons, List.map_nil]); first | done | rfl | (simp only [List.length_drop, List.length_take]; rfl)) ?_; (with_reducible refine (Pxd.calls k a0_0 _ _ l0_1 _ _ l0_2 a3 a9 b2 d3 d4 _ ?d7 ?d8 ?d9 ?e0 A4.out).mono ?_); (case d7 => exact cz e9.out HB.out); (case d8 => exact e7.out); (case d9 => exact cz f0.out HB.out); (case e0 => exact e8.out); rintro e A6 ⟨t5, t6, t7, rfl, f7, g6, i2, hb⟩; refine ⟨_, rfl, ?_⟩; have b0 := Aside0.mk (Kd.R_lower f7 (below_size (wz HB.out))); have b1 := Aside0.mk (Kd.R_lower g6 (below_size (wz HB.out))); have b4 := Aside0.mk (Kd.R_lower i2 (below_size (wz HB.out))); have b5 := Aside0.mk (blk_below (bz a0.out) hb); have b6 := Aside0.mk (below_step (wz HB.out) hb); clear a0; clear HB; have a5 := b0; have a4 := b1; have a6 := b4; have a0 := b5; have HB := b6; clear b0 b1 b4 b5 b6; (try clear hb); (try clear f5); (try clear hk); (try clear hi); (try clear f7); (try clear g6); (try clear i2)) | ((with_reducible refine gate_dst (N := 3) rfl ?_); (try (refine gate_guard (by rfl) ?_; dsimp only)); refine box_event ?hg (N := 3) ?hd (cs := #[.int .i64 0, .slice none 0 0, .slice none 0 0]) (t := 25) ?hr ?_; (case hd => rfl); (case hg => rfl); (case hr => first | (go_simp; done) | (go_simp; rfl)); intro a7 hg h6 hbox hb; have b0 := Aside0.mk (Kd.R_below (rz a5.out) hb); have b1 := Aside0.mk (Kd.R_below (rz a4.out) hb); have b4 := Aside0.mk (Kd.R_below (rz a6.out) hb); have b5 := Aside0.mk (blk_below (bz a0.out) hb); have b6 := Aside0.mk (below_step (wz HB.out) hb); have b8 := Aside0.mk (hbox); have d6 := Aside0.mk ((by rw [hg]; exact (below_size (wz HB.out)) : w.heap.size ≤ a7)); have f8 := Aside0.mk ((by rw [hg]; exact (below_size (wz HB.out)) : w.heap.size ≤ a7)); have f9 := Aside0.mk ((by rw [hg]; exact Nat.ne_of_lt (blk_lt (g := a8) (o := .cells #[.int .i64 a0_0, .slice A0_1 l0_1.length c0_1, .slice A0_2 l0_2.length c0_2] 25 (0, 0)) (bz a0.out)) : a8 ≠ a7)); have i3 := Aside0.mk ((by rw [hg]; exact Nat.ne_of_gt (blk_lt (g := a8) (o := .cells #[.int .i64 a0_0, .slice A0_1 l0_1.length c0_1, .slice A0_2 l0_2.length c0_2] 25 (0, 0)) (bz a0.out)) : a7 ≠ a8)); clear a5; clear a4; clear a6; clear a0; clear HB; have a5 := b0; have a4 := b1; have a6 := b4; have a0 := b5; have HB := b6; have a1 := b8; have p7 := d6; have p6 := f8; have e2 := f9; have f4 := i3; clear b0 b1 b4 b5 b6 b8 d6 f8 f9 i3; clear hb hbox hg; have y6 := f4.out; have y9 := e2.out; have u7 : h6.cell? ⟨a7, 0, none⟩ = some (.int .i64 0) := bcz a1 0 rfl; have u8 : h6.cell? ⟨a7, 1, none⟩ = some (.slice none 0 0) := bcz a1 1 rfl; have u9 : h6.cell? ⟨a7, 2, none⟩ = some (.slice none 0 0) := bcz a1 2 rfl; have w6 := blk_frozen a1.out 0; have w7 := blk_frozen a1.out 1; have w8 := blk_frozen a1.out 2; obtain ⟨g3, g4, r7⟩ := Kd.R_slice a5.out; subst r7; obtain ⟨g7, g8, r8⟩ := Kd.R_slice a4.out; subst r8; have v0 : h6.cell? ⟨a8, 0, none⟩ = some (.int .i64 a0_0) := bcz a0 0 rfl; have v1 : h6.cell? ⟨a8, 1, none⟩ = some (.slice A0_1 l0_1.length c0_1) := bcz a0 1 rfl; have v2 : h6.cell? ⟨a8, 2, none⟩ = some (.slice A0_2 l0_2.length c0_2) := bcz a0 2 rfl; have x0 := blk_frozen a0.out 0; have x1 := blk_frozen a0.out 1; have x2 := blk_frozen a0.out 2) | ((with_reducible refine gate_callee (f := 18) rfl ?_); refine goesL_ (some 20) rfl rfl Try.func18 (by kernel_rfl) rfl #[.agg #[.int .i64 a0_0, .slice A0_1 l0_1.length c0_1, .slice A0_2 l0_2.length c0_2]] rfl (by (try simp only [List.map_toArray, List.map_cons, List.map_nil]); first | done | rfl | (simp only [List.length_drop, List.length_take]; rfl)) ?_; (with_reducible refine (Pr26b.calls a0_0 _ _ l0_1 _ _ l0_2 false _ ?d7 ?d8 ?d9 ?e0 A5.out).mono ?_); (case d7 => exact Kd.C_below e9.out (wz HB.out)); (case d8 => exact e7.out); (case d9 => exact Kd.C_below f0.out (wz HB.out)); (case e0 => exact e8.out); rintro e p5 ⟨rfl, hb⟩; refine ⟨_, rfl, ?_⟩; have b0 := Aside0.mk (Kd.R_below (rz (Kd.R_mono (Kd.R_far (p := ⟨a7, 2, none⟩) (Kd.R_far (p := ⟨a7, 1, none⟩) (Kd.R_far (p := ⟨a7, 0, none⟩) (Kd.R_types a5.out a1.out (by decide)) (fun _ hk => hk.2) (.int .i64 a3)) (fun _ hk => hk.2) (.slice g3 a9.length g4)) (fun _ hk => hk.2) (.slice g7 b2.length g8)) (fun _ h_ => h_.1))) hb); have b1 := Aside0.mk (Kd.R_below (rz (Kd.R_mono (Kd.R_far (p := ⟨a7, 2, none⟩) (Kd.R_far (p := ⟨a7, 1, none⟩) (Kd.R_far (p := ⟨a7, 0, none⟩) (Kd.R_types a4.out a1.out (by decide)) (fun _ hk => hk.2) (.int .i64 a3)) (fun _ hk => hk.2) (.slice g3 a9.length g4)) (fun _ hk => hk.2) (.slice g7 b2.length g8)) (fun _ h_ => h_.1))) hb); have b4 := Aside0.mk (Kd.R_below (rz (Kd.R_mono (Kd.R_far (p := ⟨a7, 2, none⟩) (Kd.R_far (p := ⟨a7, 1, none⟩) (Kd.R_far (p := ⟨a7, 0, none⟩) (Kd.R_types a6.out a1.out (by decide)) (fun _ hk => hk.2) (.int .i64 a3)) (fun _ hk => hk.2) (.slice g3 a9.length g4)) (fun _ hk => hk.2) (.slice g7 b2.length g8)) (fun _ h_ => h_.1))) hb); have b5 := Aside0.mk (blk_below (g := a8) (o := .cells #[.int .i64 a0_0, .slice A0_1 l0_1.length c0_1, .slice A0_2 l0_2.length c0_2] 25 (0, 0)) (fz a0.out e2.out) hb); have b6 := Aside0.mk (blk_below (g := a7) (o := .cells #[.int .i64 a3, .slice g3 a9.length g4, .slice g7 b2.length g8] 25 (0, 0)) (by (with_reducible repeat (first | refine blk_drewN ?_ _ | refine blk_drew ?_ | refine blk_alloc ?_ _)); refine blk_put (cs := #[.int .i64 a3, .slice g3 a9.length g4, .slice none 0 0]) ?_ 2 _ rfl; (with_reducible repeat (first | refine blk_drewN ?_ _ | refine blk_drew ?_ | refine blk_alloc ?_ _)); refine blk_put (cs := #[.int .i64 a3, .slice none 0 0, .slice none 0 0]) ?_ 1 _ rfl; (with_reducible repeat (first | refine blk_drewN ?_ _ | refine blk_drew ?_ | refine blk_alloc ?_ _)); refine blk_put (cs := #[.int .i64 0, .slice none 0 0, .slice none 0 0]) ?_ 0 _ rfl; (with_reducible repeat (first | refine blk_drewN ?_ _ | refine blk_drew ?_ | refine blk_alloc ?_ _)); exact a1.out) hb); have b8 := Aside0.mk (below_step (wz HB.out) hb); clear a5; clear a4; clear a6; clear a0; clear a1; clear HB; have a5 := b0; have a4 := b1; have a6 := b4; have a0 := b5; have a1 := b6; have HB := b8; clear b0 b1 b4 b5 b6 b8; (try clear hb); (try clear f5); (try clear hk); (try clear hi); have v3 : p5.cell? ⟨a7, 0, none⟩ = some (.int .i64 a3) := bcz a1 0 rfl; have v4 : p5.cell? ⟨a7, 1, none⟩ = some (.slice g3 a9.length g4) := bcz a1 1 rfl; have v5 : p5.cell? ⟨a7, 2, none⟩ = some (.slice g7 b2.length g8) := bcz a1 2 rfl; have x3 := blk_frozen a1.out 0; have x4 := blk_frozen a1.out 1; have x5 := blk_frozen a1.out 2) | ((with_reducible refine gate_callee (f := 44) rfl ?_); refine goesL_ (some 24) rfl rfl Try.func44 (by kernel_rfl) rfl #[.agg #[.int .i64 a3, .slice g3 a9.length g4, .slice g7 b2.length g8], .agg #[.int .i64 0, .slice none 0 0, .slice none 0 0]] rfl (by (try simp only [List.map_toArray, List.map_cons, List.map_nil]); first | done | rfl | (simp only [List.length_drop, List.length_take]; rfl)) ?_; (refine (Pr26a.calls k a3 _ _ a9 _ _ b2 0 _ _ ([] : List ByteArray) _ _ ([] : List (S80)) true _ ?d7 ?d8 ?d9 ?e0 ?j7 ?j8 ?p8 ?p9 y0.out).mono ?_); (case d7 => repeat (first | exact (Kd.R_reads' a5.out).2.2 | (with_reducible refine Kd.C_alloc ?_ _) | (with_reducible refine Kd.C_drewN ?_ _) | (with_reducible refine Kd.C_drew ?_))); (case d8 => exact (Kd.R_reads' a5.out).2.1); (case d9 => repeat (first | exact (Kd.R_reads' a4.out).2.2 | (with_reducible refine Kd.C_alloc ?_ _) | (with_reducible refine Kd.C_drewN ?_ _) | (with_reducible refine Kd.C_drew ?_))); (case e0 => exact (Kd.R_reads' a4.out).2.1); (case j7 => exact Kd.C_nil _ _); (case j8 => exact Nat.le_refl _); (case p8 => exact Kd.C_nil _ _); (case p9 => exact Nat.le_refl _); rintro e A8 ⟨rfl, hb⟩; refine ⟨_, rfl, ?_⟩; have b0 := Aside0.mk (Kd.R_below (rz a5.out) hb); have b1 := Aside0.mk (Kd.R_below (rz a4.out) hb); have b4 := Aside0.mk (Kd.R_below (rz a6.out) hb); have b5 := Aside0.mk (blk_below (bz a0.out) hb); have b6 := Aside0.mk (blk_below (bz a1.out) hb); have b8 := Aside0.mk (below_step (wz HB.out) hb); clear a5; clear a4; clear a6; clear a0; clear a1; clear HB; have a5 := b0; have a4 := b1; have a6 := b4; have a0 := b5; have a1 := b6; have HB := b8; clear b0 b1 b4 b5 b6 b8; (try clear hb); (try clear f5); (try clear hk); (try clear hi); obtain ⟨z0, z1, r9⟩ := Kd.R_slice a6.out; subst r9) | (go_at_call 46; (with_reducible refine (Pl36b.calls k  d5 _ y1.out hr_).mono ?_); rintro e A9 ⟨rfl, hb⟩; have b0 := Aside0.mk (Kd.R_below (rz a5.out) hb); have b1 := Aside0.mk (Kd.R_below (rz a4.out) hb); have b4 := Aside0.mk (Kd.R_below (rz a6.out) hb); have b5 := Aside0.mk (blk_below (bz a0.out) hb); have b6 := Aside0.mk (blk_below (bz a1.out) hb); have b8 := Aside0.mk (below_step (wz HB.out) hb); clear a5; clear a4; clear a6; clear a0; clear a1; clear HB; have a5 := b0; have a4 := b1; have a6 := b4; have a0 := b5; have a1 := b6; have HB := b8; clear b0 b1 b4 b5 b6 b8; (try clear hb); (try clear f5); (try clear hk); (try clear hi)))
      go_ret
      exact ⟨by first | rfl | (simp [errW_none, errW_some] <;> rfl) | (simp [*, errW_none, errW_some] <;> rfl), wz HB.out⟩
     ·rw [if_neg h4] at H;have c63b0 : (d4 == 1) = false := beq_eq_false_iff_ne.mpr h4;have c63b1 : (d4 != 1) = true := bne_iff_ne.mpr h4;obtain rfl := Option.some.inj H;exact absurd hr_.out (by decide)
    ·rw [if_neg h0] at H;have c62b0 : ((d3.length : Int) == 0) = false := beq_eq_false_iff_ne.mpr h0;have c62b1 : ((d3.length : Int) != 0) = true := bne_iff_ne.mpr h0;have c62b2 : ¬ (d3 = []) := fun h_ => h0 (by rw [h_]; rfl)
     obtain rfl := Option.some.inj H;exact absurd hr_.out (by decide)
   ·replace j6 := Bool.eq_false_iff.mpr j6;subst j6;have H1 : (some false) = some r := by rw [if_neg (show ¬ (false = true) by decide)] at H; exact H
    clear H;have H := H1;clear H1;obtain rfl := Option.some.inj H;exact absurd hr_.out (by decide)
 ·replace c3 := Bool.eq_false_iff.mpr c3;subst c3;have H1 : ((Pl36b.f k).bind fun g0 => (some g0)) = some r := by rw [if_neg (show ¬ (false = true) by decide)] at H; exact H
  clear H;have H := H1;clear H1;replace H := Option.bind_eq_some_iff.mp H;obtain ⟨g0, i7, H⟩ := H;replace H : (some g0) = some r := H;have q4 := Aside0.mk i7;clear i7;obtain rfl := Option.some.inj H;go_enter Try.func9, Try.ntmps9
  go_wp2_with (first | ((with_reducible refine gate_dst (N := 1) rfl ?_); (try (refine gate_guard (by rfl) ?_; dsimp only)); refine box_event ?hg (N := 1) ?hd (cs := #[.int .i64 a0_0, .slice A0_1 l0_1.length c0_1, .slice A0_2 l0_2.length c0_2]) (t := 25) ?hr ?_; (case hd => rfl); (case hg => rfl); (case hr => first | (go_simp; done) | (go_simp; rfl)); intro a8 hg i5 hbox hb; have b0 := Aside0.mk (below_step (wz HB.out) hb); have b1 := Aside0.mk (hbox); have b4 := Aside0.mk ((by rw [hg]; exact (below_size (wz HB.out)) : w.heap.size ≤ a8)); have b5 := Aside0.mk ((by rw [hg]; exact (below_size (wz HB.out)) : w.heap.size ≤ a8)); clear HB; have HB := b0; have a0 := b1; have j2 := b4; have i9 := b5; clear b0 b1 b4 b5; clear hb hbox hg; have s6 : i5.cell? ⟨a8, 0, none⟩ = some (.int .i64 a0_0) := bcz a0 0 rfl; have s7 : i5.cell? ⟨a8, 1, none⟩ = some (.slice A0_1 l0_1.length c0_1) := bcz a0 1 rfl; have s8 : i5.cell? ⟨a8, 2, none⟩ = some (.slice A0_2 l0_2.length c0_2) := bcz a0 2 rfl; have s9 := blk_frozen a0.out 0; have t2 := blk_frozen a0.out 1; have t4 := blk_frozen a0.out 2) | ((with_reducible refine gate_callee (f := 15) rfl ?_); refine goesL_ (some 10) rfl rfl Try.func15 (by kernel_rfl) rfl #[.agg #[.int .i64 a0_0, .slice A0_1 l0_1.length c0_1, .slice A0_2 l0_2.length c0_2]] rfl (by (try simp only [List.map_toArray, List.map_cons, List.map_nil]); first | done | rfl | (simp only [List.length_drop, List.length_take]; rfl)) ?_; (with_reducible refine (Pl33a.calls k a0_0 _ _ l0_1 _ _ l0_2 false _ ?d7 ?d8 ?d9 ?e0 A2.out).mono ?_); (case d7 => exact cz e9.out HB.out); (case d8 => exact e7.out); (case d9 => exact cz f0.out HB.out); (case e0 => exact e8.out); rintro e z6 ⟨rfl, hb⟩; refine ⟨_, rfl, ?_⟩; have b0 := Aside0.mk (blk_below (bz a0.out) hb); have b1 := Aside0.mk (below_step (wz HB.out) hb); clear a0; clear HB; have a0 := b0; have HB := b1; clear b0 b1; (try clear hb); (try clear f5); (try clear hk); (try clear hi)) | ((with_reducible refine gate_callee (f := 46) rfl ?_); refine goesL_ (some 12) rfl rfl Try.func46 (by kernel_rfl) rfl #[] rfl (by (try simp only [List.map_toArray, List.map_cons, List.map_nil]); first | done | rfl | (simp only [List.length_drop, List.length_take]; rfl)) ?_; (with_reducible refine (Pl36b.calls k  g0 _ q4.out hr_).mono ?_); rintro e z7 ⟨rfl, hb⟩; refine ⟨_, rfl, ?_⟩; have b0 := Aside0.mk (blk_below (bz a0.out) hb); have b1 := Aside0.mk (below_step (wz HB.out) hb); clear a0; clear HB; have a0 := b0; have HB := b1; clear b0 b1; (try clear hb); (try clear f5); (try clear hk); (try clear hi)))
  go_ret
  exact ⟨by first | rfl | (simp [errW_none, errW_some] <;> rfl) | (simp [*, errW_none, errW_some] <;> rfl), wz HB.out⟩
end Go.Proofs.Ytmcbkmfpmcbdpaa.Pr
namespace Go.Proofs.Ytmcbkmfpmcbdpaa.H
open Go.RowKit Go.Proofs.Ytmcbkmfpmcbdpaa.Pr Go.Proofs.YtmcbkmfpmcbdpaaW.PrintWords Go.Proofs.Ytmcbkmfpmcbdpaa.Sem Go.Proofs.Ytmcbkmfpmcbdpaa.PL
theorem texts_ev (ls : List ByteArray) (hl : ls.length ≤ 1000000) : Ev (fun k => Pr01a.f k ls ls) true := by
 have key : ∀ d i : Nat, i + d = ls.length → Ev (fun k => Pr01a.l0 k ls ls (i : Int)) true := by
  intro d
  induction d with
  | zero => intro i h; exact Ev.step (fun k => Pr01a.l0.eq_2 ..) (Ev.neg (by omega) (Ev.now _))
  | succ d ih =>
   intro i h
   refine Ev.step (fun k => Pr01a.l0.eq_2 ..) (Ev.pos (by omega) (Ev.pos (by omega) (Ev.pos (by omega) (Ev.pos rfl ?_))))
   rw [w1n (by omega)]
   exact ih (i + 1) (by omega)
 exact Ev.pos rfl (key ls.length 0 (by omega))
theorem same26_refl (n : Int) (ls : List ByteArray) (xs : List Ed) (h1 : ls.length ≤ 1000000) (hl : xs.length ≤ 1000000) : Ev (fun k => Pr26a.f k n ls xs n ls xs) true := by
 have key : ∀ d i : Nat, i + d = xs.length → Ev (fun k => Pr26a.l0 k (i : Int) n ls xs n ls xs) true := by
  intro d
  induction d with
  | zero => intro i h; exact Ev.step (fun k => Pr26a.l0.eq_2 ..) (Ev.neg (by omega) (Ev.now _))
  | succ d ih =>
   intro i h
   refine Ev.step (fun k => Pr26a.l0.eq_2 ..) (Ev.pos (by omega) (Ev.pos (by omega) (Ev.pos (by omega) (Ev.neg (by simp) ?_))))
   rw [w1n (by omega)]
   exact ih (i + 1) (by omega)
 exact Ev.pos rfl (Ev.bind (texts_ev ls h1) (Ev.pos rfl (Ev.step (fun k => Pr26a.j0.eq_2 ..) (Ev.neg (by simp) (key xs.length 0 (by omega))))))
theorem same0 : Ev (fun k => Pr26a.f k 0 [] [] 0 [] []) true := same26_refl 0 [] [] (by simp) (by simp)
theorem aw36 : Ev (fun k => Pl36b.f k) true := Ev.of Pl36b.mono (k := 20) (by kernel_rfl)
theorem es_ndS {n : Nat} {ls : List ByteArray} {es : List Ed} (hm : mayR n ls es = true) : ∀ e ∈ es, Nd n e.f0 ∧ Nd n e.f2 := fun e he => by
 obtain ⟨k, hk, rfl⟩ := List.getElem_of_mem he
 have := es_at hm hk
 rw [show es.getD k z80 = es[k] by simp [List.getD_eq_getElem?_getD, List.getElem?_eq_getElem hk]] at this
 exact this
theorem class_len (n : Nat) (es : List Ed) : (classL n es).length = n := by simp [classL]
theorem iterP_len (n : Nat) (es : List Ed) : ∀ (f : Nat) (P : List Bool), (iterP n es f P).length = P.length
 | 0, P => rfl
 | f + 1, P => by
  unfold iterP
  split
  ·rfl
  ·rw [iterP_len n es f, sweepTo_length]
theorem pairsR_length (n : Nat) (es : List Ed) : (pairsR n es).length = n * n := by unfold pairsR; rw [iterP_len, List.length_replicate]
theorem pair_at {n : Nat} {ls : List ByteArray} {es : List Ed} (hm : mayR n ls es = true) {i j : Nat} (hi : i < n) (hj : j < n) : (pairsR n es).getD (i * n + j) false = true ↔ (classL n es)[i]'(by rw [class_len]; exact hi) = (classL n es)[j]'(by rw [class_len]; exact hj) := by
 rw [← class_iff (es_ndS hm)]
 unfold Bis
 rw [great_rel n ls es hm]
 unfold relP
 rw [show ((i : Int) * (n : Int) + (j : Int)).toNat = i * n + j by omega]
 simp
 omega
theorem num_at {ks : List Int} {i k : Nat} (hi : i < ks.length) (hk : k < i) : (numK (ks.take i)).getD k 0 = ((fstK (ks.take i)).idxOf (ks[k]'(by omega)) : Int) := by
 have h1 : k < (ks.take i).length := by rw [List.length_take]; omega
 rw [numK_at _ h1, List.getElem_take]
theorem of_in {n : Nat} {ls : List ByteArray} {es : List Ed} (hm : mayR n ls es = true) {i : Nat} (hi : i < n) {r : List Int} {ks : List Int} (hks : ks = classL n es)
  (hend : Ev (fun k => Pr34b.l0 k (pairsR n es) (numK (ks.take (i + 1))) ((fstK (ks.take (i + 1))).length : Int) ((i + 1 : Nat) : Int) (n : Int) ls es) r) :
  ∀ (b : Nat) (x : Int), b ≤ i → ((∃ k, ∃ h : k < i, b ≤ k ∧ ks[k]'(by rw [hks, class_len]; omega) = ks[i]'(by rw [hks, class_len]; omega)) → x = ((fstK (ks.take i)).idxOf (ks[i]'(by rw [hks, class_len]; omega)) : Int)) → ((¬ ∃ k, ∃ h : k < i, b ≤ k ∧ ks[k]'(by rw [hks, class_len]; omega) = ks[i]'(by rw [hks, class_len]; omega)) → x = -1) →
   Ev (fun k => Pr34b.l1 k (pairsR n es) (numK (ks.take i)) ((fstK (ks.take i)).length : Int) (i : Int) x ((b : Int) - 1) (n : Int) ls es) r := by
 have hn := n_le hm;have hlen : ks.length = n := by rw [hks, class_len]
 have hik : i < ks.length := by omega
 have hnl : (numK (ks.take i)).length = i := by rw [numK_length, List.length_take]; omega
 have hfl : (fstK (ks.take i)).length ≤ i := by have := fstK_length_le (ks.take i); rw [List.length_take] at this; omega
 have ht : ks.take (i + 1) = ks.take i ++ [ks[i]] := take_snoc' hik;intro b
 induction b with
 | zero =>
  intro x _ h1 h2;refine Ev.step (fun k => Pr34b.l1.eq_2 ..) (Ev.neg (by omega) ?_);by_cases hp : ∃ k, ∃ h : k < i, 0 ≤ k ∧ ks[k]'(by omega) = ks[i]
  ·have hx := h1 hp
   have hmem : ks[i] ∈ ks.take i := by
    obtain ⟨k, hk, _, e⟩ := hp;rw [← e];exact List.mem_take_iff_getElem.2 ⟨k, by omega, rfl⟩
   refine Ev.neg (by omega) (Ev.pos (by omega) ?_);rw [w1n (by omega)];have hadd : addK (fstK (ks.take i)) ks[i] = fstK (ks.take i) := by unfold addK; rw [if_pos ((fstK_mem _ _).2 hmem)]
   rw [ht, numK_snoc, fstK_snoc, hadd, ← hx] at hend;exact hend
  ·have hx := h2 hp
   have hmem : ks[i] ∉ ks.take i := by
    intro hmem;obtain ⟨k, hk, e⟩ := List.mem_take_iff_getElem.1 hmem;exact hp ⟨k, by omega, by omega, e⟩
   have a0 : ks[i] ∉ fstK (ks.take i) := fun h => hmem ((fstK_mem _ _).1 h)
   refine Ev.pos (by omega) (Ev.pos (by omega) ?_);rw [w1n (by omega), w1n (by omega)];rw [ht, numK_snoc, fstK_snoc, idxOf_addK_new a0] at hend;have hadd : addK (fstK (ks.take i)) ks[i] = fstK (ks.take i) ++ [ks[i]] := by unfold addK; rw [if_neg a0]
   rw [hadd, List.length_append, List.length_singleton] at hend;exact hend
 | succ b ih =>
  intro x hb h1 h2;have hbn : b < n := by omega
  have hidx : i * n + b < n * n := by
   have h3 : (i + 1) * n ≤ n * n := Nat.mul_le_mul_right _ hi;rw [Nat.add_mul, Nat.one_mul] at h3;omega
  have hnn : n * n ≤ 2048 * 2048 := Nat.mul_le_mul (by omega) (by omega)
  have e1 : wrap64 (wrap64 ((i : Int) * (n : Int)) + (b : Int)) = ((i * n + b : Nat) : Int) := by
   have h3 : ((i * n : Nat) : Int) = (i : Int) * (n : Int) := Int.natCast_mul i n;have h4 : wrap64 ((i : Int) * (n : Int)) = ((i * n : Nat) : Int) := by rw [← h3]; unfold wrap64; omega
   rw [h4];unfold wrap64;omega
  have e2 : ((b + 1 : Nat) : Int) - 1 = (b : Int) := by omega
  have hpl : (pairsR n es).length = n * n := pairsR_length n es;refine Ev.step (fun k => Pr34b.l1.eq_2 ..) ?_;rw [e2, e1];have e3 : wrap64 ((b : Int) - 1) = (b : Int) - 1 := by unfold wrap64; omega
  rw [e3];refine Ev.pos (by omega) (Ev.pos (by omega) (Ev.pos (by rw [hpl]; omega) ?_));have e4 : rdOf false (pairsR n es) ((i * n + b : Nat) : Int) = (pairsR n es).getD (i * n + b) false := by unfold rdOf; rw [Int.toNat_natCast]
  rw [e4];have hpa := pair_at hm hi hbn;by_cases hq : (pairsR n es).getD (i * n + b) false = true
  ·have hc : ks[i] = ks[b]'(by omega) := by subst hks; exact hpa.1 hq
   refine Ev.pos hq (Ev.pos (by omega) (Ev.pos (by omega) ?_))
   have e5 : rd (numK (ks.take i)) (b : Int) = ((fstK (ks.take i)).idxOf ks[i] : Int) := by
    show (numK (ks.take i)).getD (b : Int).toNat 0 = _;rw [Int.toNat_natCast, num_at hik (by omega), hc]
   rw [e5];exact ih _ (by omega) (fun _ => rfl) fun h => absurd ⟨b, by omega, Nat.le_refl _, hc.symm⟩ h
  ·have hc : ¬ ks[b]'(by omega) = ks[i] := by subst hks; exact fun e => hq (hpa.2 e.symm)
   refine Ev.neg hq (ih x (by omega) (fun ⟨k, hk, hbk, e⟩ => h1 ⟨k, hk, ?_, e⟩) fun h => h2 fun ⟨k, hk, hbk, e⟩ => h ⟨k, hk, by omega, e⟩);by_cases e9 : k = b
   ·subst e9; exact absurd e hc
   ·omega
theorem of34_ev {n : Nat} {ls : List ByteArray} {es : List Ed} (hm : mayR n ls es = true) : Ev (fun k => Pr34b.f k (n : Int) ls es) (refL n es) := by
 have hn := n_le hm
 have hlen := class_len n es
 have key : ∀ d i : Nat, i + d = n → Ev (fun k => Pr34b.l0 k (pairsR n es) (numK ((classL n es).take i)) ((fstK ((classL n es).take i)).length : Int) (i : Int) (n : Int) ls es) (refL n es) := by
  intro d
  induction d with
  | zero =>
   intro i h
   refine Ev.step (fun k => Pr34b.l0.eq_2 ..) (Ev.neg (by omega) ?_)
   rw [List.take_of_length_le (by omega)]
   exact Ev.now _
  | succ d ih =>
   intro i h
   refine Ev.step (fun k => Pr34b.l0.eq_2 ..) (Ev.pos (by omega) ?_)
   have e : wrap64 ((i : Int) - 1) = (i : Int) - 1 := by unfold wrap64; omega
   rw [e]
   exact of_in hm (by omega) rfl (ih (i + 1) (by omega)) i (-1) (Nat.le_refl _) (fun ⟨k, hk, hbk, _⟩ => by omega) fun _ => rfl
 exact Ev.bindS (a := pairsR n es) (by unfold Pr34a.f; rw [hm]; rfl) (key n 0 (by omega))
theorem same01_ev (xs : List Int) (hl : xs.length ≤ 1000000000) : Ev (fun k => Pr01b.f k xs xs) true := by
 have key : ∀ d i : Nat, i + d = xs.length → Ev (fun k => Pr01b.l0 k xs xs (i : Int)) true := by
  intro d
  induction d with
  | zero => exact fun i h => Ev.step (fun k => Pr01b.l0.eq_2 ..) (Ev.neg (by omega) (Ev.now _))
  | succ d ih =>
   intro i h
   have ih' := ih (i + 1) (by omega)
   refine Ev.step (fun k => Pr01b.l0.eq_2 ..) (Ev.pos (by omega) (Ev.pos (by omega) (Ev.pos (by omega) (Ev.pos rfl ?_))))
   rw [w1n (by omega)]
   exact ih'
 exact Ev.pos rfl (key xs.length 0 (by omega))
theorem fstK_len_nodup {κ : Type} [DecidableEq κ] (ks : List κ) : ks.Nodup → (fstK ks).length = ks.length := by
 refine rind (P := fun ks : List κ => ks.Nodup → (fstK ks).length = ks.length) (fun _ => rfl) (fun l a ih h => ?_) ks
 rw [List.nodup_append] at h
 have hn : a ∉ fstK l := fun q => h.2.2 a ((fstK_mem l a).1 q) a (by simp) rfl
 rw [fstK_snoc]
 unfold addK
 rw [if_neg hn, List.length_append, List.length_append, ih h.1]
theorem numK_onto {κ : Type} [DecidableEq κ] (ks : List κ) {a : Nat} (ha : a < (fstK ks).length) : ∃ i, ∃ _ : i < ks.length, (numK ks).getD i 0 = (a : Int) := by
 have h1 : (fstK ks)[a] ∈ ks := (fstK_mem ks _).1 (List.getElem_mem ha)
 obtain ⟨i, hi, he⟩ := List.getElem_of_mem h1
 refine ⟨i, hi, ?_⟩
 rw [numK_at ks hi, he]
 have h2 := List.getElem_idxOf (List.idxOf_lt_length_of_mem (List.getElem_mem ha))
 have h3 : (fstK ks).idxOf (fstK ks)[a] = a := (List.getElem_inj (fstK_nodup ks)).1 h2
 rw [h3]
section
variable {n : Nat} {ls : List ByteArray} {es : List Ed}
theorem refl_at (hm : mayR n ls es = true) {s t : Int} (hs : Nd n s) (ht : Nd n t) : (refL n es).getD s.toNat 0 = (refL n es).getD t.toNat 0 ↔ Bis n es s t := by
 obtain ⟨i, rfl⟩ := Int.eq_ofNat_of_zero_le hs.1
 obtain ⟨j, rfl⟩ := Int.eq_ofNat_of_zero_le ht.1
 have hi : i < (classL n es).length := by rw [class_len]; have := hs.2; omega
 have hj : j < (classL n es).length := by rw [class_len]; have := ht.2; omega
 rw [class_iff (es_ndS hm) hi hj]
 exact numK_eq (classL n es) hi hj
theorem least_one (hm : mayR n ls es = true) {a b : Int} (h : Bis (fstK (refL n es)).length (sortE (es.map (imE (refL n es)))) a b) : a = b := by
 have hlen : (refL n es).length = n := by unfold refL; rw [numK_length, class_len]
 have hnn : numK (refL n es) = refL n es := (numK_numK (ks := (classL n es))).1;obtain ⟨m, hmm⟩ : ∃ m, m = (fstK (refL n es)).length := ⟨_, rfl⟩
 obtain ⟨E', hE'⟩ : ∃ E', E' = sortE (es.map (imE (refL n es))) := ⟨_, rfl⟩
 rw [← hmm, ← hE'] at h;have hmem : ∀ x, x ∈ E' ↔ ∃ e ∈ es, imE (refL n es) e = x := fun x => by rw [hE', sortE_mem, List.mem_map]
 have key : ∀ s t, Nd n s ∧ Nd n t ∧ Bis m E' ((refL n es).getD s.toNat 0) ((refL n es).getD t.toNat 0) → Bis n es s t := by
  intro s t hst;refine Bis.of (R := fun s t => Nd n s ∧ Nd n t ∧ Bis m E' ((refL n es).getD s.toNat 0) ((refL n es).getD t.toNat 0)) (fun s t h => ⟨h.1, h.2.1⟩) ?_ ?_ hst
  ·rintro s t ⟨h1, h2, h3⟩ e he rfl;obtain ⟨f, hf, x, y, z⟩ := h3.step ((hmem _).2 ⟨e, he, rfl⟩) rfl;obtain ⟨g, hg, rfl⟩ := (hmem _).1 hf;have hgn := es_ndS hm g hg;have hb : Bis n es g.f0 t := (refl_at hm hgn.1 h2).1 x;obtain ⟨k, hk, p, q, r⟩ := hb.step hg rfl;have hkn := es_ndS hm k hk;have hc := (refl_at hm hgn.2 hkn.2).2 r;refine ⟨k, hk, p, Eq.trans y q, (es_ndS hm e he).2, hkn.2, ?_⟩;rw [← hc];exact z
  ·rintro s t ⟨h1, h2, h3⟩ e he rfl;obtain ⟨f, hf, x, y, z⟩ := h3.back ((hmem _).2 ⟨e, he, rfl⟩) rfl;obtain ⟨g, hg, rfl⟩ := (hmem _).1 hf;have hgn := es_ndS hm g hg;have hb : Bis n es g.f0 s := (refl_at hm hgn.1 h1).1 x;obtain ⟨k, hk, p, q, r⟩ := hb.step hg rfl;have hkn := es_ndS hm k hk;have hc := (refl_at hm hgn.2 hkn.2).2 r;refine ⟨k, hk, p, Eq.trans y q, hkn.2, (es_ndS hm e he).2, ?_⟩;rw [← hc];exact z
 have hab := h.nodes;obtain ⟨i, rfl⟩ := Int.eq_ofNat_of_zero_le hab.1.1;obtain ⟨j, rfl⟩ := Int.eq_ofNat_of_zero_le hab.2.1;have hi : i < (fstK (refL n es)).length := by have := hab.1.2; omega
 have hj : j < (fstK (refL n es)).length := by have := hab.2.2; omega
 obtain ⟨p, hp, ep⟩ := numK_onto (refL n es) hi;obtain ⟨q, hq, eq⟩ := numK_onto (refL n es) hj;rw [hnn] at ep eq;have hpn : Nd n (p : Int) := ⟨by omega, by omega⟩
 have hqn : Nd n (q : Int) := ⟨by omega, by omega⟩
 have hB := key (p : Int) (q : Int) ⟨hpn, hqn, by rw [Int.toNat_natCast, Int.toNat_natCast, ep, eq]; exact h⟩;have := (refl_at hm hpn hqn).2 hB;rw [Int.toNat_natCast, Int.toNat_natCast, ep, eq] at this;exact this
theorem least_count (hm : mayR n ls es = true) : (fstK (refL (fstK (refL n es)).length (sortE (es.map (imE (refL n es)))))).length = (fstK (refL n es)).length := by
 have hlen : (refL n es).length = n := by unfold refL; rw [numK_length, class_len]
 have hnn : numK (refL n es) = refL n es := (numK_numK (ks := (classL n es))).1
 have hm' := may_quot hm hlen
 rw [hnn] at hm'
 have hone := fun a b => least_one (a := a) (b := b) hm
 revert hm' hone
 generalize (fstK (refL n es)).length = m
 generalize sortE (es.map (imE (refL n es))) = E
 intro hm' hone
 have h1 : (fstK (refL m E)).length = (fstK (classL m E)).length := (numK_numK (ks := classL m E)).2
 rw [h1, fstK_len_nodup, class_len]
 rw [List.nodup_iff_pairwise_ne, List.pairwise_iff_getElem]
 intro i j hi hj hij e
 have := hone _ _ ((class_iff (es_ndS hm') hi hj).2 e)
 omega
end
theorem quotLeast_true (n : Int) (ls : List ByteArray) (es : List Ed) : Ev (fun k => Pl36a.f k n ls es) true := by
 have hL : Ev (fun k => Pl33a.f k n ls es) (light33 n ls es) := Ev.now _;refine Ev.bind hL ?_
 cases light33 n ls es with
 | false => exact Ev.neg (by simp) (Ev.last aw36)
 | true =>
  refine Ev.pos rfl ?_
  cases hm : mayR n ls es with
  | false =>
   have hq : Ev (fun k => Pxd.f k n ls es) (0, [], [], [], 1) := Ev.bindS (a := ([], 1)) (by unfold Pra.f; rw [hm]; rfl) (Ev.neg (by decide) (Ev.now _));exact Ev.bind hq (Ev.bindS (a := false) (by unfold Pr26b.f; rw [hm]) (Ev.neg (by simp) (Ev.bind same0 (Ev.pos rfl (Ev.pos rfl (Ev.pos rfl (Ev.last aw36)))))))
  | true =>
   obtain ⟨m, rfl⟩ : ∃ m : Nat, (m : Int) = n := ⟨n.toNat, by have := lt_n hm; omega⟩
   have hn := lt_n hm;have hlen : (refL m es).length = m := by unfold refL; rw [numK_length, class_len]
   have hnn : numK (refL m es) = refL m es := (numK_numK (ks := (classL m es))).1;have hiw : inW (refL m es) = true := by rw [← hnn]; exact inW_numK _ (by omega)
   have hf := fstK_length_le (refL m es);have hs := sortE_length (es.map (imE (refL m es)));rw [List.length_map] at hs;have hel := es_le hm;have hQ := quotOf_ev hm hlen hiw;have hm' := may_quot hm hlen;rw [hnn] at hQ hm';have hS := same26_refl ((fstK (refL m es)).length : Int) ls (sortE (es.map (imE (refL m es)))) (by have := (may_lab hm).1; omega) (by omega)
   have hq : Ev (fun k => Pxd.f k (m : Int) ls es) (((fstK (refL m es)).length : Int), ls, sortE (es.map (imE (refL m es))), refL m es, 0) :=
    Ev.bindS (a := (refL m es, 0)) (by unfold Pra.f; rw [hm]; rfl) (Ev.pos rfl (Ev.bind hQ (Ev.now _)))
   refine Ev.bind hq (Ev.bindS (a := true) (by unfold Pr26b.f; rw [hm]) (Ev.pos rfl (Ev.bind (of34_ev hm) (Ev.pos rfl (Ev.bind (same01_ev (refL m es) (by omega)) (Ev.pos rfl (Ev.bindS (a := (((fstK (refL m es)).length : Int), ls, sortE (es.map (imE (refL m es))))) ?_ (Ev.bind hS ?_))))))))
   ·unfold Pr36b.f;rw [if_pos ⟨hm, by omega⟩, hnn]
   ·refine Ev.step (fun k => Pl36a.j0.eq_2 ..) (Ev.neg (by simp) (Ev.bindS (a := (refL (fstK (refL m es)).length (sortE (es.map (imE (refL m es)))), 0)) (by unfold Pra.f; rw [hm']; rfl) (Ev.pos rfl ?_)));have hC := count_ev (refL (fstK (refL m es)).length (sortE (es.map (imE (refL m es))))) (by unfold refL; rw [numK_length, class_len]; unfold refL at hf hlen; omega);rw [least_count hm] at hC;exact Ev.bind hC (Ev.pos rfl (Ev.last aw36))
end Go.Proofs.Ytmcbkmfpmcbdpaa.H
namespace Go.Proofs.Ytmcbkmfpmcbdpaa.quotLeast
open Go.ChangeShapes Go.WideShapes Go.ChangeAt Go.RowKit Go.Proofs.Ytmcbkmfpmcbdpaa.Pr Go.Proofs.YtmcbkmfpmcbdpaaW.PrintWords Go.Proofs.Ytmcbkmfpmcbdpaa.H
theorem own : ownKnob Try.prog.godebug = none := by kernel_rfl
set_option maxRecDepth 100000 in
theorem lifted (os : Os) (started : os.Started) (H : Type) (enc : TypeId × Value → H) :
  ReturnsInHanded {} Try.checked os 9 .any (Rows.quotLeastSpec.pre6 enc Try.prog Try.f9 Rows.quotLeastRow.domain false) (Rows.quotLeastSpec.post enc Try.prog Try.f9 false true false false) := by
 refine returnsInHanded_of_change_sized (C := Try.checked) own started (by kernel_rfl) Try.func9
  (ChangeSpec.witness6 (enc := enc) (C := Try.checked) false ⟨#[], #[.agg #[.int .i64 0, .slice none 0 0, .slice none 0 0]], []⟩ 8 (by kernel_rfl) (by kernel_rfl) (by kernel_rfl) (by kernel_rfl)) ?_
 intro W base args ds gs before hval0 hW hcnd hsz0 _;have hval : ∀ (j : Nat) t v, Try.f9.params[j]? = some t → args[j]? = some v → Value.okWide Try.prog W .any base t v := hval0;have hW' := hW;obtain ⟨p, q, hA0, hV, rfl, hfz, hnd⟩ := hW;have hA : DataW.TrodAll enc Try.prog W 0 (fun _ => true) true Try.f9.params.toList args.toList ds p := hA0;rw [Try.params9] at hA hval;obtain ⟨v0, vs0, d0, ds0, p0, q0, hargs, rfl, rfl, h0, r0⟩ := trodAll_cons hA;obtain ⟨rfl, rfl, rfl⟩ := trodAll_nil r0;obtain rfl : args = #[v0] := by cases args; simp_all
 obtain ⟨rfl, rfl⟩ := trodVars_none hV;have k0 := h0;have lt0 : ∀ x ∈ p0, x.block < W.heap.size := by obtain ⟨m, hm⟩ := k0; exact DataW.trod_lt m _ _ _ hm
 obtain ⟨n0, ls0, es0, A0, B0, c0, e0, rfl, wf0, rl0, cl0, re0, ce0⟩ := open_lts2 (hval 0 25 v0 rfl rfl) h0;clear hA0 hval0 hsz0;obtain ⟨k, hk⟩ := (quotLeast_true n0 ls0 es0).rounds;refine (Pr.Pl36a.calls (k := k) (r := true) (w := W) (hr0_1 := rl0) (hc0_1 := cl0) (hr0_2 := re0) (hc0_2 := ce0) (h := hk) (hr_ := ⟨rfl⟩)).mono fun e W' ⟨he, bel⟩ => ?_
 subst he;exact ⟨_, rfl, _, _, _, [], _, [], hW', trodAll_mk1 (shut_bool Try.underlying4 _), (trodAll_cons_mk (Below.trod laid_out (by kernel_rfl) (of_decide_eq_true (by kernel_rfl)) k0 bel lt0) trodAll_mk0), rfl, bel.frame _, fun h => by cases h⟩
theorem over : Rows.quotLeastRow.holds Try.pinned (OpenSpec.ofChange Rows.quotLeastSpec) :=
 OpenClaim.holds_of_wide 9 Try.f9 rfl rfl rfl rfl rfl rfl rfl ⟨rfl, rfl, rfl, rfl, rfl⟩ rfl rfl rfl rfl rfl (by kernel_rfl) Try.func9 (by kernel_rfl)
  (of_decide_eq_true (by kernel_rfl)) (by unfold Func.isWrapper; first | (rw [if_pos (by decide +kernel)]; kernel_rfl) | (rw [if_neg (by decide +kernel)]; exact ⟨rfl, rfl⟩))
  (fun os started H enc _ => lifted os started H enc)
theorem proved : Rows.QuotLeastSaid := over
#print axioms proved
end Go.Proofs.Ytmcbkmfpmcbdpaa.quotLeast
namespace Go.Proofs.Ytmcbkmfpmcbdpaa
theorem quotLeast_holds : Rows.QuotLeastSaid := quotLeast.proved
end Go.Proofs.Ytmcbkmfpmcbdpaa
