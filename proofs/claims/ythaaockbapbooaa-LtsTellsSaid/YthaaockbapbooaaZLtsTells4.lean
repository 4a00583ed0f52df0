/-
  The law LtsTells: for every input the call returns true, and what came in reads as it read before.
  Condition: none.
-/
import Derived.Test.YthaaockbapbooaaZLtsTells3
set_option linter.unusedVariables false
set_option linter.unusedSimpArgs false
namespace Go.Proofs.Ythaaockbapbooaa.H
open Go.RowKit Go.Proofs.Ythaaockbapbooaa.Pr Go.Proofs.YthaaockbapbooaaW.PrintWords Go.Proofs.Ythaaockbapbooaa.Sem
def succP (es : List Ed) (a l : Int) : List Int := (es.filter fun e => decide (e.f0 = a) && decide (e.f1 = l)).map (·.f2)
def predP (es : List Ed) (a l : Int) : List Int := (es.filter fun e => decide (e.f2 = a) && decide (e.f1 = l)).map (·.f0)
theorem take_snocD {α : Type} (d : α) {xs : List α} {k : Nat} (hk : k < xs.length) : xs.take (k + 1) = xs.take k ++ [xs.getD k d] := by
 rw [getD_get hk, List.take_add_one, List.getElem?_eq_getElem hk]
 rfl
theorem succP_len (es : List Ed) (a l : Int) : (succP es a l).length ≤ es.length := by unfold succP; rw [List.length_map]; exact List.length_filter_le _ _
theorem predP_len (es : List Ed) (a l : Int) : (predP es a l).length ≤ es.length := by unfold predP; rw [List.length_map]; exact List.length_filter_le _ _
theorem succP_snoc (es : List Ed) (e : Ed) (a b : Int) : succP (es ++ [e]) a b = if e.f0 = a ∧ e.f1 = b then succP es a b ++ [e.f2] else succP es a b := by
 unfold succP
 by_cases h : e.f0 = a ∧ e.f1 = b
 ·rw [if_pos h]; simp [h.1, h.2]
 ·rw [if_neg h]
  have : (decide (e.f0 = a) && decide (e.f1 = b)) = false := by simpa using h
  simp [this]
theorem predP_snoc (es : List Ed) (e : Ed) (a b : Int) : predP (es ++ [e]) a b = if e.f2 = a ∧ e.f1 = b then predP es a b ++ [e.f0] else predP es a b := by
 unfold predP
 by_cases h : e.f2 = a ∧ e.f1 = b
 ·rw [if_pos h]; simp [h.1, h.2]
 ·rw [if_neg h]
  have : (decide (e.f2 = a) && decide (e.f1 = b)) = false := by simpa using h
  simp [this]
theorem outN_snoc (es : List Ed) (e : Ed) (a : Int) : outN (es ++ [e]) a = if e.f0 = a then outN es a ++ [e] else outN es a := by
 unfold outN
 by_cases h : e.f0 = a
 ·rw [if_pos h]; simp [h]
 ·rw [if_neg h]; simp [h]
theorem outN_len (es : List Ed) (a : Int) : (outN es a).length ≤ es.length := List.length_filter_le _ _
theorem refSucc_ev (n : Int) (ls : List ByteArray) (es : List Ed) (a l : Int) (hl : es.length ≤ 1000000) : Ev (fun k => Pr26b.f k n ls es a l) (succP es a l) := by
 have key : ∀ d i : Nat, i + d = es.length → Ev (fun k => Pr26b.l0 k a l (succP (es.take i) a l) (i : Int) n ls es) (succP es a l) := by
  intro d
  induction d with
  | zero =>
   intro i h
   rw [List.take_of_length_le (by omega)]
   exact Ev.step (fun k => Pr26b.l0.eq_2 ..) (Ev.neg (by omega) (Ev.now _))
  | succ d ih =>
   intro i h
   have ih' := ih (i + 1) (by omega)
   rw [take_snocD z51 (show i < es.length by omega), succP_snoc] at ih'
   have hlen : (succP (es.take i) a l).length < 17592186044416 := by
    have := succP_len (es.take i) a l
    rw [List.length_take] at this
    omega
   refine Ev.step (fun k => Pr26b.l0.eq_2 ..) (Ev.pos (by omega) (Ev.pos (by omega) ?_))
   rw [w1n (by omega), rd51]
   by_cases h1 : (es.getD i z51).f0 = a
   ·by_cases h2 : (es.getD i z51).f1 = l
    ·rw [if_pos ⟨h1, h2⟩] at ih'
     exact Ev.pos h1 (Ev.pos h2 (Ev.pos hlen ih'))
    ·rw [if_neg (fun h => h2 h.2)] at ih'
     exact Ev.pos h1 (Ev.neg h2 ih')
   ·rw [if_neg (fun h => h1 h.1)] at ih'
    exact Ev.neg h1 ih'
 exact key es.length 0 (by omega)
def toP (O : List Ed) (l : Int) : List Int := (O.filter fun e => decide (e.f1 = l)).map (·.f2)
theorem toP_snoc (es : List Ed) (e : Ed) (b : Int) : toP (es ++ [e]) b = if e.f1 = b then toP es b ++ [e.f2] else toP es b := by
 unfold toP
 by_cases h : e.f1 = b
 ·rw [if_pos h]; simp [h]
 ·rw [if_neg h]; simp [h]
theorem toP_len (es : List Ed) (l : Int) : (toP es l).length ≤ es.length := by unfold toP; rw [List.length_map]; exact List.length_filter_le _ _
theorem toP_outN (es : List Ed) (a l : Int) : toP (outN es a) l = succP es a l := by
 unfold toP outN succP
 rw [List.filter_filter]
 congr 1
 apply List.filter_congr
 intro x _
 exact Bool.and_comm _ _
theorem ltsSucc_ev (n : Int) (ls : List ByteArray) (es : List Ed) (a l : Int) (hl : es.length ≤ 1000000) : Ev (fun k => Pxf.f k n ls es a l) (if mayR n ls es then succP es a l else []) := by
 have key : ∀ (O : List Ed), O.length ≤ 1000000 → ∀ d i : Nat, i + d = O.length → Ev (fun k => Pxf.l0 k l (toP (O.take i) l) O (O.length : Int) (i : Int)) (toP O l) := by
  intro O hO d
  induction d with
  | zero =>
   intro i h
   rw [List.take_of_length_le (by omega)]
   exact Ev.step (fun k => Pxf.l0.eq_2 ..) (Ev.neg (by omega) (Ev.now _))
  | succ d ih =>
   intro i h
   have ih' := ih (i + 1) (by omega)
   rw [take_snocD z51 (show i < O.length by omega), toP_snoc] at ih'
   have hlen : (toP (O.take i) l).length < 17592186044416 := by
    have := toP_len (O.take i) l
    rw [List.length_take] at this
    omega
   refine Ev.step (fun k => Pxf.l0.eq_2 ..) (Ev.pos (by omega) (Ev.pos (by omega) (Ev.pos (by omega) ?_)))
   rw [w1n (by omega), rd51]
   by_cases h2 : (O.getD i z51).f1 = l
   ·rw [if_pos h2] at ih'
    exact Ev.pos h2 (Ev.pos hlen ih')
   ·rw [if_neg h2] at ih'
    exact Ev.neg h2 ih'
 refine Ev.bindS rfl ?_
 cases hm : mayR n ls es with
 | false => exact key [] (by simp) 0 0 rfl
 | true =>
  simp only [if_true]
  rw [← toP_outN]
  exact key (outN es a) (Nat.le_trans (outN_len es a) hl) (outN es a).length 0 (by omega)
theorem ltsPred_ev (n : Int) (ls : List ByteArray) (es : List Ed) (a l : Int) (hl : es.length ≤ 1000000) : Ev (fun k => Pxe.f k n ls es a l) (if mayR n ls es then predP es a l else []) := by
 have key : ∀ d i : Nat, i + d = es.length → Ev (fun k => Pxe.l0 k a l (predP (es.take i) a l) es (es.length : Int) (i : Int)) (predP es a l) := by
  intro d
  induction d with
  | zero =>
   intro i h
   rw [List.take_of_length_le (by omega)]
   exact Ev.step (fun k => Pxe.l0.eq_2 ..) (Ev.neg (by omega) (Ev.now _))
  | succ d ih =>
   intro i h
   have ih' := ih (i + 1) (by omega)
   rw [take_snocD z51 (show i < es.length by omega), predP_snoc] at ih'
   have hlen : (predP (es.take i) a l).length < 17592186044416 := by
    have := predP_len (es.take i) a l
    rw [List.length_take] at this
    omega
   refine Ev.step (fun k => Pxe.l0.eq_2 ..) (Ev.pos (by omega) (Ev.pos (by omega) (Ev.pos (by omega) ?_)))
   rw [w1n (by omega), rd51]
   by_cases h1 : (es.getD i z51).f2 = a
   ·by_cases h2 : (es.getD i z51).f1 = l
    ·rw [if_pos ⟨h1, h2⟩] at ih'
     exact Ev.pos h1 (Ev.pos h2 (Ev.pos hlen ih'))
    ·rw [if_neg (fun h => h2 h.2)] at ih'
     exact Ev.pos h1 (Ev.neg h2 ih')
   ·rw [if_neg (fun h => h1 h.1)] at ih'
    exact Ev.neg h1 ih'
 refine Ev.bindS rfl ?_
 cases hm : mayR n ls es with
 | false => exact Ev.neg (by simp [errB]) (Ev.now _)
 | true => exact Ev.pos rfl (key es.length 0 (by omega))
def sameK (a b : Ed) : Prop := a.f0 = b.f0 ∧ a.f1 = b.f1
instance (a b : Ed) : Decidable (sameK a b) := by unfold sameK; infer_instance
def twin (es : List Ed) (i : Nat) : Bool := decide (0 < i) && decide (sameK (es.getD (i - 1) z51) (es.getD i z51))
def singleB (es : List Ed) : Bool := (List.range es.length).all fun i => !twin es i
theorem single_ev (n : Int) (ls : List ByteArray) (es : List Ed) (hl : es.length ≤ 1000000) : Ev (fun k => Pxb.f k n ls es) (singleB es && mayR n ls es) := by
 have key : ∀ d i : Nat, i + d = es.length → (∀ j, j < i → twin es j = false) → Ev (fun k => Pxb.l0 k es (es.length : Int) (i : Int) n ls es) (singleB es && mayR n ls es) := by
  intro d
  induction d with
  | zero =>
   intro i h hz
   have hs : singleB es = true := by
    unfold singleB
    rw [List.all_eq_true]
    intro j hj
    rw [hz j (by have := List.mem_range.1 hj; omega)]; rfl
   refine Ev.step (fun k => Pxb.l0.eq_2 ..) (Ev.neg (by omega) (Ev.bindS rfl ?_))
   rw [hs, Bool.true_and]
   cases mayR n ls es with
   | false => exact Ev.now _
   | true => exact Ev.now _
  | succ d ih =>
   intro i h hz
   have next : twin es i = false → Ev (fun k => Pxb.l0 k es (es.length : Int) (wrap64 ((i : Int) + 1)) n ls es) (singleB es && mayR n ls es) := fun ht => by
    rw [w1n (by omega)]
    exact ih (i + 1) (by omega) fun j hj => by
     rcases Nat.lt_succ_iff_lt_or_eq.1 hj with q | rfl
     ·exact hz j q
     ·exact ht
   refine Ev.step (fun k => Pxb.l0.eq_2 ..) (Ev.pos (by omega) (Ev.pos (by omega) (Ev.pos (by omega) ?_)))
   by_cases h0 : 0 < i
   ·refine Ev.pos (by omega) ?_
    rw [show wrap64 ((i : Int) - 1) = ((i - 1 : Nat) : Int) by unfold wrap64; omega]
    refine Ev.pos (by omega) (Ev.pos (by omega) ?_)
    rw [rd51, rd51]
    by_cases h1 : (es.getD (i - 1) z51).f0 = (es.getD i z51).f0
    ·by_cases h2 : (es.getD (i - 1) z51).f1 = (es.getD i z51).f1
     ·have hs : singleB es = false := by
       unfold singleB
       rw [Bool.eq_false_iff]
       intro he
       have := List.all_eq_true.1 he i (List.mem_range.2 (by omega))
       unfold twin at this
       rw [decide_eq_true h0, decide_eq_true (show sameK _ _ from ⟨h1, h2⟩)] at this
       simp at this
      rw [hs, Bool.false_and]
      exact Ev.pos h1 (Ev.pos h2 (Ev.now _))
     ·exact Ev.pos h1 (Ev.neg h2 (next (by unfold twin; rw [decide_eq_false (show ¬ sameK _ _ from fun q => h2 q.2), Bool.and_false])))
    ·exact Ev.neg h1 (next (by unfold twin; rw [decide_eq_false (show ¬ sameK _ _ from fun q => h1 q.1), Bool.and_false]))
   ·exact Ev.neg (by omega) (next (by unfold twin; rw [decide_eq_false h0, Bool.false_and]))
 exact key es.length 0 (by omega) fun j hj => by omega
theorem same01_ev (xs : List Int) (hl : xs.length ≤ 1000000) : Ev (fun k => Pr01b.f k xs xs) true := by
 have key : ∀ d i : Nat, i + d = xs.length → Ev (fun k => Pr01b.l0 k xs xs (i : Int)) true := by
  intro d
  induction d with
  | zero => intro i h; exact Ev.step (fun k => Pr01b.l0.eq_2 ..) (Ev.neg (by omega) (Ev.now _))
  | succ d ih =>
   intro i h
   refine Ev.step (fun k => Pr01b.l0.eq_2 ..) (Ev.pos (by omega) (Ev.pos (by omega) (Ev.pos (by omega) (Ev.pos rfl ?_))))
   rw [w1n (by omega)]
   exact ih (i + 1) (by omega)
 exact Ev.pos rfl (key xs.length 0 (by omega))
theorem same26_ev (xs : List Ed) (hl : xs.length ≤ 1000000) : Ev (fun k => Pr26c.f k 0 [] xs 0 [] xs) true := by
 have key : ∀ d i : Nat, i + d = xs.length → Ev (fun k => Pr26c.l0 k (i : Int) 0 [] xs 0 [] xs) true := by
  intro d
  induction d with
  | zero => intro i h; exact Ev.step (fun k => Pr26c.l0.eq_2 ..) (Ev.neg (by omega) (Ev.now _))
  | succ d ih =>
   intro i h
   refine Ev.step (fun k => Pr26c.l0.eq_2 ..) (Ev.pos (by omega) (Ev.pos (by omega) (Ev.pos (by omega) (Ev.neg (by simp) ?_))))
   rw [w1n (by omega)]
   exact ih (i + 1) (by omega)
 have ht : Ev (fun k => Pr01a.f k [] []) true := Ev.pos rfl (Ev.step (fun k => Pr01a.l0.eq_2 ..) (Ev.neg (by simp) (Ev.now _)))
 refine Ev.pos rfl (Ev.bind ht (Ev.pos rfl (Ev.step (fun k => Pr26c.j0.eq_2 ..) (Ev.neg (by simp) (key xs.length 0 (by omega))))))
def keylt (a b : Ed) : Prop := a.f0 < b.f0 ∨ a.f0 = b.f0 ∧ a.f1 < b.f1
theorem adj_pair {R : Ed → Ed → Prop} (ht : ∀ a b c, R a b → R b c → R a c) : ∀ l : List Ed, (∀ i, i + 1 < l.length → R (l.getD i z51) (l.getD (i + 1) z51)) → l.Pairwise R
 | [], _ => List.Pairwise.nil
 | [a], _ => List.pairwise_singleton R a
 | a :: b :: r, h => by
  have ih := adj_pair ht (b :: r) (fun i hi => by
   have := h (i + 1) (by simp only [List.length_cons] at hi ⊢; omega)
   simpa using this)
  have hab : R a b := by simpa using h 0 (by simp)
  refine List.pairwise_cons.2 ⟨fun x hx => ?_, ih⟩
  rcases List.mem_cons.1 hx with rfl | hx
  ·exact hab
  ·exact ht _ _ _ hab ((List.pairwise_cons.1 ih).1 x hx)
def ofK (e x : Ed) : Bool := decide (x.f0 = e.f0) && decide (x.f1 = e.f1)
theorem ofK_iff (e x : Ed) : ofK e x = true ↔ sameK x e := by unfold ofK sameK; simp
theorem count_one : ∀ l : List Ed, l.Pairwise (fun a b => ¬ sameK a b) ↔ ∀ e ∈ l, (l.filter (ofK e)).length = 1
 | [] => by simp
 | a :: r => by
  have ih := count_one r
  have haa : ofK a a = true := (ofK_iff a a).2 ⟨rfl, rfl⟩
  rw [List.pairwise_cons, ih]
  constructor
  ·rintro ⟨h1, h2⟩ e he
   rcases List.mem_cons.1 he with rfl | he
   ·rw [List.filter_cons_of_pos haa, List.filter_eq_nil_iff.2 (fun x hx hq => h1 x hx ⟨((ofK_iff e x).1 hq).1.symm, ((ofK_iff e x).1 hq).2.symm⟩)]
    rfl
   ·rw [List.filter_cons_of_neg (fun hq => h1 e he ((ofK_iff e a).1 hq))]
    exact h2 e he
  ·intro h
   have h1 := h a (List.mem_cons_self ..)
   rw [List.filter_cons_of_pos haa, List.length_cons] at h1
   have h0 : r.filter (ofK a) = [] := List.eq_nil_of_length_eq_zero (by omega)
   have hn : ∀ x ∈ r, ¬ sameK a x := fun x hx hq => (List.filter_eq_nil_iff.1 h0) x hx ((ofK_iff a x).2 ⟨hq.1.symm, hq.2.symm⟩)
   refine ⟨hn, fun e he => ?_⟩
   have := h e (List.mem_cons_of_mem _ he)
   rwa [List.filter_cons_of_neg (fun hq => hn e he ((ofK_iff e a).1 hq))] at this
def uniq (es : List Ed) (e : Ed) : Bool := ((succP es e.f0 e.f1).length : Int) == 1
theorem uniq_iff (es : List Ed) (e : Ed) : uniq es e = true ↔ (es.filter (ofK e)).length = 1 := by
 unfold uniq succP
 rw [List.length_map, beq_iff_eq]
 show (((es.filter (ofK e)).length : Nat) : Int) = 1 ↔ _
 omega
theorem single_all {n : Int} {ls : List ByteArray} {es : List Ed} (hm : mayR n ls es = true) : singleB es = es.all (uniq es) := by
 rw [Bool.eq_iff_iff]
 have h2 : es.all (uniq es) = true ↔ es.Pairwise (fun a b => ¬ sameK a b) := by
  rw [List.all_eq_true, count_one]
  exact ⟨fun h e he => (uniq_iff es e).1 (h e he), fun h e he => (uniq_iff es e).2 (h e he)⟩
 rw [h2]
 unfold singleB
 rw [List.all_eq_true]
 constructor
 ·intro h
  have hk : es.Pairwise keylt := adj_pair (fun a b c h1 h2 => by unfold keylt at *; omega) es fun i hi => by
   have h1 := lt_next hm hi
   have h3 := h (i + 1) (List.mem_range.2 hi)
   unfold twin at h3
   rw [decide_eq_true (show 0 < i + 1 by omega), Bool.true_and, Nat.add_sub_cancel] at h3
   have h4 : ¬ sameK (es.getD i z51) (es.getD (i + 1) z51) := by simpa using h3
   unfold keylt
   unfold elt at h1
   unfold sameK at h4
   omega
  exact hk.imp fun {a b} hab hs => by unfold keylt at hab; unfold sameK at hs; omega
 ·intro h i hi
  have hi' := List.mem_range.1 hi
  unfold twin
  by_cases h0 : 0 < i
  ·rw [decide_eq_true h0, Bool.true_and]
   have := List.pairwise_iff_getElem.1 h (i - 1) i (by omega) hi' (by omega)
   rw [getD_get (by omega), getD_get hi', decide_eq_false this]
   rfl
  ·rw [decide_eq_false h0]; rfl
theorem tells_ev {n : Int} {ls : List ByteArray} {es : List Ed} (hm : mayR n ls es = true) (a b : Int) : ∀ d i : Nat, i + d = es.length →
  Ev (fun k => Pl26a.l0 k a b (succP es a b) (predP es a b) (outN es a) (predP (es.take i) a b) (outN (es.take i) a) ((es.take i).all (uniq es)) (i : Int) n ls es) true := by
 have hel := lt_len hm
 intro d
 induction d with
 | zero =>
  intro i h
  rw [List.take_of_length_le (by omega)]
  refine Ev.step (fun k => Pl26a.l0.eq_2 ..) (Ev.neg (by omega) (Ev.bind (refSucc_ev n ls es a b hel) (Ev.bind (same01_ev _ (Nat.le_trans (succP_len ..) hel)) (Ev.pos rfl (Ev.bind (same01_ev _ (Nat.le_trans (predP_len ..) hel)) (Ev.pos rfl (Ev.bind (same26_ev _ (Nat.le_trans (outN_len ..) hel)) (Ev.pos rfl (Ev.bind (single_ev n ls es hel) (Ev.pos ?_ (Ev.last awake26)))))))))))
  rw [hm, Bool.and_true, single_all hm]
  simp
 | succ d ih =>
  intro i h
  have ih' := ih (i + 1) (by omega)
  have hi : i < es.length := by omega
  rw [take_snocD z51 hi, predP_snoc, outN_snoc, List.all_append] at ih'
  have hp : (predP (es.take i) a b).length < 17592186044416 := by
   have := predP_len (es.take i) a b
   rw [List.length_take] at this
   omega
  have ho : (outN (es.take i) a).length < 5864062014805 := by
   have := outN_len (es.take i) a
   rw [List.length_take] at this
   omega
  refine Ev.step (fun k => Pl26a.l0.eq_2 ..) (Ev.pos (by omega) (Ev.pos (by omega) ?_))
  rw [rd51]
  generalize hy : es.getD i z51 = y at ih'
  have hu : ([y] : List Ed).all (uniq es) = uniq es y := by simp
  rw [hu] at ih'
  have go : ∀ (P : List Int) (O : List Ed), Ev (fun k => Pl26a.l0 k a b (succP es a b) (predP es a b) (outN es a) P O ((es.take i).all (uniq es) && uniq es y) ((i + 1 : Nat) : Int) n ls es) true →
    Ev (fun k => if (es.take i).all (uniq es) = true then ((Pr26b.f k n ls es y.f0 y.f1).bind fun t => (Pl26a.l0 k a b (succP es a b) (predP es a b) (outN es a) P O ((t.length : Int) == 1) (wrap64 ((i : Int) + 1)) n ls es)) else (Pl26a.l0 k a b (succP es a b) (predP es a b) (outN es a) P O false (wrap64 ((i : Int) + 1)) n ls es)) true := fun P O hh => by
   rw [w1n (by omega)]
   cases hs : (es.take i).all (uniq es) with
   | true =>
    rw [hs, Bool.true_and] at hh
    exact Ev.pos rfl (Ev.bind (refSucc_ev n ls es y.f0 y.f1 hel) hh)
   | false =>
    rw [hs, Bool.false_and] at hh
    exact Ev.neg (by simp) hh
  have both : ∀ c : Bool, c = decide (y.f2 = a ∧ y.f1 = b) → Ev (fun k => Pl26a.j1 k a b (succP es a b) (predP es a b) (outN es a) (predP (es.take i) a b) (outN (es.take i) a) ((es.take i).all (uniq es)) (i : Int) c n ls es y.f0 y.f1 y.f2) true := fun c hc => by
   by_cases h1 : y.f2 = a ∧ y.f1 = b
   ·rw [if_pos h1] at ih'
    rw [hc, decide_eq_true h1]
    refine Ev.step (fun k => Pl26a.j1.eq_2 ..) (Ev.pos rfl (Ev.pos hp (Ev.bindS rfl ?_)))
    by_cases h2 : y.f0 = a
    ·rw [if_pos h2] at ih'
     exact Ev.pos h2 (Ev.pos ho (Ev.bindS rfl (go _ _ ih')))
    ·rw [if_neg h2] at ih'
     exact Ev.neg h2 (go _ _ ih')
   ·rw [if_neg h1] at ih'
    rw [hc, decide_eq_false h1]
    refine Ev.step (fun k => Pl26a.j1.eq_2 ..) (Ev.neg (by simp) ?_)
    by_cases h2 : y.f0 = a
    ·rw [if_pos h2] at ih'
     exact Ev.pos h2 (Ev.pos ho (Ev.bindS rfl (go _ _ ih')))
    ·rw [if_neg h2] at ih'
     exact Ev.neg h2 (go _ _ ih')
  by_cases h1 : y.f2 = a
  ·refine Ev.pos h1 (both _ ?_)
   by_cases h2 : y.f1 = b
   ·rw [decide_eq_true ⟨h1, h2⟩]; simpa using h2
   ·rw [decide_eq_false (fun q => h2 q.2)]; simpa using h2
  ·exact Ev.neg h1 (both _ (decide_eq_false (fun q => h1 q.1)).symm)
theorem ltsTells_true (n : Int) (ls : List ByteArray) (es : List Ed) (a b : Int) : Ev (fun k => Pl26a.f k n ls es a b) true := by
 obtain ⟨c, e, hb⟩ := light_ev n ls es
 cases c with
 | false => exact Ev.bind e (Ev.neg (by simp) (Ev.last awake26))
 | true =>
  have hel : es.length ≤ 1000000 := by have := (hb rfl).2.1; omega
  have h1 := ltsSucc_ev n ls es a b hel
  have h2 := ltsPred_ev n ls es a b hel
  have h3 := single_ev n ls es hel
  refine Ev.bind e (Ev.pos rfl (Ev.bind h1 (Ev.bind h2 (Ev.bindS rfl (Ev.bindS rfl ?_)))))
  cases hm : mayR n ls es with
  | false =>
   rw [hm, Bool.and_false] at h3
   refine Ev.neg (by simp) (Ev.pos (by simp) (Ev.pos (by simp) (Ev.pos (by simp) (Ev.bind h3 (Ev.neg (by simp) (Ev.last awake26))))))
  | true => exact Ev.pos rfl (tells_ev hm a b es.length 0 (by omega))
end Go.Proofs.Ythaaockbapbooaa.H
set_option linter.unusedVariables false
set_option linter.unusedSimpArgs false
namespace Go.Proofs.Ythaaockbapbooaa.ltsTells
open Go.ChangeShapes Go.WideShapes Go.ChangeAt Go.RowKit Go.Proofs.Ythaaockbapbooaa.Pr Go.Proofs.YthaaockbapbooaaW.PrintWords Go.Proofs.Ythaaockbapbooaa.H
theorem own : ownKnob Try.prog.godebug = none := by kernel_rfl
set_option maxRecDepth 100000 in
theorem lifted (os : Os) (started : os.Started) (H : Type) (enc : TypeId × Value → H) :
  ReturnsInHanded {} Try.checked os 7 .any (Rows.ltsTellsSpec.pre6 enc Try.prog Try.f7 Rows.ltsTellsRow.domain false) (Rows.ltsTellsSpec.post enc Try.prog Try.f7 false true false false) := by
 refine returnsInHanded_of_change_sized (C := Try.checked) own started (by kernel_rfl) Try.func7
  (ChangeSpec.witness6 (enc := enc) (C := Try.checked) false ⟨#[], #[.agg #[.int .i64 0, .slice none 0 0, .slice none 0 0], .int .i64 0, .int .i64 0], []⟩ 8 (by kernel_rfl) (by kernel_rfl) (by kernel_rfl) (by kernel_rfl)) ?_
 intro W base args ds gs before hval0 hW hcnd hsz0 _
 have hval : ∀ (j : Nat) t v, Try.f7.params[j]? = some t → args[j]? = some v → Value.okWide Try.prog W .any base t v := hval0
 have hW' := hW
 obtain ⟨p, q, hA0, hV, rfl, hfz, hnd⟩ := hW
 have hA : DataW.TrodAll enc Try.prog W 0 (fun _ => true) true Try.f7.params.toList args.toList ds p := hA0
 rw [Try.params7] at hA hval
 obtain ⟨v0, vs0, d0, ds0, p0, q0, hargs, rfl, rfl, h0, r0⟩ := trodAll_cons hA
 obtain ⟨v1, vs1, d1, ds1, p1, q1, rfl, rfl, rfl, h1, r1⟩ := trodAll_cons r0
 obtain ⟨v2, vs2, d2, ds2, p2, q2, rfl, rfl, rfl, h2, r2⟩ := trodAll_cons r1
 obtain ⟨rfl, rfl, rfl⟩ := trodAll_nil r2
 obtain rfl : args = #[v0, v1, v2] := by cases args; simp_all
 obtain ⟨rfl, rfl⟩ := trodVars_none hV
 have k0 := h0
 have lt0 : ∀ x ∈ p0, x.block < W.heap.size := by obtain ⟨m, hm⟩ := k0; exact DataW.trod_lt m _ _ _ hm
 obtain ⟨n0, ls0, es0, A0, B0, c0, e0, rfl, wf0, rl0, cl0, re0, ce0⟩ := open_lts2 (hval 0 25 v0 rfl rfl) h0
 have k1 := h1
 have lt1 : ∀ x ∈ p1, x.block < W.heap.size := by obtain ⟨m, hm⟩ := k1; exact DataW.trod_lt m _ _ _ hm
 obtain ⟨x1, rfl, rfl, rfl, wf1⟩ := open_int Try.underlying3 (hval 1 3 v1 rfl rfl) h1
 have k2 := h2
 have lt2 : ∀ x ∈ p2, x.block < W.heap.size := by obtain ⟨m, hm⟩ := k2; exact DataW.trod_lt m _ _ _ hm
 obtain ⟨x2, rfl, rfl, rfl, wf2⟩ := open_int Try.underlying3 (hval 2 3 v2 rfl rfl) h2
 clear hA0 hval0 hsz0
 obtain ⟨k, hk⟩ := (ltsTells_true n0 ls0 es0 x1 x2).rounds
 refine (Pr.Pl26a.calls (k := k) (r := true) (w := W) (hr0_1 := rl0) (hc0_1 := cl0) (hr0_2 := re0) (hc0_2 := ce0) (h := hk) (hr_ := ⟨rfl⟩)).mono fun e W' ⟨he, bel⟩ => ?_
 subst he
 exact ⟨_, rfl, _, _, _, [], _, [], hW', trodAll_mk1 (shut_bool Try.underlying4 _), (trodAll_cons_mk (Below.trod laid_out (by kernel_rfl) (of_decide_eq_true (by kernel_rfl)) k0 bel lt0) (trodAll_cons_mk (Below.trod laid_out (by kernel_rfl) (of_decide_eq_true (by kernel_rfl)) k1 bel lt1) (trodAll_cons_mk (Below.trod laid_out (by kernel_rfl) (of_decide_eq_true (by kernel_rfl)) k2 bel lt2) trodAll_mk0))), rfl, bel.frame _, fun h => by cases h⟩
theorem over : Rows.ltsTellsRow.holds Try.pinned (OpenSpec.ofChange Rows.ltsTellsSpec) :=
 OpenClaim.holds_of_wide 7 Try.f7 rfl rfl rfl rfl rfl rfl rfl ⟨rfl, rfl, rfl, rfl, rfl⟩ rfl rfl rfl rfl rfl (by kernel_rfl) Try.func7 (by kernel_rfl)
  (of_decide_eq_true (by kernel_rfl)) (by unfold Func.isWrapper; first | (rw [if_pos (by decide +kernel)]; kernel_rfl) | (rw [if_neg (by decide +kernel)]; exact ⟨rfl, rfl⟩))
  (fun os started H enc _ => lifted os started H enc)
theorem proved : Rows.LtsTellsSaid := over
#print axioms proved
end Go.Proofs.Ythaaockbapbooaa.ltsTells
namespace Go.Proofs.Ythaaockbapbooaa
theorem ltsTells_holds : Rows.LtsTellsSaid := ltsTells.proved
end Go.Proofs.Ythaaockbapbooaa
