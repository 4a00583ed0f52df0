/-
  Parts of the proof of WeakOf (joined by wip/tools/bundle.py), part 2: plain words and walks of the functions that the law reaches.
-/
import Derived.Test.YtmcbkmfpmcbdpaaZWeakOf1
set_option linter.unusedVariables false
set_option linter.unusedSimpArgs false
namespace Go.Proofs.Ytmcbkmfpmcbdpaa.H
open Go.RowKit Go.Proofs.Ytmcbkmfpmcbdpaa.Pr Go.Proofs.YtmcbkmfpmcbdpaaW.PrintWords Go.Proofs.Ytmcbkmfpmcbdpaa.Sem
theorem bytesLess_lt : ∀ (x y : List UInt8), Op.bytesLess x y = decide (x < y)
 | [], [] => by simp [Op.bytesLess]
 | _ :: _, [] => by simp [Op.bytesLess]
 | [], _ :: _ => by simp [Op.bytesLess]
 | a :: x, b :: y => by
  rw [Op.bytesLess, bytesLess_lt x y]
  simp only [List.cons_lt_cons_iff]
  by_cases h1 : a < b <;> by_cases h2 : a = b <;> by_cases h3 : x < y <;> simp [h1, h2, h3]
theorem okAt_same (n nl : Int) (es : List Ed) (k : Nat) : okAt n nl es k = okAt' n nl es k := by
 unfold okAt okAt'
 rw [decide_eq_decide.2 (cmpE_neg _ _)]
theorem compact_sub (zs : List (List UInt8)) : List.Sublist (Lib.compact zs) zs := by
 unfold Lib.compact Lib.compactUpTo
 have h := (List.filter_sublist (p := Lib.keeps zs.toArray) (l := List.range zs.length)).map (zs.toArray[·]!)
 have e := Lib.range_map_get zs.toArray
 simp only [List.size_toArray] at e
 rw [e] at h
 simpa using h
theorem back_inj {xs ys : List (List UInt8)} (h : (xs.map fun l => (⟨l.toArray⟩ : ByteArray)) = ys.map fun l => ⟨l.toArray⟩) : xs = ys := by
 have := congrArg (List.map fun s : ByteArray => s.data.toList) h
 simpa [List.map_map, Function.comp_def] using this
theorem back_fwd (ls : List ByteArray) : ((ls.map fun s => s.data.toList).map fun l => (⟨l.toArray⟩ : ByteArray)) = ls := by
 rw [List.map_map]
 simp [Function.comp_def]
theorem union_nil (ls : List ByteArray) : unionS ls [] = (Lib.compact ((ls.map fun s => s.data.toList).mergeSort fun x y => decide (x ≤ y))).map fun l => ⟨l.toArray⟩ := by
 unfold unionS cmpt srt
 rw [List.append_nil]
 congr 2
 rw [List.map_map]
 simp [Function.comp_def]
theorem rising_iff (L : List (List UInt8)) : L = Lib.compact (L.mergeSort fun x y => decide (x ≤ y)) ↔ ∀ k, 0 < k → k < L.length → L.getD (k - 1) [] < L.getD k [] := by
 have tr : ∀ a b c : List UInt8, decide (a ≤ b) = true → decide (b ≤ c) = true → decide (a ≤ c) = true := by
  intro a b c h1 h2;simp only [decide_eq_true_eq] at h1 h2 ⊢;exact List.le_trans h1 h2
 have tot : ∀ a b : List UInt8, (decide (a ≤ b) || decide (b ≤ a)) = true := by
  intro a b;simp only [Bool.or_eq_true, decide_eq_true_eq];exact List.le_total a b
 constructor
 ·intro h
  have hlen : (L.mergeSort fun x y => decide (x ≤ y)).length ≤ (Lib.compact (L.mergeSort fun x y => decide (x ≤ y))).length := by
   rw [← h, List.length_mergeSort];exact Nat.le_refl _
  have he := (compact_sub (L.mergeSort fun x y => decide (x ≤ y))).eq_of_length_le hlen;have hs : L = L.mergeSort fun x y => decide (x ≤ y) := h.trans he
  have hp : L.Pairwise fun x y => x ≤ y := by
   have := List.pairwise_mergeSort (le := fun x y : List UInt8 => decide (x ≤ y)) tr tot L;rw [← hs] at this;exact this.imp (by intro a b h; simpa using h)
  intro k h0 hk
  have hle : L.getD (k - 1) [] ≤ L.getD k [] := by
   rw [List.getD_eq_getElem?_getD, List.getD_eq_getElem?_getD, List.getElem?_eq_getElem hk, List.getElem?_eq_getElem (show k - 1 < L.length by omega)];exact List.pairwise_iff_getElem.1 hp (k - 1) k (by omega) hk (by omega)
  have hne : L.getD k [] ≠ L.getD (k - 1) [] := by
   intro e
   have hkeep : Lib.keeps L.toArray k = false := by
    apply Lib.keeps_neg h0;rw [getElem!_pos _ _ (by simpa using hk), getElem!_pos _ _ (by simp; omega)];rw [List.getD_eq_getElem?_getD, List.getD_eq_getElem?_getD, List.getElem?_eq_getElem hk, List.getElem?_eq_getElem (show k - 1 < L.length by omega)] at e;simpa using e
   have hl2 : (Lib.compact L).length < L.length := by
    unfold Lib.compact Lib.compactUpTo;rw [List.length_map];have := List.length_filter_lt_length_iff_exists (p := Lib.keeps L.toArray) (l := List.range L.length);have h2 := this.2 ⟨k, List.mem_range.2 hk, by simp [hkeep]⟩;simpa using h2
   rw [hs] at hl2;rw [he] at hl2;exact Nat.lt_irrefl _ hl2
  exact Std.lt_of_le_of_ne hle (fun e => hne e.symm)
 ·intro h
  have hp : L.Pairwise fun x y => x < y := by
   rw [List.pairwise_iff_getElem];intro i j hi hj hij
   induction j with
   | zero => omega
   | succ j ih =>
    have hs := h (j + 1) (by omega) hj;rw [List.getD_eq_getElem?_getD, List.getD_eq_getElem?_getD, List.getElem?_eq_getElem hj, List.getElem?_eq_getElem (show j + 1 - 1 < L.length by omega)] at hs;simp only [Nat.add_sub_cancel, Option.getD_some] at hs;by_cases e : i = j
    ·subst e; exact hs
    ·exact List.lt_trans (ih (by omega) (by omega)) hs
  have hm : (L.mergeSort fun x y => decide (x ≤ y)) = L := by
   apply List.mergeSort_of_pairwise;exact hp.imp (by intro a b h; simpa using List.le_of_lt h)
  rw [hm];refine (Lib.compact_all L fun j hj => ?_).symm;by_cases h0 : j = 0
  ·subst h0; simp [Lib.keeps]
  ·apply Lib.keeps_pos;rw [getElem!_pos _ _ (by simpa using hj), getElem!_pos _ _ (by simp; omega)];have := List.pairwise_iff_getElem.1 hp (j - 1) j (by omega) hj (by omega);intro e;simp only [List.getElem_toArray] at e;rw [← e] at this;exact List.lt_irrefl _ this
theorem named_same (ls : List ByteArray) : namedB ls = (decide (ls.length ≤ 64) && (List.range ls.length).all (labAt ls)) := by
 unfold namedB;congr 1
 rw [Bool.eq_iff_iff];simp only [Bool.and_eq_true, Bool.not_eq_true', decide_eq_true_eq, List.all_eq_true, List.mem_range, labAt, Bool.or_eq_true]
 have hu : ls = unionS ls [] ↔ ∀ k, 0 < k → k < ls.length → (ls.getD (k - 1) ByteArray.empty).data.toList < (ls.getD k ByteArray.empty).data.toList := by
  have hr := rising_iff (ls.map fun s => s.data.toList);rw [union_nil]
  have e1 : (ls = (Lib.compact ((ls.map fun s => s.data.toList).mergeSort fun x y => decide (x ≤ y))).map fun l => ⟨l.toArray⟩) ↔ ((ls.map fun s => s.data.toList) = Lib.compact ((ls.map fun s => s.data.toList).mergeSort fun x y => decide (x ≤ y))) := by
   constructor
   ·intro h;apply back_inj;rw [back_fwd];exact h
   ·intro h;rw [← h, back_fwd]
  rw [e1, hr]
  have g : ∀ k, k < ls.length → (ls.map fun s => s.data.toList).getD k [] = (ls.getD k ByteArray.empty).data.toList := by
   intro k hk;simp [List.getD_eq_getElem?_getD, List.getElem?_map, List.getElem?_eq_getElem hk]
  constructor
  ·intro h k h0 hk;have := h k h0 (by simpa using hk);rwa [g k hk, g (k - 1) (by omega)] at this
  ·intro h k h0 hk;rw [List.length_map] at hk;rw [g k hk, g (k - 1) (by omega)];exact h k h0 hk
 rw [hu];constructor
 ·rintro ⟨h1, h2⟩ k hk;refine ⟨?_, ?_⟩
  ·have : ls.getD k ByteArray.empty ∈ ls := by
    rw [List.getD_eq_getElem?_getD, List.getElem?_eq_getElem hk];exact List.getElem_mem hk
   rw [Bool.eq_false_iff];intro e;have h3 : ls.any tooLong = true := List.any_eq_true.2 ⟨_, this, e⟩;rw [h1] at h3
   cases h3
  ·by_cases h0 : k = 0
   ·exact Or.inl h0
   ·right
    rw [bytesLess_lt];simp only [ByteArray.toList_eq, decide_eq_true_eq];exact h2 k (by omega) hk
 ·intro h;refine ⟨?_, ?_⟩
  ·rw [List.any_eq_false];intro s hs;obtain ⟨k, hk, rfl⟩ := List.getElem_of_mem hs;have := (h k hk).1;rw [List.getD_eq_getElem?_getD, List.getElem?_eq_getElem hk] at this;simpa using this
  ·intro k h0 hk;rcases (h k hk).2 with h2 | h2
   ·omega
   ·rw [bytesLess_lt] at h2;simp only [ByteArray.toList_eq, decide_eq_true_eq] at h2;exact h2
theorem may_same (n : Int) (ls : List ByteArray) (es : List Ed) : mayB n ls es = mayR n ls es := by
 unfold mayB mayR
 rw [named_same, show (okAt n (ls.length : Int) es) = okAt' n (ls.length : Int) es from funext fun k => okAt_same n _ es k]
 cases decide (1 ≤ n) <;> cases decide (n ≤ 2048) <;> cases decide (ls.length ≤ 64) <;> cases (List.range ls.length).all (labAt ls) <;> simp
end Go.Proofs.Ytmcbkmfpmcbdpaa.H
namespace Go.Proofs.Ytmcbkmfpmcbdpaa.H
open Go.RowKit Go.Proofs.Ytmcbkmfpmcbdpaa.Pr Go.Proofs.YtmcbkmfpmcbdpaaW.PrintWords Go.Proofs.Ytmcbkmfpmcbdpaa.Sem Go.Proofs.YtmcbkmfpmcbdpaaW.PrintLast
abbrev Pair := S71
def outs (n : Nat) (es : List Ed) : List (List Ed) := (List.range n).map fun i : Nat => es.filter fun e => decide (e.f0 = (i : Int))
theorem outs_length (n : Nat) (es : List Ed) : (outs n es).length = n := by simp [outs]
theorem outs_at {n : Nat} (es : List Ed) {i : Nat} (hi : i < n) : (outs n es).getD i [] = es.filter fun e => decide (e.f0 = (i : Int)) := by
 simp [outs, List.getD_eq_getElem?_getD, hi]
theorem outs_snoc {n : Nat} (es : List Ed) (e : Ed) {i : Nat} (hi : i < n) (he : e.f0 = (i : Int)) : (outs n es).set i ((outs n es).getD i [] ++ [e]) = outs n (es ++ [e]) := by
 apply List.ext_getElem
 ·simp [outs]
 ·intro j h1 h2
  have hj : j < n := by simpa [outs] using h2
  rw [List.getElem_set]
  by_cases h : i = j
  ·subst h
   rw [if_pos rfl, outs_at es hi]
   simp [outs, he]
  ·rw [if_neg h]
   have : ¬ e.f0 = (j : Int) := by omega
   simp [outs, this]
theorem take_snoc {α : Type} (d : α) {xs : List α} {k : Nat} (hk : k < xs.length) : xs.take (k + 1) = xs.take k ++ [xs.getD k d] := by
 rw [List.take_add_one, List.getElem?_eq_getElem hk, List.getD_eq_getElem?_getD, List.getElem?_eq_getElem hk]
 rfl
def relS (rel : List Pair) : Int → Int → Bool := fun a b => rel.any fun p => decide (p.f0 = a) && decide (p.f1 = b)
theorem n_le {n : Int} {ls : List ByteArray} {es : List Ed} (h : mayR n ls es = true) : 1 ≤ n ∧ n ≤ 2048 := by
 unfold mayR at h
 simp only [Bool.and_eq_true, decide_eq_true_eq] at h
 exact ⟨h.1, h.2.1⟩
theorem es_le {n : Int} {ls : List ByteArray} {es : List Ed} (h : mayR n ls es = true) : es.length ≤ 1000000 := by
 unfold mayR at h
 simp only [Bool.and_eq_true, decide_eq_true_eq] at h
 exact h.2.2.2.1
theorem es_at {n : Int} {ls : List ByteArray} {es : List Ed} (h : mayR n ls es = true) {k : Nat} (hk : k < es.length) : (0 ≤ (es.getD k z80).f0 ∧ (es.getD k z80).f0 < n) ∧ (0 ≤ (es.getD k z80).f2 ∧ (es.getD k z80).f2 < n) := by
 unfold mayR at h
 simp only [Bool.and_eq_true, decide_eq_true_eq] at h
 have := List.all_eq_true.1 h.2.2.2.2.2 k (List.mem_range.2 hk)
 unfold okAt' at this
 simp only [Bool.and_eq_true, decide_eq_true_eq] at this
 exact ⟨this.1, this.2.1⟩
def outE (es : List Ed) (i : Int) : List Ed := es.filter fun e => decide (e.f0 = i)
def answers (S : Int → Int → Bool) (turned : Bool) (e f : Ed) : Bool := (e.f1 == f.f1) && (if turned then S f.f2 e.f2 else S e.f2 f.f2)
def followsB (es : List Ed) (S : Int → Int → Bool) (turned : Bool) (a b : Int) : Bool :=
 (outE es (if turned then b else a)).all fun e => (outE es (if turned then a else b)).any fun f => answers S turned e f
theorem all_no {α : Type} (d : α) {p : α → Bool} {xs : List α} {k : Nat} (hk : k < xs.length) (h : p (xs.getD k d) = false) : xs.all p = false := by
 rw [Bool.eq_false_iff]
 intro he
 have := List.all_eq_true.1 he (xs.getD k d) (by rw [List.getD_eq_getElem?_getD, List.getElem?_eq_getElem hk]; exact List.getElem_mem hk)
 rw [h] at this
 cases this
theorem all_yes {α : Type} (d : α) {p : α → Bool} {xs : List α} {k : Nat} (hk : ¬ k < xs.length) (h : ∀ j, j < k → p (xs.getD j d) = true) : xs.all p = true := by
 rw [List.all_eq_true]
 intro x hx
 obtain ⟨j, hj, rfl⟩ := List.getElem_of_mem hx
 have := h j (by omega)
 rwa [List.getD_eq_getElem?_getD, List.getElem?_eq_getElem hj] at this
end Go.Proofs.Ytmcbkmfpmcbdpaa.H
namespace Go.Proofs.Ytmcbkmfpmcbdpaa.Sem
open Go.Proofs.Ytmcbkmfpmcbdpaa.Pr
def insE (e : Ed) : List Ed → List Ed
 | [] => [e]
 | x :: r => if elt e x then e :: x :: r else if cmpE e x = 0 then x :: r else x :: insE e r
def sortE (es : List Ed) : List Ed := es.foldl (fun o e => insE e o) []
def hop (t : List Bool) (e : Ed) : List Bool := if t.getD e.f0.toNat false && !t.getD e.f2.toNat false then t.set e.f2.toNat true else t
def sweepT (es : List Ed) (t : List Bool) : List Bool := es.foldl hop t
def closeT (es : List Ed) : Nat → List Bool → List Bool
 | 0, t => t
 | k + 1, t => closeT es k (sweepT es t)
def reachT (n : Nat) (es : List Ed) (v : Int) : List Bool := closeT es n ((List.replicate n false).set v.toNat true)
def placesT (t : List Bool) : List Int := ((List.range t.length).filter fun i => t.getD i false).map fun i => ((i : Nat) : Int)
def reachL (n : Nat) (es : List Ed) (v : Int) : List Int := placesT (reachT n es v)
inductive Rch (es : List Ed) : Nat → Nat → Prop
  | refl (a : Nat) : Rch es a a
  | step {a : Nat} {e : Ed} : Rch es a e.f0.toNat → e ∈ es → Rch es a e.f2.toNat
theorem Rch.trans {es : List Ed} {a b c : Nat} (h1 : Rch es a b) (h2 : Rch es b c) : Rch es a c := by
 induction h2 with
 | refl => exact h1
 | step _ he ih => exact .step ih he
def unmet (t : List Bool) : Nat := t.countP (fun b => !b)
theorem unmet_le (t : List Bool) : unmet t ≤ t.length := List.countP_le_length
theorem unmet_set : ∀ (t : List Bool) (i : Nat), i < t.length → t.getD i false = false → unmet (t.set i true) + 1 = unmet t
 | [], i, h, _ => by simp at h
 | b :: r, 0, _, h => by
  have hb : b = false := by simpa using h
  subst hb
  simp [unmet]
 | b :: r, i + 1, h, h2 => by
  have ih := unmet_set r i (by simpa using h) (by simpa using h2)
  unfold unmet at ih ⊢
  rw [List.set_cons_succ, List.countP_cons, List.countP_cons]
  omega
theorem getD_set (t : List Bool) (i j : Nat) (hi : i < t.length) : (t.set i true).getD j false = (decide (j = i) || t.getD j false) := by
 simp only [List.getD_eq_getElem?_getD, List.getElem?_set]
 by_cases h : i = j
 ·subst h; simp [hi]
 ·rw [if_neg h]; rw [decide_eq_false (fun q => h q.symm)]; rfl
def In2 (n : Nat) (es : List Ed) : Prop := ∀ e ∈ es, e.f0.toNat < n ∧ e.f2.toNat < n
theorem hop_len (t : List Bool) (e : Ed) : (hop t e).length = t.length := by unfold hop; split <;> simp
theorem sweep_len (es : List Ed) : ∀ t, (sweepT es t).length = t.length := by
 induction es with
 | nil => intro t; rfl
 | cons e r ih => intro t; show (sweepT r (hop t e)).length = _; rw [ih, hop_len]
theorem close_len (es : List Ed) : ∀ k t, (closeT es k t).length = t.length
 | 0, t => rfl
 | k + 1, t => by show (closeT es k (sweepT es t)).length = _; rw [close_len, sweep_len]
theorem hop_mono {t : List Bool} {e : Ed} {i : Nat} (h : t.getD i false = true) : (hop t e).getD i false = true := by
 unfold hop
 split
 ·by_cases q : e.f2.toNat < t.length
  ·rw [getD_set _ _ _ q, h]; simp
  ·rw [List.set_eq_of_length_le (by omega)]; exact h
 ·exact h
theorem hop_cases (t : List Bool) (e : Ed) : hop t e = t ∨ (t.getD e.f0.toNat false = true ∧ t.getD e.f2.toNat false = false ∧ hop t e = t.set e.f2.toNat true) := by
 unfold hop
 split
 ·rename_i h
  simp only [Bool.and_eq_true, Bool.not_eq_true'] at h
  exact .inr ⟨h.1, h.2, rfl⟩
 ·exact .inl rfl
theorem hop_unmet {n : Nat} {t : List Bool} {e : Ed} (hl : t.length = n) (h2 : e.f2.toNat < n) : hop t e = t ∨ unmet (hop t e) < unmet t := by
 rcases hop_cases t e with h | ⟨_, h, q⟩
 ·exact .inl h
 ·right; rw [q]; have := unmet_set t e.f2.toNat (by omega) h; omega
theorem sweep_unmet {n : Nat} : ∀ (es : List Ed) (t : List Bool), t.length = n → In2 n es → sweepT es t = t ∨ unmet (sweepT es t) < unmet t
 | [], t, _, _ => .inl rfl
 | e :: r, t, hl, hi => by
  have h1 := hop_unmet (e := e) hl (hi e (List.mem_cons_self ..)).2
  have h2 := sweep_unmet r (hop t e) (by rw [hop_len]; exact hl) (fun x hx => hi x (List.mem_cons_of_mem _ hx))
  show sweepT r (hop t e) = t ∨ unmet (sweepT r (hop t e)) < unmet t
  rcases h1 with h1 | h1
  ·rw [h1] at h2 ⊢; exact h2
  ·right
   rcases h2 with h2 | h2
   ·rw [h2]; exact h1
   ·omega
theorem close_fix {n : Nat} {es : List Ed} (hi : In2 n es) : ∀ (k : Nat) (t : List Bool), t.length = n → unmet t ≤ k → sweepT es (closeT es k t) = closeT es k t
 | 0, t, hl, hu => by
  rcases sweep_unmet es t hl hi with h | h
  ·exact h
  ·omega
 | k + 1, t, hl, hu => by
  show sweepT es (closeT es k (sweepT es t)) = closeT es k (sweepT es t)
  rcases sweep_unmet es t hl hi with h | h
  ·have e : ∀ k, closeT es k t = t := by
    intro k
    induction k with
    | zero => rfl
    | succ k ih => show closeT es k (sweepT es t) = t; rw [h]; exact ih
   rw [h, e k, h]
  ·exact close_fix hi k _ (by rw [sweep_len]; exact hl) (by omega)
def Shut (es : List Ed) (t : List Bool) : Prop := ∀ e ∈ es, t.getD e.f0.toNat false = true → t.getD e.f2.toNat false = true
theorem sweep_mono (es : List Ed) : ∀ (t : List Bool) (i : Nat), t.getD i false = true → (sweepT es t).getD i false = true := by
 induction es with
 | nil => intro t i h; exact h
 | cons e r ih => intro t i h; exact ih _ _ (hop_mono h)
theorem close_mono (es : List Ed) : ∀ (k : Nat) (t : List Bool) (i : Nat), t.getD i false = true → (closeT es k t).getD i false = true
 | 0, t, i, h => h
 | k + 1, t, i, h => close_mono es k _ i (sweep_mono es t i h)
theorem shut_hop {n : Nat} : ∀ (es : List Ed) (t : List Bool), t.length = n → In2 n es → sweepT es t = t → Shut es t
 | [], t, _, _, _ => fun e he => by cases he
 | e :: r, t, hl, hi, h => by
  have h1 : hop t e = t := by
   rcases hop_unmet (e := e) hl (hi e (List.mem_cons_self ..)).2 with q | q
   ·exact q
   ·have h2 := sweep_unmet r (hop t e) (by rw [hop_len]; exact hl) (fun x hx => hi x (List.mem_cons_of_mem _ hx))
    have h3 : sweepT r (hop t e) = t := h
    rw [h3] at h2
    rcases h2 with h2 | h2
    ·rw [← h2] at q; omega
    ·omega
  have h2 : sweepT r t = t := by have h3 : sweepT r (hop t e) = t := h; rwa [h1] at h3
  intro x hx hf
  rcases List.mem_cons.1 hx with rfl | hx
  ·cases hq : t.getD x.f2.toNat false with
   | true => rfl
   | false =>
    exfalso
    unfold hop at h1
    rw [hf, hq] at h1
    simp only [Bool.not_false, Bool.and_self, if_true] at h1
    have := getD_set t x.f2.toNat x.f2.toNat (by have := (hi x (List.mem_cons_self ..)).2; omega)
    rw [h1, hq] at this
    simp at this
  ·exact shut_hop r t hl (fun x hx => hi x (List.mem_cons_of_mem _ hx)) h2 x hx hf
def Snd (es : List Ed) (v : Nat) (t : List Bool) : Prop := ∀ i, t.getD i false = true → Rch es v i
theorem snd_hop {es : List Ed} {v : Nat} {t : List Bool} {e : Ed} (he : e ∈ es) (h : Snd es v t) : Snd es v (hop t e) := by
 rcases hop_cases t e with q | ⟨h1, h2, q⟩
 ·rw [q]; exact h
 ·rw [q]
  intro i hi
  by_cases hl : e.f2.toNat < t.length
  ·rw [getD_set _ _ _ hl] at hi
   by_cases q : i = e.f2.toNat
   ·subst q; exact .step (h _ h1) he
   ·rw [decide_eq_false q, Bool.false_or] at hi; exact h i hi
  ·rw [List.set_eq_of_length_le (by omega)] at hi; exact h i hi
theorem snd_sweep {es : List Ed} {v : Nat} : ∀ (r : List Ed) (t : List Bool), (∀ x ∈ r, x ∈ es) → Snd es v t → Snd es v (sweepT r t)
 | [], t, _, h => h
 | e :: r, t, hs, h => snd_sweep r _ (fun x hx => hs x (List.mem_cons_of_mem _ hx)) (snd_hop (hs e (List.mem_cons_self ..)) h)
theorem snd_close {es : List Ed} {v : Nat} : ∀ (k : Nat) (t : List Bool), Snd es v t → Snd es v (closeT es k t)
 | 0, t, h => h
 | k + 1, t, h => snd_close k _ (snd_sweep es t (fun x hx => hx) h)
structure Tells (n : Nat) (es : List Ed) (v : Nat) (t : List Bool) : Prop where
  len : t.length = n
  at_ : t.getD v false = true
  shut : Shut es t
  snd : Snd es v t
theorem Tells.iff {n : Nat} {es : List Ed} {v : Nat} {t : List Bool} (h : Tells n es v t) (i : Nat) : t.getD i false = true ↔ Rch es v i := by
 refine ⟨h.snd i, fun q => ?_⟩
 induction q with
 | refl => exact h.at_
 | step _ he ih => exact h.shut _ he ih
theorem Tells.eq {n : Nat} {es : List Ed} {v : Nat} {t u : List Bool} (h : Tells n es v t) (g : Tells n es v u) : t = u := by
 apply List.ext_getElem (by rw [h.len, g.len])
 intro i h1 h2
 have a := h.iff i
 have b := g.iff i
 have e : t.getD i false = u.getD i false := by
  cases q : t.getD i false with
  | true => rw [b.2 (a.1 q)]
  | false =>
   cases q2 : u.getD i false with
   | false => rfl
   | true => rw [a.2 (b.1 q2)] at q; cases q
 simpa [List.getD_eq_getElem?_getD, List.getElem?_eq_getElem h1, List.getElem?_eq_getElem h2] using e
theorem start_tells {n v : Nat} {es : List Ed} (hv : v < n) : ((List.replicate n false).set v true).getD v false = true ∧ Snd es v ((List.replicate n false).set v true) := by
 constructor
 ·rw [getD_set _ _ _ (by simpa using hv)]; simp
 ·intro i hi
  rw [getD_set _ _ _ (by simpa using hv)] at hi
  by_cases q : i = v
  ·subst q; exact .refl _
  ·rw [decide_eq_false q, Bool.false_or] at hi
   have : (List.replicate n false).getD i false = false := by
    simp only [List.getD_eq_getElem?_getD, List.getElem?_replicate]
    split <;> rfl
   rw [this] at hi; cases hi
theorem reach_tells {n : Nat} {es : List Ed} {v : Int} (hi : In2 n es) (h0 : 0 ≤ v) (hv : v < n) : Tells n es v.toNat (reachT n es v) := by
 have hv' : v.toNat < n := by omega
 have hs := start_tells (es := es) hv'
 have hlen : ((List.replicate n false).set v.toNat true).length = n := by simp
 refine ⟨by unfold reachT; rw [close_len]; exact hlen, close_mono es n _ _ hs.1, ?_, snd_close n _ hs.2⟩
 exact shut_hop es _ (by unfold reachT; rw [close_len]; exact hlen) hi (close_fix hi n _ hlen (by have := unmet_le ((List.replicate n false).set v.toNat true); omega))
end Go.Proofs.Ytmcbkmfpmcbdpaa.Sem
namespace Go.Proofs.Ytmcbkmfpmcbdpaa.H
open Go.RowKit Go.Proofs.Ytmcbkmfpmcbdpaa.Pr Go.Proofs.YtmcbkmfpmcbdpaaW.PrintWords Go.Proofs.Ytmcbkmfpmcbdpaa.Sem
theorem getD_get {α : Type} {xs : List α} {d : α} {k : Nat} (h : k < xs.length) : xs.getD k d = xs[k] := by
 rw [List.getD_eq_getElem?_getD, List.getElem?_eq_getElem h]; rfl
set_option maxHeartbeats 4000000 in
set_option maxRecDepth 100000 in
theorem clone_any (es : List Ed) (A : Option Addr) (c : Nat) (w : World) (hC : Kd.C k80 w A es.length es) (hel : es.length ≤ 1000000) :
  Calls Try.prog 132 #[.slice A es.length c] w fun e w' => ∃ v0 : Value, e = .returned v0 ∧ Kd.R k80 80 w' w.heap.size (fun _ => True) v0 es ∧ Below w.heap.size w w' := by
 have HC := Aside0.mk hC;have HB := Aside0.mk (Below.refl w.heap.size w);rcases A with _ | ad
 ·have h0 : es.length = 0 := by
   rcases Nat.eq_zero_or_pos es.length with h | h
   ·exact h
   ·obtain ⟨ad, h, _⟩ := hC.2.2 h
    cases h
  obtain rfl : es = [] := List.eq_nil_of_length_eq_zero h0;clear hC HC h0;have q_ : ∀ (W : World) (a : Option Addr) (n c n' c' : Nat), (binOp .eql 23 (.slice a n c) (.slice none n' c')).run Try.prog W = .ok (.bool a.isNone) W := fun W a n c n' c' => Lib.run_eql_slice_nil W _ _ a n c n' c' Try.underlying23
  go_enter Try.func132, Try.ntmps132
  go_wp2
  go_ret
  exact ⟨_, rfl, Kd.R_nil _ _ _ _ _, HB.out⟩
 ·clear hC;have q_ : ∀ (W : World) (a : Option Addr) (n c n' c' : Nat), (binOp .eql 23 (.slice a n c) (.slice none n' c')).run Try.prog W = .ok (.bool a.isNone) W := fun W a n c n' c' => Lib.run_eql_slice_nil W _ _ a n c n' c' Try.underlying23
  go_enter Try.func132, Try.ntmps132
  go_wp2_with (first
   | ((with_reducible refine gate_dst (N := 5) rfl ?_); refine Kd.R_lit k80 _ 80 ?hg (N := 5) ?hd (xs := ([] : List Ed)) (inner := []) (ok := fun _ => True) (okp := fun _ => True) ?hr ?hp (fun _ hk => hk) trivial (Below.refl _ _) (Nat.le_refl _) (by simp) ?_; (case hd => rfl); (case hg => rfl); (case hr => first | (go_simp; done) | (go_simp; rfl)); (case hp => exact (Reps.none _ _)); intro v1 w1 ho hb hg_ hnew_; clear hg_ hnew_; have HO := Aside0.mk ho; have HB1 := Aside0.mk (below_step HB.out hb); clear ho hb)
   | (at_builtin; refine Kd.R_append_rows k80 (w0 := w) w.heap.size rfl (.tmp 5) (.tmp 6) 23 80 (.agg #[(.int .i64 0), (.int .i64 0), (.int .i64 0)]) 24 rfl Try.underlying23 info80 rfl (by decide) (by omega) v1 [] es (some ad) _ c (fun _ => True) (fun _ => False) rfl rfl HO.out (Kd.C_below HC.out HB1.out) (fun _ _ h => h) (fun _ h => h.elim) (fun _ _ => trivial) HB1.out HB1.out.size (by simp; omega) ?_; intro v2 w2 ho hb hg hat; have HO2 := Aside0.mk ho; have HB2 := Aside0.mk hb; clear ho hb hg hat))
  go_ret
  exact ⟨_, rfl, by simpa using HO2.out, HB2.out⟩
theorem lt_n {n : Int} {ls : List ByteArray} {es : List Ed} (h : mayR n ls es = true) : 1 ≤ n ∧ n ≤ 2048 := by
 unfold mayR at h
 simp only [Bool.and_eq_true, decide_eq_true_eq] at h
 exact ⟨h.1, h.2.1⟩
theorem lt_len {n : Int} {ls : List ByteArray} {es : List Ed} (h : mayR n ls es = true) : es.length ≤ 1000000 := by
 unfold mayR at h
 simp only [Bool.and_eq_true, decide_eq_true_eq] at h
 exact h.2.2.2.1
theorem lt_ok {n : Int} {ls : List ByteArray} {es : List Ed} (h : mayR n ls es = true) {k : Nat} (hk : k < es.length) : okAt' n ls.length es k = true := by
 unfold mayR at h
 simp only [Bool.and_eq_true, decide_eq_true_eq] at h
 exact List.all_eq_true.1 h.2.2.2.2.2 k (List.mem_range.2 hk)
theorem lt_in {n : Int} {ls : List ByteArray} {es : List Ed} (h : mayR n ls es = true) : ∀ e ∈ es, (0 ≤ e.f0 ∧ e.f0 < n) ∧ (0 ≤ e.f2 ∧ e.f2 < n) := fun e he => by
 obtain ⟨k, hk, rfl⟩ := List.getElem_of_mem he
 have := lt_ok h hk
 unfold okAt' at this
 simp only [Bool.and_eq_true, decide_eq_true_eq] at this
 have := And.intro this.1 this.2.1
 rwa [List.getD_eq_getElem?_getD, List.getElem?_eq_getElem hk] at this
structure RI (n : Nat) (es : List Ed) (v : Nat) (T : List Bool) (L : List Int) : Prop where
  len : T.length = n
  at_ : T.getD v false = true
  snd : Snd es v T
  que : ∀ x ∈ L, 0 ≤ x ∧ x.toNat < n ∧ T.getD x.toNat false = true
  half : ∀ e ∈ es, T.getD e.f0.toNat false = true → e.f0 ∈ L ∨ T.getD e.f2.toNat false = true
theorem RI.start {n : Nat} {es : List Ed} {v : Nat} (hv : v < n) (hes : ∀ e ∈ es, (0 ≤ e.f0 ∧ e.f0 < n) ∧ (0 ≤ e.f2 ∧ e.f2 < n)) : RI n es v ((List.replicate n false).set v true) [(v : Int)] := by
 have hs := start_tells (es := es) hv
 refine ⟨by simp, hs.1, hs.2, fun x hx => ?_, fun e he h => .inl ?_⟩
 ·obtain rfl : x = (v : Int) := by simpa using hx
  exact ⟨by omega, by omega, by rw [Int.toNat_natCast]; exact hs.1⟩
 ·rw [getD_set _ _ _ (by simpa using hv)] at h
  by_cases q : e.f0.toNat = v
  ·have := (hes e he).1
   have : e.f0 = (v : Int) := by omega
   simp [this]
  ·rw [decide_eq_false q, Bool.false_or] at h
   have : (List.replicate n false).getD e.f0.toNat false = false := by
    simp only [List.getD_eq_getElem?_getD, List.getElem?_replicate]
    split <;> rfl
   rw [this] at h; cases h
theorem RI.put {n : Nat} {es : List Ed} {v : Nat} {T : List Bool} {L : List Int} {e : Ed} (h : RI n es v T L) (hes : ∀ e ∈ es, (0 ≤ e.f0 ∧ e.f0 < n) ∧ (0 ≤ e.f2 ∧ e.f2 < n)) (he : e ∈ es) (h0 : T.getD e.f0.toNat false = true) : RI n es v (T.set e.f2.toNat true) (L ++ [e.f2]) := by
 have h2 := (hes e he).2
 have hl : e.f2.toNat < T.length := by rw [h.len]; omega
 have mono : ∀ i, T.getD i false = true → (T.set e.f2.toNat true).getD i false = true := fun i hi => by rw [getD_set _ _ _ hl, hi]; simp
 refine ⟨by simp [h.len], mono _ h.at_, fun i hi => ?_, fun x hx => ?_, fun f hf hq => ?_⟩
 ·rw [getD_set _ _ _ hl] at hi
  by_cases q : i = e.f2.toNat
  ·subst q; exact .step (h.snd _ h0) he
  ·rw [decide_eq_false q, Bool.false_or] at hi; exact h.snd i hi
 ·rcases List.mem_append.1 hx with hx | hx
  ·have := h.que x hx
   exact ⟨this.1, this.2.1, mono _ this.2.2⟩
  ·obtain rfl : x = e.f2 := by simpa using hx
   exact ⟨h2.1, by omega, by rw [getD_set _ _ _ hl]; simp⟩
 ·rw [getD_set _ _ _ hl] at hq
  by_cases q : f.f0.toNat = e.f2.toNat
  ·have := (hes f hf).1
   have : f.f0 = e.f2 := by omega
   left; simp [this]
  ·rw [decide_eq_false q, Bool.false_or] at hq
   rcases h.half f hf hq with hh | hh
   ·left; exact List.mem_append_left _ hh
   ·right; exact mono _ hh
theorem RI.pop {n : Nat} {es : List Ed} {v : Nat} {T : List Bool} {x : Int} {R : List Int} (h : RI n es v T (x :: R)) (hd : ∀ e ∈ es, e.f0 = x → T.getD e.f2.toNat false = true) : RI n es v T R := by
 refine ⟨h.len, h.at_, h.snd, fun y hy => h.que y (List.mem_cons_of_mem _ hy), fun e he hq => ?_⟩
 rcases h.half e he hq with hh | hh
 ·rcases List.mem_cons.1 hh with q | q
  ·right; exact hd e he q
  ·left; exact q
 ·right; exact hh
theorem RI.fin {n : Nat} {es : List Ed} {v : Nat} {T : List Bool} (h : RI n es v T []) : Tells n es v T := ⟨h.len, h.at_, fun e he hq => by rcases h.half e he hq with hh | hh; cases hh; exact hh, h.snd⟩
end Go.Proofs.Ytmcbkmfpmcbdpaa.H
set_option linter.unusedSectionVars false
namespace Go.Proofs.Ytmcbkmfpmcbdpaa.H
open Go.RowKit Go.Proofs.Ytmcbkmfpmcbdpaa.Pr Go.Proofs.YtmcbkmfpmcbdpaaW.PrintWords Go.Proofs.Ytmcbkmfpmcbdpaa.Sem Go.Proofs.YtmcbkmfpmcbdpaaW.PrintLast
theorem infoIw : (Try.prog.info? 3).map (fun i => (i.zero, i.size, i.bytes)) = some (some (.int .i64 0), 1, 8) := by kernel_rfl
theorem zeroIw (w : World) : (zeroValue 3).run Try.prog w = .ok (.int .i64 0) w := by kernel_rfl
section
variable {α : Type} [DecidableEq α] {P : Program} {k : TypeId} {mk : α → Value} {lt : α → Lit} {ok : α → Prop} (w : World) {ops : Array Oper} {rest : List Oper} {o : Oper} {a : Act} {Q : Exit → Act → World → Prop}
theorem wpList_gins (B : KB P k mk lt ok) (hg : o.guard = none) (x y z : Operand) (t : TypeId) (hop : o.op = Op.insert t x y z) (e : TypeId) (ht : P.underlying t = some (.map k e)) (m c : Nat) (f : α → Option Value) (hm : a.eval x = .map (some m)) (h : GM P k lt ok w m f c) (hn : c < maxLen) (b : α) (hb : ok b) (v : Value) (hy : a.eval y = mk b) (hz : a.eval z = v)
  (hK : ∀ w', GM P k lt ok w' m (putM f b v) (if (f b).isSome then c else c + 1) → w.grownBy w' (some m) → w'.heap.size = w.heap.size → wpList P ops Q rest (a.put o.dst undef) w') :
  wpList P ops Q (o :: rest) a w := by
 refine wpList_plain hg fun K' hK' => ?_
 obtain ⟨w', hrun, r1, r2, r3⟩ := h.put B hb (v := v) hn ht
 unfold Oper.wp
 simp [execOp, hop, hm, hy, hz, hrun, Result.andThen]
 exact hK' _ _ (hK w' r1 r2 r3)
end
structure WebR (w : World) (W H n : Nat) (es : List Ed) (ys : List (List Int)) : Prop where
  blk : ∃ v1 v2 L cL, w.heap[W]? = some (.cells #[.int .i64 n, v1, v2, .slice (some ⟨H, 0, none⟩) n n, .slice L ys.length cL] 129 (0, 0)) ∧ Kd.C (Kd.slice 3 (Kd.int .i64)) w L ys.length ys
  out : ∀ i : Nat, i < n → ∃ A c, w.cell? ⟨H, i, none⟩ = some (.slice A (outE es (i : Int)).length c) ∧ Kd.C k80 w A (outE es (i : Int)).length (outE es (i : Int))
theorem WebR.on {w w1 : World} {W H n : Nat} {es : List Ed} {ys : List (List Int)} (h : WebR w W H n es ys) (hb : Below w.heap.size w w1) : WebR w1 W H n es ys := by
 obtain ⟨⟨v1, v2, L, cL, h1, h2⟩, h3⟩ := h
 refine ⟨⟨v1, v2, L, cL, blk_below h1 hb, Kd.C_below h2 hb⟩, fun i hi => ?_⟩
 obtain ⟨A, c, g1, g2⟩ := h3 i hi
 exact ⟨A, c, later hb g1, Kd.C_below g2 hb⟩
theorem WebR.c3 {w : World} {W H n : Nat} {es : List Ed} {ys : List (List Int)} (h : WebR w W H n es ys) : w.cell? ⟨W, 3, none⟩ = some (.slice (some ⟨H, 0, none⟩) n n) := by
 obtain ⟨v1, v2, L, cL, h1, h2⟩ := h.blk
 exact (blk_cell h1 3).trans rfl
theorem WebR.c4 {w : World} {W H n : Nat} {es : List Ed} {ys : List (List Int)} (h : WebR w W H n es ys) : ∃ L cL, w.cell? ⟨W, 4, none⟩ = some (.slice L ys.length cL) ∧ Kd.C (Kd.slice 3 (Kd.int .i64)) w L ys.length ys := by
 obtain ⟨v1, v2, L, cL, h1, h2⟩ := h.blk
 exact ⟨L, cL, (blk_cell h1 4).trans rfl, h2⟩
def esU (es : List Ed) (old : Int) : List Ed := es.filter fun e => decide (e.f1 = old)
theorem esU_mem {es : List Ed} {old : Int} {e : Ed} : e ∈ esU es old ↔ e ∈ es ∧ e.f1 = old := by unfold esU; rw [List.mem_filter, decide_eq_true_eq]
structure FromL (n : Nat) (es : List Ed) (old : Int) (v : Nat) (L : List Int) : Prop where
  nd : L.Nodup
  mem : ∀ x, x ∈ L ↔ x ∈ reachL n (esU es old) (v : Int)
  nod : ∀ x ∈ L, 0 ≤ x ∧ x < (n : Int)
  len : L.length ≤ n
structure FP (n : Nat) (T : List Bool) (A : List Int) : Prop where
  nd : A.Nodup
  cnt : unmet T + A.length = n
  mem : ∀ i : Nat, i < n → (T.getD i false = true ↔ (i : Int) ∈ A)
  nod : ∀ x ∈ A, 0 ≤ x ∧ x < (n : Int)
theorem unmet_repl (n : Nat) : unmet (List.replicate n false) = n := by simp [unmet, List.countP_replicate]
theorem FP.start {n v : Nat} (hv : v < n) : FP n ((List.replicate n false).set v true) [(v : Int)] := by
 have hu := unmet_set (List.replicate n false) v (by simpa using hv) (by simp [List.getD_eq_getElem?_getD, List.getElem?_replicate, hv])
 rw [unmet_repl] at hu
 refine ⟨by simp, by simpa using hu, fun i hi => ?_, fun x hx => ?_⟩
 ·rw [getD_set _ _ _ (by simpa using hv)]
  simp only [List.mem_singleton]
  constructor
  ·intro h
   by_cases q : i = v
   ·rw [q]
   ·rw [decide_eq_false q, Bool.false_or] at h
    simp [List.getD_eq_getElem?_getD, List.getElem?_replicate, hi] at h
  ·intro h
   rw [decide_eq_true (show i = v by omega), Bool.true_or]
 ·rw [List.mem_singleton] at hx
  omega
theorem FP.put {n : Nat} {T : List Bool} {A : List Int} (h : FP n T A) (hl : T.length = n) {j : Nat} (hj : j < n) (hn : T.getD j false = false) : FP n (T.set j true) (A ++ [(j : Int)]) := by
 have hu := unmet_set T j (by omega) hn
 have hc := h.cnt
 have hnm : (j : Int) ∉ A := fun q => by rw [(h.mem j hj).2 q] at hn; cases hn
 refine ⟨?_, by rw [List.length_append, List.length_singleton]; omega, fun i hi => ?_, fun x hx => ?_⟩
 ·rw [List.nodup_append]
  exact ⟨h.nd, by simp, fun a ha b hb e => by rw [List.mem_singleton] at hb; subst hb; subst e; exact hnm ha⟩
 ·rw [getD_set _ _ _ (by omega), List.mem_append, List.mem_singleton]
  by_cases q : i = j
  ·subst q; simp
  ·rw [decide_eq_false q, Bool.false_or, h.mem i hi]
   constructor
   ·exact .inl
   ·rintro (h | h)
    ·exact h
    ·omega
 ·rcases List.mem_append.1 hx with hx | hx
  ·exact h.nod x hx
  ·rw [List.mem_singleton] at hx
   omega
theorem placesT_memW {t : List Bool} {x : Int} : x ∈ placesT t ↔ 0 ≤ x ∧ x < t.length ∧ t.getD x.toNat false = true := by
 unfold placesT
 rw [List.mem_map]
 constructor
 ·rintro ⟨i, hi, rfl⟩
  obtain ⟨h1, h2⟩ := List.mem_filter.1 hi
  have := List.mem_range.1 h1
  exact ⟨by omega, by omega, by rw [Int.toNat_natCast]; exact h2⟩
 ·rintro ⟨h0, h1, h2⟩
  exact ⟨x.toNat, List.mem_filter.2 ⟨List.mem_range.2 (by omega), h2⟩, by omega⟩
theorem FP.done {n : Nat} {es : List Ed} {old : Int} {v : Nat} {T : List Bool} {A : List Int} (h : FP n T A) (hes : ∀ e ∈ es, (0 ≤ e.f0 ∧ e.f0 < n) ∧ (0 ≤ e.f2 ∧ e.f2 < n)) (hv : v < n) (hr : RI n (esU es old) v T []) : FromL n es old v A := by
 have hT := reach_tells (n := n) (es := esU es old) (v := (v : Int)) (fun e he => by have := hes e (esU_mem.1 he).1; omega) (by omega) (by omega)
 have hF : placesT T = reachL n (esU es old) (v : Int) := by unfold reachL; rw [← hr.fin.eq hT]
 refine ⟨h.nd, fun x => ?_, h.nod, by have := h.cnt; omega⟩
 rw [← hF, placesT_memW, hr.len]
 constructor
 ·intro hx
  have hn := h.nod x hx
  exact ⟨hn.1, hn.2, (h.mem x.toNat (by omega)).2 (by rw [Int.toNat_of_nonneg hn.1]; exact hx)⟩
 ·rintro ⟨h0, h1, h2⟩
  have := (h.mem x.toNat (by omega)).1 h2
  rwa [Int.toNat_of_nonneg h0] at this
end Go.Proofs.Ytmcbkmfpmcbdpaa.H
namespace Go.Proofs.Ytmcbkmfpmcbdpaa.H
open Go.RowKit Go.Proofs.Ytmcbkmfpmcbdpaa.Pr Go.Proofs.YtmcbkmfpmcbdpaaW.PrintWords Go.Proofs.Ytmcbkmfpmcbdpaa.Sem Go.Proofs.YtmcbkmfpmcbdpaaW.PrintLast
def MetF (n : Nat) (T : List Bool) (f : Int → Option Value) : Prop := ∀ i : Nat, i < n → f (i : Int) = if T.getD i false then some (.int .i64 1) else none
theorem MetF.start {n v : Nat} (hv : v < n) : MetF n ((List.replicate n false).set v true) (putM (fun _ => none) (v : Int) (.int .i64 1)) := by
 intro i hi
 unfold putM
 rw [getD_set _ _ _ (by simpa using hv)]
 by_cases q : i = v
 ·subst q; simp
 ·have : (List.replicate n false).getD i false = false := by simp [List.getD_eq_getElem?_getD, List.getElem?_replicate, hi]
  rw [if_neg (by omega), decide_eq_false q, this]
  rfl
theorem MetF.put {n j : Nat} {T : List Bool} {f : Int → Option Value} (h : MetF n T f) (hl : T.length = n) (hj : j < n) : MetF n (T.set j true) (putM f (j : Int) (.int .i64 1)) := by
 intro i hi
 unfold putM
 rw [getD_set _ _ _ (by omega)]
 by_cases q : i = j
 ·subst q; simp
 ·rw [if_neg (by omega), decide_eq_false q, Bool.false_or]
  exact h i hi
set_option maxHeartbeats 16000000 in
set_option maxRecDepth 100000 in
theorem wfrom_any (n : Nat) (ls : List ByteArray) (es : List Ed) (old : Int) (W H v : Nat) (ys : List (List Int)) (w : World) (hW : WebR w W H n es ys) (hm : mayR n ls es = true) (hv : v < n) :
    Calls Try.prog 144 #[.pointer (some ⟨W, 0, none⟩), .int .i64 (v : Int), .int .i64 old] w fun e w' => ∃ v0 L, e = .returned v0 ∧ Kd.R (Kd.int .i64) 3 w' w.heap.size (fun _ => True) v0 L ∧ FromL n es old v L ∧ Below w.heap.size w w' := by
  have hmm := @run_makeMap Try.prog;have hn := lt_n hm;have hel := lt_len hm;have HES := Aside0.mk (lt_in hm);have HESU := Aside0.mk (show ∀ e ∈ esU es old, (0 ≤ e.f0 ∧ e.f0 < n) ∧ (0 ≤ e.f2 ∧ e.f2 < n) from fun e he => lt_in hm e (esU_mem.1 he).1);have HW := Aside0.mk hW;have a9 := Aside0.mk (RI.start (es := esU es old) hv HESU.out);have b2 := Aside0.mk (FP.start hv);have b1 := Aside0.mk (MetF.start hv);clear hW hm;go_enter Try.func144, Try.ntmps144
  go_wp2_with (first
    | (refine wpList_gins _ intKB rfl _ _ _ 88 rfl 3 Try.underlying88 w.heap.size 0 (fun _ => none) rfl (GM.made Try.prog 3 ik i64in w) (by unfold maxLen; omega) (v : Int) (by unfold i64in; omega) (.int .i64 1) rfl rfl ?_
       intro w8 hgm hgg hsz;have a1 := Aside0.mk hgm;have a0 := Aside0.mk (Below.grown (below_alloc (Below.refl w.heap.size w) (Obj.map #[] 0)) hgg (by simp) fun q e => by cases e; exact Nat.le_refl _);clear hgm hgg hsz)
    | ((with_reducible refine gate_dst (N := 16) rfl ?_); refine Kd.R_lit (Kd.int .i64) _ 3 ?hg (N := 16) ?hd (xs := [(v : Int)]) (inner := [.int .i64 (v : Int)]) (ok := fun q => q ≠ w.heap.size) (okp := fun _ => False) ?hr ?hp (fun _ hk => hk.elim) (by have := a1.out.lt_; show w8.heap.size ≠ w.heap.size; omega) (Below.refl _ _) (Nat.le_refl _) (by simp) ?_; (case hd => rfl); (case hg => rfl); (case hr => first | (go_simp; done) | (go_simp; rfl)); (case hp => exact Kd.reps_scalar (enc := Value.int .i64) [(v : Int)]); intro q4 w4 ho hb hg_ hnew_; have b3 := Aside0.mk ho; have a8 := Aside0.mk (a1.out.below hb); have a7 := Aside0.mk (below_then a0.out a0.out.size hb); clear hg_ hnew_ ho hb a1))
  have HR := Aside0.mk (Kd.R_lower b3.out a0.out.size : Kd.R (Kd.int .i64) 3 w4 w.heap.size (fun q => q ≠ w.heap.size) q4 [(v : Int)]);have HG := Aside0.mk (show GM Try.prog 3 ik i64in w4 w.heap.size (putM (fun _ => none) (v : Int) (.int .i64 1)) 1 from a8.out);clear a8 b3 hmm a0;obtain ⟨M, hM⟩ : ∃ M, M = w.heap.size := ⟨_, rfl⟩
  have HMe := Aside0.mk hM;rw [← hM] at HG ⊢;replace HR := Aside0.mk (Kd.R_mono HR.out fun q hq => by rw [hM]; exact hq : Kd.R (Kd.int .i64) 3 w4 w.heap.size (fun q => q ≠ M) q4 [(v : Int)]);clear hM;go_loopw [8, 9] (fun s i wr => ∃ (k : Nat) (T : List Bool) (A : List Int) (f : Int → Option Value), k ≤ A.length ∧ i = .int .i64 k ∧ Aside0 (RI n (esU es old) v T (A.drop k)) ∧ Aside0 (FP n T A) ∧ Aside0 (MetF n T f) ∧ Aside0 (GM Try.prog 3 ik i64in wr M f A.length) ∧ Aside0 (Kd.R (Kd.int .i64) 3 wr w.heap.size (fun q => q ≠ M) s A) ∧ Aside0 (Below w.heap.size w wr)) (fun _ i _ => n - (intOf i).toNat)
  case atStart => exact ⟨0, _, [(v : Int)], _, Nat.zero_le _, rfl, a9, b2, b1, HG, HR, a7⟩
  case round =>
    clear a9 b2 b1 HG HR a7;obtain ⟨k, T, A, f, hk, rfl, HI, HP, HM, HG, HR, HB⟩ := hrel;obtain ⟨Aa, ca, hs, hcap, hC⟩ := Kd.R_reads HR.out;subst hs;have hAn : A.length ≤ n := by have := HP.out.cnt; omega
    by_cases hlt : k < A.length
    · obtain ⟨ad, hA, h0⟩ := atI hC k hlt
      subst hA;have hx := HP.out.nod (A.getD k 0) (by rw [List.getD_eq_getElem?_getD, List.getElem?_eq_getElem hlt]; exact List.getElem_mem hlt);obtain ⟨j, hj⟩ : ∃ j : Nat, A.getD k 0 = (j : Int) := ⟨(A.getD k 0).toNat, by omega⟩
      rw [hj] at h0 hx;have hjn : j < n := by omega
      obtain ⟨Ao, co, hoc, hoC⟩ := HW.out.out j hjn;have f1 := fun m => later (pw_below_drewN (Below.refl wr.heap.size wr) m) (later HB.out HW.out.c3)
      have f2 := fun m => later (pw_below_drewN (Below.refl wr.heap.size wr) m) h0
      have f3 := fun m => later (pw_below_drewN (Below.refl wr.heap.size wr) m) (later HB.out hoc)
      have j0 : (0 : Int) ≤ (j : Int) := by omega
      have j1 : (j : Int) < (n : Int) := by omega
      have HD := Aside0.mk (show A.drop k = (j : Int) :: A.drop (k + 1) by rw [List.drop_eq_getElem_cons hlt, ← hj, List.getD_eq_getElem?_getD, List.getElem?_eq_getElem hlt]; rfl);obtain ⟨O, hO⟩ : ∃ O, O = outE es (j : Int) := ⟨_, rfl⟩
      have HO := Aside0.mk hO;have hOl : O.length ≤ 1000000 := by rw [hO]; exact Nat.le_trans (List.length_filter_le _ _) hel
      rw [← hO] at f3 hoC;have HOC := Aside0.mk hoC;clear hC h0 hx hoc hoC hO;go_wp2_with fail
      go_quiet (fail)
      go_wp2
      have b0 := Aside0.mk (show RI n (esU es old) v T ((j : Int) :: A.drop (k + 1)) from by rw [← HD.out]; exact HI.out);have a3 := Aside0.mk (HG.out.below (pw_below_drewN (Below.refl wr.heap.size wr) nq));have a5 := Aside0.mk (Kd.R_below HR.out (pw_below_drewN (Below.refl wr.heap.size wr) nq));have a2 := Aside0.mk (pw_below_drewN HB.out nq);generalize wr.drewN nq = w2 at a3 a5 a2 ⊢;clear HI HG HR HB f1 f2 f3 hcap HD;go_loopw [8, 34] (fun s i wr' => ∃ (q : Nat) (T' : List Bool) (B : List Int) (f' : Int → Option Value), q ≤ O.length ∧ i = .int .i64 q ∧ Aside0 (RI n (esU es old) v T' ((j : Int) :: B.drop (k + 1))) ∧ Aside0 (k < B.length) ∧ Aside0 (FP n T' B) ∧ Aside0 (MetF n T' f') ∧ Aside0 (∀ t, t < q → (O.getD t z80).f1 = old → T'.getD (O.getD t z80).f2.toNat false = true) ∧ Aside0 (GM Try.prog 3 ik i64in wr' M f' B.length) ∧ Aside0 (Kd.R (Kd.int .i64) 3 wr' w.heap.size (fun q => q ≠ M) s B) ∧ Aside0 (Below w.heap.size w wr')) (fun _ i _ => O.length - (intOf i).toNat)
      case atStart => exact ⟨0, T, A, f, Nat.zero_le _, rfl, b0, ⟨hlt⟩, HP, HM, ⟨fun t ht => by omega⟩, a3, a5, a2⟩
      case round =>
        clear b0 HP HM a3 a5 a2;obtain ⟨q, T', B, f', hq, rfl, HI, HK, HP, HM, HS, HG, HR, HB⟩ := hrel;obtain ⟨Ab, cb, hs, hcap, hCb⟩ := Kd.R_reads HR.out;subst hs;have hBn : B.length ≤ n := by have := HP.out.cnt; omega
        by_cases hlt2 : q < O.length
        · obtain ⟨ao, hAo, g0, g1, g2⟩ := atE HOC.out q hlt2
          subst hAo;replace g0 := later HB.out g0;replace g1 := later HB.out g1;replace g2 := later HB.out g2;obtain ⟨y, hy⟩ : ∃ y, y = O.getD q z80 := ⟨_, rfl⟩
          have hyO : y ∈ O := by rw [hy, List.getD_eq_getElem?_getD, List.getElem?_eq_getElem hlt2]; exact List.getElem_mem hlt2
          rw [HO.out] at hyO;unfold outE at hyO;rw [List.mem_filter, decide_eq_true_eq] at hyO;have hyn := (HES.out y hyO.1).2;obtain ⟨i, hi⟩ : ∃ i : Nat, y.f2 = (i : Int) := ⟨y.f2.toNat, by omega⟩
          have hin : i < n := by omega
          have a6 : i64in (i : Int) := by unfold i64in; omega
          rw [← hy] at g0 g1 g2;rw [hi] at g2;have HY := Aside0.mk hy;have HYO := Aside0.mk hyO;have HYI := Aside0.mk hi;have hTl : T'.length = n := HI.out.len;have HTl := Aside0.mk hTl;clear hy hyO hyn hi hTl hCb hcap;by_cases ho : y.f1 = old
          · have d1 := decide_eq_true ho
            have d2 : (y.f1 == old) = true := by simpa using ho
            have a4 := Aside0.mk ho;clear ho;have hget := fun o => (HG.out.below (below_alloc (Below.refl wr.heap.size wr) o)).get intKB a6 Try.underlying88 (zeroIw _)
            rw [HM.out i hin] at hget
            cases ht : T'.getD i false with
            | true =>
              rw [ht] at hget;have hlk : ∀ o, (Instr.lookup 88 (.map (some M)) (.int .i64 (i : Int)) false).run Try.prog (wr.alloc o) = .ok (.int .i64 1) (wr.alloc o) := hget;have HT := Aside0.mk ht;clear hget ht;go_wp2
              go_roundw
              case rel =>
                refine ⟨q + 1, T', B, f', by omega, by go_num, HI, HK, HP, HM, ⟨fun t ht he => ?_⟩, ⟨HG.out.below (below_alloc (Below.refl _ _) _)⟩, ⟨Kd.R_below HR.out (below_alloc (Below.refl _ _) _)⟩, ⟨below_then HB.out HB.out.size (below_alloc (Below.refl _ _) _)⟩⟩;rcases Nat.lt_succ_iff_lt_or_eq.1 ht with h | rfl
                · exact HS.out t h he
                · rw [← HY.out, HYI.out, Int.toNat_natCast]; exact HT.out
              case measure => simp [intOf]; omega
            | false =>
              rw [ht] at hget;have hlk : ∀ o, (Instr.lookup 88 (.map (some M)) (.int .i64 (i : Int)) false).run Try.prog (wr.alloc o) = .ok (.int .i64 0) (wr.alloc o) := hget;have HT := Aside0.mk ht;clear hget ht
              go_wp2_with (first
                | (refine wpList_gput _ intKB rfl _ _ _ 88 rfl 3 Try.underlying88 M _ f' rfl (HG.out.below (below_alloc (Below.refl wr.heap.size wr) _)) (by unfold maxLen; omega) (i : Int) a6 (.int .i64 1) rfl rfl ?_
                   intro w8 hgm hgg hsz;have hne := HG.out.lt_;have e2 : w8.cell? ⟨wr.heap.size, 2, none⟩ = some (.int .i64 (i : Int)) := (blk_cell (blk_grown (blk_new wr _) hgg (by intro e; cases e; omega)) 2).trans rfl;have a1 := Aside0.mk hgm;have b4 := Aside0.mk (Kd.R_grown (Kd.R_below HR.out (below_alloc (Below.refl wr.heap.size wr) _)) hgg fun q hq e => by cases e; exact hq rfl);have a0 := Aside0.mk ((below_then HB.out HB.out.size (below_alloc (Below.refl wr.heap.size wr) _)).grown hgg (below_then HB.out HB.out.size (below_alloc (Below.refl wr.heap.size wr) _)).size fun q e => by cases e; rw [HMe.out]; exact Nat.le_refl _);clear hgm hgg hsz hne)
                | (at_builtin
                   refine Kd.R_append (Kd.int .i64) (w0 := w) w.heap.size rfl (.tmp 52) (.tmp 55) 28 3 (.int .i64 0) 8 rfl Try.underlying28 infoIw rfl (by decide) (by omega) _ B (i : Int) [.int .i64 (i : Int)] (fun q => q ≠ M) (fun _ => False) rfl rfl rfl (fun _ hk => hk.elim) (fun q hq e => by have := a1.out.lt_; omega) b4.out a0.out a0.out.size (by omega) ?_;intro v9 w9 ho hb hg hat;have b9 := Aside0.mk ho;have b7 := Aside0.mk hb;have b8 := Aside0.mk (a1.out.grown (fun e => b4.out.1 M e rfl) hg);clear ho hb hg hat))
              go_roundw
              case rel =>
                have hnone : (f' (i : Int)).isSome = false := by rw [HM.out i hin, HT.out]; rfl
                have b6 := b8.out;rw [hnone, if_neg (by simp)] at b6;have d0 := (HI.out.que (j : Int) (List.mem_cons_self ..)).2.2;have hp := HI.out.put HESU.out (esU_mem.2 ⟨HYO.out.1, a4.out⟩) (by rw [HYO.out.2]; exact d0);rw [HYI.out, Int.toNat_natCast, List.cons_append, ← List.drop_append_of_le_length (by have := HK.out; omega)] at hp;refine ⟨q + 1, T'.set i true, B ++ [(i : Int)], putM f' (i : Int) (.int .i64 1), by omega, by go_num, ⟨hp⟩, ⟨by rw [List.length_append]; have := HK.out; omega⟩, ⟨HP.out.put HTl.out hin HT.out⟩, ⟨HM.out.put HTl.out hin⟩, ⟨fun t ht he => ?_⟩, ⟨by rw [List.length_append]; exact b6⟩, b9, b7⟩;rw [getD_set _ _ _ (by rw [HTl.out]; exact hin)];rcases Nat.lt_succ_iff_lt_or_eq.1 ht with h | rfl
                · rw [HS.out t h he, Bool.or_true]
                · rw [← HY.out, HYI.out, Int.toNat_natCast, decide_eq_true rfl, Bool.true_or]
              case measure => simp [intOf]; omega
          · have d1 := decide_eq_false ho
            have d2 : (y.f1 == old) = false := by simpa using ho
            have a4 := Aside0.mk ho;clear ho;go_wp2
            go_roundw
            case rel =>
              refine ⟨q + 1, T', B, f', by omega, by go_num, HI, HK, HP, HM, ⟨fun t ht he => ?_⟩, ⟨HG.out.below (below_alloc (Below.refl _ _) _)⟩, ⟨Kd.R_below HR.out (below_alloc (Below.refl _ _) _)⟩, ⟨below_then HB.out HB.out.size (below_alloc (Below.refl _ _) _)⟩⟩;rcases Nat.lt_succ_iff_lt_or_eq.1 ht with h | rfl
              · exact HS.out t h he
              · rw [← HY.out] at he; exact (a4.out he).elim
            case measure => simp [intOf]; omega
        · go_wp2
          go_roundw
          case rel =>
            refine ⟨k + 1, T', B, f', HK.out, by go_num, ⟨HI.out.pop fun e he h0 => ?_⟩, HP, HM, HG, HR, HB⟩;have b5 := esU_mem.1 he;have heO : e ∈ O := by rw [HO.out]; unfold outE; rw [List.mem_filter, decide_eq_true_eq]; exact ⟨b5.1, h0⟩
            obtain ⟨t, ht, rfl⟩ := List.getElem_of_mem heO;have := HS.out t (by omega);rw [List.getD_eq_getElem?_getD, List.getElem?_eq_getElem ht, Option.getD_some] at this;exact this b5.2
          case measure => simp [intOf]; omega
    · go_wp2
      go_ret
      have ek : A.drop k = [] := List.drop_eq_nil_of_le (by omega);exact ⟨_, A, rfl, Kd.R_mono HR.out fun _ _ => trivial, HP.out.done HES.out hv (by rw [← ek]; exact HI.out), HB.out⟩
end Go.Proofs.Ytmcbkmfpmcbdpaa.H
namespace Go.Proofs.Ytmcbkmfpmcbdpaa.H
open Go.RowKit Go.Proofs.Ytmcbkmfpmcbdpaa.Pr Go.Proofs.YtmcbkmfpmcbdpaaW.PrintWords Go.Proofs.Ytmcbkmfpmcbdpaa.Sem
open Go.Maps (Keyed)
open Go.ChangeMaps
def ptV (p : Int × Int) : Value := .agg #[.int .i64 p.1, .int .i64 p.2]
def ptL (p : Int × Int) : Lit := .string (keyBytes [.int .i64 p.1, .int .i64 p.2])
def ptOk (p : Int × Int) : Prop := i64in p.1 ∧ i64in p.2
theorem pt_keyed : Keyed Try.prog 167 := Keyed.of_law (deep_law_laid laid_out (m := 2) (by omega) (of_decide_eq_true (by kernel_rfl)) (by kernel_rfl) (by kernel_rfl))
theorem pt_type : Try.prog.keyType 167 = true := by kernel_rfl
theorem pt_cells : Try.prog.cellsOf 167 = 2 := by kernel_rfl
theorem pt_int : Try.prog.cellsOf 3 = 1 := by kernel_rfl
theorem pt_under : ∃ fs, Try.prog.underlying 167 = some (.struct fs) ∧ (fs.toList.map fun f => (f.type, f.offset)) = [(3, 0), (3, 1)] ∧ fs.all (fun f => f.name != "_") = true := ⟨_, Try.underlying167, by kernel_rfl, by kernel_rfl⟩
theorem pt_types : ∃ m, Try.prog.types.size = m + 3 := ⟨Try.prog.types.size - 3, by have : 3 ≤ Try.prog.types.size := of_decide_eq_true (by kernel_rfl); omega⟩
theorem keyLits_i (d : Nat) {a : Int} (h : i64in a) : Try.prog.keyLits (d + 1) 3 [.int .i64 a] = some [.int .i64 a] := by
 unfold Program.keyLits
 simp only [Try.underlying3]
 rw [if_pos ⟨trivial, ik_wf h⟩]
theorem pt_lits (d : Nat) (a b : Value) : Try.prog.keyLits (d + 2) 167 [a, b] = (Try.prog.keyLits (d + 1) 3 [a]).bind fun x => (Try.prog.keyLits (d + 1) 3 [b]).bind fun y => some (x ++ y) := by
 obtain ⟨fs, hu, hf, hn⟩ := pt_under
 conv => lhs; unfold Program.keyLits
 simp only [hu]
 rw [if_pos ⟨by rw [pt_cells]; rfl, by exact hn⟩]
 have e : (fs.toList.mapM fun f => Try.prog.keyLits (d + 1) f.type (([a, b].drop f.offset).take (Try.prog.cellsOf f.type))) = (fs.toList.map fun f => (f.type, f.offset)).mapM fun p => Try.prog.keyLits (d + 1) p.1 (([a, b].drop p.2).take (Try.prog.cellsOf p.1)) := by
  generalize fs.toList = L
  induction L with
  | nil => rfl
  | cons x r ih => simp only [List.mapM_cons, List.map_cons, ih]
 rw [e, hf]
 simp only [List.mapM_cons, List.mapM_nil, pt_int, List.drop_zero, List.take_succ_cons, List.take_zero, List.drop_succ_cons]
 cases h1 : Try.prog.keyLits (d + 1) 3 [a] <;> cases h2 : Try.prog.keyLits (d + 1) 3 [b] <;> simp
theorem pt_key {p : Int × Int} (h : ptOk p) : keyOf Try.prog 167 (ptV p) = some (ptL p) := by
 obtain ⟨fs, hu, hf, hn⟩ := pt_under
 obtain ⟨m, hm⟩ := pt_types
 unfold keyOf ptV ptL
 simp only [hu]
 rw [if_pos (by rw [pt_type]; simp [Value.formed, hu, pt_cells]), hm]
 show (Try.prog.keyLits (m + 2 + 2) 167 [.int .i64 p.1, .int .i64 p.2]).map _ = _
 rw [pt_lits, keyLits_i _ h.1, keyLits_i _ h.2]
 rfl
theorem keyLits_inv {d : Nat} {v : Value} {l : List Lit} (h : Try.prog.keyLits (d + 1) 3 [v] = some l) : ∃ a, v = .int .i64 a ∧ i64in a ∧ l = [.int .i64 a] := by
 obtain ⟨a, h1, rfl⟩ := keyLits_int' Try.underlying3 h
 obtain rfl : v = .int .i64 a := by simpa using h1
 refine ⟨a, rfl, ?_, rfl⟩
 unfold Program.keyLits at h
 simp only [Try.underlying3] at h
 split at h
 ·rename_i hc
  exact wf_in hc.2
 ·cases h
set_option maxRecDepth 10000 in
theorem pt_inv {v : Value} {kl : Lit} (h : keyOf Try.prog 167 v = some kl) : ∃ p, ptOk p ∧ v = ptV p ∧ kl = ptL p := by
 obtain ⟨fs, hu, hf, hn⟩ := pt_under
 obtain ⟨m, hm⟩ := pt_types
 unfold keyOf at h
 simp only [hu] at h
 split at h
 ·rename_i hc
  rw [pt_type, Bool.true_and] at hc
  obtain ⟨cs, rfl⟩ : ∃ cs, v = .agg cs := by
   unfold Value.formed at hc
   cases v <;> simp [hu] at hc
   exact ⟨_, rfl⟩
  have hs : cs.size = 2 := by
   unfold Value.formed at hc
   simpa [hu, pt_cells] using hc
  obtain ⟨l⟩ := cs
  match l, hs with
  | [a, b], _ =>
   rw [hm, show m + 3 + 1 = m + 2 + 2 from rfl, show (Value.agg ⟨[a, b]⟩).cells.toList = [a, b] from rfl] at h
   rw [pt_lits] at h
   cases h1 : Try.prog.keyLits (m + 2 + 1) 3 [a] with
   | none => rw [h1] at h; cases h
   | some x =>
    cases h2 : Try.prog.keyLits (m + 2 + 1) 3 [b] with
    | none => rw [h1, h2] at h; cases h
    | some y =>
     rw [h1, h2] at h
     obtain ⟨a', rfl, ha, rfl⟩ := keyLits_inv h1
     obtain ⟨b', rfl, hb, rfl⟩ := keyLits_inv h2
     simp only [Option.bind_some, Option.map_some, Option.some.injEq] at h
     exact ⟨(a', b'), ⟨ha, hb⟩, rfl, h.symm⟩
 ·cases h
theorem ptKB : KB Try.prog 167 ptV ptL ptOk where
 K := pt_keyed
 key := fun a ha => pt_key ha
 inv := fun v kl h => pt_inv h
 inj := fun a b h => by
  unfold ptV at h
  obtain ⟨a1, a2⟩ := a
  obtain ⟨b1, b2⟩ := b
  simpa using h
end Go.Proofs.Ytmcbkmfpmcbdpaa.H
namespace Go.Proofs.Ytmcbkmfpmcbdpaa.H
open Go.RowKit Go.Proofs.Ytmcbkmfpmcbdpaa.Pr Go.Proofs.YtmcbkmfpmcbdpaaW.PrintWords Go.Proofs.Ytmcbkmfpmcbdpaa.Sem
open Go.Maps (Keyed)
open Go.ChangeMaps
theorem pr_type : Try.prog.keyType 71 = true := by kernel_rfl
theorem pr_lits (d : Nat) (a b : Value) : Try.prog.keyLits (d + 2) 71 [a, b] = (Try.prog.keyLits (d + 1) 3 [a]).bind fun x => (Try.prog.keyLits (d + 1) 3 [b]).bind fun y => some (x ++ y) := by
 conv => lhs; unfold Program.keyLits
 simp only [pair_arr.hu]
 rw [if_pos (by rw [pair_arr.size]; rfl), show List.range 2 = [0, 1] from rfl, List.mapM_cons, List.mapM_cons, List.mapM_nil]
 simp only [pair_arr.one, Nat.zero_mul, Nat.one_mul, List.drop_zero, List.take_succ_cons, List.take_zero, List.drop_succ_cons]
 cases h1 : Try.prog.keyLits (d + 1) 3 [a] <;> cases h2 : Try.prog.keyLits (d + 1) 3 [b] <;> simp
set_option maxRecDepth 10000 in
theorem pr_inv {v : Value} {kl : Lit} (h : keyOf Try.prog 71 v = some kl) : ∃ p, ptOk p ∧ v = ptV p ∧ kl = ptL p := by
 obtain ⟨m, hm⟩ := pt_types
 unfold keyOf at h
 simp only [pair_arr.hu] at h
 split at h
 ·rename_i hc
  rw [pr_type, Bool.true_and] at hc
  obtain ⟨cs, rfl⟩ : ∃ cs, v = .agg cs := by
   unfold Value.formed at hc
   cases v <;> simp [pair_arr.hu] at hc
   exact ⟨_, rfl⟩
  have hs : cs.size = 2 := by
   unfold Value.formed at hc
   simpa [pair_arr.hu, pair_arr.size] using hc
  obtain ⟨l⟩ := cs
  match l, hs with
  | [a, b], _ =>
   rw [hm, show m + 3 + 1 = m + 2 + 2 from rfl, show (Value.agg ⟨[a, b]⟩).cells.toList = [a, b] from rfl] at h
   rw [pr_lits] at h
   cases h1 : Try.prog.keyLits (m + 2 + 1) 3 [a] with
   | none => rw [h1] at h; cases h
   | some x =>
    cases h2 : Try.prog.keyLits (m + 2 + 1) 3 [b] with
    | none => rw [h1, h2] at h; cases h
    | some y =>
     rw [h1, h2] at h
     obtain ⟨a', rfl, ha, rfl⟩ := keyLits_inv h1
     obtain ⟨b', rfl, hb, rfl⟩ := keyLits_inv h2
     simp only [Option.bind_some, Option.map_some, Option.some.injEq] at h
     exact ⟨(a', b'), ⟨ha, hb⟩, rfl, h.symm⟩
 ·cases h
theorem prKB : KB Try.prog 71 ptV ptL ptOk where
 K := pair_keyed
 key := fun a ha => pk_key ha.1 ha.2
 inv := fun v kl h => pr_inv h
 inj := fun a b h => by
  unfold ptV at h
  obtain ⟨a1, a2⟩ := a
  obtain ⟨b1, b2⟩ := b
  simpa using h
end Go.Proofs.Ytmcbkmfpmcbdpaa.H
namespace Go.Proofs.Ytmcbkmfpmcbdpaa.PL
section
variable {α : Type} {lt : α → α → Prop}
theorem uniqueG (ir : ∀ a, ¬ lt a a) (tr : ∀ a b c, lt a b → lt b c → lt a c) : ∀ (a b : List α), a.Pairwise lt → b.Pairwise lt → (∀ x, x ∈ a ↔ x ∈ b) → a = b
 | [], [], _, _, _ => rfl
 | [], y :: r, _, _, h => by have := (h y).2 (List.mem_cons_self ..); cases this
 | x :: r, [], _, _, h => by have := (h x).1 (List.mem_cons_self ..); cases this
 | x :: r, y :: s, ha, hb, h => by
  have ha' := List.pairwise_cons.1 ha
  have hb' := List.pairwise_cons.1 hb
  have e : x = y := by
   rcases List.mem_cons.1 ((h x).1 (List.mem_cons_self ..)) with q | q
   ·exact q
   ·rcases List.mem_cons.1 ((h y).2 (List.mem_cons_self ..)) with q2 | q2
    ·exact q2.symm
    ·exact absurd (tr _ _ _ (hb'.1 x q) (ha'.1 y q2)) (ir y)
  subst e
  rw [uniqueG ir tr r s ha'.2 hb'.2 fun z => ?_]
  have hz := h z
  constructor
  ·intro q
   rcases List.mem_cons.1 (hz.1 (List.mem_cons_of_mem _ q)) with rfl | q2
   ·exact absurd (ha'.1 _ q) (ir _)
   ·exact q2
  ·intro q
   rcases List.mem_cons.1 (hz.2 (List.mem_cons_of_mem _ q)) with rfl | q2
   ·exact absurd (hb'.1 _ q) (ir _)
   ·exact q2
def insG [DecidableRel lt] (s : α) : List α → List α
 | [] => [s]
 | x :: r => if lt s x then s :: x :: r else if lt x s then x :: insG s r else x :: r
def uniG [DecidableRel lt] (l : List α) : List α := l.foldl (fun o s => insG (lt := lt) s o) []
variable [DecidableRel lt]
theorem insG_mem (tri : ∀ a b, ¬ lt a b → ¬ lt b a → a = b) (e x : α) : ∀ l, x ∈ insG (lt := lt) e l ↔ x = e ∨ x ∈ l
 | [] => by simp [insG]
 | y :: r => by
  unfold insG
  split
  ·simp
  ·rename_i h1
   split
   ·rw [List.mem_cons, insG_mem tri e x r, List.mem_cons]
    constructor
    ·rintro (h | h | h)
     ·exact .inr (.inl h)
     ·exact .inl h
     ·exact .inr (.inr h)
    ·rintro (h | h | h)
     ·exact .inr (.inl h)
     ·exact .inl h
     ·exact .inr (.inr h)
   ·rename_i h2
    obtain rfl := tri _ _ h1 h2
    simp
theorem insG_sorted (tr : ∀ a b c, lt a b → lt b c → lt a c) (tri : ∀ a b, ¬ lt a b → ¬ lt b a → a = b) (e : α) : ∀ l, l.Pairwise lt → (insG (lt := lt) e l).Pairwise lt
 | [], _ => by simp [insG]
 | y :: r, h => by
  have h' := List.pairwise_cons.1 h
  unfold insG
  split
  ·rename_i q
   refine List.pairwise_cons.2 ⟨fun x hx => ?_, h⟩
   rcases List.mem_cons.1 hx with rfl | hx
   ·exact q
   ·exact tr _ _ _ q (h'.1 x hx)
  ·split
   ·rename_i q
    refine List.pairwise_cons.2 ⟨fun x hx => ?_, insG_sorted tr tri e r h'.2⟩
    rcases (insG_mem tri e x r).1 hx with rfl | hx
    ·exact q
    ·exact h'.1 x hx
   ·exact h
theorem uniG_fold (tr : ∀ a b c, lt a b → lt b c → lt a c) (tri : ∀ a b, ¬ lt a b → ¬ lt b a → a = b) : ∀ (es o : List α), o.Pairwise lt → (es.foldl (fun o s => insG (lt := lt) s o) o).Pairwise lt ∧ ∀ x, x ∈ es.foldl (fun o s => insG (lt := lt) s o) o ↔ x ∈ es ∨ x ∈ o
 | [], o, h => ⟨h, fun x => by simp⟩
 | e :: r, o, h => by
  have ih := uniG_fold tr tri r (insG (lt := lt) e o) (insG_sorted tr tri e o h)
  refine ⟨ih.1, fun x => ?_⟩
  rw [List.foldl_cons, ih.2 x, insG_mem tri, List.mem_cons]
  constructor
  ·rintro (h | h | h)
   ·exact .inl (.inr h)
   ·exact .inl (.inl h)
   ·exact .inr h
  ·rintro ((h | h) | h)
   ·exact .inr (.inl h)
   ·exact .inl h
   ·exact .inr (.inr h)
theorem uniG_sorted (tr : ∀ a b c, lt a b → lt b c → lt a c) (tri : ∀ a b, ¬ lt a b → ¬ lt b a → a = b) (l : List α) : (uniG (lt := lt) l).Pairwise lt := (uniG_fold tr tri l [] List.Pairwise.nil).1
theorem uniG_mem (tr : ∀ a b c, lt a b → lt b c → lt a c) (tri : ∀ a b, ¬ lt a b → ¬ lt b a → a = b) (l : List α) (x : α) : x ∈ uniG (lt := lt) l ↔ x ∈ l := by
 have := (uniG_fold tr tri l [] List.Pairwise.nil).2 x
 rw [show uniG (lt := lt) l = l.foldl (fun o s => insG (lt := lt) s o) [] from rfl, this]
 simp
theorem insG_at (ir : ∀ a, ¬ lt a a) (tr : ∀ a b c, lt a b → lt b c → lt a c) (tri : ∀ a b, ¬ lt a b → ¬ lt b a → a = b) {e : α} {o : List α} (ho : o.Pairwise lt) {t : Nat} (ht : t ≤ o.length) (h1 : ∀ a ∈ o.take t, lt a e) (h2 : ∀ a ∈ o.drop t, lt e a) : insG (lt := lt) e o = o.take t ++ e :: o.drop t := by
 refine uniqueG ir tr _ _ (insG_sorted tr tri e o ho) ?_ fun x => ?_
 ·refine List.pairwise_append.2 ⟨ho.sublist (List.take_sublist _ _), List.pairwise_cons.2 ⟨h2, ho.sublist (List.drop_sublist _ _)⟩, fun a ha b hb => ?_⟩
  rcases List.mem_cons.1 hb with rfl | hb
  ·exact h1 a ha
  ·exact tr _ _ _ (h1 a ha) (h2 b hb)
 ·rw [insG_mem tri, List.mem_append, List.mem_cons]
  constructor
  ·rintro (h | h)
   ·exact .inr (.inl h)
   ·rw [← List.take_append_drop t o, List.mem_append] at h
    rcases h with h | h
    ·exact .inl h
    ·exact .inr (.inr h)
  ·rintro (h | h | h)
   ·exact .inr (List.mem_of_mem_take h)
   ·exact .inl h
   ·exact .inr (List.mem_of_mem_drop h)
theorem insG_in (ir : ∀ a, ¬ lt a a) (tr : ∀ a b c, lt a b → lt b c → lt a c) (tri : ∀ a b, ¬ lt a b → ¬ lt b a → a = b) {e : α} {o : List α} (ho : o.Pairwise lt) (he : e ∈ o) : insG (lt := lt) e o = o :=
 uniqueG ir tr _ _ (insG_sorted tr tri e o ho) ho fun x => by
  rw [insG_mem tri]
  constructor
  ·rintro (rfl | h)
   ·exact he
   ·exact h
  ·exact .inr
end
section
variable {α : Type} [DecidableEq α]
def ddG : List α → List α
 | [] => []
 | [a] => [a]
 | a :: b :: r => if a = b then ddG (b :: r) else a :: ddG (b :: r)
theorem ddG_mem (x : α) : ∀ l, x ∈ ddG l ↔ x ∈ l
 | [] => by simp [ddG]
 | [a] => by simp [ddG]
 | a :: b :: r => by
  have ih := ddG_mem x (b :: r)
  unfold ddG
  split
  ·rename_i h
   subst h
   rw [ih]
   simp
  ·rw [List.mem_cons, ih, List.mem_cons (a := x) (b := a)]
theorem ddG_strict {lt : α → α → Prop} (tr : ∀ a b c, lt a b → lt b c → lt a c) : ∀ l : List α, l.Pairwise (fun a b => a = b ∨ lt a b) → (ddG l).Pairwise lt
 | [], _ => by simp [ddG]
 | [a], _ => by simp [ddG]
 | a :: b :: r, h => by
  have h' := List.pairwise_cons.1 h
  have ih := ddG_strict tr (b :: r) h'.2
  unfold ddG
  split
  ·exact ih
  ·rename_i q
   refine List.pairwise_cons.2 ⟨fun x hx => ?_, ih⟩
   have hab : lt a b := by
    rcases h'.1 b (List.mem_cons_self ..) with e | e
    ·exact absurd e q
    ·exact e
   rcases List.mem_cons.1 ((ddG_mem x (b :: r)).1 hx) with rfl | hx
   ·exact hab
   ·rcases (List.pairwise_cons.1 h'.2).1 x hx with e | e
    ·rw [← e]; exact hab
    ·exact tr _ _ _ hab e
theorem ddG_snoc : ∀ (l : List α) (b a : α), ddG (l ++ [b, a]) = if b = a then ddG (l ++ [b]) else ddG (l ++ [b]) ++ [a]
 | [], b, a => by
  show ddG [b, a] = _
  unfold ddG
  by_cases q : b = a
  ·rw [if_pos q, if_pos q, q]; rfl
  ·rw [if_neg q, if_neg q]; rfl
 | [x], b, a => by
  have ih := ddG_snoc [] b a
  show ddG (x :: b :: [a]) = _
  show _ = if b = a then ddG (x :: b :: []) else ddG (x :: b :: []) ++ [a]
  unfold ddG
  rw [show ddG [b, a] = _ from ih]
  split
  ·split <;> rfl
  ·split <;> rfl
 | x :: y :: r, b, a => by
  have ih := ddG_snoc (y :: r) b a
  show ddG (x :: y :: (r ++ [b, a])) = _
  show _ = if b = a then ddG (x :: y :: (r ++ [b])) else ddG (x :: y :: (r ++ [b])) ++ [a]
  unfold ddG
  rw [show ddG (y :: (r ++ [b, a])) = _ from ih]
  split
  ·rfl
  ·split <;> rfl
end
end Go.Proofs.Ytmcbkmfpmcbdpaa.PL
namespace Go.Proofs.Ytmcbkmfpmcbdpaa.H
open Go.RowKit Go.Proofs.Ytmcbkmfpmcbdpaa.Pr Go.Proofs.YtmcbkmfpmcbdpaaW.PrintWords Go.Proofs.Ytmcbkmfpmcbdpaa.Sem Go.Proofs.Ytmcbkmfpmcbdpaa.PL
theorem compact_ddG {α : Type} [Inhabited α] [DecidableEq α] (es : List α) : Lib.compact es = ddG es := by
 have : ∀ m, m ≤ es.length → Lib.compactUpTo es.toArray m = ddG (es.take m) := by
  intro m
  induction m with
  | zero => intro _; simp [Lib.compactUpTo, ddG]
  | succ m ih =>
   intro h
   have hm : m < es.length := by omega
   have e0 : es.toArray[m]! = es[m] := by rw [getElem!_pos es.toArray m (by simpa using hm)]; simp
   rw [Lib.compactUpTo_succ, ih (by omega), e0]
   rw [List.take_add_one, List.getElem?_eq_getElem hm]
   cases m with
   | zero => simp [Lib.keeps, ddG]
   | succ m =>
    have hm' : m < es.length := by omega
    have e1 : es.toArray[m]! = es[m] := by rw [getElem!_pos es.toArray m (by simpa using hm')]; simp
    have ek : Lib.keeps es.toArray (m + 1) = decide (es[m] ≠ es[m + 1]) := by
     unfold Lib.keeps
     rw [e0, show m + 1 - 1 = m from rfl, e1]
     rw [decide_eq_decide]
     constructor
     ·rintro (h | h)
      ·omega
      ·exact fun q => h q.symm
     ·exact fun h => .inr fun q => h q.symm
    rw [ek, List.take_add_one, List.getElem?_eq_getElem hm']
    simp only [Option.toList_some, List.append_assoc, List.cons_append, List.nil_append]
    rw [ddG_snoc]
    by_cases q : es[m] = es[m + 1]
    ·simp [q]
    ·simp [q]
 unfold Lib.compact
 rw [this _ (Nat.le_refl _), List.take_length]
def slt (a b : ByteArray) : Prop := a.data.toList < b.data.toList
instance : DecidableRel slt := fun a b => by unfold slt; infer_instance
theorem slt_irr (a : ByteArray) : ¬ slt a a := List.lt_irrefl _
theorem slt_tr (a b c : ByteArray) (h1 : slt a b) (h2 : slt b c) : slt a c := List.lt_trans h1 h2
theorem slt_tri (a b : ByteArray) (h1 : ¬ slt a b) (h2 : ¬ slt b a) : a = b := by
 have : a.data.toList = b.data.toList := List.le_antisymm (show a.data.toList ≤ b.data.toList from h2) h1
 exact ByteArray.ext (Array.toList_inj.1 this)
def uniS (l : List ByteArray) : List ByteArray := uniG (lt := slt) l
theorem uniS_sorted (l : List ByteArray) : (uniS l).Pairwise slt := uniG_sorted slt_tr slt_tri l
theorem uniS_mem (l : List ByteArray) (x : ByteArray) : x ∈ uniS l ↔ x ∈ l := uniG_mem slt_tr slt_tri l x
theorem unionS_uni (xs ys : List ByteArray) : unionS xs ys = uniS (xs ++ ys) := by
 have e : unionS xs ys = (ddG (((xs ++ ys).map fun s => s.data.toList).mergeSort fun x y => decide (x ≤ y))).map fun l => (⟨l.toArray⟩ : ByteArray) := by
  unfold unionS cmpt srt
  rw [← compact_ddG]
  congr 2
  rw [List.map_map]
  simp [Function.comp_def]
 rw [e]
 have hp := List.pairwise_mergeSort (le := fun x y : List UInt8 => decide (x ≤ y)) (fun a b c h1 h2 => by
  simp only [decide_eq_true_eq] at h1 h2 ⊢
  exact List.le_trans h1 h2) (fun a b => by
  simp only [Bool.or_eq_true, decide_eq_true_eq]
  exact List.le_total a b) ((xs ++ ys).map fun s => s.data.toList)
 have hs := ddG_strict (lt := fun x y : List UInt8 => x < y) (fun a b c => List.lt_trans) _ (hp.imp (fun {a b} h => by
  simp only [decide_eq_true_eq] at h
  rcases List.le_iff_lt_or_eq.1 h with q | q
  ·exact .inr q
  ·exact .inl q))
 refine uniqueG slt_irr slt_tr _ _ ?_ (uniS_sorted _) fun x => ?_
 ·rw [List.pairwise_map]
  exact hs.imp (fun {a b} h => by show (⟨a.toArray⟩ : ByteArray).data.toList < (⟨b.toArray⟩ : ByteArray).data.toList; simpa using h)
 ·rw [uniS_mem, List.mem_map]
  constructor
  ·rintro ⟨l, hl, rfl⟩
   rw [ddG_mem, (List.mergeSort_perm _ _).mem_iff, List.mem_map] at hl
   obtain ⟨s, hs, rfl⟩ := hl
   simpa using hs
  ·intro hx
   refine ⟨x.data.toList, ?_, by simp⟩
   rw [ddG_mem, (List.mergeSort_perm _ _).mem_iff, List.mem_map]
   exact ⟨x, hx, rfl⟩
end Go.Proofs.Ytmcbkmfpmcbdpaa.H
namespace Go.Proofs.Ytmcbkmfpmcbdpaa.Sem
open Go.Proofs.Ytmcbkmfpmcbdpaa.Pr
theorem elt_trans {a b c : Ed} (h1 : elt a b) (h2 : elt b c) : elt a c := by unfold elt at *; omega
theorem elt_irr (a : Ed) : ¬ elt a a := by unfold elt; omega
theorem elt_tri {a b : Ed} (h : ¬ elt a b) (h2 : ¬ cmpE a b = 0) : elt b a := by
 rw [cmpE_zero] at h2
 rcases Classical.em (elt b a) with q | q
 ·exact q
 ·exfalso
  apply h2
  obtain ⟨a0, a1, a2⟩ := a
  obtain ⟨b0, b1, b2⟩ := b
  unfold elt at h q
  simp only at h q
  rw [S80.mk.injEq]
  omega
theorem insE_mem (e x : Ed) : ∀ l, x ∈ insE e l ↔ x = e ∨ x ∈ l
 | [] => by simp [insE]
 | y :: r => by
  unfold insE
  split
  ·simp
  ·split
   ·rename_i h
    rw [cmpE_zero] at h
    subst h
    simp
   ·rw [List.mem_cons, insE_mem e x r, List.mem_cons]
    constructor
    ·rintro (h | h | h)
     ·exact .inr (.inl h)
     ·exact .inl h
     ·exact .inr (.inr h)
    ·rintro (h | h | h)
     ·exact .inr (.inl h)
     ·exact .inl h
     ·exact .inr (.inr h)
theorem insE_sorted (e : Ed) : ∀ l, l.Pairwise elt → (insE e l).Pairwise elt
 | [], _ => by simp [insE]
 | y :: r, h => by
  have h' := List.pairwise_cons.1 h
  unfold insE
  split
  ·rename_i q
   refine List.pairwise_cons.2 ⟨fun x hx => ?_, h⟩
   rcases List.mem_cons.1 hx with rfl | hx
   ·exact q
   ·exact elt_trans q (h'.1 x hx)
  ·split
   ·exact h
   ·rename_i q1 q2
    refine List.pairwise_cons.2 ⟨fun x hx => ?_, insE_sorted e r h'.2⟩
    rcases (insE_mem e x r).1 hx with rfl | hx
    ·exact elt_tri q1 q2
    ·exact h'.1 x hx
theorem strict_unique : ∀ (a b : List Ed), a.Pairwise elt → b.Pairwise elt → (∀ x, x ∈ a ↔ x ∈ b) → a = b
 | [], [], _, _, _ => rfl
 | [], y :: r, _, _, h => by have := (h y).2 (List.mem_cons_self ..); cases this
 | x :: r, [], _, _, h => by have := (h x).1 (List.mem_cons_self ..); cases this
 | x :: r, y :: s, ha, hb, h => by
  have ha' := List.pairwise_cons.1 ha
  have hb' := List.pairwise_cons.1 hb
  have e : x = y := by
   rcases List.mem_cons.1 ((h x).1 (List.mem_cons_self ..)) with q | q
   ·exact q
   ·rcases List.mem_cons.1 ((h y).2 (List.mem_cons_self ..)) with q2 | q2
    ·exact q2.symm
    ·exact absurd (elt_trans (hb'.1 x q) (ha'.1 y q2)) (elt_irr y)
  subst e
  rw [strict_unique r s ha'.2 hb'.2 fun z => ?_]
  have hz := h z
  constructor
  ·intro q
   rcases List.mem_cons.1 (hz.1 (List.mem_cons_of_mem _ q)) with rfl | q2
   ·exact absurd (ha'.1 _ q) (elt_irr _)
   ·exact q2
  ·intro q
   rcases List.mem_cons.1 (hz.2 (List.mem_cons_of_mem _ q)) with rfl | q2
   ·exact absurd (hb'.1 _ q) (elt_irr _)
   ·exact q2
def dd : List Ed → List Ed
 | [] => []
 | [a] => [a]
 | a :: b :: r => if cmpE a b = 0 then dd (b :: r) else a :: dd (b :: r)
theorem dd_mem (x : Ed) : ∀ l, x ∈ dd l ↔ x ∈ l
 | [] => by simp [dd]
 | [a] => by simp [dd]
 | a :: b :: r => by
  have ih := dd_mem x (b :: r)
  unfold dd
  split
  ·rename_i h
   rw [cmpE_zero] at h
   subst h
   rw [ih]
   simp
  ·rw [List.mem_cons, ih, List.mem_cons (a := x) (b := a)]
theorem elt_or {a b : Ed} (h : ¬ elt b a) : a = b ∨ elt a b := by
 by_cases q : cmpE b a = 0
 ·exact .inl ((cmpE_zero b a).1 q).symm
 ·exact .inr (elt_tri h q)
theorem dd_sorted : ∀ l : List Ed, l.Pairwise (fun a b => ¬ elt b a) → (dd l).Pairwise elt
 | [], _ => by simp [dd]
 | [a], _ => by simp [dd]
 | a :: b :: r, h => by
  have h' := List.pairwise_cons.1 h
  have ih := dd_sorted (b :: r) h'.2
  unfold dd
  split
  ·exact ih
  ·rename_i q
   refine List.pairwise_cons.2 ⟨fun x hx => ?_, ih⟩
   have hab : elt a b := by
    rcases elt_or (h'.1 b (List.mem_cons_self ..)) with e | e
    ·exact absurd ((cmpE_zero a b).2 e) q
    ·exact e
   rcases List.mem_cons.1 ((dd_mem x (b :: r)).1 hx) with rfl | hx
   ·exact hab
   ·rcases elt_or ((List.pairwise_cons.1 h'.2).1 x hx) with e | e
    ·rw [← e]; exact hab
    ·exact elt_trans hab e
theorem fold_ins : ∀ (es o : List Ed), o.Pairwise elt → (es.foldl (fun o e => insE e o) o).Pairwise elt ∧ ∀ x, x ∈ es.foldl (fun o e => insE e o) o ↔ x ∈ es ∨ x ∈ o
 | [], o, h => ⟨h, fun x => by simp⟩
 | e :: r, o, h => by
  have ih := fold_ins r (insE e o) (insE_sorted e o h)
  refine ⟨ih.1, fun x => ?_⟩
  rw [List.foldl_cons, ih.2 x, insE_mem, List.mem_cons]
  constructor
  ·rintro (h | h | h)
   ·exact .inl (.inr h)
   ·exact .inl (.inl h)
   ·exact .inr h
  ·rintro ((h | h) | h)
   ·exact .inr (.inl h)
   ·exact .inl h
   ·exact .inr (.inr h)
theorem dd_sortE {es l : List Ed} (h : l.Pairwise (fun a b => ¬ elt b a)) (hm : ∀ x, x ∈ l ↔ x ∈ es) : dd l = sortE es := by
 have hf := fold_ins es [] List.Pairwise.nil
 exact strict_unique _ _ (dd_sorted l h) hf.1 fun x => by rw [dd_mem, hm]; show _ ↔ x ∈ es.foldl (fun o e => insE e o) []; rw [hf.2 x]; simp
end Go.Proofs.Ytmcbkmfpmcbdpaa.Sem
namespace Go.Proofs.Ytmcbkmfpmcbdpaa.H
open Go.RowKit Go.Proofs.Ytmcbkmfpmcbdpaa.Pr Go.Proofs.YtmcbkmfpmcbdpaaW.PrintWords Go.Proofs.Ytmcbkmfpmcbdpaa.Sem Go.Proofs.Ytmcbkmfpmcbdpaa.PL
theorem may_of {n : Int} {ls : List ByteArray} {es : List Ed} (h1 : 1 ≤ n ∧ n ≤ 2048) (h2 : ls.length ≤ 64) (h3 : ls.Pairwise slt) (h4 : ∀ s ∈ ls, s.size ≤ 200) (h5 : es.length ≤ 1000000) (h6 : es.Pairwise elt) (h7 : ∀ e ∈ es, (0 ≤ e.f0 ∧ e.f0 < n) ∧ (0 ≤ e.f2 ∧ e.f2 < n) ∧ 0 ≤ e.f1 ∧ e.f1 < (ls.length : Int)) : mayR n ls es = true := by
 unfold mayR
 simp only [Bool.and_eq_true, decide_eq_true_eq, List.all_eq_true, List.mem_range]
 refine ⟨h1.1, h1.2, h2, h5, fun k hk => ?_, fun k hk => ?_⟩
 ·unfold labAt tooLong
  simp only [Bool.and_eq_true, Bool.not_eq_true', decide_eq_false_iff_not, Bool.or_eq_true, decide_eq_true_eq]
  refine ⟨?_, ?_⟩
  ·rw [getD_get hk]
   have := h4 _ (List.getElem_mem hk)
   omega
  ·rcases Nat.eq_zero_or_pos k with q | q
   ·exact .inl q
   ·right
    rw [getD_get hk, getD_get (show k - 1 < ls.length by omega), bytesLess_lt, decide_eq_true_eq, ByteArray.toList_eq, ByteArray.toList_eq]
    exact List.pairwise_iff_getElem.1 h3 (k - 1) k (by omega) hk (by omega)
 ·unfold okAt'
  simp only [Bool.and_eq_true, decide_eq_true_eq, Bool.or_eq_true]
  have hm := h7 _ (List.getElem_mem hk)
  rw [getD_get hk]
  refine ⟨hm.1, hm.2.1, hm.2.2.1, hm.2.2.2, ?_⟩
  rcases Nat.eq_zero_or_pos k with q | q
  ·exact .inl q
  ·right
   rw [getD_get (show k - 1 < es.length by omega)]
   exact List.pairwise_iff_getElem.1 h6 (k - 1) k (by omega) hk (by omega)
theorem may_lab {n : Int} {ls : List ByteArray} {es : List Ed} (h : mayR n ls es = true) : ls.length ≤ 64 ∧ ∀ s ∈ ls, s.size ≤ 200 := by
 unfold mayR at h
 simp only [Bool.and_eq_true, decide_eq_true_eq, List.all_eq_true, List.mem_range] at h
 refine ⟨h.2.2.1, fun s hs => ?_⟩
 obtain ⟨k, hk, rfl⟩ := List.getElem_of_mem hs
 have := h.2.2.2.2.1 k hk
 unfold labAt tooLong at this
 simp only [Bool.and_eq_true, Bool.not_eq_true', decide_eq_false_iff_not] at this
 have := this.1
 rw [getD_get hk] at this
 omega
theorem may_edge {n : Int} {ls : List ByteArray} {es : List Ed} (h : mayR n ls es = true) : ∀ e ∈ es, (0 ≤ e.f0 ∧ e.f0 < n) ∧ (0 ≤ e.f2 ∧ e.f2 < n) ∧ 0 ≤ e.f1 ∧ e.f1 < (ls.length : Int) := fun e he => by
 obtain ⟨k, hk, rfl⟩ := List.getElem_of_mem he
 have := lt_ok h hk
 unfold okAt' at this
 simp only [Bool.and_eq_true, decide_eq_true_eq] at this
 rw [getD_get hk] at this
 exact ⟨this.1, this.2.1, this.2.2.1, this.2.2.2.1⟩
end Go.Proofs.Ytmcbkmfpmcbdpaa.H
namespace Go.Proofs.Ytmcbkmfpmcbdpaa.H
open Go.RowKit Go.Proofs.Ytmcbkmfpmcbdpaa.Pr Go.Proofs.YtmcbkmfpmcbdpaaW.PrintWords Go.Proofs.Ytmcbkmfpmcbdpaa.Sem Go.Proofs.YtmcbkmfpmcbdpaaW.PrintLast
theorem atL {w : World} {A : Option Addr} {n : Nat} {xs : List (List Int)} (h : Kd.C (Kd.slice 3 (Kd.int .i64)) w A n xs) (k : Nat) (hk : k < n) : ∃ ad A0 c0, A = some ad ∧ w.cell? (ad.add k) = some (.slice A0 (xs.getD k []).length c0) ∧ Kd.C (Kd.int .i64) w A0 (xs.getD k []).length (xs.getD k []) := by
 obtain ⟨ad, c, e, _, hK, hc0⟩ := Kd.C_get h ([] : List Int) (k : Int) (by omega) (by omega)
 have hc : ∀ j u, c[j]? = some u → w.cell? (ad.add (k * 1 + j)) = some u := hc0
 obtain ⟨A0, c0, rfl, l0, g0⟩ := hK
 exact ⟨ad, A0, c0, e, by have hq := hc 0 _ rfl; rwa [Nat.mul_one, Nat.add_zero] at hq, g0⟩
def HasK (f : Int × Int → Option Value) (K : List (Int × Int)) : Prop := ∀ a, (f a).isSome = true ↔ a ∈ K
theorem HasK.nil : HasK (fun _ => none) [] := fun a => by simp
theorem HasK.put {f : Int × Int → Option Value} {K : List (Int × Int)} (h : HasK f K) (a : Int × Int) (v : Value) : HasK (putM f a v) (K ++ [a]) := by
 intro x
 unfold putM
 rw [List.mem_append, List.mem_singleton]
 by_cases e : x = a
 ·rw [if_pos e]; simp [e]
 ·rw [if_neg e, h x]; simp [e]
def farE (ys : List (List Int)) (old : Int) (e : Ed) : List (Int × Int) := if e.f1 = old then [] else (ys.getD e.f2.toNat []).map fun k => (e.f1, k)
def farM (es : List Ed) (ys : List (List Int)) (old : Int) (m : Int) : List (Int × Int) := (outE es m).flatMap (farE ys old)
def farK (es : List Ed) (ys : List (List Int)) (old : Int) (Y : List Int) : List (Int × Int) := Y.flatMap (farM es ys old)
def allK (m n : Nat) : List (Int × Int) := (List.range m).flatMap fun l : Nat => (List.range n).map fun k : Nat => ((l : Int), (k : Int))
theorem allK_len (m n : Nat) : (allK m n).length = m * n := by
 unfold allK
 induction m with
 | zero => simp
 | succ m ih => rw [List.range_succ, List.flatMap_append, List.length_append, ih, Nat.succ_mul]; simp
theorem allK_mem {m n : Nat} {a : Int × Int} (h1 : 0 ≤ a.1 ∧ a.1 < (m : Int)) (h2 : 0 ≤ a.2 ∧ a.2 < (n : Int)) : a ∈ allK m n := by
 unfold allK
 refine List.mem_flatMap.2 ⟨a.1.toNat, List.mem_range.2 (by omega), List.mem_map.2 ⟨a.2.toNat, List.mem_range.2 (by omega), ?_⟩⟩
 obtain ⟨x, y⟩ := a
 simp only [Prod.mk.injEq]
 simp only at h1 h2
 omega
theorem farK_mem {es : List Ed} {ys : List (List Int)} {old : Int} {Y : List Int} {a : Int × Int} : a ∈ farK es ys old Y ↔ ∃ m ∈ Y, ∃ e ∈ es, e.f0 = m ∧ e.f1 ≠ old ∧ a.1 = e.f1 ∧ a.2 ∈ ys.getD e.f2.toNat [] := by
 unfold farK farM farE
 rw [List.mem_flatMap]
 constructor
 ·rintro ⟨m, hm, h⟩
  obtain ⟨e, he, h2⟩ := List.mem_flatMap.1 h
  unfold outE at he
  rw [List.mem_filter, decide_eq_true_eq] at he
  split at h2
  ·cases h2
  ·rename_i ho
   obtain ⟨k, hk, rfl⟩ := List.mem_map.1 h2
   exact ⟨m, hm, e, he.1, he.2, ho, rfl, hk⟩
 ·rintro ⟨m, hm, e, he, h0, ho, h1, h2⟩
  refine ⟨m, hm, List.mem_flatMap.2 ⟨e, by unfold outE; rw [List.mem_filter, decide_eq_true_eq]; exact ⟨he, h0⟩, ?_⟩⟩
  rw [if_neg ho]
  exact List.mem_map.2 ⟨a.2, h2, by rw [← h1]⟩
theorem take_snocW {α : Type} (d : α) {xs : List α} {k : Nat} (hk : k < xs.length) : xs.take (k + 1) = xs.take k ++ [xs.getD k d] := by
 rw [List.getD_eq_getElem?_getD, List.getElem?_eq_getElem hk, Option.getD_some, List.take_succ_eq_append_getElem hk]
def FarS (w : World) (M m n : Nat) (K : List (Int × Int)) : Prop := ∃ f c, GM Try.prog 71 ptL ptOk w M f c ∧ HasK f K ∧ ∀ a ∈ K, a ∈ allK m n
theorem FarS.on {w w1 : World} {M m n : Nat} {K : List (Int × Int)} (h : FarS w M m n K) (hb : Below w.heap.size w w1) : FarS w1 M m n K := by
 obtain ⟨f, c, h1, h2, h3⟩ := h
 exact ⟨f, c, h1.below hb, h2, h3⟩
theorem FarS.le {w : World} {M m n : Nat} {K : List (Int × Int)} {f : Int × Int → Option Value} {c : Nat} (h1 : GM Try.prog 71 ptL ptOk w M f c) (h2 : HasK f K) (h3 : ∀ a ∈ K, a ∈ allK m n) : c ≤ m * n := by
 rw [← allK_len m n]
 exact h1.count_le prKB (allK m n) fun a _ ha => h3 a ((h2 a).1 ha)
set_option maxHeartbeats 16000000 in
set_option maxRecDepth 100000 in
theorem wfar_any (n : Nat) (ls : List ByteArray) (es : List Ed) (old : Int) (W H v : Nat) (ys : List (List Int)) (w : World) (hW : WebR w W H n es ys) (hm : mayR n ls es = true) (hv : v < n) (hys : ys.length = n) (hF : ∀ i : Nat, i < n → FromL n es old i (ys.getD i [])) :
  Calls Try.prog 111 #[.pointer (some ⟨W, 0, none⟩), .int .i64 (v : Int), .int .i64 old] w fun e w' => ∃ (M : Nat) (f : Int × Int → Option Value) (c : Nat), e = .returned (.map (some M)) ∧ GM Try.prog 71 ptL ptOk w' M f c ∧ c ≤ ls.length * n ∧ HasK f (farK es ys old (ys.getD v [])) ∧ w.heap.size ≤ M ∧ Below w.heap.size w w' := by
 have hmm := @run_makeMap Try.prog;have hn := lt_n hm;have hel := lt_len hm;have HES := Aside0.mk (may_edge hm);have hll := (may_lab hm).1;have HW := Aside0.mk hW;have HF := Aside0.mk hF;have HYL := Aside0.mk hys;obtain ⟨AL, cL, a6, hCL⟩ := hW.c4;obtain ⟨aL, AY, cY, hAL, hcY, hCY⟩ := atL hCL v (by omega);subst hAL;obtain ⟨Y, hY⟩ : ∃ Y, Y = ys.getD v [] := ⟨_, rfl⟩
 rw [← hY] at hcY hCY ⊢;have hYn := (hF v hv).nod;rw [← hY] at hYn;have hYl := (hF v hv).len;rw [← hY] at hYl;have HYN := Aside0.mk hYn;have HCY := Aside0.mk hCY;have b5 := Aside0.mk a6;have HCL := Aside0.mk hCL;have c4 := fun o => later (below_alloc (Below.refl w.heap.size w) o) a6
 have cY' := fun o => later (below_alloc (Below.refl w.heap.size w) o) hcY
 have v0 : (0 : Int) ≤ (v : Int) := by omega
 have v1 : (v : Int) < (ys.length : Int) := by omega
 clear hW hm hF a6 hCL hcY hCY hY hYn;go_enter Try.func111, Try.ntmps111
 go_wp2
 clear hmm c4 cY' v0 v1;have a1 := Aside0.mk (show FarS (w.alloc (Obj.map #[] 0)) w.heap.size ls.length n (farK es ys old (Y.take 0)) from ⟨_, _, GM.made Try.prog 71 ptL ptOk w, HasK.nil, fun a ha => by cases ha⟩);have a3 := Aside0.mk (below_alloc (Below.refl w.heap.size w) (Obj.map #[] 0));obtain ⟨M, hM⟩ : ∃ M, M = w.heap.size := ⟨_, rfl⟩
 rw [← hM] at a1 ⊢;have HMe := Aside0.mk hM;clear hM;generalize w.alloc (Obj.map #[] 0) = w1 at a1 a3 ⊢;go_loopw [23] (fun i wr => ∃ p : Nat, p ≤ Y.length ∧ i = .int .i64 p ∧ Aside0 (FarS wr M ls.length n (farK es ys old (Y.take p))) ∧ Aside0 (Below w.heap.size w wr)) (fun i _ => Y.length - (intOf i).toNat)
 case atStart => exact ⟨0, Nat.zero_le _, rfl, a1, a3⟩
 case round =>
  clear a1 a3;obtain ⟨p, hp, rfl, HG, HB⟩ := hrel;by_cases hlt : p < Y.length
  ·obtain ⟨ad, hA, h0⟩ := atI HCY.out p hlt;subst hA;replace h0 := later HB.out h0;have hx := HYN.out (Y.getD p 0) (by rw [List.getD_eq_getElem?_getD, List.getElem?_eq_getElem hlt]; exact List.getElem_mem hlt);obtain ⟨j, hj⟩ : ∃ j : Nat, Y.getD p 0 = (j : Int) := ⟨(Y.getD p 0).toNat, by omega⟩
   rw [hj] at h0 hx;have hjn : j < n := by omega
   obtain ⟨Ao, co, hoc, hoC⟩ := HW.out.out j hjn;have f1 := later HB.out HW.out.c3;have f3 := later HB.out hoc;have j0 : (0 : Int) ≤ (j : Int) := by omega
   have j1 : (j : Int) < (n : Int) := by omega
   have HT := Aside0.mk (show farK es ys old (Y.take (p + 1)) = farK es ys old (Y.take p) ++ farM es ys old (j : Int) by unfold farK; rw [take_snocW (0 : Int) hlt, hj, List.flatMap_append, List.flatMap_singleton]);obtain ⟨O, hO⟩ : ∃ O, O = outE es (j : Int) := ⟨_, rfl⟩
   have HO := Aside0.mk hO;have hOl : O.length ≤ 1000000 := by rw [hO]; exact Nat.le_trans (List.length_filter_le _ _) hel
   rw [← hO] at f3 hoC;have HOC := Aside0.mk hoC;have HFM := Aside0.mk (show farM es ys old (j : Int) = O.flatMap (farE ys old) by rw [hO]; rfl);obtain ⟨K0, b1⟩ : ∃ K0, K0 = farK es ys old (Y.take p) := ⟨_, rfl⟩
   rw [← b1] at HG HT;clear hx hoc hoC hO hj b1;go_wp2
   clear h0 f1 f3;have a0 := Aside0.mk (show FarS wr M ls.length n (K0 ++ (O.take 0).flatMap (farE ys old)) from by rw [List.take_zero, List.flatMap_nil, List.append_nil]; exact HG.out);go_loopw [35] (fun i wr' => ∃ q : Nat, q ≤ O.length ∧ i = .int .i64 q ∧ Aside0 (FarS wr' M ls.length n (K0 ++ (O.take q).flatMap (farE ys old))) ∧ Aside0 (Below w.heap.size w wr')) (fun i _ => O.length - (intOf i).toNat)
   case atStart => exact ⟨0, Nat.zero_le _, rfl, a0, HB⟩
   case round =>
    clear a0 HG HB;obtain ⟨q, hq, rfl, HG, HB⟩ := hrel;by_cases hlt2 : q < O.length
    ·obtain ⟨ao, hAo, g0, g1, g2⟩ := atE HOC.out q hlt2;subst hAo;replace g0 := later HB.out g0;replace g1 := later HB.out g1;replace g2 := later HB.out g2;have a5 := Aside0.mk (show (O.take (q + 1)).flatMap (farE ys old) = (O.take q).flatMap (farE ys old) ++ farE ys old (O.getD q z80) by rw [take_snocW z80 hlt2, List.flatMap_append, List.flatMap_singleton]);obtain ⟨y, hy⟩ : ∃ y, y = O.getD q z80 := ⟨_, rfl⟩
     have hyO : y ∈ O := by rw [hy, List.getD_eq_getElem?_getD, List.getElem?_eq_getElem hlt2]; exact List.getElem_mem hlt2
     rw [HO.out] at hyO;unfold outE at hyO;rw [List.mem_filter] at hyO;have hyn := HES.out y hyO.1;obtain ⟨i, hi⟩ : ∃ i : Nat, y.f2 = (i : Int) := ⟨y.f2.toNat, by omega⟩
     have hin : i < n := by omega
     rw [← hy] at g0 g1 g2 a5;rw [hi] at g2;have HYI := Aside0.mk hi;have b8 : 0 ≤ y.f1 ∧ y.f1 < (ls.length : Int) := hyn.2.2;obtain ⟨K1, a2⟩ : ∃ K1, K1 = K0 ++ (O.take q).flatMap (farE ys old) := ⟨_, rfl⟩
     have b9 := Aside0.mk a2;rw [← a2] at HG;have a9 := Aside0.mk (show K0 ++ (O.take (q + 1)).flatMap (farE ys old) = K1 ++ farE ys old y by rw [a5.out, ← List.append_assoc, ← a2]);clear hy hyO hyn hi a5 a2;by_cases ho : y.f1 = old
     ·have b2 := decide_eq_true ho;have b3 : (y.f1 == old) = true := by simpa using ho
      have HE := Aside0.mk (show farE ys old y = [] by unfold farE; rw [if_pos ho]);clear ho;go_wp2
      go_roundw
      case rel => exact ⟨q + 1, by omega, by go_num, ⟨by rw [a9.out, HE.out, List.append_nil]; exact HG.out.on (below_alloc (Below.refl _ _) _)⟩, ⟨below_then HB.out HB.out.size (below_alloc (Below.refl _ _) _)⟩⟩
      case measure => simp [intOf]; omega
     ·have b2 := decide_eq_false ho;have b3 : (y.f1 == old) = false := by simpa using ho
      obtain ⟨aq, Az, cz, hAz, hcz, hCz⟩ := atL HCL.out i (by rw [HYL.out]; exact hin);obtain ⟨rfl⟩ : aL = aq := by cases hAz; rfl
      obtain ⟨Z, hZ⟩ : ∃ Z, Z = ys.getD i [] := ⟨_, rfl⟩
      rw [← hZ] at hcz hCz;have hZF := HF.out i hin;rw [← hZ] at hZF;have HE := Aside0.mk (show farE ys old y = Z.map fun k => (y.f1, k) by unfold farE; rw [if_neg ho, HYI.out, Int.toNat_natCast, ← hZ]);have hZl := hZF.len;have HZN := Aside0.mk hZF.nod;have HCZ := Aside0.mk hCz;have f2 := fun m => later (pw_below_drewN (Below.refl (wr.alloc (Obj.cells #[.int .i64 y.f0, .int .i64 y.f1, .int .i64 (i : Int)] 80)).heap.size _) m) ((blk_cell (blk_new wr (Obj.cells #[.int .i64 y.f0, .int .i64 y.f1, .int .i64 (i : Int)] 80)) 2).trans rfl)
      have f4 := fun o m => later (pw_below_drewN (below_alloc (Below.refl wr.heap.size wr) o) m) (later HB.out b5.out)
      have f5 := fun o m => later (pw_below_drewN (below_alloc (Below.refl wr.heap.size wr) o) m) (later HB.out hcz)
      have i0 : (0 : Int) ≤ (i : Int) := by omega
      have i1 : (i : Int) < (ys.length : Int) := by rw [HYL.out]; omega
      clear hcz hCz hZ hZF hAz ho;go_wp2_with fail
      go_quiet (fail)
      go_wp2
      have HX := Aside0.mk (blk_drewN (blk_new wr (Obj.cells #[.int .i64 y.f0, .int .i64 y.f1, .int .i64 (i : Int)] 80)) nq);have a0 := Aside0.mk (HG.out.on (pw_below_drewN (below_alloc (Below.refl wr.heap.size wr) (Obj.cells #[.int .i64 y.f0, .int .i64 y.f1, .int .i64 (i : Int)] 80)) nq));have a4 := Aside0.mk (pw_below_drewN (below_then HB.out HB.out.size (below_alloc (Below.refl wr.heap.size wr) (Obj.cells #[.int .i64 y.f0, .int .i64 y.f1, .int .i64 (i : Int)] 80))) nq);have hEM : wr.heap.size ≠ M := by obtain ⟨f, c, h1, _, _⟩ := HG.out; have := h1.lt_; omega
      obtain ⟨E, hE⟩ : ∃ E, E = wr.heap.size := ⟨_, rfl⟩
      rw [← hE] at HX hEM ⊢;have HEM := Aside0.mk hEM;generalize (wr.alloc (Obj.cells #[.int .i64 y.f0, .int .i64 y.f1, .int .i64 (i : Int)] 80)).drewN nq = w2 at HX a0 a4 ⊢;clear f2 f4 f5 HG HB hE hEM b2 b3;have a8 := Aside0.mk (show FarS w2 M ls.length n (K1 ++ (Z.take 0).map fun k => (y.f1, k)) from by rw [List.take_zero, List.map_nil, List.append_nil]; exact a0.out);go_loopw [52] (fun i' a7 => ∃ r : Nat, r ≤ Z.length ∧ i' = .int .i64 r ∧ Aside0 (a7.heap[E]? = some (.cells #[.int .i64 y.f0, .int .i64 y.f1, .int .i64 (i : Int)] 80 (0, 0))) ∧ Aside0 (FarS a7 M ls.length n (K1 ++ (Z.take r).map fun k => (y.f1, k))) ∧ Aside0 (Below w.heap.size w a7)) (fun i' _ => Z.length - (intOf i').toNat)
      case atStart => exact ⟨0, Nat.zero_le _, rfl, HX, a8, a4⟩
      case round =>
       clear HX a0 a8 a4;obtain ⟨r, hr, rfl, HX, HG, HB⟩ := hrel;by_cases hlt3 : r < Z.length
       ·obtain ⟨az, hAz, hz⟩ := atI HCZ.out r hlt3;subst hAz;replace hz := later HB.out hz;have b0 := Aside0.mk (show ((Z.take (r + 1)).map fun k => (y.f1, k)) = ((Z.take r).map fun k => (y.f1, k)) ++ [(y.f1, Z.getD r 0)] by rw [take_snocW (0 : Int) hlt3, List.map_append]; rfl);have hzn := HZN.out (Z.getD r 0) (by rw [List.getD_eq_getElem?_getD, List.getElem?_eq_getElem hlt3]; exact List.getElem_mem hlt3);obtain ⟨z, hz'⟩ : ∃ z, z = Z.getD r 0 := ⟨_, rfl⟩
        rw [← hz'] at hz hzn b0;have x1 : wr.cell? ⟨E, 1, none⟩ = some (.int .i64 y.f1) := bcz HX 1 rfl;obtain ⟨f, c, h1, h2, h3⟩ := HG.out;have hc := FarS.le h1 h2 h3;have hcm : ls.length * n ≤ 64 * 2048 := Nat.mul_le_mul hll (by omega);have H1 := Aside0.mk h1;have H2 := Aside0.mk (And.intro h2 h3);clear HG hz' h1 h2 h3
        go_wp2_with (
         refine wpList_gput _ prKB rfl _ _ _ 103 rfl 3 Try.underlying103 M c f rfl H1.out (by unfold maxLen; omega) (y.f1, z) (by unfold ptOk i64in; exact ⟨⟨by omega, by omega⟩, ⟨by omega, by omega⟩⟩) (.int .i64 1) rfl rfl ?_;intro w8 hgm hgg hsz;have b7 := Aside0.mk (blk_grown HX.out hgg (by intro e; cases e; exact HEM.out rfl))
         have b6 := Aside0.mk (show FarS w8 M ls.length n ((K1 ++ (Z.take r).map fun k => (y.f1, k)) ++ [(y.f1, z)]) from ⟨_, _, hgm, H2.out.1.put _ _, fun a ha => by
          rcases List.mem_append.1 ha with h | h
          ·exact H2.out.2 a h
          ·rw [List.mem_singleton] at h;subst h;exact allK_mem b8 hzn⟩)
         have b4 := Aside0.mk (HB.out.grown hgg HB.out.size fun q e => by cases e; rw [HMe.out]; exact Nat.le_refl _);clear hgm hgg hsz)
        go_roundw
        case rel => exact ⟨r + 1, by omega, by go_num, b7, ⟨by rw [b0.out, ← List.append_assoc]; exact b6.out⟩, b4⟩
        case measure => simp [intOf]; omega
       ·go_wp2
        go_roundw
        case rel =>
         refine ⟨q + 1, by omega, by go_num, ⟨?_⟩, HB⟩;rw [a9.out, HE.out];have hg := HG.out;rw [List.take_of_length_le (by omega)] at hg;exact hg
        case measure => simp [intOf]; omega
    ·go_wp2
     go_roundw
     case rel =>
      refine ⟨p + 1, by omega, by go_num, ⟨?_⟩, HB⟩;rw [HT.out, HFM.out, ← List.take_of_length_le (show O.length ≤ q by omega)];exact HG.out
     case measure => simp [intOf]; omega
  ·go_wp2
   go_ret
   rw [List.take_of_length_le (by omega)] at HG;obtain ⟨f, c, h1, h2, h3⟩ := HG.out;exact ⟨M, f, c, rfl, h1, FarS.le h1 h2 h3, h2, by rw [HMe.out]; exact Nat.le_refl _, HB.out⟩
theorem info28w : (Try.prog.info? 28).map (fun i => (i.zero, i.size, i.bytes)) = some (some (.slice none 0 0), 1, 24) := by kernel_rfl
theorem Tab.over {α : Type} {d : Kd α} {e T e' : Nat} {w w1 : World} {base g : Nat} {vs : List Value} {xss : List (List α)} (hE : d.E = []) (h : Tab d e T w base g vs xss) {u : Value} (hty : ∀ k, u.ownBlock = some k → ∃ cells, w.heap[k]? = some (.cells cells e' (0, 0))) (h1 : T ≠ e') (h2 : e ≠ e') (hg : w.grownBy w1 u.ownBlock) : Tab d e T w1 base g vs xss := by
 have hne : some g ≠ u.ownBlock := by
  intro q
  obtain ⟨cells, hc⟩ := hty g q.symm
  rw [h.blk] at hc
  cases hc
  exact h1 rfl
 exact ⟨h.len, (hg.block g h.lt hne).trans h.blk, fun i hi => Kd.R_over' (h.row i hi) hty (fun q hq => by rw [hE] at hq; rw [List.mem_singleton] at hq; rw [hq]; exact h2) hg, h.apart⟩
theorem Tab.farCell {α : Type} {d : Kd α} {e T : Nat} {w : World} {base g b j : Nat} {vs : List Value} {xss : List (List α)} {u : Value} (hE : d.E = []) (h : Tab d e T w base g vs xss) {cs : Array Value} {t : Nat} (hb : w.heap[b]? = some (.cells cs t (0, 0))) (h1 : T ≠ t) (h2 : e ≠ t) : Tab d e T (w.setCell ⟨b, j, none⟩ u) base g vs xss := by
 have hne : g ≠ b := by
  intro q
  subst q
  rw [h.blk] at hb
  cases hb
  exact h1 rfl
 refine ⟨h.len, (Below.heap_setCell _ _ _ _ hne).trans h.blk, fun i hi => ?_, h.apart⟩
 refine Kd.R_mono (Kd.R_far (Kd.R_far1 (h.row i hi) hE ?_) (fun k hk => hk.2) u) (fun _ _ => trivial)
 intro q
 exact absurd (Kd.R_ne (h.row i hi) hb h2) (by rw [q]; simp)
structure WeavSt (w wr : World) (b W H n : Nat) (v1 v2 : Value) (es : List Ed) (L : Value) (ys : List (List Int)) : Prop where
  box : BoxL wr b n v1 v2
  wb : wr.heap[W]? = some (.cells #[.int .i64 n, v1, v2, .slice (some ⟨H, 0, none⟩) n n, L] 129 (0, 0))
  tab : ∃ vs, Tab k80 80 23 wr w.heap.size H vs (outs n es)
  lead : Kd.R (Kd.slice 3 (Kd.int .i64)) 28 wr w.heap.size (fun _ => True) L ys
  below : Below w.heap.size w wr
  base : w.heap.size ≤ H ∧ w.heap.size ≤ W
section
variable {w wr wr' V : World} {b W H n : Nat} {v1 v2 L : Value} {es : List Ed} {ys : List (List Int)}
theorem WeavSt.on (h : WeavSt w wr b W H n v1 v2 es L ys) (hb : Below wr.heap.size wr wr') : WeavSt w wr' b W H n v1 v2 es L ys :=
 ⟨h.box.below hb, blk_below h.wb hb, by obtain ⟨vs, ht⟩ := h.tab; exact ⟨vs, ht.below hb⟩, Kd.R_below h.lead hb, below_then h.below h.below.size hb, h.base⟩
theorem WeavSt.c3 (h : WeavSt w wr b W H n v1 v2 es L ys) : wr.cell? ⟨W, 3, none⟩ = some (.slice (some ⟨H, 0, none⟩) n n) := (blk_cell h.wb 3).trans rfl
theorem WeavSt.c4 (h : WeavSt w wr b W H n v1 v2 es L ys) : wr.cell? ⟨W, 4, none⟩ = some L := (blk_cell h.wb 4).trans rfl
theorem WeavSt.web (h : WeavSt w wr b W H n v1 v2 es L ys) : WebR wr W H n es ys := by
 obtain ⟨A, c, hL, hc, hC⟩ := Kd.R_reads h.lead
 subst hL
 refine ⟨⟨v1, v2, A, c, h.wb, hC⟩, fun i hi => ?_⟩
 obtain ⟨vs, hT⟩ := h.tab
 obtain ⟨A, c, _, h1, h2⟩ := hT.read i (by rw [outs_length]; exact hi)
 rw [outs_at es hi] at h1 h2
 exact ⟨A, c, h1, h2⟩
theorem WeavSt.foot (h : WeavSt w wr b W H n v1 v2 es L ys) {W' : World} (hk : ∀ k, w.heap.size ≤ k → k < wr.heap.size → W'.heap[k]? = wr.heap[k]?) : WebR W' W H n es ys := by
 obtain ⟨vs, hT⟩ := h.tab
 have hwb := (hk W h.base.2 (blk_lt h.wb)).trans h.wb
 have hT' : Tab k80 80 23 W' w.heap.size H vs (outs n es) := ⟨hT.len, (hk H h.base.1 hT.lt).trans hT.blk, fun i hi => Kd.R_mono (Kd.R_move (Kd.R_bound (hT.row i hi)) fun k hk' => hk k hk'.2.1 hk'.2.2.1) fun _ _ => trivial, hT.apart⟩
 have hL' := Kd.R_mono (ok' := fun _ => True) (Kd.R_move (Kd.R_bound h.lead) fun k hk' => hk k hk'.2.1 hk'.2.2.1) fun _ _ => trivial
 obtain ⟨A, c, hL, hc, hC⟩ := Kd.R_reads hL'
 subst hL
 refine ⟨⟨v1, v2, A, c, hwb, hC⟩, fun i hi => ?_⟩
 obtain ⟨A, c, _, h1, h2⟩ := hT'.read i (by rw [outs_length]; exact hi)
 rw [outs_at es hi] at h1 h2
 exact ⟨A, c, h1, h2⟩
theorem WeavSt.put {w3 : World} {vs : List Value} (h : WeavSt w V b W H n v1 v2 es (.slice none 0 0) []) (hT : Tab k80 80 23 V w.heap.size H vs (outs n es)) {i : Nat} (hi : i < n) {x : Ed} (hx : x.f0 = (i : Int)) {u1 : Value}
  (ho : Kd.R k80 80 w3 w.heap.size (fun _ => True) u1 ((outs n es).getD i [] ++ [x])) (hb : Below w.heap.size w w3) (hg : V.grownBy w3 (vs.getD i nilS).ownBlock) (hat : u1.ownBlock = (vs.getD i nilS).ownBlock ∨ ∃ b, u1.ownBlock = some b ∧ V.heap.size ≤ b) :
  WeavSt w (w3.setCell ⟨H, i, none⟩ u1) b W H n v1 v2 (es ++ [x]) (.slice none 0 0) [] := by
 have hlen := outs_length n es
 have hrow := hT.row i (by rw [hT.len, hlen]; exact hi)
 have cellsNe : ∀ {g t : Nat} {cs : Array Value}, V.heap[g]? = some (.cells cs t (0, 0)) → t ≠ 80 → t ≠ 23 → (w3.setCell ⟨H, i, none⟩ u1).heap[g]? = some (.cells cs t (0, 0)) := by
  intro g t cs hgb h1 h2
  have hne : some g ≠ (vs.getD i nilS).ownBlock := Kd.R_ne hrow hgb (Ne.symm h1)
  have hgH : g ≠ H := by
   intro e
   subst e
   rw [hT.blk] at hgb
   cases hgb
   exact h2 rfl
  rw [Below.heap_setCell _ _ _ _ hgH]
  exact (hg.block g (Array.getElem?_eq_some_iff.1 hgb).1 hne).trans hgb
 refine ⟨cellsNe h.box (by decide) (by decide), cellsNe h.wb (by decide) (by decide), ⟨_, by rw [← outs_snoc es x hi hx]; exact hT.put rfl (by decide) i (by rw [hlen]; exact hi) ho hg hat⟩, Kd.R_nil _ _ _ _ _, below_set hb h.base.1, h.base⟩
theorem WeavSt.more {w3 : World} (h : WeavSt w V b W H n v1 v2 es L ys) {L' : Value} {y : List Int} (ho : Kd.R (Kd.slice 3 (Kd.int .i64)) 28 w3 w.heap.size (fun _ => True) L' (ys ++ [y])) (hb : Below w.heap.size w w3) (hg : V.grownBy w3 L.ownBlock) : WeavSt w (w3.setCell ⟨W, 4, none⟩ L') b W H n v1 v2 es L' (ys ++ [y]) := by
 have hty := Kd.R_typed h.lead
 have cellsNe : ∀ {g t : Nat} {cs : Array Value}, V.heap[g]? = some (.cells cs t (0, 0)) → t ≠ 28 → w3.heap[g]? = some (.cells cs t (0, 0)) := by
  intro g t cs hgb h1
  exact (hg.block g (Array.getElem?_eq_some_iff.1 hgb).1 (Kd.R_ne h.lead hgb (Ne.symm h1))).trans hgb
 have hwb := cellsNe h.wb (by decide)
 have hbox := cellsNe h.box (by decide)
 obtain ⟨vs, hT⟩ := h.tab
 have hT3 := hT.over rfl hty (by decide) (by decide) hg
 refine ⟨(Below.heap_setCell _ _ _ _ (blk_ne hbox hwb (by decide))).trans hbox, by simpa using blk_set hwb 4 L', ⟨vs, hT3.farCell rfl hwb (by decide) (by decide)⟩, ?_, below_set hb h.base.2, h.base⟩
 refine Kd.R_mono (Kd.R_move (Kd.R_bound ho) (fun k hk => Below.heap_setCell _ _ _ _ ?_)) fun _ _ => trivial
 intro e
 obtain ⟨_, _, _, q, hq, cells, hc⟩ := hk
 have e : k = W := e
 subst e
 rw [hwb] at hc
 cases hc
 revert hq
 decide
end
def Agree (w0 w1 W' : World) : Prop := ∀ k, w0.heap.size ≤ k → k < w1.heap.size → W'.heap[k]? = w1.heap[k]?
structure WebX (w0 w1 : World) (W H n : Nat) (es : List Ed) (ys : List (List Int)) (g cL : Nat) : Prop where
  all : ∀ W', Agree w0 w1 W' → WebR W' W H n es ys ∧ W'.cell? ⟨W, 4, none⟩ = some (.slice (some ⟨g, 0, none⟩) ys.length cL)
  rg : w0.heap.size ≤ g ∧ g < w1.heap.size
theorem WebX.row {w0 w1 : World} {W H n g cL : Nat} {es : List Ed} {ys : List (List Int)} (h : WebX w0 w1 W H n es ys g cL) {i : Nat} (hi : i < ys.length) : ∃ A c, ∀ W', Agree w0 w1 W' → W'.cell? ⟨g, i, none⟩ = some (.slice A (ys.getD i []).length c) ∧ Kd.C (Kd.int .i64) W' A (ys.getD i []).length (ys.getD i []) := by
 have get : ∀ W', Agree w0 w1 W' → ∃ A c, W'.cell? ⟨g, i, none⟩ = some (.slice A (ys.getD i []).length c) ∧ Kd.C (Kd.int .i64) W' A (ys.getD i []).length (ys.getD i []) := by
  intro W' ha
  obtain ⟨h1, h2⟩ := h.all W' ha
  obtain ⟨L, cL', h3, h4⟩ := h1.c4
  rw [h2] at h3
  cases h3
  obtain ⟨ad, A, c, e, h5, h6⟩ := atL h4 i hi
  cases e
  have e2 : (⟨g, 0, none⟩ : Addr).add i = ⟨g, i, none⟩ := by unfold Addr.add; by_cases q : i = 0 <;> simp [q]
  rw [e2] at h5
  exact ⟨A, c, h5, h6⟩
 obtain ⟨A, c, h1, h2⟩ := get w1 fun _ _ _ => rfl
 refine ⟨A, c, fun W' ha => ?_⟩
 obtain ⟨A', c', h3, h4⟩ := get W' ha
 have hg := ha g h.rg.1 h.rg.2
 have hc : W'.cell? ⟨g, i, none⟩ = w1.cell? ⟨g, i, none⟩ := by unfold World.cell?; simp only [hg]
 rw [h3, h1] at hc
 cases hc
 exact ⟨h3, h4⟩
set_option maxHeartbeats 16000000 in
set_option maxRecDepth 100000 in
theorem weave_any (n : Nat) (ls : List ByteArray) (es : List Ed) (old : Int) (A1 A2 : Option Addr) (c1 c2 : Nat) (w : World) (hr1 : Kd.C Kd.string w A1 ls.length ls) (hr2 : Kd.C k80 w A2 es.length es) (hm : mayR n ls es = true) :
  Calls Try.prog 110 #[.agg #[.int .i64 n, .slice A1 ls.length c1, .slice A2 es.length c2], .int .i64 old] w fun e w' => ∃ W H ys g cL, e = .returned (.pointer (some ⟨W, 0, none⟩)) ∧ WebX w w' W H n es ys g cL ∧ ys.length = n ∧ (∀ i : Nat, i < n → FromL n es old i (ys.getD i [])) ∧ Below w.heap.size w w' := by
 have HB := Aside0.mk (Below.refl w.heap.size w);have b7 := Aside0.mk hr2;have HM := Aside0.mk hm;have hn := lt_n hm;have hel := lt_len hm;have hmk := print_make_of (P := Try.prog) 86 23 (.slice none 0 0) 24 Try.underlying86 (by kernel_rfl) rfl (by omega) n (by omega);clear hr1 hr2 hm;go_enter Try.func110, Try.ntmps110
 go_wp2_with fail
 obtain ⟨b, hb⟩ : ∃ b, b = w.heap.size := ⟨_, rfl⟩
 have hX := blk_new w (Obj.cells #[Value.int IntKind.i64 n, .slice A1 ls.length c1, .slice A2 es.length c2] 25);rw [← hb] at hX ⊢;have b0 := (blk_cell hX 0).trans rfl;have b1 := (blk_cell hX 1).trans rfl;have b2 := (blk_cell hX 2).trans rfl;have HX := Aside0.mk hX;have a3 := Aside0.mk (below_drew1 (below_alloc (Below.refl w.heap.size w) (Obj.cells #[Value.int IntKind.i64 n, .slice A1 ls.length c1, .slice A2 es.length c2] 25)));have a4 := Aside0.mk (blk_drew hX);have Hb := Aside0.mk hb;clear hX hb;refine start_ (n := 7) (S := fun w' => w'.cell? ⟨b, 0, none⟩ = some (.int .i64 (n : Int)) ∧ w'.cell? ⟨b, 1, none⟩ = some (.slice A1 ls.length c1) ∧ w'.cell? ⟨b, 2, none⟩ = some (.slice A2 es.length c2)) (ds := []) (bqz 7 0) (by kernel_rfl) rfl rfl ⟨b0, b1, b2⟩ (fun hHeld => ?_);generalize (w.alloc (Obj.cells #[Value.int IntKind.i64 n, .slice A1 ls.length c1, .slice A2 es.length c2] 25)).drew = V at a3 a4 hHeld ⊢;clear b0 b1 b2 HX;refine pqz 1 (some 10) (bqz 7 2) rfl rfl (by kernel_rfl) ?_ ?_ (fun _ _ _ h => h) (by rfl) ?_ ?_ ?_;rotate_left 2;intro w';go_simp;(with_reducible rfl);simp only [Act.put, qz1, qz2, qz3, i64_w, i32_w];rfl
 refine tqz 0 (some 9) (bqz 7 3) rfl rfl (by kernel_rfl) ?_ ?_ (fun _ _ _ h => h) (by rfl) ?_ hHeld ?_ ?_;rotate_left 2;rintro w' ⟨s0, s1, s2⟩;go_simp;(with_reducible rfl);simp only [Act.put, qz1, qz2, qz3, i64_w, i32_w];rfl
 refine tqz 2 (some 11) (bqz 7 7) rfl rfl (by kernel_rfl) ?_ ?_ (fun _ _ _ h => h) (by rfl) ?_ hHeld ?_ ?_;rotate_left 2;rintro w' ⟨s0, s1, s2⟩;go_simp;(with_reducible rfl);simp only [Act.put, qz1, qz2, qz3, i64_w, i32_w];rfl
 refine one_ (i := 3) (N := some 12) (bqz 7 15) rfl rfl (by kernel_rfl) (by decide) (fun K hK => ?_);refine value_ (w1 := ?_) (v := ?_) (by rfl) rfl ?_ ?_;rotate_left 2
 ·go_simp;constructor
  ·rfl
  ·rfl
 refine hK.out _ _ ⟨later (below_alloc (Below.refl _ _) _) hHeld.1, later (below_alloc (Below.refl _ _) _) hHeld.2.1, later (below_alloc (Below.refl _ _) _) hHeld.2.2⟩ (fun hHeld => ?_);clear hK K;refine norm_ (a' := ?_) ?_ ?_;rotate_left
 ·show Act.put _ (some 12) _ = _;simp only [Act.put, qz1, qz2, qz3, i64_w, i32_w];rfl
 refine pqz 4 (some 13) (bqz 7 31) rfl rfl (by kernel_rfl) ?_ ?_ (fun _ _ _ h => h) (by rfl) ?_ ?_ ?_;rotate_left 2;intro w';go_simp;(with_reducible rfl);simp only [Act.put, qz1, qz2, qz3, i64_w, i32_w];rfl
 refine one_ (i := 5) (N := some 14) (bqz 7 63) rfl rfl (by kernel_rfl) (by decide) (fun K hK => ?_);refine value_ (w1 := ?_) (v := ?_) (by rfl) rfl ?_ ?_;rotate_left 2
 ·go_simp;constructor
  ·rfl
  ·rfl
 refine hK.out _ _ ⟨later (below_alloc (Below.refl _ _) _) hHeld.1, later (below_alloc (Below.refl _ _) _) hHeld.2.1, later (below_alloc (Below.refl _ _) _) hHeld.2.2⟩ (fun hHeld => ?_);clear hK K;refine norm_ (a' := ?_) ?_ ?_;rotate_left
 ·show Act.put _ (some 14) _ = _;simp only [Act.put, qz1, qz2, qz3, i64_w, i32_w];rfl
 refine pqz 6 (some 5) (bqz 7 127) rfl rfl (by kernel_rfl) ?_ ?_ (fun _ _ _ h => h) (by rfl) ?_ ?_ ?_;rotate_left 2;intro w';go_simp;(with_reducible rfl);simp only [Act.put, qz1, qz2, qz3, i64_w, i32_w];rfl
 refine done_ (by kernel_rfl) ?_;obtain ⟨H, hH⟩ : ∃ H, H = V.heap.size := ⟨_, rfl⟩
 have hst : WeavSt w ((V.alloc (Obj.cells (madeCells #[Value.slice none 0 0] n) 23)).alloc (Obj.cells #[Value.int IntKind.i64 n, .slice A1 ls.length c1, .slice A2 es.length c2, .slice (some ⟨V.heap.size, 0, none⟩) n n, .slice none 0 0] 129)) b (H + 1) H n (.slice A1 ls.length c1) (.slice A2 es.length c2) [] (.slice none 0 0) [] := by
  subst hH;refine ⟨?_, ?_, ⟨List.replicate n nilS, ?_⟩, Kd.R_nil _ _ _ _ _, by repeat (first | exact a3.out | apply below_alloc), by have := a3.out.size; omega⟩
  ·exact blk_below a4.out (below_alloc (below_alloc (Below.refl _ _) _) _)
  ·have := blk_new (V.alloc (Obj.cells (madeCells #[Value.slice none 0 0] n) 23)) (Obj.cells #[Value.int IntKind.i64 n, .slice A1 ls.length c1, .slice A2 es.length c2, .slice (some ⟨V.heap.size, 0, none⟩) n n, .slice none 0 0] 129);simpa using this
  ·have h0 := Tab.start (d := k80) (e := 80) (base := w.heap.size) n (blk_new V (Obj.cells (madeCells #[nilS] n) 23));have h1 := h0.below (below_alloc (Below.refl _ _) (Obj.cells #[Value.int IntKind.i64 n, .slice A1 ls.length c1, .slice A2 es.length c2, .slice (some ⟨V.heap.size, 0, none⟩) n n, .slice none 0 0] 129))
   have e1 : outs n [] = List.replicate n [] := by
    apply List.ext_getElem
    ·simp [outs]
    ·intro i h1 h2; simp [outs]
   rw [e1];exact h1
 rw [← hH] at hst ⊢;have HST := Aside0.mk hst;clear hst a4 hH a3;generalize ((V.alloc (Obj.cells (madeCells #[Value.slice none 0 0] n) 23)).alloc (Obj.cells #[Value.int IntKind.i64 n, .slice A1 ls.length c1, .slice A2 es.length c2, .slice (some ⟨H, 0, none⟩) n n, .slice none 0 0] 129)) = w2 at HST hHeld ⊢;have x0 := HST.out.box.c0;have x2 := HST.out.box.c2;clear hHeld hmk;go_wp2
 clear x0 x2;go_loopw [18] (fun i wr => ∃ k : Nat, k ≤ es.length ∧ i = .int .i64 k ∧ Aside0 (WeavSt w wr b (H + 1) H n (.slice A1 ls.length c1) (.slice A2 es.length c2) (es.take k) (.slice none 0 0) [])) (fun i _ => es.length - (intOf i).toNat)
 case atStart => exact ⟨0, Nat.zero_le _, rfl, HST⟩
 case round =>
  obtain ⟨k, hk, rfl, HS⟩ := hrel;clear HST;by_cases hlt : k < es.length
  ·obtain ⟨ad, hA, g0, g1, g2⟩ := atE b7.out k hlt;subst hA;replace g0 := later HS.out.below g0;replace g1 := later HS.out.below g1;replace g2 := later HS.out.below g2;have hin := es_at HM.out hlt;obtain ⟨x, hx⟩ : ∃ x, x = es.getD k z80 := ⟨_, rfl⟩
   rw [← hx] at g0 g1 g2 hin;have hx' := Aside0.mk hx; clear hx
   obtain ⟨i, hi⟩ : ∃ i : Nat, x.f0 = (i : Int) := ⟨x.f0.toNat, by omega⟩
   have i0 : (0 : Int) ≤ (i : Int) := by omega
   have i1 : (i : Int) < (n : Int) := by omega
   have i2 : i < n := by omega
   rw [hi] at g0;go_wp2_with fail
   obtain ⟨E, hE⟩ : ∃ E, E = wr.heap.size := ⟨_, rfl⟩
   obtain ⟨vs, hTab⟩ := HS.out.tab;have hlen := outs_length n (es.take k);obtain ⟨Ar, cr, hv, hcell, _⟩ := hTab.read i (by rw [hlen]; exact i2);have a6 := fun b (hb : (vs.getD i nilS).ownBlock = some b) => Kd.R_lt (hTab.row i (by rw [hTab.len, hlen]; exact i2)) b hb
   have hnE : some E ≠ (vs.getD i nilS).ownBlock := fun h => absurd (a6 E h.symm) (by rw [hE]; exact Nat.lt_irrefl _)
   obtain ⟨zs, hzs⟩ : ∃ zs, zs = (outs n (es.take k)).getD i [] := ⟨_, rfl⟩
   have hzl : zs.length ≤ 1000000 := by
    rw [hzs, outs_at _ i2];exact Nat.le_trans (List.length_filter_le _ _) (by rw [List.length_take]; omega)
   rw [← hzs] at hv hcell;rw [← hE];have e0 := (blk_cell (blk_new wr (Obj.cells #[Value.int IntKind.i64 (i : Int), Value.int IntKind.i64 x.f1, Value.int IntKind.i64 x.f2] 80)) 0).trans rfl;have e1 := (blk_cell (blk_new wr (Obj.cells #[Value.int IntKind.i64 (i : Int), Value.int IntKind.i64 x.f1, Value.int IntKind.i64 x.f2] 80)) 1).trans rfl;have e2 := (blk_cell (blk_new wr (Obj.cells #[Value.int IntKind.i64 (i : Int), Value.int IntKind.i64 x.f1, Value.int IntKind.i64 x.f2] 80)) 2).trans rfl;rw [← hE] at e0 e1 e2;have HS1 := Aside0.mk (HS.out.on (below_drew1 (below_alloc (Below.refl _ _) (Obj.cells #[Value.int IntKind.i64 (i : Int), Value.int IntKind.i64 x.f1, Value.int IntKind.i64 x.f2] 80))));have a0 := Aside0.mk (hTab.below (below_drew1 (below_alloc (Below.refl _ _) (Obj.cells #[Value.int IntKind.i64 (i : Int), Value.int IntKind.i64 x.f1, Value.int IntKind.i64 x.f2] 80))));have a2 := a0.out.cell i (by rw [hlen]; exact i2);rw [hv] at a2;have HF := Aside0.mk hi;have HN := Aside0.mk hnE;have HZ := Aside0.mk hzs;have HV := Aside0.mk hv;clear hTab hcell a6 hnE hE hi hzs hv hin;generalize (wr.alloc (Obj.cells #[Value.int IntKind.i64 (i : Int), Value.int IntKind.i64 x.f1, Value.int IntKind.i64 x.f2] 80)) = W at HS1 a0 a2 e0 e1 e2 ⊢;refine start_ (n := 19) (S := fun w' => w'.cell? ⟨H + 1, 3, none⟩ = some (.slice (some ⟨H, 0, none⟩) n n) ∧ w'.cell? ⟨E, 0, none⟩ = some (.int .i64 (i : Int)) ∧ w'.cell? ⟨E, 1, none⟩ = some (.int .i64 x.f1) ∧ w'.cell? ⟨E, 2, none⟩ = some (.int .i64 x.f2) ∧ w'.cell? ⟨H, i, none⟩ = some (.slice Ar zs.length cr)) (ds := [18]) (bqz 19 0) (by kernel_rfl) rfl rfl ⟨HS1.out.c3, e0, e1, e2, a2⟩ (fun hHeld => ?_);generalize W.drew = V at HS1 a0 hHeld a2 ⊢; clear e0 e1 e2 a2; have a1 := Aside0.mk hHeld
   refine pqz 0 (some 22) (bqz 19 1) rfl rfl (by kernel_rfl) ?_ ?_ (fun _ _ _ h => h) (by rfl) ?_ ?_ ?_;rotate_left 2;intro w';go_simp;(with_reducible rfl);simp only [Act.put, qz1, qz2, qz3, i64_w, i32_w];rfl
   refine pqz 1 (some 23) (bqz 19 3) rfl rfl (by kernel_rfl) ?_ ?_ (fun _ _ _ h => h) (by rfl) ?_ ?_ ?_;rotate_left 2;intro w';go_simp;(with_reducible rfl);simp only [Act.put, qz1, qz2, qz3, i64_w, i32_w];rfl
   refine pqz 2 (some 24) (bqz 19 7) rfl rfl (by kernel_rfl) ?_ ?_ (fun _ _ _ h => h) (by rfl) ?_ ?_ ?_;rotate_left 2;intro w';go_simp;(with_reducible rfl);simp only [Act.put, qz1, qz2, qz3, i64_w, i32_w];rfl
   refine pqz 4 (some 26) (bqz 19 23) rfl rfl (by kernel_rfl) ?_ ?_ (fun _ _ _ h => h) (by rfl) ?_ ?_ ?_;rotate_left 2;intro w';go_simp;(with_reducible rfl);simp only [Act.put, qz1, qz2, qz3, i64_w, i32_w];rfl
   refine pqz 6 (some 28) (bqz 19 87) rfl rfl (by kernel_rfl) ?_ ?_ (fun _ _ _ h => h) (by rfl) ?_ ?_ ?_;rotate_left 2;intro w';go_simp;(with_reducible rfl);simp only [Act.put, qz1, qz2, qz3, i64_w, i32_w];rfl
   refine pqz 7 (some 29) (bqz 19 215) rfl rfl (by kernel_rfl) ?_ ?_ (fun _ _ _ h => h) (by rfl) ?_ ?_ ?_;rotate_left 2;intro w';go_simp;(with_reducible rfl);simp only [Act.put, qz1, qz2, qz3, i64_w, i32_w];rfl
   refine pqz 8 (some 30) (bqz 19 471) rfl rfl (by kernel_rfl) ?_ ?_ (fun _ _ _ h => h) (by rfl) ?_ ?_ ?_;rotate_left 2;intro w';go_simp;(with_reducible rfl);simp only [Act.put, qz1, qz2, qz3, i64_w, i32_w];rfl
   refine pqz 10 (some 32) (bqz 19 1495) rfl rfl (by kernel_rfl) ?_ ?_ (fun _ _ _ h => h) (by rfl) ?_ ?_ ?_;rotate_left 2;intro w';go_simp;(with_reducible rfl);simp only [Act.put, qz1, qz2, qz3, i64_w, i32_w];rfl
   refine tqz 3 (some 25) (bqz 19 1503) rfl rfl (by kernel_rfl) ?_ ?_ (fun _ _ _ h => h) (by rfl) ?_ hHeld ?_ ?_;rotate_left 2;rintro w' ⟨s0, s1, s2, s3, s4⟩;go_simp;(with_reducible rfl);simp only [Act.put, qz1, qz2, qz3, i64_w, i32_w];rfl
   refine tqz 5 (some 27) (bqz 19 1535) rfl rfl (by kernel_rfl) ?_ ?_ (fun _ _ _ h => h) (by rfl) ?_ hHeld ?_ ?_;rotate_left 2;rintro w' ⟨s0, s1, s2, s3, s4⟩;go_simp;(with_reducible rfl);simp only [Act.put, qz1, qz2, qz3, i64_w, i32_w];rfl
   refine tqz 9 (some 31) (bqz 19 2047) rfl rfl (by kernel_rfl) ?_ ?_ (fun _ _ _ h => h) (by rfl) ?_ hHeld ?_ ?_;rotate_left 2;rintro w' ⟨s0, s1, s2, s3, s4⟩;go_simp;(with_reducible rfl);simp only [Act.put, qz1, qz2, qz3, i64_w, i32_w];rfl
   refine tqz 11 (some 33) (bqz 19 4095) rfl rfl (by kernel_rfl) ?_ ?_ (fun _ _ _ h => h) (by rfl) ?_ hHeld ?_ ?_;rotate_left 2;rintro w' ⟨s0, s1, s2, s3, s4⟩;go_simp;(with_reducible rfl);simp only [Act.put, qz1, qz2, qz3, i64_w, i32_w];rfl
   refine pqz 12 (some 34) (bqz 19 8191) rfl rfl (by kernel_rfl) ?_ ?_ (fun _ _ _ h => h) (by rfl) ?_ ?_ ?_;rotate_left 2;intro w';go_simp;(with_reducible rfl);simp only [Act.put, qz1, qz2, qz3, i64_w, i32_w];rfl
   refine tqz 13 (some 35) (bqz 19 16383) rfl rfl (by kernel_rfl) ?_ ?_ (fun _ _ _ h => h) (by rfl) ?_ hHeld ?_ ?_;rotate_left 2;rintro w' ⟨s0, s1, s2, s3, s4⟩;go_simp;(with_reducible rfl);simp only [Act.put, qz1, qz2, qz3, i64_w, i32_w];rfl
   refine tqz 14 (some 36) (bqz 19 32767) rfl rfl (by kernel_rfl) ?_ ?_ (fun _ _ _ h => h) (by rfl) ?_ hHeld ?_ ?_;rotate_left 2;rintro w' ⟨s0, s1, s2, s3, s4⟩;go_simp;(with_reducible rfl);simp only [Act.put, qz1, qz2, qz3, i64_w, i32_w];rfl
   refine one_ (i := 15) (N := some 37) (bqz 19 65535) rfl rfl (by kernel_rfl) (by decide) (fun K hK => ?_);refine value_ (w1 := ?_) (v := ?_) (by rfl) rfl ?_ ?_;rotate_left 2
   ·go_simp;constructor
    ·rfl
    ·rfl
   refine hK.out _ _ ⟨later (below_alloc (Below.refl _ _) _) hHeld.1, later (below_alloc (Below.refl _ _) _) hHeld.2.1, later (below_alloc (Below.refl _ _) _) hHeld.2.2.1, later (below_alloc (Below.refl _ _) _) hHeld.2.2.2.1, later (below_alloc (Below.refl _ _) _) hHeld.2.2.2.2⟩ (fun hHeld => ?_);clear hK K;refine norm_ (a' := ?_) ?_ ?_;rotate_left
   ·show Act.put _ (some 37) _ = _;simp only [Act.put, qz1, qz2, qz3, i64_w, i32_w];rfl
   refine one_ (i := 16) (N := some 38) (bqz 19 131071) rfl rfl (by kernel_rfl) (by decide) (fun K hK => ?_);refine Kd.R_append_step k80 (w0 := w) w.heap.size (by rfl) (.tmp 35) (.tmp 37) 23 80 (.agg #[(.int .i64 0), (.int .i64 0), (.int .i64 0)]) 24 rfl Try.underlying23 info80 rfl (by decide) (by omega) (.slice Ar zs.length cr) zs x [.int .i64 (i : Int), .int .i64 x.f1, .int .i64 x.f2] (fun _ => True) (fun _ => False) rfl rfl ?aP (fun _ hk => hk.elim) ?aF ?aO ?aB ?aS ?aL ?_
   (case aP => rw [← HF.out]; exact k80_mkM _ _ _ x)
   (case aF => exact fun _ _ => trivial)
   (case aO => rw [← HV.out, HZ.out]; exact a0.out.row i (by rw [a0.out.len, hlen]; exact i2))
   (case aB => exact HS1.out.below)
   (case aS => exact HS1.out.below.size)
   (case aL => omega)
   intro v1 w3 ho hb hg hat;obtain ⟨A4, c4, a8⟩ := Kd.R_slice ho;subst a8;have HO := Aside0.mk ho;have HG := Aside0.mk hg;have HAt := Aside0.mk hat;have HBw := Aside0.mk hb;have hneT : some (H + 1) ≠ (Value.slice Ar zs.length cr).ownBlock := by rw [← HV.out]; exact Kd.R_ne (a0.out.row i (by rw [a0.out.len, hlen]; exact i2)) HS1.out.wb (by decide)
   have hneH : some H ≠ (Value.slice Ar zs.length cr).ownBlock := by rw [← HV.out]; exact Kd.R_ne (a0.out.row i (by rw [a0.out.len, hlen]; exact i2)) a0.out.blk (by decide)
   have hneE : some E ≠ (Value.slice Ar zs.length cr).ownBlock := by rw [← HV.out]; exact HN.out
   have fz := Tab.frozen a0.out i hg hneH;rw [List.length_append, List.length_singleton];clear ho hb hg hat;refine hK.out _ _ ⟨Go.Proofs.YtmcbkmfpmcbdpaaW.PrintWords.cell_grown HG.out a1.out.1 hneT, Go.Proofs.YtmcbkmfpmcbdpaaW.PrintWords.cell_grown HG.out a1.out.2.1 hneE, Go.Proofs.YtmcbkmfpmcbdpaaW.PrintWords.cell_grown HG.out a1.out.2.2.1 hneE, Go.Proofs.YtmcbkmfpmcbdpaaW.PrintWords.cell_grown HG.out a1.out.2.2.2.1 hneE, Go.Proofs.YtmcbkmfpmcbdpaaW.PrintWords.cell_grown HG.out a1.out.2.2.2.2 hneH⟩ (fun hHeld => ?_);clear hK K;refine norm_ (a' := ?_) ?_ ?_;rotate_left
   ·show Act.put _ (some 38) _ = _;simp only [Act.put, qz1, qz2, qz3, i64_w, i32_w];rfl
   refine pqz 17 (some 39) (bqz 19 262143) rfl rfl (by kernel_rfl) ?_ ?_ (fun _ _ _ h => h) (by rfl) ?_ ?_ ?_;rotate_left 2;intro w';go_simp;(with_reducible rfl);simp only [Act.put, qz1, qz2, qz3, i64_w, i32_w];rfl
   refine last_ (i := 18) (N := none) (bqz 19 524287) rfl rfl (by kernel_rfl) (by decide) (fun K hK => ?_);refine skip_ (w1 := ?_) (by rfl) rfl ?_ ?_;rotate_left
   ·go_simp;rfl
   refine hK.out _ _ ?_;clear hK K;refine done_ (by kernel_rfl) ?_;go_wp2
   go_roundw
   case rel =>
    refine ⟨k + 1, by omega, by go_num, ⟨?_⟩⟩;have e1 : es.take (k + 1) = es.take k ++ [x] := by rw [hx'.out]; exact take_snoc z80 hlt
    rw [e1];refine HS1.out.put a0.out i2 HF.out ?_ HBw.out ?_ ?_
    ·rw [← HZ.out]; simpa using HO.out
    ·rw [HV.out]; exact HG.out
    ·rw [HV.out]; simpa using HAt.out
   case measure => simp [intOf]; omega
  ·have ek : es.take k = es := List.take_of_length_le (by omega);rw [ek] at HS;clear ek;have x0 := HS.out.box.c0;go_wp2
   clear hk hlt x0;go_loopw [43] (fun i wr => ∃ (k : Nat) (L : Value) (ys : List (List Int)), k ≤ n ∧ i = .int .i64 k ∧ Aside0 (ys.length = k) ∧ Aside0 (∀ j : Nat, j < k → FromL n es old j (ys.getD j [])) ∧ Aside0 (WeavSt w wr b (H + 1) H n (.slice A1 ls.length c1) (.slice A2 es.length c2) es L ys)) (fun i _ => n - (intOf i).toNat)
   case atStart => exact ⟨0, _, [], Nat.zero_le _, rfl, ⟨rfl⟩, ⟨fun j hj => by omega⟩, HS⟩
   case round =>
    clear HS;obtain ⟨k, L, ys, hk, rfl, HY, HF, HS⟩ := hrel;by_cases hlt : k < n
    ·go_wp2_with fail
     have HS1 := Aside0.mk (HS.out.on (below_drew1 (Below.refl wr.heap.size wr)));have a5 := HS1.out.c4;refine start_ (n := 14) (S := fun w' => w'.cell? ⟨H + 1, 4, none⟩ = some L) (ds := [13]) (bqz 14 0) (by kernel_rfl) rfl rfl (a5) (fun hHeld => ?_);generalize wr.drew = V at HS1 hHeld a5 ⊢; clear a5
     refine pqz 0 (some 46) (bqz 14 1) rfl rfl (by kernel_rfl) ?_ ?_ (fun _ _ _ h => h) (by rfl) ?_ ?_ ?_;rotate_left 2;intro w';go_simp;(with_reducible rfl);simp only [Act.put, qz1, qz2, qz3, i64_w, i32_w];rfl
     refine pqz 1 (some 47) (bqz 14 3) rfl rfl (by kernel_rfl) ?_ ?_ (fun _ _ _ h => h) (by rfl) ?_ ?_ ?_;rotate_left 2;intro w';go_simp;(with_reducible rfl);simp only [Act.put, qz1, qz2, qz3, i64_w, i32_w];rfl
     refine pqz 2 (some 48) (bqz 14 7) rfl rfl (by kernel_rfl) ?_ ?_ (fun _ _ _ h => h) (by rfl) ?_ ?_ ?_;rotate_left 2;intro w';go_simp;(with_reducible rfl);simp only [Act.put, qz1, qz2, qz3, i64_w, i32_w];rfl
     refine pqz 3 (some 49) (bqz 14 15) rfl rfl (by kernel_rfl) ?_ ?_ (fun _ _ _ h => h) (by rfl) ?_ ?_ ?_;rotate_left 2;intro w';go_simp;(with_reducible rfl);simp only [Act.put, qz1, qz2, qz3, i64_w, i32_w];rfl
     refine pqz 5 (some 51) (bqz 14 47) rfl rfl (by kernel_rfl) ?_ ?_ (fun _ _ _ h => h) (by rfl) ?_ ?_ ?_;rotate_left 2;intro w';go_simp;(with_reducible rfl);simp only [Act.put, qz1, qz2, qz3, i64_w, i32_w];rfl
     refine pqz 6 (some 52) (bqz 14 111) rfl rfl (by kernel_rfl) ?_ ?_ (fun _ _ _ h => h) (by rfl) ?_ ?_ ?_;rotate_left 2;intro w';go_simp;(with_reducible rfl);simp only [Act.put, qz1, qz2, qz3, i64_w, i32_w];rfl
     refine pqz 7 (some 53) (bqz 14 239) rfl rfl (by kernel_rfl) ?_ ?_ (fun _ _ _ h => h) (by rfl) ?_ ?_ ?_;rotate_left 2;intro w';go_simp;(with_reducible rfl);simp only [Act.put, qz1, qz2, qz3, i64_w, i32_w];rfl
     refine tqz 4 (some 50) (bqz 14 255) rfl rfl (by kernel_rfl) ?_ ?_ (fun _ _ _ h => h) (by rfl) ?_ hHeld ?_ ?_;rotate_left 2;intro w' s0;go_simp;(with_reducible rfl);simp only [Act.put, qz1, qz2, qz3, i64_w, i32_w];rfl
     refine one_ (i := 8) (N := some 54) (bqz 14 511) rfl rfl (by kernel_rfl) (by decide) (fun K hK => ?_);refine goes_ Try.func144 (by kernel_rfl) rfl #[.pointer (some ⟨H + 1, 0, none⟩), .int .i64 (k : Int), .int .i64 old] (by rfl) rfl rfl (by simp only [List.map_toArray, List.map_cons, List.map_nil]; rfl) ?_;refine (wfrom_any n ls es old (H + 1) H k ys _ HS1.out.web HM.out hlt).mono ?_;rintro e w3 ⟨v0, Y, rfl, hR, hF, b3⟩;obtain ⟨Av, cv, d0⟩ := Kd.R_slice hR;subst d0;refine ⟨_, rfl, ?_⟩;have b8 := Aside0.mk hR;have b5 := Aside0.mk hF;have HS3 := Aside0.mk (HS1.out.on b3);have b9 := Aside0.mk (fun q hq => Kd.R_lt HS1.out.lead q hq);clear hR hF b3;refine hK.out _ _ (HS3.out.c4) (fun hHeld => ?_);clear hK K;refine norm_ (a' := ?_) ?_ ?_;rotate_left
     ·show Act.put _ (some 54) _ = _;simp only [Act.put, qz1, qz2, qz3, i64_w, i32_w];rfl
     refine one_ (i := 9) (N := some 55) (bqz 14 1023) rfl rfl (by kernel_rfl) (by decide) (fun K hK => ?_);refine value_ (w1 := ?_) (v := ?_) (by rfl) rfl ?_ ?_;rotate_left 2
     ·go_simp;constructor
      ·rfl
      ·rfl
     refine hK.out _ _ (later (below_alloc (Below.refl _ _) _) hHeld) (fun hHeld => ?_);clear hK K;refine norm_ (a' := ?_) ?_ ?_;rotate_left
     ·show Act.put _ (some 55) _ = _;simp only [Act.put, qz1, qz2, qz3, i64_w, i32_w];rfl
     refine one_ (i := 10) (N := some 56) (bqz 14 2047) rfl rfl (by kernel_rfl) (by decide) (fun K hK => ?_);refine Kd.R_append_step (Kd.slice 3 (Kd.int .i64)) (w0 := w) w.heap.size (by rfl) (.tmp 50) (.tmp 55) 40 28 (.slice none 0 0) 24 rfl Try.underlying40 info28w rfl (by decide) (by omega) L ys Y [.slice Av Y.length cv] (fun _ => True) (fun q => V.heap.size ≤ q) rfl rfl ?aP ?aK ?aF ?aO ?aB ?aS ?aL ?_
     (case aP => exact ⟨_, rfl, Kd.R_lower (Kd.R_mono (Kd.R_bound b8.out) (fun q hq => hq.2.1)) HS1.out.below.size⟩)
     (case aK => exact fun q hq => ⟨trivial, fun e => absurd (b9.out q e.symm) (Nat.not_lt.2 hq)⟩)
     (case aF => exact fun _ _ => trivial)
     (case aO => exact HS3.out.lead)
     (case aB => exact HS3.out.below)
     (case aS => exact HS3.out.below.size)
     (case aL => rw [HY.out]; omega)
     intro v9 w9 ho hb hg hat;obtain ⟨A4, c4, a8⟩ := Kd.R_slice ho;subst a8;have b6 := Aside0.mk ho;have a9 := Aside0.mk hg;have b4 := Aside0.mk hb;have hneW : some (H + 1) ≠ L.ownBlock := Kd.R_ne HS3.out.lead HS3.out.wb (by decide);have fz : w9.frozen? ⟨H + 1, 4, none⟩ = false := Go.Proofs.YtmcbkmfpmcbdpaaW.PrintWords.blk_frozen (blk_grown HS3.out.wb hg hneW) 4;clear ho hb hg hat;refine hK.out _ _ (Go.Proofs.YtmcbkmfpmcbdpaaW.PrintWords.cell_grown a9.out HS3.out.c4 hneW) (fun hHeld => ?_);clear hK K;refine norm_ (a' := ?_) ?_ ?_;rotate_left
     ·show Act.put _ (some 56) _ = _;simp only [Act.put, qz1, qz2, qz3, i64_w, i32_w];rfl
     refine pqz 11 (some 57) (bqz 14 4095) rfl rfl (by kernel_rfl) ?_ ?_ (fun _ _ _ h => h) (by rfl) ?_ ?_ ?_;rotate_left 2;intro w';go_simp;(with_reducible rfl);simp only [Act.put, qz1, qz2, qz3, i64_w, i32_w];rfl
     refine pqz 12 (some 58) (bqz 14 8191) rfl rfl (by kernel_rfl) ?_ ?_ (fun _ _ _ h => h) (by rfl) ?_ ?_ ?_;rotate_left 2;intro w';go_simp;(with_reducible rfl);simp only [Act.put, qz1, qz2, qz3, i64_w, i32_w];rfl
     refine last_ (i := 13) (N := none) (bqz 14 16383) rfl rfl (by kernel_rfl) (by decide) (fun K hK => ?_);refine skip_ (w1 := ?_) (by rfl) rfl ?_ ?_;rotate_left
     ·go_simp;rfl
     refine hK.out _ _ ?_;clear hK K;refine done_ (by kernel_rfl) ?_;go_wp2
     go_roundw
     case rel =>
      refine ⟨k + 1, _, ys ++ [Y], by omega, by go_num, ⟨by rw [List.length_append, HY.out]; rfl⟩, ⟨fun j hj => ?_⟩, ⟨HS3.out.more (by simpa using b6.out) b4.out a9.out⟩⟩;have hy := HY.out;rcases Nat.lt_succ_iff_lt_or_eq.1 hj with h | rfl
      ·rw [List.getD_eq_getElem?_getD, List.getElem?_append_left (by omega), ← List.getD_eq_getElem?_getD];exact HF.out j h
      ·rw [List.getD_eq_getElem?_getD, List.getElem?_append_right (by omega), hy, Nat.sub_self];exact b5.out
     case measure => simp [intOf]; omega
    ·go_wp2
     go_ret
     have hyn : 0 < ys.length := by rw [HY.out]; omega
     obtain ⟨g, cT, a7, _⟩ := Kd.R_form HS.out.lead hyn;have hg := Kd.R_lt HS.out.lead g (by rw [a7]; rfl);have hgb := Kd.R_base HS.out.lead g (by rw [a7]; rfl);exact ⟨H + 1, H, ys, g, cT, rfl, ⟨fun W' hk' => ⟨HS.out.foot hk', by rw [← a7]; exact (blk_cell ((hk' (H + 1) HS.out.base.2 (blk_lt HS.out.wb)).trans HS.out.wb) 4).trans rfl⟩, hgb, hg⟩, by rw [HY.out]; omega, fun i hi => HF.out i (by omega), HS.out.below⟩
end Go.Proofs.Ytmcbkmfpmcbdpaa.H
namespace Go.Proofs.Ytmcbkmfpmcbdpaa.Pr
open Go.RowKit Go.Proofs.YtmcbkmfpmcbdpaaW.PrintWords Go.Proofs.YtmcbkmfpmcbdpaaW.PrintLast Go.Proofs.YtmcbkmfpmcbdpaaW.PrintMore
attribute [local go_sem] max2_int min2_int max_two min_two max_three min_three max_four min_four
set_option linter.unusedVariables false
set_option linter.unusedSimpArgs false
structure S25 where
  f0 : Int
  f1 : (List ByteArray)
  f2 : (List S80)
def z25 : S25 := ⟨(0 : Int), ([] : List ByteArray), ([] : List S80)⟩
end Go.Proofs.Ytmcbkmfpmcbdpaa.Pr
namespace Go.Proofs.Ytmcbkmfpmcbdpaa.H
open Go.RowKit Go.Proofs.Ytmcbkmfpmcbdpaa.Pr Go.Proofs.YtmcbkmfpmcbdpaaW.PrintWords Go.Proofs.Ytmcbkmfpmcbdpaa.Sem
theorem Ev.pos {α : Type} {c : Prop} [Decidable c] {a b : Nat → Option α} {r : α} (h : c) (e : Ev a r) : Ev (fun k => if c then a k else b k) r := by
 simp only [if_pos h]
 exact e
theorem Ev.neg {α : Type} {c : Prop} [Decidable c] {a b : Nat → Option α} {r : α} (h : ¬ c) (e : Ev b r) : Ev (fun k => if c then a k else b k) r := by
 simp only [if_neg h]
 exact e
theorem Ev.some_ {α : Type} {a : Nat → Option α} {r : α} (h : ∀ k, a k = some r) : Ev a r := ⟨0, fun k _ => h k⟩
theorem Ev.bindS {α β : Type} {g : Option α} {f : Nat → α → Option β} {a : α} {r : β} (h : g = some a) (k : Ev (fun n => f n a) r) : Ev (fun n => g.bind (f n)) r := by
 subst h
 simpa using k
theorem Ev.last {α : Type} {g : Nat → Option α} {r : α} (h : Ev g r) : Ev (fun n => (g n).bind fun t => some t) r := by
 obtain ⟨K, h⟩ := h
 exact ⟨K, fun k hk => by simp [h k hk]⟩
theorem w1 {i : Int} (h0 : 0 ≤ i) (h1 : i < 4611686018427387904) : wrap64 (i + 1) = i + 1 := by unfold wrap64; omega
theorem w1n {k : Nat} (h1 : (k : Int) < 4611686018427387904) : wrap64 ((k : Int) + 1) = ((k + 1 : Nat) : Int) := by unfold wrap64; omega
theorem wid {i : Int} (h0 : -4611686018427387904 ≤ i) (h1 : i < 4611686018427387904) : wrap64 i = i := by unfold wrap64; omega
end Go.Proofs.Ytmcbkmfpmcbdpaa.H
namespace Go.Proofs.Ytmcbkmfpmcbdpaa.Pr
open Go.RowKit Go.Proofs.YtmcbkmfpmcbdpaaW.PrintWords Go.Proofs.YtmcbkmfpmcbdpaaW.PrintLast Go.Proofs.YtmcbkmfpmcbdpaaW.PrintMore
attribute [local go_sem] max2_int min2_int max_two min_two max_three min_three max_four min_four
set_option linter.unusedVariables false
set_option linter.unusedSimpArgs false
def Pxa.l0 : Nat → List ByteArray → ByteArray → Int → Int → Option (Int)
 | 0, _, _, _, _ => none
 | k + 1, x0, x1, x7, x8 => if x8 < x7 then (if 0 ≤ x8 then (if x8 < (x0.length : Int) then (if x1.toList = (rdOf ByteArray.empty x0 x8).toList then (some x8) else (Pxa.l0 k x0 x1 x7 (wrap64 (x8 + 1)))) else (none)) else (none)) else (some (-1))
def Pxa.f (k : Nat) (l0 : List ByteArray) (a1 : ByteArray) : Option (Int) := Pxa.l0 k l0 a1 (l0.length : Int) 0
theorem Pxa.mono_l : ∀ k, (∀ y0 y1 y2 y3, LeO (Pxa.l0 k y0 y1 y2 y3) (Pxa.l0 (k + 1) y0 y1 y2 y3))
 | 0 => fun _ _ _ _ r h => by simp [Pxa.l0] at h
 | k + 1 => by
  have ih0 := Pxa.mono_l k
  ·intro y0 y1 y2 y3
   unfold Pxa.l0
   repeat' first
   | (with_reducible exact ih0 _ _ _ _)
   | (with_reducible exact LeO.refl _)
   | (with_reducible exact LeO.none _)
   | (with_reducible refine LeO.ite ?_ ?_)
   | (with_reducible refine LeO.bind ?_ (fun _ => ?_))
   | exact ih0 _ _ _ _
   | exact LeO.none _
   | refine LeO.ite ?_ ?_
   | refine LeO.bind ?_ (fun _ => ?_)
theorem Pxa.mono : ∀ a0 a1 k, LeO (Pxa.f k a0 a1) (Pxa.f (k + 1) a0 a1) := by
 intro a0 a1 k
 have ih0 := Pxa.mono_l k
 unfold Pxa.f
 repeat' first
   | (with_reducible exact ih0 _ _ _ _)
   | (with_reducible exact LeO.refl _)
   | (with_reducible exact LeO.none _)
   | (with_reducible refine LeO.ite ?_ ?_)
   | (with_reducible refine LeO.bind ?_ (fun _ => ?_))
   | exact ih0 _ _ _ _
   | exact LeO.none _
   | refine LeO.ite ?_ ?_
   | refine LeO.bind ?_ (fun _ => ?_)
set_option maxHeartbeats 8000000 in
set_option maxRecDepth 100000 in
theorem Pxa.calls (k : Nat) (A0 : Option Addr) (c0 : Nat) (l0 : List ByteArray) (a1 : ByteArray) (r : Int) (w : World) (hr0 : Kd.C Kd.string w A0 l0.length l0) (hc0 : l0.length ≤ c0) (h : Pxa.f k l0 a1 = some r) :
  Calls Try.prog 130 #[.slice A0 l0.length c0, .string a1] w fun e w' => e = .returned (.int .i64 r) ∧ Drawn0 w w' := by
 have HR0 := Aside0.mk hr0;have HC0 := Aside0.mk hc0;clear hr0 hc0;have H : (Pxa.l0 k l0 a1 (l0.length : Int) 0) = some r := h;clear h;have H' := Aside0.mk H;clear H;go_enter Try.func130, Try.ntmps130
 go_wp2
 go_loopg [8] k (fun kq v8 w' => ∃ (x8_1 : Int), v8 = .int .i64 x8_1 ∧ Aside0 (Pxa.l0 kq l0 a1 (l0.length : Int) x8_1 = some r) ∧ Aside0 (kq ≤ k) ∧ Drawn0 w w')
 case atStart => exact ⟨(0), (by first | rfl | (simp; done) | (simp [*]; done)), H', ⟨Nat.le_refl _⟩, by repeat (first | exact Drawn0.refl _ | apply Drawn0.step)⟩
 case round =>
  clear H';obtain ⟨x8_1, rfl, HA, HK1, ⟨m1, rfl⟩⟩ := hrel
  cases gk with
  | zero => exact absurd HA.out (by simp [Pxa.l0])
  | succ k1 =>
   have H := HA.out;clear HA;simp only [Pxa.l0] at H;by_cases c3 : x8_1 < (l0.length : Int)
   ·rw [if_pos c3] at H;have c3b0 : decide (x8_1 < (l0.length : Int)) = true := decide_eq_true c3;clear c3;by_cases c4 : 0 ≤ x8_1
    ·rw [if_pos c4] at H;have c4b0 : decide (0 ≤ x8_1) = true := decide_eq_true c4;clear c4;by_cases c5 : x8_1 < (l0.length : Int)
     ·rw [if_pos c5] at H;have c5b0 : decide (x8_1 < (l0.length : Int)) = true := decide_eq_true c5;clear c5;by_cases c6 : a1.toList = (rdOf ByteArray.empty l0 x8_1).toList
      ·rw [if_pos c6] at H;have c6b0 : (a1.toList == (rdOf ByteArray.empty l0 x8_1).toList) = true := beq_iff_eq.mpr c6;have c6b1 : (a1.toList != (rdOf ByteArray.empty l0 x8_1).toList) = false := bne_eq_false_iff_eq.mpr c6;clear c6;obtain rfl := Option.some.inj H;have p101 : 0 ≤ (x8_1 : Int) := of_decide_eq_true (by first | (with_reducible assumption) | assumption);have q101 : x8_1 < (l0.length : Int) := of_decide_eq_true (by first | (with_reducible assumption) | assumption);obtain ⟨ad101, e101, hx101_0⟩ := Kd.at_string HR0.out x8_1 p101 q101
       cases e101;replace p101 := eq_true p101;replace q101 := eq_true q101;go_wp2
       go_ret
       exact ⟨by first | rfl | (simp; done) | (simp [*]; done), by repeat (first | exact Drawn0.refl _ | apply Drawn0.step)⟩
      ·rw [if_neg c6] at H;have c6b0 : (a1.toList == (rdOf ByteArray.empty l0 x8_1).toList) = false := beq_eq_false_iff_ne.mpr c6;have c6b1 : (a1.toList != (rdOf ByteArray.empty l0 x8_1).toList) = true := bne_iff_ne.mpr c6;have H' := Aside0.mk H;clear H;have p101 : 0 ≤ (x8_1 : Int) := of_decide_eq_true (by first | (with_reducible assumption) | assumption);have q101 : x8_1 < (l0.length : Int) := of_decide_eq_true (by first | (with_reducible assumption) | assumption);obtain ⟨ad101, e101, hx101_0⟩ := Kd.at_string HR0.out x8_1 p101 q101
       cases e101;replace p101 := eq_true p101;replace q101 := eq_true q101;go_wp2
       go_roundg k1
       case measure => have := HK1.out; omega
       case rel => exact ⟨(wrap64 (x8_1 + 1)), (by first | rfl | (simp; done) | (simp [*]; done)), H', ⟨by have := HK1.out; omega⟩, by repeat (first | exact Drawn0.refl _ | apply Drawn0.step)⟩
     ·rw [if_neg c5] at H;exact absurd H (by simp)
    ·rw [if_neg c4] at H;exact absurd H (by simp)
   ·rw [if_neg c3] at H;have c3b0 : decide (x8_1 < (l0.length : Int)) = false := decide_eq_false c3;clear c3;obtain rfl := Option.some.inj H;go_wp2
    go_ret
    exact ⟨by first | rfl | (simp; done) | (simp [*]; done), by repeat (first | exact Drawn0.refl _ | apply Drawn0.step)⟩
def Pxc.f (k : Nat) (l0 : List ByteArray) (a1 : ByteArray) : Option (Int) := (Pxa.f k l0 a1).bind fun t102 => (some t102)
theorem Pxc.mono : ∀ a0 a1 k, LeO (Pxc.f k a0 a1) (Pxc.f (k + 1) a0 a1) := by
 intro a0 a1 k
 unfold Pxc.f
 repeat' first
   | (with_reducible exact Pxa.mono _ _ _)
   | (with_reducible exact LeO.refl _)
   | (with_reducible exact LeO.none _)
   | (with_reducible refine LeO.ite ?_ ?_)
   | (with_reducible refine LeO.bind ?_ (fun _ => ?_))
   | exact Pxa.mono _ _ _
   | exact LeO.none _
   | refine LeO.ite ?_ ?_
   | refine LeO.bind ?_ (fun _ => ?_)
set_option maxHeartbeats 8000000 in
set_option maxRecDepth 100000 in
theorem Pxc.calls (k : Nat) (A0 : Option Addr) (c0 : Nat) (l0 : List ByteArray) (a1 : ByteArray) (r : Int) (w : World) (hr0 : Kd.C Kd.string w A0 l0.length l0) (hc0 : l0.length ≤ c0) (h : Pxc.f k l0 a1 = some r) :
  Calls Try.prog 97 #[.slice A0 l0.length c0, .string a1] w fun e w' => e = .returned (.int .i64 r) ∧ Drawn0 w w' := by
 have HR0 := Aside0.mk hr0;have HC0 := Aside0.mk hc0;clear hr0 hc0;have H : ((Pxa.f k l0 a1).bind fun t102 => (some t102)) = some r := h;clear h;replace H := Option.bind_eq_some_iff.mp H;obtain ⟨t102, A30, H⟩ := H;replace H : (some t102) = some r := H;have A3 := Aside0.mk A30;clear A30;obtain rfl := Option.some.inj H;go_enter Try.func97, Try.ntmps97
 go_wp2_with (first | ((with_reducible refine gate_callee (f := 130) rfl ?_); refine goesL_ (some 7) rfl rfl Try.func130 (by kernel_rfl) rfl #[.slice A0 l0.length c0, .string a1] rfl (by (try simp only [List.map_toArray, List.map_cons, List.map_nil]); first | done | rfl | (simp only [List.length_drop, List.length_take]; rfl)) ?_; (with_reducible refine (Pxa.calls k _ _ l0 a1 t102 _ ?side1 ?side2 A3.out).mono ?_); (case side1 => repeat (first | exact HR0.out | (with_reducible refine Kd.C_alloc ?_ _) | (with_reducible refine Kd.C_drewN ?_ _) | (with_reducible refine Kd.C_drew ?_))); (case side2 => exact HC0.out); rintro e w' ⟨rfl, ⟨nd, rfl⟩⟩; refine ⟨_, rfl, ?_⟩))
 go_ret
 exact ⟨by first | rfl | (simp; done) | (simp [*]; done), by repeat (first | exact Drawn0.refl _ | apply Drawn0.step)⟩
def Pr02a.l0 : Nat → List ByteArray → ByteArray → Int → Option (Int)
 | 0, _, _, _ => none
 | k + 1, x0, x1, x5 => if x5 < (x0.length : Int) then (if 0 ≤ x5 then (if (rdOf ByteArray.empty x0 x5).toList = x1.toList then (some x5) else (Pr02a.l0 k x0 x1 (wrap64 (x5 + 1)))) else (none)) else (some (-1))
def Pr02a.f (k : Nat) (l0 : List ByteArray) (a1 : ByteArray) : Option (Int) := Pr02a.l0 k l0 a1 0
theorem Pr02a.mono_l : ∀ k, (∀ y0 y1 y2, LeO (Pr02a.l0 k y0 y1 y2) (Pr02a.l0 (k + 1) y0 y1 y2))
 | 0 => fun _ _ _ r h => by simp [Pr02a.l0] at h
 | k + 1 => by
  have ih0 := Pr02a.mono_l k
  ·intro y0 y1 y2
   unfold Pr02a.l0
   repeat' first
   | (with_reducible exact ih0 _ _ _)
   | (with_reducible exact LeO.refl _)
   | (with_reducible exact LeO.none _)
   | (with_reducible refine LeO.ite ?_ ?_)
   | (with_reducible refine LeO.bind ?_ (fun _ => ?_))
   | exact ih0 _ _ _
   | exact LeO.none _
   | refine LeO.ite ?_ ?_
   | refine LeO.bind ?_ (fun _ => ?_)
theorem Pr02a.mono : ∀ a0 a1 k, LeO (Pr02a.f k a0 a1) (Pr02a.f (k + 1) a0 a1) := by
 intro a0 a1 k
 have ih0 := Pr02a.mono_l k
 unfold Pr02a.f
 repeat' first
   | (with_reducible exact ih0 _ _ _)
   | (with_reducible exact LeO.refl _)
   | (with_reducible exact LeO.none _)
   | (with_reducible refine LeO.ite ?_ ?_)
   | (with_reducible refine LeO.bind ?_ (fun _ => ?_))
   | exact ih0 _ _ _
   | exact LeO.none _
   | refine LeO.ite ?_ ?_
   | refine LeO.bind ?_ (fun _ => ?_)
set_option maxHeartbeats 8000000 in
set_option maxRecDepth 100000 in
theorem Pr02a.calls (k : Nat) (A0 : Option Addr) (c0 : Nat) (l0 : List ByteArray) (a1 : ByteArray) (r : Int) (w : World) (hr0 : Kd.C Kd.string w A0 l0.length l0) (hc0 : l0.length ≤ c0) (h : Pr02a.f k l0 a1 = some r) :
  Calls Try.prog 99 #[.slice A0 l0.length c0, .string a1] w fun e w' => e = .returned (.int .i64 r) ∧ Drawn0 w w' := by
 have HR0 := Aside0.mk hr0;have HC0 := Aside0.mk hc0;clear hr0 hc0;have H : (Pr02a.l0 k l0 a1 0) = some r := h;clear h;have H' := Aside0.mk H;clear H;go_enter Try.func99, Try.ntmps99
 go_wp2
 go_loopg [5] k (fun kq v5 w' => ∃ (x5_1 : Int), v5 = .int .i64 x5_1 ∧ Aside0 (Pr02a.l0 kq l0 a1 x5_1 = some r) ∧ Aside0 (kq ≤ k) ∧ Drawn0 w w')
 case atStart => exact ⟨(0), (by first | rfl | (simp; done) | (simp [*]; done)), H', ⟨Nat.le_refl _⟩, by repeat (first | exact Drawn0.refl _ | apply Drawn0.step)⟩
 case round =>
  clear H';obtain ⟨x5_1, rfl, HA, HK1, ⟨m1, rfl⟩⟩ := hrel
  cases gk with
  | zero => exact absurd HA.out (by simp [Pr02a.l0])
  | succ k1 =>
   have H := HA.out;clear HA;simp only [Pr02a.l0] at H;by_cases c3 : x5_1 < (l0.length : Int)
   ·rw [if_pos c3] at H;have c3b0 : decide (x5_1 < (l0.length : Int)) = true := decide_eq_true c3;clear c3;by_cases c4 : 0 ≤ x5_1
    ·rw [if_pos c4] at H;have c4b0 : decide (0 ≤ x5_1) = true := decide_eq_true c4;clear c4;by_cases c5 : (rdOf ByteArray.empty l0 x5_1).toList = a1.toList
     ·rw [if_pos c5] at H;have c5b0 : ((rdOf ByteArray.empty l0 x5_1).toList == a1.toList) = true := beq_iff_eq.mpr c5;have c5b1 : ((rdOf ByteArray.empty l0 x5_1).toList != a1.toList) = false := bne_eq_false_iff_eq.mpr c5;clear c5;obtain rfl := Option.some.inj H;have p103 : 0 ≤ (x5_1 : Int) := of_decide_eq_true (by first | (with_reducible assumption) | assumption);have q103 : x5_1 < (l0.length : Int) := of_decide_eq_true (by first | (with_reducible assumption) | assumption);obtain ⟨ad103, e103, hx103_0⟩ := Kd.at_string HR0.out x5_1 p103 q103
      cases e103;replace p103 := eq_true p103;replace q103 := eq_true q103;go_wp2
      go_ret
      exact ⟨by first | rfl | (simp; done) | (simp [*]; done), by repeat (first | exact Drawn0.refl _ | apply Drawn0.step)⟩
     ·rw [if_neg c5] at H;have c5b0 : ((rdOf ByteArray.empty l0 x5_1).toList == a1.toList) = false := beq_eq_false_iff_ne.mpr c5;have c5b1 : ((rdOf ByteArray.empty l0 x5_1).toList != a1.toList) = true := bne_iff_ne.mpr c5;have H' := Aside0.mk H;clear H;have p103 : 0 ≤ (x5_1 : Int) := of_decide_eq_true (by first | (with_reducible assumption) | assumption);have q103 : x5_1 < (l0.length : Int) := of_decide_eq_true (by first | (with_reducible assumption) | assumption);obtain ⟨ad103, e103, hx103_0⟩ := Kd.at_string HR0.out x5_1 p103 q103
      cases e103;replace p103 := eq_true p103;replace q103 := eq_true q103;go_wp2
      go_roundg k1
      case measure => have := HK1.out; omega
      case rel => exact ⟨(wrap64 (x5_1 + 1)), (by first | rfl | (simp; done) | (simp [*]; done)), H', ⟨by have := HK1.out; omega⟩, by repeat (first | exact Drawn0.refl _ | apply Drawn0.step)⟩
    ·rw [if_neg c4] at H;exact absurd H (by simp)
   ·rw [if_neg c3] at H;have c3b0 : decide (x5_1 < (l0.length : Int)) = false := decide_eq_false c3;clear c3;obtain rfl := Option.some.inj H;go_wp2
    go_ret
    exact ⟨by first | rfl | (simp; done) | (simp [*]; done), by repeat (first | exact Drawn0.refl _ | apply Drawn0.step)⟩
mutual
def Pr02b.l0 : Nat → List ByteArray → List ByteArray → List ByteArray → Int → Option (List ByteArray)
 | 0, _, _, _, _ => none
 | k + 1, x0, x1, x5, x6 => if x6 < (wrap64 ((x0.length : Int) + (x1.length : Int))) then (if x6 < (x0.length : Int) then (if 0 ≤ x6 then (Pr02b.j1 k x0 x1 x5 x6 (rdOf ByteArray.empty x0 x6)) else (none)) else (if 0 ≤ (wrap64 (x6 - (x0.length : Int))) then (if (wrap64 (x6 - (x0.length : Int))) < (x1.length : Int) then (Pr02b.j1 k x0 x1 x5 x6 (rdOf ByteArray.empty x1 (wrap64 (x6 - (x0.length : Int))))) else (none)) else (none))) else (some x5)
def Pr02b.j1 : Nat → List ByteArray → List ByteArray → List ByteArray → Int → ByteArray → Option (List ByteArray)
 | 0, _, _, _, _, _ => none
 | k + 1, x0, x1, x5, x6, x7 => (Pr02a.f k x5 x7).bind fun t109 => (if t109 ≥ 0 then (Pr02b.l0 k x0 x1 x5 (wrap64 (x6 + 1))) else (Pr02b.l1 k x0 x1 x5 x6 x7 0))
def Pr02b.l1 : Nat → List ByteArray → List ByteArray → List ByteArray → Int → ByteArray → Int → Option (List ByteArray)
 | 0, _, _, _, _, _, _ => none
 | k + 1, x0, x1, x5, x6, x7, x8 => if x8 < (x5.length : Int) then (if 0 ≤ x8 then (if (Op.bytesLess ((rdOf ByteArray.empty x5 x8).toList) x7.toList) = true then (Pr02b.l1 k x0 x1 x5 x6 x7 (wrap64 (x8 + 1))) else ((some (([] : List ByteArray) : List ByteArray)).bind fun y111 => (if x8 ≤ (x5.length : Int) then ((some (x5.drop (x8 : Int).toNat : List ByteArray)).bind fun y114 => (if y111.length + y114.length < 8796093022208 then ((some (y111 ++ y114 : List ByteArray)).bind fun y118 => ((some (([] : List ByteArray) : List ByteArray)).bind fun y121 => ((some (x5.take (x8 : Int).toNat : List ByteArray)).bind fun y124 => (if y121.length + y124.length < 8796093022208 then ((some (y121 ++ y124 : List ByteArray)).bind fun y128 => (if y128.length < 8796093022208 then ((some (y128 ++ [x7] : List ByteArray)).bind fun y131 => (if y131.length + y118.length < 8796093022208 then (Pr02b.l0 k x0 x1 (y131 ++ y118) (wrap64 (x6 + 1))) else (none))) else (none))) else (none))))) else (none))) else (none)))) else (none)) else ((some (([] : List ByteArray) : List ByteArray)).bind fun y137 => (if 0 ≤ x8 then (if x8 ≤ (x5.length : Int) then ((some (x5.drop (x8 : Int).toNat : List ByteArray)).bind fun y140 => (if y137.length + y140.length < 8796093022208 then ((some (y137 ++ y140 : List ByteArray)).bind fun y144 => ((some (([] : List ByteArray) : List ByteArray)).bind fun y147 => ((some (x5.take (x8 : Int).toNat : List ByteArray)).bind fun y150 => (if y147.length + y150.length < 8796093022208 then ((some (y147 ++ y150 : List ByteArray)).bind fun y154 => (if y154.length < 8796093022208 then ((some (y154 ++ [x7] : List ByteArray)).bind fun y157 => (if y157.length + y144.length < 8796093022208 then (Pr02b.l0 k x0 x1 (y157 ++ y144) (wrap64 (x6 + 1))) else (none))) else (none))) else (none))))) else (none))) else (none)) else (none)))
end
def Pr02b.f (k : Nat) (l0 : List ByteArray) (l1 : List ByteArray) : Option (List ByteArray) := Pr02b.l0 k l0 l1 (([] : List ByteArray)) 0
theorem Pr02b.mono_l : ∀ k, (∀ y0 y1 y2 y3, LeO (Pr02b.l0 k y0 y1 y2 y3) (Pr02b.l0 (k + 1) y0 y1 y2 y3)) ∧ (∀ y0 y1 y2 y3 y4, LeO (Pr02b.j1 k y0 y1 y2 y3 y4) (Pr02b.j1 (k + 1) y0 y1 y2 y3 y4)) ∧ (∀ y0 y1 y2 y3 y4 y5, LeO (Pr02b.l1 k y0 y1 y2 y3 y4 y5) (Pr02b.l1 (k + 1) y0 y1 y2 y3 y4 y5))
 | 0 => ⟨fun _ _ _ _ r h => by simp [Pr02b.l0] at h, fun _ _ _ _ _ r h => by simp [Pr02b.j1] at h, fun _ _ _ _ _ _ r h => by simp [Pr02b.l1] at h⟩
 | k + 1 => by
  obtain ⟨ih0, ih1, ih2⟩ := Pr02b.mono_l k
  refine ⟨?_, ?_, ?_⟩
  ·intro y0 y1 y2 y3
   unfold Pr02b.l0
   repeat' first
   | (with_reducible exact ih0 _ _ _ _)
   | (with_reducible exact ih1 _ _ _ _ _)
   | (with_reducible exact ih2 _ _ _ _ _ _)
   | (with_reducible exact Pr02a.mono _ _ _)
   | (with_reducible exact LeO.refl _)
   | (with_reducible exact LeO.none _)
   | (with_reducible refine LeO.ite ?_ ?_)
   | (with_reducible refine LeO.bind ?_ (fun _ => ?_))
   | exact ih0 _ _ _ _
   | exact ih1 _ _ _ _ _
   | exact ih2 _ _ _ _ _ _
   | exact Pr02a.mono _ _ _
   | exact LeO.none _
   | refine LeO.ite ?_ ?_
   | refine LeO.bind ?_ (fun _ => ?_)
  ·intro y0 y1 y2 y3 y4
   unfold Pr02b.j1
   repeat' first
   | (with_reducible exact ih0 _ _ _ _)
   | (with_reducible exact ih1 _ _ _ _ _)
   | (with_reducible exact ih2 _ _ _ _ _ _)
   | (with_reducible exact Pr02a.mono _ _ _)
   | (with_reducible exact LeO.refl _)
   | (with_reducible exact LeO.none _)
   | (with_reducible refine LeO.ite ?_ ?_)
   | (with_reducible refine LeO.bind ?_ (fun _ => ?_))
   | exact ih0 _ _ _ _
   | exact ih1 _ _ _ _ _
   | exact ih2 _ _ _ _ _ _
   | exact Pr02a.mono _ _ _
   | exact LeO.none _
   | refine LeO.ite ?_ ?_
   | refine LeO.bind ?_ (fun _ => ?_)
  ·intro y0 y1 y2 y3 y4 y5
   unfold Pr02b.l1
   repeat' first
   | (with_reducible exact ih0 _ _ _ _)
   | (with_reducible exact ih1 _ _ _ _ _)
   | (with_reducible exact ih2 _ _ _ _ _ _)
   | (with_reducible exact Pr02a.mono _ _ _)
   | (with_reducible exact LeO.refl _)
   | (with_reducible exact LeO.none _)
   | (with_reducible refine LeO.ite ?_ ?_)
   | (with_reducible refine LeO.bind ?_ (fun _ => ?_))
   | exact ih0 _ _ _ _
   | exact ih1 _ _ _ _ _
   | exact ih2 _ _ _ _ _ _
   | exact Pr02a.mono _ _ _
   | exact LeO.none _
   | refine LeO.ite ?_ ?_
   | refine LeO.bind ?_ (fun _ => ?_)
theorem Pr02b.mono : ∀ a0 a1 k, LeO (Pr02b.f k a0 a1) (Pr02b.f (k + 1) a0 a1) := by
 intro a0 a1 k
 obtain ⟨ih0, ih1, ih2⟩ := Pr02b.mono_l k
 unfold Pr02b.f
 repeat' first
   | (with_reducible exact ih0 _ _ _ _)
   | (with_reducible exact ih1 _ _ _ _ _)
   | (with_reducible exact ih2 _ _ _ _ _ _)
   | (with_reducible exact Pr02a.mono _ _ _)
   | (with_reducible exact LeO.refl _)
   | (with_reducible exact LeO.none _)
   | (with_reducible refine LeO.ite ?_ ?_)
   | (with_reducible refine LeO.bind ?_ (fun _ => ?_))
   | exact ih0 _ _ _ _
   | exact ih1 _ _ _ _ _
   | exact ih2 _ _ _ _ _ _
   | exact Pr02a.mono _ _ _
   | exact LeO.none _
   | refine LeO.ite ?_ ?_
   | refine LeO.bind ?_ (fun _ => ?_)
set_option maxHeartbeats 8000000 in
set_option maxRecDepth 100000 in
theorem Pr02b.calls (k : Nat) (A0 : Option Addr) (c0 : Nat) (l0 : List ByteArray) (A1 : Option Addr) (c1 : Nat) (l1 : List ByteArray) (r : List ByteArray) (w : World) (hr0 : Kd.C Kd.string w A0 l0.length l0) (hc0 : l0.length ≤ c0) (hr1 : Kd.C Kd.string w A1 l1.length l1) (hc1 : l1.length ≤ c1) (h : Pr02b.f k l0 l1 = some r) :
  Calls Try.prog 101 #[.slice A0 l0.length c0, .slice A1 l1.length c1] w fun e w' => ∃ v0_ : Value, e = .returned (v0_) ∧ Kd.R Kd.string 9 w' w.heap.size (fun _ => True) v0_ r ∧ Below w.heap.size w w' := by
 have x5 := Aside0.mk hr0;have z8 := Aside0.mk hc0;clear hr0 hc0;have x6 := Aside0.mk hr1;have z9 := Aside0.mk hc1;clear hr1 hc1;have HB := Aside0.mk (Below.refl w.heap.size w);have H : (Pr02b.l0 k l0 l1 (([] : List ByteArray)) 0) = some r := h;clear h;obtain ⟨r3, f9⟩ : ∃ y_ : List ByteArray, y_ = (([] : List ByteArray)) := ⟨_, rfl⟩
 replace H : (Pr02b.l0 k l0 l1 r3 0) = some r := by first | (rw [f9]; with_reducible exact H) | (have a3 := (Option.bind_some _ _).symm.trans H; rw [f9]; with_reducible exact a3) | (have a3 := (Option.bind_some _ _).symm.trans H; with_reducible exact a3) | with_reducible exact H | (rw [f9]; exact H) | exact H
 have n8 := Aside0.mk f9;clear f9;have H' := Aside0.mk H;clear H;go_enter Try.func101, Try.ntmps101
 go_wp2_with (first | ((with_reducible refine gate_dst (N := 10) rfl ?_); refine Kd.R_lit Kd.string _ 9 ?hg (N := 10) ?hd (xs := ([] : List ByteArray)) (inner := []) (ok := fun _ => True) (okp := fun _ => True) ?hr ?hp (fun _ hk => hk) trivial (Below.refl _ _) (Nat.le_refl _) (by simp) ?_; (case hd => rfl); (case hg => rfl); (case hr => first | (go_simp; done) | (go_simp; rfl)); (case hp => exact (Reps.none _ _)); intro z5 w3 m0 hb hg_ hnew_; clear hg_ hnew_; (first | rw [← n8.out] at m0 | (simp only [Int.reduceToNat] at m0; rw [← n8.out] at m0)); have a7 := Aside0.mk (Kd.R_lower m0 (below_size (by repeat (first | (with_reducible first | exact HB.out | apply below_alloc | apply pw_below_drewN | apply below_drew1) | exact HB.out)))); have a8 := Aside0.mk (below_step (by repeat (first | (with_reducible first | exact HB.out | apply below_alloc | apply pw_below_drewN | apply below_drew1) | exact HB.out)) hb); clear HB; have r6 := a7; have HB := a8; clear a7 a8 hb m0))
 go_loopg [5, 6] k (fun kq v5 v6 w' => ∃ (a2 : List ByteArray) (a4 : Int), v6 = .int .i64 a4 ∧ Aside0 (Pr02b.l0 kq l0 l1 a2 a4 = some r) ∧ Aside0 (kq ≤ k) ∧ Aside0 (Kd.R Kd.string 9 w' w.heap.size (fun _ => True) v5 a2) ∧ Aside0 (Below w.heap.size w w'))
 case atStart => exact ⟨(r3), (0), (by first | rfl | (simp; done) | (simp [*]; done)), H', ⟨Nat.le_refl _⟩, ⟨by (with_reducible repeat (first | apply Kd.R_alloc | apply Kd.R_drewN | apply Kd.R_drew)); exact r6.out⟩, ⟨by repeat (first | (with_reducible first | exact HB.out | apply below_alloc | apply pw_below_drewN | apply below_drew1) | exact HB.out)⟩⟩
 case round =>
  clear H';(try clear c1);obtain ⟨a2, a4, rfl, HA, f0, a0, HB⟩ := hrel
  cases gk with
  | zero => exact absurd HA.out (by simp [Pr02b.l0])
  | succ k1 =>
   have H := HA.out;clear HA;simp only [Pr02b.l0] at H;by_cases c5 : a4 < (wrap64 ((l0.length : Int) + (l1.length : Int)))
   ·rw [if_pos c5] at H;have c5b0 : decide (a4 < (wrap64 ((l0.length : Int) + (l1.length : Int)))) = true := decide_eq_true c5;clear c5;have q0 := Aside0.mk H;clear H;go_upto_if 23 with (fail)
    go_cut [7] (fun v7 wc => ∃ (kq : Nat) (a6 : ByteArray), v7 = .string a6 ∧ Aside0 (Pr02b.j1 kq l0 l1 a2 a4 a6 = some r) ∧ Aside0 (kq ≤ k1) ∧ Aside0 (Kd.R Kd.string 9 wc w.heap.size (fun _ => True) u5 a2) ∧ Aside0 (Below w.heap.size w wc))
    case first =>
     have H := q0.out;clear q0;by_cases c7 : a4 < (l0.length : Int)
     ·rw [if_pos c7] at H;have c7b0 : decide (a4 < (l0.length : Int)) = true := decide_eq_true c7;clear c7
      (first | rw [c7b0] | (simp only [i64_w, i32_w]; rw [c7b0]) | skip)
      by_cases c8 : 0 ≤ a4
      ·rw [if_pos c8] at H;have c8b0 : decide (0 ≤ a4) = true := decide_eq_true c8;clear c8;have H' := Aside0.mk H;clear H;have j3 : 0 ≤ (a4 : Int) := of_decide_eq_true (by first | (with_reducible assumption) | assumption);have j5 : a4 < (l0.length : Int) := of_decide_eq_true (by first | (with_reducible assumption) | assumption);obtain ⟨y5, v2, e5⟩ := Kd.at_string x5.out a4 j3 j5
       cases v2;replace e5 := (HB.out.cell (World.block_lt_of_cell? w _ e5)).trans e5;replace j3 := eq_true j3;replace j5 := eq_true j5;go_wp2
       go_meet
       case rel => exact ⟨_, (rdOf ByteArray.empty l0 a4), (by first | rfl | (simp; done) | (simp [*]; done)), H', ⟨by have := f0.out; first | omega | exact Nat.le_refl _⟩, ⟨by (with_reducible repeat (first | apply Kd.R_alloc | apply Kd.R_drewN | apply Kd.R_drew)); exact a0.out⟩, ⟨by repeat (first | (with_reducible first | exact HB.out | apply below_alloc | apply pw_below_drewN | apply below_drew1) | exact HB.out)⟩⟩
      ·rw [if_neg c8] at H;exact absurd H (by simp)
     ·rw [if_neg c7] at H;have c7b0 : decide (a4 < (l0.length : Int)) = false := decide_eq_false c7;clear c7
      (first | rw [c7b0] | (simp only [i64_w, i32_w]; rw [c7b0]) | skip)
      obtain ⟨e7, i8⟩ : ∃ j_ : Int, (wrap64 (a4 - (l0.length : Int))) = j_ := ⟨_, rfl⟩
      replace H : (if 0 ≤ (e7) then (if (e7) < (l1.length : Int) then (Pr02b.j1 k1 l0 l1 a2 a4 (rdOf ByteArray.empty l1 (e7))) else (none)) else (none)) = some r := by first | (rw [i8] at H; exact H) | (simp only [i8] at H ⊢; exact H)
      have hji9w : (IntKind.i64.wrap (a4 - (l0.length : Int))) = e7 := (i64_w _).trans i8;by_cases c10 : 0 ≤ (e7)
      ·rw [if_pos c10] at H;have c10b0 : decide (0 ≤ (e7)) = true := decide_eq_true c10;clear c10;by_cases j8 : (e7) < (l1.length : Int)
       ·rw [if_pos j8] at H;have c11b0 : decide ((e7) < (l1.length : Int)) = true := decide_eq_true j8;clear j8;have H' := Aside0.mk H;clear H;have j4 : 0 ≤ ((e7) : Int) := of_decide_eq_true (by first | (with_reducible assumption) | assumption);have j6 : (e7) < (l1.length : Int) := of_decide_eq_true (by first | (with_reducible assumption) | assumption);obtain ⟨y6, v3, e6⟩ := Kd.at_string x6.out (e7) j4 j6
        cases v3;replace e6 := (HB.out.cell (World.block_lt_of_cell? w _ e6)).trans e6;replace j4 := eq_true j4;replace j6 := eq_true j6;go_wp2
        go_meet
        case rel => exact ⟨_, (rdOf ByteArray.empty l1 (e7)), (by first | rfl | (simp; done) | (simp only [← i8] <;> (first | rfl | simp)) | (simp [*]; done)), H', ⟨by have := f0.out; first | omega | exact Nat.le_refl _⟩, ⟨by (with_reducible repeat (first | apply Kd.R_alloc | apply Kd.R_drewN | apply Kd.R_drew)); exact a0.out⟩, ⟨by repeat (first | (with_reducible first | exact HB.out | apply below_alloc | apply pw_below_drewN | apply below_drew1) | exact HB.out)⟩⟩
       ·rw [if_neg j8] at H;exact absurd H (by simp)
      ·rw [if_neg c10] at H;exact absurd H (by simp)
    case rest =>
     clear q0;(try clear c1);(try clear c5);(try clear c5b0);(try clear c7);(try clear c7b0);(try clear c8);(try clear c8b0);(try clear c10);(try clear c10b0);(try clear j8);(try clear c11b0);(try clear e5);(try clear e6);(try clear j3);(try clear j4);(try clear j5);(try clear j6);obtain ⟨kq, a6, rfl, HA, i1, a0, HB⟩ := hcut
     cases kq with
     | zero => exact absurd HA.out (by simp [Pr02b.j1])
     | succ kj5 =>
      have H := HA.out;clear HA;simp only [Pr02b.j1] at H;replace H := Option.bind_eq_some_iff.mp H;obtain ⟨i0, p9, H⟩ := H;replace H : (if i0 ≥ 0 then (Pr02b.l0 kj5 l0 l1 a2 (wrap64 (a4 + 1))) else (Pr02b.l1 kj5 l0 l1 a2 a4 a6 0)) = some r := H;have u2 := Aside0.mk p9;clear p9;by_cases i4 : i0 ≥ 0
      ·rw [if_pos i4] at H;have c13b0 : decide (0 ≤ i0) = true := decide_eq_true i4;clear i4;have H' := Aside0.mk H;clear H;obtain ⟨v0, v1, v4⟩ := Kd.R_slice a0.out;subst v4;go_wp2_with (first | ((with_reducible refine gate_callee (f := 99) rfl ?_); refine goesL_ (some 37) rfl rfl Try.func99 (by kernel_rfl) rfl #[.slice v0 a2.length v1, .string a6] rfl (by (try simp only [List.map_toArray, List.map_cons, List.map_nil]); first | done | rfl | (simp only [List.length_drop, List.length_take]; rfl)) ?_; (with_reducible refine (Pr02a.calls kj5 _ _ a2 a6 i0 _ ?u0 ?u1 u2.out).mono ?_); (case u0 => repeat (first | exact (Kd.R_reads' a0.out).2.2 | (with_reducible refine Kd.C_alloc ?_ _) | (with_reducible refine Kd.C_drewN ?_ _) | (with_reducible refine Kd.C_drew ?_))); (case u1 => exact (Kd.R_reads' a0.out).2.1); rintro e w' ⟨rfl, ⟨nd, rfl⟩⟩; refine ⟨_, rfl, ?_⟩))
       go_roundg kj5
       case measure => have := f0.out; have := i1.out; omega
       case rel => exact ⟨(a2), (wrap64 (a4 + 1)), (by first | rfl | (simp; done) | (simp [*]; done)), H', ⟨by have := f0.out; have := i1.out; omega⟩, ⟨by (with_reducible repeat (first | apply Kd.R_alloc | apply Kd.R_drewN | apply Kd.R_drew)); exact a0.out⟩, ⟨by repeat (first | (with_reducible first | exact HB.out | apply below_alloc | apply pw_below_drewN | apply below_drew1) | exact HB.out)⟩⟩
      ·rw [if_neg i4] at H;have c13b0 : decide (0 ≤ i0) = false := decide_eq_false i4;clear i4;have H' := Aside0.mk H;clear H;obtain ⟨d4, a5, v9⟩ := Kd.R_slice a0.out;subst v9;go_wp2_with (first | ((with_reducible refine gate_callee (f := 99) rfl ?_); refine goesL_ (some 37) rfl rfl Try.func99 (by kernel_rfl) rfl #[.slice d4 a2.length a5, .string a6] rfl (by (try simp only [List.map_toArray, List.map_cons, List.map_nil]); first | done | rfl | (simp only [List.length_drop, List.length_take]; rfl)) ?_; (with_reducible refine (Pr02a.calls kj5 _ _ a2 a6 i0 _ ?u0 ?u1 u2.out).mono ?_); (case u0 => repeat (first | exact (Kd.R_reads' a0.out).2.2 | (with_reducible refine Kd.C_alloc ?_ _) | (with_reducible refine Kd.C_drewN ?_ _) | (with_reducible refine Kd.C_drew ?_))); (case u1 => exact (Kd.R_reads' a0.out).2.1); rintro e w' ⟨rfl, ⟨nd, rfl⟩⟩; refine ⟨_, rfl, ?_⟩))
       go_loopg [8] kj5 (fun kq v8 w' => ∃ (a1 : Int), v8 = .int .i64 a1 ∧ Aside0 (Pr02b.l1 kq l0 l1 a2 a4 a6 a1 = some r) ∧ Aside0 (kq ≤ kj5) ∧ Aside0 (Kd.R Kd.string 9 w' w.heap.size (fun _ => True) (.slice d4 a2.length a5) a2) ∧ Aside0 (Below w.heap.size w w'))
       case atStart => exact ⟨(0), (by first | rfl | (simp; done) | (simp [*]; done)), H', ⟨Nat.le_refl _⟩, ⟨by (with_reducible repeat (first | apply Kd.R_alloc | apply Kd.R_drewN | apply Kd.R_drew)); exact a0.out⟩, ⟨by repeat (first | (with_reducible first | exact HB.out | apply below_alloc | apply pw_below_drewN | apply below_drew1) | exact HB.out)⟩⟩
       case round =>
        (try clear hji9w);(try clear i8);clear H';(try clear c1);(try clear c5);(try clear c5b0);(try clear c7);(try clear c7b0);(try clear c8);(try clear c8b0);(try clear c10);(try clear c10b0);(try clear j8);(try clear c11b0);(try clear i4);(try clear c13b0);(try clear e5);(try clear e6);(try clear j3);(try clear j4);(try clear j5);(try clear j6);obtain ⟨a1, rfl, HA, j7, a0, HB⟩ := hrel
        cases gk with
        | zero => exact absurd HA.out (by simp [Pr02b.l1])
        | succ k3 =>
         have H := HA.out;clear HA;simp only [Pr02b.l1] at H;by_cases j9 : a1 < (a2.length : Int)
         ·rw [if_pos j9] at H;have c16b0 : decide (a1 < (a2.length : Int)) = true := decide_eq_true j9;clear j9;by_cases o3 : 0 ≤ a1
          ·rw [if_pos o3] at H;have c17b0 : decide (0 ≤ a1) = true := decide_eq_true o3;clear o3;by_cases k0 : (Op.bytesLess ((rdOf ByteArray.empty a2 a1).toList) a6.toList) = true
           ·rw [if_pos k0] at H;have c18b0 : (Op.bytesLess ((rdOf ByteArray.empty a2 a1).toList) a6.toList) = true := k0;clear k0;have H' := Aside0.mk H;clear H;have f3 : 0 ≤ (a1 : Int) := of_decide_eq_true (by first | (with_reducible assumption) | assumption);have f4 : a1 < (a2.length : Int) := of_decide_eq_true (by first | (with_reducible assumption) | assumption);obtain ⟨b8, m3, p8⟩ := Kd.at_string (Kd.R_reads' a0.out).2.2 a1 f3 f4
            cases m3;replace f3 := eq_true f3;replace f4 := eq_true f4;go_wp2
            go_roundg k3
            case measure => have := f0.out; have := i1.out; have := j7.out; omega
            case rel => exact ⟨(wrap64 (a1 + 1)), (by first | rfl | (simp; done) | (simp [*]; done)), H', ⟨by have := f0.out; have := i1.out; have := j7.out; omega⟩, ⟨by (with_reducible repeat (first | apply Kd.R_alloc | apply Kd.R_drewN | apply Kd.R_drew)); exact a0.out⟩, ⟨by repeat (first | (with_reducible first | exact HB.out | apply below_alloc | apply pw_below_drewN | apply below_drew1) | exact HB.out)⟩⟩
           ·rw [if_neg k0] at H;have c18b0 : (Op.bytesLess ((rdOf ByteArray.empty a2 a1).toList) a6.toList) = false := by simpa using k0
            clear k0;obtain ⟨f5, g0⟩ : ∃ y_ : List ByteArray, y_ = (([] : List ByteArray)) := ⟨_, rfl⟩
            replace H : (if a1 ≤ (a2.length : Int) then ((some (a2.drop (a1 : Int).toNat : List ByteArray)).bind fun d0 => (if f5.length + d0.length < 8796093022208 then ((some (f5 ++ d0 : List ByteArray)).bind fun b2 => ((some (([] : List ByteArray) : List ByteArray)).bind fun d8 => ((some (a2.take (a1 : Int).toNat : List ByteArray)).bind fun b0 => (if d8.length + b0.length < 8796093022208 then ((some (d8 ++ b0 : List ByteArray)).bind fun d2 => (if d2.length < 8796093022208 then ((some (d2 ++ [a6] : List ByteArray)).bind fun b4 => (if b4.length + b2.length < 8796093022208 then (Pr02b.l0 k3 l0 l1 (b4 ++ b2) (wrap64 (a4 + 1))) else (none))) else (none))) else (none))))) else (none))) else (none)) = some r := by first | (rw [g0]; with_reducible exact H) | (have a3 := (Option.bind_some _ _).symm.trans H; rw [g0]; with_reducible exact a3) | (have a3 := (Option.bind_some _ _).symm.trans H; with_reducible exact a3) | with_reducible exact H | (rw [g0]; exact H) | exact H
            have n9 := Aside0.mk g0;clear g0;have c19b0 := eq_true (of_decide_eq_true (by first | (with_reducible assumption) | assumption) : 0 ≤ a1);by_cases l7 : a1 ≤ (a2.length : Int)
            ·rw [if_pos l7] at H;have c20b0 := eq_true l7;have c20b1 : decide (a1 ≤ (a2.length : Int)) = true := decide_eq_true l7;clear l7;obtain ⟨d0, g1⟩ : ∃ y_ : List ByteArray, y_ = (a2.drop (a1 : Int).toNat) := ⟨_, rfl⟩
             replace H : (if f5.length + d0.length < 8796093022208 then ((some (f5 ++ d0 : List ByteArray)).bind fun b2 => ((some (([] : List ByteArray) : List ByteArray)).bind fun d8 => ((some (a2.take (a1 : Int).toNat : List ByteArray)).bind fun b0 => (if d8.length + b0.length < 8796093022208 then ((some (d8 ++ b0 : List ByteArray)).bind fun d2 => (if d2.length < 8796093022208 then ((some (d2 ++ [a6] : List ByteArray)).bind fun b4 => (if b4.length + b2.length < 8796093022208 then (Pr02b.l0 k3 l0 l1 (b4 ++ b2) (wrap64 (a4 + 1))) else (none))) else (none))) else (none))))) else (none)) = some r := by first | (rw [g1]; with_reducible exact H) | (have a3 := (Option.bind_some _ _).symm.trans H; rw [g1]; with_reducible exact a3) | (have a3 := (Option.bind_some _ _).symm.trans H; with_reducible exact a3) | with_reducible exact H | (rw [g1]; exact H) | exact H
             have e8 := Aside0.mk g1;clear g1;by_cases o4 : f5.length + d0.length < 8796093022208
             ·rw [if_pos o4] at H;have r9 := Aside0.mk o4;clear o4;obtain ⟨b2, g2⟩ : ∃ y_ : List ByteArray, y_ = (f5 ++ d0) := ⟨_, rfl⟩
              replace H : ((some (([] : List ByteArray) : List ByteArray)).bind fun d8 => ((some (a2.take (a1 : Int).toNat : List ByteArray)).bind fun b0 => (if d8.length + b0.length < 8796093022208 then ((some (d8 ++ b0 : List ByteArray)).bind fun d2 => (if d2.length < 8796093022208 then ((some (d2 ++ [a6] : List ByteArray)).bind fun b4 => (if b4.length + b2.length < 8796093022208 then (Pr02b.l0 k3 l0 l1 (b4 ++ b2) (wrap64 (a4 + 1))) else (none))) else (none))) else (none)))) = some r := by first | (rw [g2]; with_reducible exact H) | (have a3 := (Option.bind_some _ _).symm.trans H; rw [g2]; with_reducible exact a3) | (have a3 := (Option.bind_some _ _).symm.trans H; with_reducible exact a3) | with_reducible exact H | (rw [g2]; exact H) | exact H
              have s7 := Aside0.mk g2;clear g2;obtain ⟨d8, g3⟩ : ∃ y_ : List ByteArray, y_ = (([] : List ByteArray)) := ⟨_, rfl⟩
              replace H : ((some (a2.take (a1 : Int).toNat : List ByteArray)).bind fun b0 => (if d8.length + b0.length < 8796093022208 then ((some (d8 ++ b0 : List ByteArray)).bind fun d2 => (if d2.length < 8796093022208 then ((some (d2 ++ [a6] : List ByteArray)).bind fun b4 => (if b4.length + b2.length < 8796093022208 then (Pr02b.l0 k3 l0 l1 (b4 ++ b2) (wrap64 (a4 + 1))) else (none))) else (none))) else (none))) = some r := by first | (rw [g3]; with_reducible exact H) | (have a3 := (Option.bind_some _ _).symm.trans H; rw [g3]; with_reducible exact a3) | (have a3 := (Option.bind_some _ _).symm.trans H; with_reducible exact a3) | with_reducible exact H | (rw [g3]; exact H) | exact H
              have o0 := Aside0.mk g3;clear g3;have c22b0 := eq_true (of_decide_eq_true (by first | (with_reducible assumption) | assumption) : 0 ≤ a1);have c23b0 := eq_true (of_decide_eq_true (by first | (with_reducible assumption) | assumption) : a1 ≤ (a2.length : Int));obtain ⟨b0, g4⟩ : ∃ y_ : List ByteArray, y_ = (a2.take (a1 : Int).toNat) := ⟨_, rfl⟩
              replace H : (if d8.length + b0.length < 8796093022208 then ((some (d8 ++ b0 : List ByteArray)).bind fun d2 => (if d2.length < 8796093022208 then ((some (d2 ++ [a6] : List ByteArray)).bind fun b4 => (if b4.length + b2.length < 8796093022208 then (Pr02b.l0 k3 l0 l1 (b4 ++ b2) (wrap64 (a4 + 1))) else (none))) else (none))) else (none)) = some r := by first | (rw [g4]; with_reducible exact H) | (have a3 := (Option.bind_some _ _).symm.trans H; rw [g4]; with_reducible exact a3) | (have a3 := (Option.bind_some _ _).symm.trans H; with_reducible exact a3) | with_reducible exact H | (rw [g4]; exact H) | exact H
              have f7 := Aside0.mk g4;clear g4;by_cases o5 : d8.length + b0.length < 8796093022208
              ·rw [if_pos o5] at H;have s0 := Aside0.mk o5;clear o5;obtain ⟨d2, g5⟩ : ∃ y_ : List ByteArray, y_ = (d8 ++ b0) := ⟨_, rfl⟩
               replace H : (if d2.length < 8796093022208 then ((some (d2 ++ [a6] : List ByteArray)).bind fun b4 => (if b4.length + b2.length < 8796093022208 then (Pr02b.l0 k3 l0 l1 (b4 ++ b2) (wrap64 (a4 + 1))) else (none))) else (none)) = some r := by first | (rw [g5]; with_reducible exact H) | (have a3 := (Option.bind_some _ _).symm.trans H; rw [g5]; with_reducible exact a3) | (have a3 := (Option.bind_some _ _).symm.trans H; with_reducible exact a3) | with_reducible exact H | (rw [g5]; exact H) | exact H
               have s8 := Aside0.mk g5;clear g5;by_cases o6 : d2.length < 8796093022208
               ·rw [if_pos o6] at H;have s1 := Aside0.mk o6;clear o6;obtain ⟨b4, g6⟩ : ∃ y_ : List ByteArray, y_ = (d2 ++ [a6]) := ⟨_, rfl⟩
                replace H : (if b4.length + b2.length < 8796093022208 then (Pr02b.l0 k3 l0 l1 (b4 ++ b2) (wrap64 (a4 + 1))) else (none)) = some r := by first | (rw [g6]; with_reducible exact H) | (have a3 := (Option.bind_some _ _).symm.trans H; rw [g6]; with_reducible exact a3) | (have a3 := (Option.bind_some _ _).symm.trans H; with_reducible exact a3) | with_reducible exact H | (rw [g6]; exact H) | exact H
                have s9 := Aside0.mk g6;clear g6;by_cases o7 : b4.length + b2.length < 8796093022208
                ·rw [if_pos o7] at H;have s2 := Aside0.mk o7;clear o7;obtain ⟨r4, g7⟩ : ∃ y_ : List ByteArray, y_ = (b4 ++ b2) := ⟨_, rfl⟩
                 replace H : (Pr02b.l0 k3 l0 l1 r4 (wrap64 (a4 + 1))) = some r := by first | (rw [g7]; with_reducible exact H) | (have a3 := (Option.bind_some _ _).symm.trans H; rw [g7]; with_reducible exact a3) | (have a3 := (Option.bind_some _ _).symm.trans H; with_reducible exact a3) | with_reducible exact H | (rw [g7]; exact H) | exact H
                 have t2 := Aside0.mk g7;clear g7;have H' := Aside0.mk H;clear H;have f3 : 0 ≤ (a1 : Int) := of_decide_eq_true (by first | (with_reducible assumption) | assumption);have f4 : a1 < (a2.length : Int) := of_decide_eq_true (by first | (with_reducible assumption) | assumption);obtain ⟨b8, m3, p8⟩ := Kd.at_string (Kd.R_reads' a0.out).2.2 a1 f3 f4
                 cases m3;replace f3 := eq_true f3;replace f4 := eq_true f4;go_wp2_with (first | ((with_reducible refine gate_dst (N := 53) rfl ?_); refine Kd.R_lit Kd.string _ 9 ?hg (N := 53) ?hd (xs := ([] : List ByteArray)) (inner := []) (ok := fun _ => True) (okp := fun _ => True) ?hr ?hp (fun _ hk => hk) trivial (Below.refl _ _) (Nat.le_refl _) (by simp) ?_; (case hd => rfl); (case hg => rfl); (case hr => first | (go_simp; done) | (go_simp; rfl)); (case hp => exact (Reps.none _ _)); intro w7 A2 h6 hb hg_ hnew_; clear hg_ hnew_; (first | rw [← n9.out] at h6 | (simp only [Int.reduceToNat] at h6; rw [← n9.out] at h6)); have a7 := Aside0.mk (Kd.R_elder' (by (with_reducible repeat (first | apply Kd.R_alloc | apply Kd.R_drewN | apply Kd.R_drew)); exact a0.out) (Kd.R_base h6) hb); have a8 := Aside0.mk (Kd.R_lower (Kd.R_new' h6 (Kd.R_lt (by (with_reducible repeat (first | apply Kd.R_alloc | apply Kd.R_drewN | apply Kd.R_drew)); exact a0.out))) (below_size (by repeat (first | (with_reducible first | exact HB.out | apply below_alloc | apply pw_below_drewN | apply below_drew1) | exact HB.out)))); have a9 := Aside0.mk (below_step (by repeat (first | (with_reducible first | exact HB.out | apply below_alloc | apply pw_below_drewN | apply below_drew1) | exact HB.out)) hb); clear a0 HB; have a0 := a7; have n0 := a8; have HB := a9; clear a7 a8 a9 hb h6; have q9 : (a1 : Int) ≤ ((a2.length : Int) : Int) := of_decide_eq_true (by first | (with_reducible assumption) | assumption); obtain ⟨z1, p2, _, p6, _⟩ := info_parts info9; have h8 : a2.length ≤ a5 := (Kd.R_reads' a0.out).2.1; have q1 : Kd.C Kd.string _ (some b8) a2.length a2 := (Kd.R_reads' a0.out).2.2; have w5 : (0 : Int) ≤ (a1 : Int) := of_decide_eq_true (by first | (with_reducible assumption) | assumption); have q5 := cut_from (P := Try.prog) 22 9 .i64 Try.underlying22 p2 1 p6 (some b8) a2.length a5 a1 w5 q9; have i9 := Kd.C_drop (m := (a1 : Int).toNat) (c := a5) q1 (by omega) h8; obtain ⟨l5, k9⟩ : ∃ A1, A1 = (if a5 = (a1 : Int).toNat then (some b8) else ((some b8) : Option Addr).map (·.add ((a1 : Int).toNat * 1))) := ⟨_, rfl⟩; obtain ⟨x7, m4⟩ : ∃ c1, c1 = a5 - (a1 : Int).toNat := ⟨_, rfl⟩; have l3 : d0.length = a2.length - (a1 : Int).toNat := (by rw [e8.out, List.length_drop] <;> omega); rw [show (a2).drop (a1 : Int).toNat = d0 from e8.out.symm] at i9; replace i9 : Kd.C Kd.string _ l5 d0.length d0 := (by rw [k9]; exact i9); rw [← l3, ← k9, ← m4] at q5; have d5 := Aside0.mk i9; have y1 := Aside0.mk (show d0.length ≤ x7 from by rw [l3, m4]; exact Nat.sub_le_sub_right h8 _); clear i9 q1 h8 p2 p6 m4; have y7 := Aside0.mk l3; have k5 := Aside0.mk k9; clear l3 k9; have k7 := Aside0.mk (show (a1 : Int).toNat ≤ a2.length from by omega); replace q9 := eq_true q9) | ((with_reducible refine gate_builtin (b := .append) (xs := #[.tmp 53, .tmp 56]) rfl ?_); at_builtin; refine Kd.R_append_rows Kd.string (w0 := w) w.heap.size rfl (.tmp 53) (.tmp 56) 22 9 (.string ⟨#[]⟩) 16 rfl Try.underlying22 info9 rfl (by decide) (by omega) w7 f5 d0 _ _ _ (fun k_ => some k_ ≠ (.slice (some b8) a2.length a5 : Value).ownBlock) (fun _ => False) rfl rfl ?aO ?aR (fun _ _ h => h) (fun _ h => h.elim) ?aF ?aB ?aS ?aL ?_; (case aR => repeat (first | exact (by repeat (first | (with_reducible exact d5.out) | (with_reducible refine Kd.C_alloc ?_ _) | (with_reducible refine Kd.C_drewN ?_ _) | (with_reducible refine Kd.C_drew ?_) | exact d5.out)) | (with_reducible refine Kd.C_alloc ?_ _) | (with_reducible refine Kd.C_drewN ?_ _) | (with_reducible refine Kd.C_drew ?_))); (case aB => exact (by repeat (first | (with_reducible first | exact HB.out | apply below_alloc | apply pw_below_drewN | apply below_drew1) | exact HB.out))); (case aF => exact (fun k_ hk => Kd.fresh' (Kd.R_lt (by (with_reducible repeat (first | apply Kd.R_alloc | apply Kd.R_drewN | apply Kd.R_drew)); exact a0.out)) k_ hk)); (case aO => exact (by (with_reducible repeat (first | apply Kd.R_alloc | apply Kd.R_drewN | apply Kd.R_drew)); exact Kd.R_mono n0.out (fun _ hk => hk.2))); (case aS => exact (below_size (by repeat (first | (with_reducible first | exact HB.out | apply below_alloc | apply pw_below_drewN | apply below_drew1) | exact HB.out)))); (case aL => have := r9.out; omega); intro e3 x9 ho hb hg hat; rw [← s7.out] at ho; have a7 := Aside0.mk (Kd.R_after (ok := (fun _ => True)) (by (with_reducible repeat (first | apply Kd.R_alloc | apply Kd.R_drewN | apply Kd.R_drew)); exact a0.out) hg hat); have a8 := Aside0.mk (hb); have a9 := Aside0.mk ((show Kd.C Kd.string x9 l5 d0.length d0 from by rw [e8.out, k5.out]; exact Kd.C_drop (m := (a1 : Int).toNat) (c := a5) ((Kd.R_reads' (Kd.R_after (ok := (fun _ => True)) (by (with_reducible repeat (first | apply Kd.R_alloc | apply Kd.R_drewN | apply Kd.R_drew)); exact a0.out) hg hat)).2.2) k7.out ((Kd.R_reads' (Kd.R_after (ok := (fun _ => True)) (by (with_reducible repeat (first | apply Kd.R_alloc | apply Kd.R_drewN | apply Kd.R_drew)); exact a0.out) hg hat)).2.1))); have b9 := Aside0.mk (ho); clear a0 HB d5 n0; have a0 := a7; have HB := a8; have d5 := a9; have b6 := b9; clear a7 a8 a9 b9 ho hb hg hat) | ((with_reducible refine gate_dst (N := 58) rfl ?_); refine Kd.R_lit Kd.string _ 9 ?hg (N := 58) ?hd (xs := ([] : List ByteArray)) (inner := []) (ok := fun _ => True) (okp := fun _ => True) ?hr ?hp (fun _ hk => hk) trivial (Below.refl _ _) (Nat.le_refl _) (by simp) ?_; (case hd => rfl); (case hg => rfl); (case hr => first | (go_simp; done) | (go_simp; rfl)); (case hp => exact (Reps.none _ _)); intro w8 A3 f1 hb hg_ hnew_; clear hg_ hnew_; (first | rw [← o0.out] at f1 | (simp only [Int.reduceToNat] at f1; rw [← o0.out] at f1)); have a7 := Aside0.mk (Kd.R_elder' (by (with_reducible repeat (first | apply Kd.R_alloc | apply Kd.R_drewN | apply Kd.R_drew)); exact a0.out) (Kd.R_base f1) hb); have a8 := Aside0.mk (Kd.R_elder' (by (with_reducible repeat (first | apply Kd.R_alloc | apply Kd.R_drewN | apply Kd.R_drew)); exact b6.out) (Kd.R_base f1) hb); have a9 := Aside0.mk (Kd.R_lower (Kd.R_new' (Kd.R_new' f1 (Kd.R_lt (by (with_reducible repeat (first | apply Kd.R_alloc | apply Kd.R_drewN | apply Kd.R_drew)); exact a0.out))) (Kd.R_lt (by (with_reducible repeat (first | apply Kd.R_alloc | apply Kd.R_drewN | apply Kd.R_drew)); exact b6.out))) (below_size (by repeat (first | (with_reducible first | exact HB.out | apply below_alloc | apply pw_below_drewN | apply below_drew1) | exact HB.out)))); have b9 := Aside0.mk (Kd.C_below (by repeat (first | (with_reducible exact d5.out) | (with_reducible refine Kd.C_alloc ?_ _) | (with_reducible refine Kd.C_drewN ?_ _) | (with_reducible refine Kd.C_drew ?_) | exact d5.out)) hb); have d7 := Aside0.mk (below_step (by repeat (first | (with_reducible first | exact HB.out | apply below_alloc | apply pw_below_drewN | apply below_drew1) | exact HB.out)) hb); clear a0 b6 d5 HB; have a0 := a7; have b6 := a8; have n1 := a9; have d5 := b9; have HB := d7; clear a7 a8 a9 b9 d7 hb f1; have r0 : (a1 : Int) ≤ ((a2.length : Int) : Int) := of_decide_eq_true (by first | (with_reducible assumption) | assumption); obtain ⟨z2, p3, _, t8, _⟩ := info_parts info9; have k2 : a2.length ≤ a5 := (Kd.R_reads' a0.out).2.1; have q2 : Kd.C Kd.string _ (some b8) a2.length a2 := (Kd.R_reads' a0.out).2.2; have q6 := cut_to (P := Try.prog) 22 9 .i64 Try.underlying22 p3 (some b8) a2.length a5 a1 (of_decide_eq_true (by first | (with_reducible assumption) | assumption)) r0 k2; have m6 := Kd.C_take (m := (a1 : Int).toNat) q2 (by omega); have m8 : b0.length = (a1 : Int).toNat := (by rw [f7.out, List.length_take]; omega); rw [← f7.out] at m6; rw [← m8] at q6; have e1 := Aside0.mk m6; have y2 := Aside0.mk (show b0.length ≤ a5 from by omega); clear m6 q2 k2 p3 t8; have y8 := Aside0.mk m8; clear m8; have m1 := Aside0.mk (show (a1 : Int).toNat ≤ a2.length from by omega); replace r0 := eq_true r0) | ((with_reducible refine gate_builtin (b := .append) (xs := #[.tmp 58, .tmp 61]) rfl ?_); at_builtin; refine Kd.R_append_rows Kd.string (w0 := w) w.heap.size rfl (.tmp 58) (.tmp 61) 22 9 (.string ⟨#[]⟩) 16 rfl Try.underlying22 info9 rfl (by decide) (by omega) w8 d8 b0 _ _ _ (fun k_ => some k_ ≠ (.slice (some b8) a2.length a5 : Value).ownBlock ∧ some k_ ≠ (e3 : Value).ownBlock) (fun _ => False) rfl rfl ?aO ?aR (fun _ _ h => h) (fun _ h => h.elim) ?aF ?aB ?aS ?aL ?_; (case aR => repeat (first | exact (by repeat (first | (with_reducible exact e1.out) | (with_reducible refine Kd.C_alloc ?_ _) | (with_reducible refine Kd.C_drewN ?_ _) | (with_reducible refine Kd.C_drew ?_) | exact e1.out)) | (with_reducible refine Kd.C_alloc ?_ _) | (with_reducible refine Kd.C_drewN ?_ _) | (with_reducible refine Kd.C_drew ?_))); (case aB => exact (by repeat (first | (with_reducible first | exact HB.out | apply below_alloc | apply pw_below_drewN | apply below_drew1) | exact HB.out))); (case aF => exact (fun k_ hk => ⟨Kd.fresh' (Kd.R_lt (by (with_reducible repeat (first | apply Kd.R_alloc | apply Kd.R_drewN | apply Kd.R_drew)); exact a0.out)) k_ hk, Kd.fresh' (Kd.R_lt (by (with_reducible repeat (first | apply Kd.R_alloc | apply Kd.R_drewN | apply Kd.R_drew)); exact b6.out)) k_ hk⟩)); (case aO => exact (by (with_reducible repeat (first | apply Kd.R_alloc | apply Kd.R_drewN | apply Kd.R_drew)); exact Kd.R_mono n1.out (fun _ hk => ⟨hk.1.2, hk.2⟩))); (case aS => exact (below_size (by repeat (first | (with_reducible first | exact HB.out | apply below_alloc | apply pw_below_drewN | apply below_drew1) | exact HB.out)))); (case aL => have := s0.out; omega); intro w9 u3 ho hb hg hat; rw [← s8.out] at ho; have a7 := Aside0.mk (Kd.R_after (ok := (fun k_ => some k_ ≠ (e3 : Value).ownBlock)) (by (with_reducible repeat (first | apply Kd.R_alloc | apply Kd.R_drewN | apply Kd.R_drew)); exact Kd.R_mono a0.out (fun _ hk => ⟨hk.1.2, hk.2⟩)) hg hat); have a8 := Aside0.mk (Kd.R_after (ok := (fun k_ => some k_ ≠ (.slice (some b8) a2.length a5 : Value).ownBlock)) (by (with_reducible repeat (first | apply Kd.R_alloc | apply Kd.R_drewN | apply Kd.R_drew)); exact b6.out) hg hat); have a9 := Aside0.mk (hb); have b9 := Aside0.mk ((show Kd.C Kd.string u3 l5 d0.length d0 from by rw [e8.out, k5.out]; exact Kd.C_drop (m := (a1 : Int).toNat) (c := a5) ((Kd.R_reads' (Kd.R_after (ok := (fun k_ => some k_ ≠ (e3 : Value).ownBlock)) (by (with_reducible repeat (first | apply Kd.R_alloc | apply Kd.R_drewN | apply Kd.R_drew)); exact Kd.R_mono a0.out (fun _ hk => ⟨hk.1.2, hk.2⟩)) hg hat)).2.2) k7.out ((Kd.R_reads' (Kd.R_after (ok := (fun k_ => some k_ ≠ (e3 : Value).ownBlock)) (by (with_reducible repeat (first | apply Kd.R_alloc | apply Kd.R_drewN | apply Kd.R_drew)); exact Kd.R_mono a0.out (fun _ hk => ⟨hk.1.2, hk.2⟩)) hg hat)).2.1))); have d7 := Aside0.mk ((show Kd.C Kd.string u3 (some b8) b0.length b0 from by rw [f7.out]; exact Kd.C_take (m := (a1 : Int).toNat) ((Kd.R_reads' (Kd.R_after (ok := (fun k_ => some k_ ≠ (e3 : Value).ownBlock)) (by (with_reducible repeat (first | apply Kd.R_alloc | apply Kd.R_drewN | apply Kd.R_drew)); exact Kd.R_mono a0.out (fun _ hk => ⟨hk.1.2, hk.2⟩)) hg hat)).2.2) m1.out)); have e0 := Aside0.mk (ho); clear a0 b6 HB d5 e1 n1; have a0 := a7; have b6 := a8; have HB := a9; have d5 := b9; have e1 := d7; have n2 := e0; clear a7 a8 a9 b9 d7 e0 ho hb hg hat) | ((with_reducible refine gate_builtin (b := .append) (xs := #[.tmp 62, .tmp 64]) rfl ?_); at_builtin; refine Kd.R_append Kd.string (w0 := w) w.heap.size rfl (.tmp 62) (.tmp 64) 22 9 (.string ⟨#[]⟩) 16 rfl Try.underlying22 info9 rfl (by decide) (by omega) w9 d2 a6 [.string a6] (fun k_ => some k_ ≠ (.slice (some b8) a2.length a5 : Value).ownBlock ∧ some k_ ≠ (e3 : Value).ownBlock) (fun _ => False) rfl rfl ?aP (fun _ hk => hk.elim) ?aF ?aO ?aB ?aS ?aL ?_; (case aP => exact rfl); (case aB => exact (by repeat (first | (with_reducible first | exact HB.out | apply below_alloc | apply pw_below_drewN | apply below_drew1) | exact HB.out))); (case aF => exact (fun k_ hk => ⟨Kd.fresh' (Kd.R_lt (by (with_reducible repeat (first | apply Kd.R_alloc | apply Kd.R_drewN | apply Kd.R_drew)); exact a0.out)) k_ hk, Kd.fresh' (Kd.R_lt (by (with_reducible repeat (first | apply Kd.R_alloc | apply Kd.R_drewN | apply Kd.R_drew)); exact b6.out)) k_ hk⟩)); (case aO => exact (by (with_reducible repeat (first | apply Kd.R_alloc | apply Kd.R_drewN | apply Kd.R_drew)); exact n2.out)); (case aS => exact (below_size (by repeat (first | (with_reducible first | exact HB.out | apply below_alloc | apply pw_below_drewN | apply below_drew1) | exact HB.out)))); (case aL => have := s1.out; omega); intro x0 u4 ho hb hg hat; rw [← s9.out] at ho; have a7 := Aside0.mk (Kd.R_after (ok := (fun k_ => some k_ ≠ (e3 : Value).ownBlock)) (by (with_reducible repeat (first | apply Kd.R_alloc | apply Kd.R_drewN | apply Kd.R_drew)); exact a0.out) hg hat); have a8 := Aside0.mk (Kd.R_after (ok := (fun k_ => some k_ ≠ (.slice (some b8) a2.length a5 : Value).ownBlock)) (by (with_reducible repeat (first | apply Kd.R_alloc | apply Kd.R_drewN | apply Kd.R_drew)); exact b6.out) hg hat); have a9 := Aside0.mk (hb); have b9 := Aside0.mk ((show Kd.C Kd.string u4 l5 d0.length d0 from by rw [e8.out, k5.out]; exact Kd.C_drop (m := (a1 : Int).toNat) (c := a5) ((Kd.R_reads' (Kd.R_after (ok := (fun k_ => some k_ ≠ (e3 : Value).ownBlock)) (by (with_reducible repeat (first | apply Kd.R_alloc | apply Kd.R_drewN | apply Kd.R_drew)); exact a0.out) hg hat)).2.2) k7.out ((Kd.R_reads' (Kd.R_after (ok := (fun k_ => some k_ ≠ (e3 : Value).ownBlock)) (by (with_reducible repeat (first | apply Kd.R_alloc | apply Kd.R_drewN | apply Kd.R_drew)); exact a0.out) hg hat)).2.1))); have d7 := Aside0.mk ((show Kd.C Kd.string u4 (some b8) b0.length b0 from by rw [f7.out]; exact Kd.C_take (m := (a1 : Int).toNat) ((Kd.R_reads' (Kd.R_after (ok := (fun k_ => some k_ ≠ (e3 : Value).ownBlock)) (by (with_reducible repeat (first | apply Kd.R_alloc | apply Kd.R_drewN | apply Kd.R_drew)); exact a0.out) hg hat)).2.2) m1.out)); have e0 := Aside0.mk (ho); clear a0 b6 HB d5 e1 n2; have a0 := a7; have b6 := a8; have HB := a9; have d5 := b9; have e1 := d7; have n3 := e0; clear a7 a8 a9 b9 d7 e0 ho hb hg hat; obtain ⟨i2, i5, w2⟩ := Kd.R_slice b6.out; subst w2) | ((with_reducible refine gate_builtin (b := .append) (xs := #[.tmp 65, .tmp 66]) rfl ?_); at_builtin; refine Kd.R_append_rows Kd.string (w0 := w) w.heap.size rfl (.tmp 65) (.tmp 66) 22 9 (.string ⟨#[]⟩) 16 rfl Try.underlying22 info9 rfl (by decide) (by omega) x0 b4 b2 _ _ _ (fun k_ => some k_ ≠ (.slice (some b8) a2.length a5 : Value).ownBlock ∧ some k_ ≠ (.slice i2 b2.length i5 : Value).ownBlock) (fun _ => False) rfl rfl ?aO ?aR (fun _ _ h => h) (fun _ h => h.elim) ?aF ?aB ?aS ?aL ?_; (case aR => repeat (first | exact (Kd.R_reads' b6.out).2.2 | (with_reducible refine Kd.C_alloc ?_ _) | (with_reducible refine Kd.C_drewN ?_ _) | (with_reducible refine Kd.C_drew ?_))); (case aB => exact (by repeat (first | (with_reducible first | exact HB.out | apply below_alloc | apply pw_below_drewN | apply below_drew1) | exact HB.out))); (case aF => exact (fun k_ hk => ⟨Kd.fresh' (Kd.R_lt (by (with_reducible repeat (first | apply Kd.R_alloc | apply Kd.R_drewN | apply Kd.R_drew)); exact a0.out)) k_ hk, Kd.fresh' (Kd.R_lt (by (with_reducible repeat (first | apply Kd.R_alloc | apply Kd.R_drewN | apply Kd.R_drew)); exact b6.out)) k_ hk⟩)); (case aO => exact (by (with_reducible repeat (first | apply Kd.R_alloc | apply Kd.R_drewN | apply Kd.R_drew)); exact n3.out)); (case aS => exact (below_size (by repeat (first | (with_reducible first | exact HB.out | apply below_alloc | apply pw_below_drewN | apply below_drew1) | exact HB.out)))); (case aL => have := s2.out; omega); intro z6 u6 ho hb hg hat; rw [← t2.out] at ho; have a7 := Aside0.mk (Kd.R_after (ok := (fun k_ => some k_ ≠ (.slice i2 b2.length i5 : Value).ownBlock)) (by (with_reducible repeat (first | apply Kd.R_alloc | apply Kd.R_drewN | apply Kd.R_drew)); exact a0.out) hg hat); have a8 := Aside0.mk (Kd.R_after (ok := (fun k_ => some k_ ≠ (.slice (some b8) a2.length a5 : Value).ownBlock)) (by (with_reducible repeat (first | apply Kd.R_alloc | apply Kd.R_drewN | apply Kd.R_drew)); exact b6.out) hg hat); have a9 := Aside0.mk (hb); have b9 := Aside0.mk ((show Kd.C Kd.string u6 l5 d0.length d0 from by rw [e8.out, k5.out]; exact Kd.C_drop (m := (a1 : Int).toNat) (c := a5) ((Kd.R_reads' (Kd.R_after (ok := (fun k_ => some k_ ≠ (.slice i2 b2.length i5 : Value).ownBlock)) (by (with_reducible repeat (first | apply Kd.R_alloc | apply Kd.R_drewN | apply Kd.R_drew)); exact a0.out) hg hat)).2.2) k7.out ((Kd.R_reads' (Kd.R_after (ok := (fun k_ => some k_ ≠ (.slice i2 b2.length i5 : Value).ownBlock)) (by (with_reducible repeat (first | apply Kd.R_alloc | apply Kd.R_drewN | apply Kd.R_drew)); exact a0.out) hg hat)).2.1))); have d7 := Aside0.mk ((show Kd.C Kd.string u6 (some b8) b0.length b0 from by rw [f7.out]; exact Kd.C_take (m := (a1 : Int).toNat) ((Kd.R_reads' (Kd.R_after (ok := (fun k_ => some k_ ≠ (.slice i2 b2.length i5 : Value).ownBlock)) (by (with_reducible repeat (first | apply Kd.R_alloc | apply Kd.R_drewN | apply Kd.R_drew)); exact a0.out) hg hat)).2.2) m1.out)); have e0 := Aside0.mk (ho); clear a0 b6 HB d5 e1 n3; have a0 := a7; have b6 := a8; have HB := a9; have d5 := b9; have e1 := d7; have r7 := e0; clear a7 a8 a9 b9 d7 e0 ho hb hg hat))
                 go_roundg k3
                 case measure => have := f0.out; have := i1.out; have := j7.out; omega
                 case rel => exact ⟨(r4), (wrap64 (a4 + 1)), (by first | rfl | (simp; done) | (simp [*]; done)), H', ⟨by have := f0.out; have := i1.out; have := j7.out; omega⟩, ⟨by (with_reducible repeat (first | apply Kd.R_alloc | apply Kd.R_drewN | apply Kd.R_drew)); exact Kd.R_mono r7.out (fun _ hk => trivial)⟩, ⟨by repeat (first | (with_reducible first | exact HB.out | apply below_alloc | apply pw_below_drewN | apply below_drew1) | exact HB.out)⟩⟩
                ·rw [if_neg o7] at H;exact absurd H (by simp)
               ·rw [if_neg o6] at H;exact absurd H (by simp)
              ·rw [if_neg o5] at H;exact absurd H (by simp)
             ·rw [if_neg o4] at H;exact absurd H (by simp)
            ·rw [if_neg l7] at H;exact absurd H (by simp)
          ·rw [if_neg o3] at H;exact absurd H (by simp)
         ·rw [if_neg j9] at H;have c16b0 : decide (a1 < (a2.length : Int)) = false := decide_eq_false j9;clear j9;obtain ⟨f6, g8⟩ : ∃ y_ : List ByteArray, y_ = (([] : List ByteArray)) := ⟨_, rfl⟩
          replace H : (if 0 ≤ a1 then (if a1 ≤ (a2.length : Int) then ((some (a2.drop (a1 : Int).toNat : List ByteArray)).bind fun d1 => (if f6.length + d1.length < 8796093022208 then ((some (f6 ++ d1 : List ByteArray)).bind fun b3 => ((some (([] : List ByteArray) : List ByteArray)).bind fun d9 => ((some (a2.take (a1 : Int).toNat : List ByteArray)).bind fun b1 => (if d9.length + b1.length < 8796093022208 then ((some (d9 ++ b1 : List ByteArray)).bind fun d3 => (if d3.length < 8796093022208 then ((some (d3 ++ [a6] : List ByteArray)).bind fun b5 => (if b5.length + b3.length < 8796093022208 then (Pr02b.l0 k3 l0 l1 (b5 ++ b3) (wrap64 (a4 + 1))) else (none))) else (none))) else (none))))) else (none))) else (none)) else (none)) = some r := by first | (rw [g8]; with_reducible exact H) | (have a3 := (Option.bind_some _ _).symm.trans H; rw [g8]; with_reducible exact a3) | (have a3 := (Option.bind_some _ _).symm.trans H; with_reducible exact a3) | with_reducible exact H | (rw [g8]; exact H) | exact H
          have o1 := Aside0.mk g8;clear g8;by_cases l8 : 0 ≤ a1
          ·rw [if_pos l8] at H;have c38b0 := eq_true l8;have c38b1 : decide (0 ≤ a1) = true := decide_eq_true l8;clear l8;by_cases l9 : a1 ≤ (a2.length : Int)
           ·rw [if_pos l9] at H;have c39b0 := eq_true l9;have c39b1 : decide (a1 ≤ (a2.length : Int)) = true := decide_eq_true l9;clear l9;obtain ⟨d1, g9⟩ : ∃ y_ : List ByteArray, y_ = (a2.drop (a1 : Int).toNat) := ⟨_, rfl⟩
            replace H : (if f6.length + d1.length < 8796093022208 then ((some (f6 ++ d1 : List ByteArray)).bind fun b3 => ((some (([] : List ByteArray) : List ByteArray)).bind fun d9 => ((some (a2.take (a1 : Int).toNat : List ByteArray)).bind fun b1 => (if d9.length + b1.length < 8796093022208 then ((some (d9 ++ b1 : List ByteArray)).bind fun d3 => (if d3.length < 8796093022208 then ((some (d3 ++ [a6] : List ByteArray)).bind fun b5 => (if b5.length + b3.length < 8796093022208 then (Pr02b.l0 k3 l0 l1 (b5 ++ b3) (wrap64 (a4 + 1))) else (none))) else (none))) else (none))))) else (none)) = some r := by first | (rw [g9]; with_reducible exact H) | (have a3 := (Option.bind_some _ _).symm.trans H; rw [g9]; with_reducible exact a3) | (have a3 := (Option.bind_some _ _).symm.trans H; with_reducible exact a3) | with_reducible exact H | (rw [g9]; exact H) | exact H
            have e9 := Aside0.mk g9;clear g9;by_cases o8 : f6.length + d1.length < 8796093022208
            ·rw [if_pos o8] at H;have s3 := Aside0.mk o8;clear o8;obtain ⟨b3, h0⟩ : ∃ y_ : List ByteArray, y_ = (f6 ++ d1) := ⟨_, rfl⟩
             replace H : ((some (([] : List ByteArray) : List ByteArray)).bind fun d9 => ((some (a2.take (a1 : Int).toNat : List ByteArray)).bind fun b1 => (if d9.length + b1.length < 8796093022208 then ((some (d9 ++ b1 : List ByteArray)).bind fun d3 => (if d3.length < 8796093022208 then ((some (d3 ++ [a6] : List ByteArray)).bind fun b5 => (if b5.length + b3.length < 8796093022208 then (Pr02b.l0 k3 l0 l1 (b5 ++ b3) (wrap64 (a4 + 1))) else (none))) else (none))) else (none)))) = some r := by first | (rw [h0]; with_reducible exact H) | (have a3 := (Option.bind_some _ _).symm.trans H; rw [h0]; with_reducible exact a3) | (have a3 := (Option.bind_some _ _).symm.trans H; with_reducible exact a3) | with_reducible exact H | (rw [h0]; exact H) | exact H
             have t4 := Aside0.mk h0;clear h0;obtain ⟨d9, h1⟩ : ∃ y_ : List ByteArray, y_ = (([] : List ByteArray)) := ⟨_, rfl⟩
             replace H : ((some (a2.take (a1 : Int).toNat : List ByteArray)).bind fun b1 => (if d9.length + b1.length < 8796093022208 then ((some (d9 ++ b1 : List ByteArray)).bind fun d3 => (if d3.length < 8796093022208 then ((some (d3 ++ [a6] : List ByteArray)).bind fun b5 => (if b5.length + b3.length < 8796093022208 then (Pr02b.l0 k3 l0 l1 (b5 ++ b3) (wrap64 (a4 + 1))) else (none))) else (none))) else (none))) = some r := by first | (rw [h1]; with_reducible exact H) | (have a3 := (Option.bind_some _ _).symm.trans H; rw [h1]; with_reducible exact a3) | (have a3 := (Option.bind_some _ _).symm.trans H; with_reducible exact a3) | with_reducible exact H | (rw [h1]; exact H) | exact H
             have o2 := Aside0.mk h1;clear h1;have c41b0 := eq_true (of_decide_eq_true (by first | (with_reducible assumption) | assumption) : 0 ≤ a1);have c42b0 := eq_true (of_decide_eq_true (by first | (with_reducible assumption) | assumption) : a1 ≤ (a2.length : Int));obtain ⟨b1, h2⟩ : ∃ y_ : List ByteArray, y_ = (a2.take (a1 : Int).toNat) := ⟨_, rfl⟩
             replace H : (if d9.length + b1.length < 8796093022208 then ((some (d9 ++ b1 : List ByteArray)).bind fun d3 => (if d3.length < 8796093022208 then ((some (d3 ++ [a6] : List ByteArray)).bind fun b5 => (if b5.length + b3.length < 8796093022208 then (Pr02b.l0 k3 l0 l1 (b5 ++ b3) (wrap64 (a4 + 1))) else (none))) else (none))) else (none)) = some r := by first | (rw [h2]; with_reducible exact H) | (have a3 := (Option.bind_some _ _).symm.trans H; rw [h2]; with_reducible exact a3) | (have a3 := (Option.bind_some _ _).symm.trans H; with_reducible exact a3) | with_reducible exact H | (rw [h2]; exact H) | exact H
             have f8 := Aside0.mk h2;clear h2;by_cases o9 : d9.length + b1.length < 8796093022208
             ·rw [if_pos o9] at H;have s4 := Aside0.mk o9;clear o9;obtain ⟨d3, h3⟩ : ∃ y_ : List ByteArray, y_ = (d9 ++ b1) := ⟨_, rfl⟩
              replace H : (if d3.length < 8796093022208 then ((some (d3 ++ [a6] : List ByteArray)).bind fun b5 => (if b5.length + b3.length < 8796093022208 then (Pr02b.l0 k3 l0 l1 (b5 ++ b3) (wrap64 (a4 + 1))) else (none))) else (none)) = some r := by first | (rw [h3]; with_reducible exact H) | (have a3 := (Option.bind_some _ _).symm.trans H; rw [h3]; with_reducible exact a3) | (have a3 := (Option.bind_some _ _).symm.trans H; with_reducible exact a3) | with_reducible exact H | (rw [h3]; exact H) | exact H
              have t5 := Aside0.mk h3;clear h3;by_cases p0 : d3.length < 8796093022208
              ·rw [if_pos p0] at H;have s5 := Aside0.mk p0;clear p0;obtain ⟨b5, h4⟩ : ∃ y_ : List ByteArray, y_ = (d3 ++ [a6]) := ⟨_, rfl⟩
               replace H : (if b5.length + b3.length < 8796093022208 then (Pr02b.l0 k3 l0 l1 (b5 ++ b3) (wrap64 (a4 + 1))) else (none)) = some r := by first | (rw [h4]; with_reducible exact H) | (have a3 := (Option.bind_some _ _).symm.trans H; rw [h4]; with_reducible exact a3) | (have a3 := (Option.bind_some _ _).symm.trans H; with_reducible exact a3) | with_reducible exact H | (rw [h4]; exact H) | exact H
               have t6 := Aside0.mk h4;clear h4;by_cases p1 : b5.length + b3.length < 8796093022208
               ·rw [if_pos p1] at H;have s6 := Aside0.mk p1;clear p1;obtain ⟨r5, h5⟩ : ∃ y_ : List ByteArray, y_ = (b5 ++ b3) := ⟨_, rfl⟩
                replace H : (Pr02b.l0 k3 l0 l1 r5 (wrap64 (a4 + 1))) = some r := by first | (rw [h5]; with_reducible exact H) | (have a3 := (Option.bind_some _ _).symm.trans H; rw [h5]; with_reducible exact a3) | (have a3 := (Option.bind_some _ _).symm.trans H; with_reducible exact a3) | with_reducible exact H | (rw [h5]; exact H) | exact H
                have t7 := Aside0.mk h5;clear h5;have H' := Aside0.mk H;clear H;go_wp2_with (first | ((with_reducible refine gate_dst (N := 53) rfl ?_); refine Kd.R_lit Kd.string _ 9 ?hg (N := 53) ?hd (xs := ([] : List ByteArray)) (inner := []) (ok := fun _ => True) (okp := fun _ => True) ?hr ?hp (fun _ hk => hk) trivial (Below.refl _ _) (Nat.le_refl _) (by simp) ?_; (case hd => rfl); (case hg => rfl); (case hr => first | (go_simp; done) | (go_simp; rfl)); (case hp => exact (Reps.none _ _)); intro x1 A4 h7 hb hg_ hnew_; clear hg_ hnew_; (first | rw [← o1.out] at h7 | (simp only [Int.reduceToNat] at h7; rw [← o1.out] at h7)); have a7 := Aside0.mk (Kd.R_elder' (by (with_reducible repeat (first | apply Kd.R_alloc | apply Kd.R_drewN | apply Kd.R_drew)); exact a0.out) (Kd.R_base h7) hb); have a8 := Aside0.mk (Kd.R_lower (Kd.R_new' h7 (Kd.R_lt (by (with_reducible repeat (first | apply Kd.R_alloc | apply Kd.R_drewN | apply Kd.R_drew)); exact a0.out))) (below_size (by repeat (first | (with_reducible first | exact HB.out | apply below_alloc | apply pw_below_drewN | apply below_drew1) | exact HB.out)))); have a9 := Aside0.mk (below_step (by repeat (first | (with_reducible first | exact HB.out | apply below_alloc | apply pw_below_drewN | apply below_drew1) | exact HB.out)) hb); clear a0 HB; have a0 := a7; have n4 := a8; have HB := a9; clear a7 a8 a9 hb h7; have r1 : (a1 : Int) ≤ ((a2.length : Int) : Int) := of_decide_eq_true (by first | (with_reducible assumption) | assumption); obtain ⟨z3, p4, _, p7, _⟩ := info_parts info9; have h9 : a2.length ≤ a5 := (Kd.R_reads' a0.out).2.1; have q3 : Kd.C Kd.string _ d4 a2.length a2 := (Kd.R_reads' a0.out).2.2; have w6 : (0 : Int) ≤ (a1 : Int) := of_decide_eq_true (by first | (with_reducible assumption) | assumption); have q7 := cut_from (P := Try.prog) 22 9 .i64 Try.underlying22 p4 1 p7 d4 a2.length a5 a1 w6 r1; have j2 := Kd.C_drop (m := (a1 : Int).toNat) (c := a5) q3 (by omega) h9; obtain ⟨l6, l2⟩ : ∃ A1, A1 = (if a5 = (a1 : Int).toNat then d4 else (d4 : Option Addr).map (·.add ((a1 : Int).toNat * 1))) := ⟨_, rfl⟩; obtain ⟨x8, m5⟩ : ∃ c1, c1 = a5 - (a1 : Int).toNat := ⟨_, rfl⟩; have l4 : d1.length = a2.length - (a1 : Int).toNat := (by rw [e9.out, List.length_drop] <;> omega); rw [show (a2).drop (a1 : Int).toNat = d1 from e9.out.symm] at j2; replace j2 : Kd.C Kd.string _ l6 d1.length d1 := (by rw [l2]; exact j2); rw [← l4, ← l2, ← m5] at q7; have d6 := Aside0.mk j2; have y3 := Aside0.mk (show d1.length ≤ x8 from by rw [l4, m5]; exact Nat.sub_le_sub_right h9 _); clear j2 q3 h9 p4 p7 m5; have y9 := Aside0.mk l4; have k6 := Aside0.mk l2; clear l4 l2; have k8 := Aside0.mk (show (a1 : Int).toNat ≤ a2.length from by omega); replace r1 := eq_true r1) | ((with_reducible refine gate_builtin (b := .append) (xs := #[.tmp 53, .tmp 56]) rfl ?_); at_builtin; refine Kd.R_append_rows Kd.string (w0 := w) w.heap.size rfl (.tmp 53) (.tmp 56) 22 9 (.string ⟨#[]⟩) 16 rfl Try.underlying22 info9 rfl (by decide) (by omega) x1 f6 d1 _ _ _ (fun k_ => some k_ ≠ (.slice d4 a2.length a5 : Value).ownBlock) (fun _ => False) rfl rfl ?aO ?aR (fun _ _ h => h) (fun _ h => h.elim) ?aF ?aB ?aS ?aL ?_; (case aR => repeat (first | exact (by repeat (first | (with_reducible exact d6.out) | (with_reducible refine Kd.C_alloc ?_ _) | (with_reducible refine Kd.C_drewN ?_ _) | (with_reducible refine Kd.C_drew ?_) | exact d6.out)) | (with_reducible refine Kd.C_alloc ?_ _) | (with_reducible refine Kd.C_drewN ?_ _) | (with_reducible refine Kd.C_drew ?_))); (case aB => exact (by repeat (first | (with_reducible first | exact HB.out | apply below_alloc | apply pw_below_drewN | apply below_drew1) | exact HB.out))); (case aF => exact (fun k_ hk => Kd.fresh' (Kd.R_lt (by (with_reducible repeat (first | apply Kd.R_alloc | apply Kd.R_drewN | apply Kd.R_drew)); exact a0.out)) k_ hk)); (case aO => exact (by (with_reducible repeat (first | apply Kd.R_alloc | apply Kd.R_drewN | apply Kd.R_drew)); exact Kd.R_mono n4.out (fun _ hk => hk.2))); (case aS => exact (below_size (by repeat (first | (with_reducible first | exact HB.out | apply below_alloc | apply pw_below_drewN | apply below_drew1) | exact HB.out)))); (case aL => have := s3.out; omega); intro e4 y0 ho hb hg hat; rw [← t4.out] at ho; have a7 := Aside0.mk (Kd.R_after (ok := (fun _ => True)) (by (with_reducible repeat (first | apply Kd.R_alloc | apply Kd.R_drewN | apply Kd.R_drew)); exact a0.out) hg hat); have a8 := Aside0.mk (hb); have a9 := Aside0.mk ((show Kd.C Kd.string y0 l6 d1.length d1 from by rw [e9.out, k6.out]; exact Kd.C_drop (m := (a1 : Int).toNat) (c := a5) ((Kd.R_reads' (Kd.R_after (ok := (fun _ => True)) (by (with_reducible repeat (first | apply Kd.R_alloc | apply Kd.R_drewN | apply Kd.R_drew)); exact a0.out) hg hat)).2.2) k8.out ((Kd.R_reads' (Kd.R_after (ok := (fun _ => True)) (by (with_reducible repeat (first | apply Kd.R_alloc | apply Kd.R_drewN | apply Kd.R_drew)); exact a0.out) hg hat)).2.1))); have b9 := Aside0.mk (ho); clear a0 HB d6 n4; have a0 := a7; have HB := a8; have d6 := a9; have b7 := b9; clear a7 a8 a9 b9 ho hb hg hat) | ((with_reducible refine gate_dst (N := 58) rfl ?_); refine Kd.R_lit Kd.string _ 9 ?hg (N := 58) ?hd (xs := ([] : List ByteArray)) (inner := []) (ok := fun _ => True) (okp := fun _ => True) ?hr ?hp (fun _ hk => hk) trivial (Below.refl _ _) (Nat.le_refl _) (by simp) ?_; (case hd => rfl); (case hg => rfl); (case hr => first | (go_simp; done) | (go_simp; rfl)); (case hp => exact (Reps.none _ _)); intro x2 A5 f2 hb hg_ hnew_; clear hg_ hnew_; (first | rw [← o2.out] at f2 | (simp only [Int.reduceToNat] at f2; rw [← o2.out] at f2)); have a7 := Aside0.mk (Kd.R_elder' (by (with_reducible repeat (first | apply Kd.R_alloc | apply Kd.R_drewN | apply Kd.R_drew)); exact a0.out) (Kd.R_base f2) hb); have a8 := Aside0.mk (Kd.R_elder' (by (with_reducible repeat (first | apply Kd.R_alloc | apply Kd.R_drewN | apply Kd.R_drew)); exact b7.out) (Kd.R_base f2) hb); have a9 := Aside0.mk (Kd.R_lower (Kd.R_new' (Kd.R_new' f2 (Kd.R_lt (by (with_reducible repeat (first | apply Kd.R_alloc | apply Kd.R_drewN | apply Kd.R_drew)); exact a0.out))) (Kd.R_lt (by (with_reducible repeat (first | apply Kd.R_alloc | apply Kd.R_drewN | apply Kd.R_drew)); exact b7.out))) (below_size (by repeat (first | (with_reducible first | exact HB.out | apply below_alloc | apply pw_below_drewN | apply below_drew1) | exact HB.out)))); have b9 := Aside0.mk (Kd.C_below (by repeat (first | (with_reducible exact d6.out) | (with_reducible refine Kd.C_alloc ?_ _) | (with_reducible refine Kd.C_drewN ?_ _) | (with_reducible refine Kd.C_drew ?_) | exact d6.out)) hb); have d7 := Aside0.mk (below_step (by repeat (first | (with_reducible first | exact HB.out | apply below_alloc | apply pw_below_drewN | apply below_drew1) | exact HB.out)) hb); clear a0 b7 d6 HB; have a0 := a7; have b7 := a8; have n5 := a9; have d6 := b9; have HB := d7; clear a7 a8 a9 b9 d7 hb f2; have r2 : (a1 : Int) ≤ ((a2.length : Int) : Int) := of_decide_eq_true (by first | (with_reducible assumption) | assumption); obtain ⟨z4, p5, _, t9, _⟩ := info_parts info9; have k4 : a2.length ≤ a5 := (Kd.R_reads' a0.out).2.1; have q4 : Kd.C Kd.string _ d4 a2.length a2 := (Kd.R_reads' a0.out).2.2; have q8 := cut_to (P := Try.prog) 22 9 .i64 Try.underlying22 p5 d4 a2.length a5 a1 (of_decide_eq_true (by first | (with_reducible assumption) | assumption)) r2 k4; have m7 := Kd.C_take (m := (a1 : Int).toNat) q4 (by omega); have m9 : b1.length = (a1 : Int).toNat := (by rw [f8.out, List.length_take]; omega); rw [← f8.out] at m7; rw [← m9] at q8; have e2 := Aside0.mk m7; have y4 := Aside0.mk (show b1.length ≤ a5 from by omega); clear m7 q4 k4 p5 t9; have z0 := Aside0.mk m9; clear m9; have m2 := Aside0.mk (show (a1 : Int).toNat ≤ a2.length from by omega); replace r2 := eq_true r2) | ((with_reducible refine gate_builtin (b := .append) (xs := #[.tmp 58, .tmp 61]) rfl ?_); at_builtin; refine Kd.R_append_rows Kd.string (w0 := w) w.heap.size rfl (.tmp 58) (.tmp 61) 22 9 (.string ⟨#[]⟩) 16 rfl Try.underlying22 info9 rfl (by decide) (by omega) x2 d9 b1 _ _ _ (fun k_ => some k_ ≠ (.slice d4 a2.length a5 : Value).ownBlock ∧ some k_ ≠ (e4 : Value).ownBlock) (fun _ => False) rfl rfl ?aO ?aR (fun _ _ h => h) (fun _ h => h.elim) ?aF ?aB ?aS ?aL ?_; (case aR => repeat (first | exact (by repeat (first | (with_reducible exact e2.out) | (with_reducible refine Kd.C_alloc ?_ _) | (with_reducible refine Kd.C_drewN ?_ _) | (with_reducible refine Kd.C_drew ?_) | exact e2.out)) | (with_reducible refine Kd.C_alloc ?_ _) | (with_reducible refine Kd.C_drewN ?_ _) | (with_reducible refine Kd.C_drew ?_))); (case aB => exact (by repeat (first | (with_reducible first | exact HB.out | apply below_alloc | apply pw_below_drewN | apply below_drew1) | exact HB.out))); (case aF => exact (fun k_ hk => ⟨Kd.fresh' (Kd.R_lt (by (with_reducible repeat (first | apply Kd.R_alloc | apply Kd.R_drewN | apply Kd.R_drew)); exact a0.out)) k_ hk, Kd.fresh' (Kd.R_lt (by (with_reducible repeat (first | apply Kd.R_alloc | apply Kd.R_drewN | apply Kd.R_drew)); exact b7.out)) k_ hk⟩)); (case aO => exact (by (with_reducible repeat (first | apply Kd.R_alloc | apply Kd.R_drewN | apply Kd.R_drew)); exact Kd.R_mono n5.out (fun _ hk => ⟨hk.1.2, hk.2⟩))); (case aS => exact (below_size (by repeat (first | (with_reducible first | exact HB.out | apply below_alloc | apply pw_below_drewN | apply below_drew1) | exact HB.out)))); (case aL => have := s4.out; omega); intro x3 u7 ho hb hg hat; rw [← t5.out] at ho; have a7 := Aside0.mk (Kd.R_after (ok := (fun k_ => some k_ ≠ (e4 : Value).ownBlock)) (by (with_reducible repeat (first | apply Kd.R_alloc | apply Kd.R_drewN | apply Kd.R_drew)); exact Kd.R_mono a0.out (fun _ hk => ⟨hk.1.2, hk.2⟩)) hg hat); have a8 := Aside0.mk (Kd.R_after (ok := (fun k_ => some k_ ≠ (.slice d4 a2.length a5 : Value).ownBlock)) (by (with_reducible repeat (first | apply Kd.R_alloc | apply Kd.R_drewN | apply Kd.R_drew)); exact b7.out) hg hat); have a9 := Aside0.mk (hb); have b9 := Aside0.mk ((show Kd.C Kd.string u7 l6 d1.length d1 from by rw [e9.out, k6.out]; exact Kd.C_drop (m := (a1 : Int).toNat) (c := a5) ((Kd.R_reads' (Kd.R_after (ok := (fun k_ => some k_ ≠ (e4 : Value).ownBlock)) (by (with_reducible repeat (first | apply Kd.R_alloc | apply Kd.R_drewN | apply Kd.R_drew)); exact Kd.R_mono a0.out (fun _ hk => ⟨hk.1.2, hk.2⟩)) hg hat)).2.2) k8.out ((Kd.R_reads' (Kd.R_after (ok := (fun k_ => some k_ ≠ (e4 : Value).ownBlock)) (by (with_reducible repeat (first | apply Kd.R_alloc | apply Kd.R_drewN | apply Kd.R_drew)); exact Kd.R_mono a0.out (fun _ hk => ⟨hk.1.2, hk.2⟩)) hg hat)).2.1))); have d7 := Aside0.mk ((show Kd.C Kd.string u7 d4 b1.length b1 from by rw [f8.out]; exact Kd.C_take (m := (a1 : Int).toNat) ((Kd.R_reads' (Kd.R_after (ok := (fun k_ => some k_ ≠ (e4 : Value).ownBlock)) (by (with_reducible repeat (first | apply Kd.R_alloc | apply Kd.R_drewN | apply Kd.R_drew)); exact Kd.R_mono a0.out (fun _ hk => ⟨hk.1.2, hk.2⟩)) hg hat)).2.2) m2.out)); have e0 := Aside0.mk (ho); clear a0 b7 HB d6 e2 n5; have a0 := a7; have b7 := a8; have HB := a9; have d6 := b9; have e2 := d7; have n6 := e0; clear a7 a8 a9 b9 d7 e0 ho hb hg hat) | ((with_reducible refine gate_builtin (b := .append) (xs := #[.tmp 62, .tmp 64]) rfl ?_); at_builtin; refine Kd.R_append Kd.string (w0 := w) w.heap.size rfl (.tmp 62) (.tmp 64) 22 9 (.string ⟨#[]⟩) 16 rfl Try.underlying22 info9 rfl (by decide) (by omega) x3 d3 a6 [.string a6] (fun k_ => some k_ ≠ (.slice d4 a2.length a5 : Value).ownBlock ∧ some k_ ≠ (e4 : Value).ownBlock) (fun _ => False) rfl rfl ?aP (fun _ hk => hk.elim) ?aF ?aO ?aB ?aS ?aL ?_; (case aP => exact rfl); (case aB => exact (by repeat (first | (with_reducible first | exact HB.out | apply below_alloc | apply pw_below_drewN | apply below_drew1) | exact HB.out))); (case aF => exact (fun k_ hk => ⟨Kd.fresh' (Kd.R_lt (by (with_reducible repeat (first | apply Kd.R_alloc | apply Kd.R_drewN | apply Kd.R_drew)); exact a0.out)) k_ hk, Kd.fresh' (Kd.R_lt (by (with_reducible repeat (first | apply Kd.R_alloc | apply Kd.R_drewN | apply Kd.R_drew)); exact b7.out)) k_ hk⟩)); (case aO => exact (by (with_reducible repeat (first | apply Kd.R_alloc | apply Kd.R_drewN | apply Kd.R_drew)); exact n6.out)); (case aS => exact (below_size (by repeat (first | (with_reducible first | exact HB.out | apply below_alloc | apply pw_below_drewN | apply below_drew1) | exact HB.out)))); (case aL => have := s5.out; omega); intro x4 u8 ho hb hg hat; rw [← t6.out] at ho; have a7 := Aside0.mk (Kd.R_after (ok := (fun k_ => some k_ ≠ (e4 : Value).ownBlock)) (by (with_reducible repeat (first | apply Kd.R_alloc | apply Kd.R_drewN | apply Kd.R_drew)); exact a0.out) hg hat); have a8 := Aside0.mk (Kd.R_after (ok := (fun k_ => some k_ ≠ (.slice d4 a2.length a5 : Value).ownBlock)) (by (with_reducible repeat (first | apply Kd.R_alloc | apply Kd.R_drewN | apply Kd.R_drew)); exact b7.out) hg hat); have a9 := Aside0.mk (hb); have b9 := Aside0.mk ((show Kd.C Kd.string u8 l6 d1.length d1 from by rw [e9.out, k6.out]; exact Kd.C_drop (m := (a1 : Int).toNat) (c := a5) ((Kd.R_reads' (Kd.R_after (ok := (fun k_ => some k_ ≠ (e4 : Value).ownBlock)) (by (with_reducible repeat (first | apply Kd.R_alloc | apply Kd.R_drewN | apply Kd.R_drew)); exact a0.out) hg hat)).2.2) k8.out ((Kd.R_reads' (Kd.R_after (ok := (fun k_ => some k_ ≠ (e4 : Value).ownBlock)) (by (with_reducible repeat (first | apply Kd.R_alloc | apply Kd.R_drewN | apply Kd.R_drew)); exact a0.out) hg hat)).2.1))); have d7 := Aside0.mk ((show Kd.C Kd.string u8 d4 b1.length b1 from by rw [f8.out]; exact Kd.C_take (m := (a1 : Int).toNat) ((Kd.R_reads' (Kd.R_after (ok := (fun k_ => some k_ ≠ (e4 : Value).ownBlock)) (by (with_reducible repeat (first | apply Kd.R_alloc | apply Kd.R_drewN | apply Kd.R_drew)); exact a0.out) hg hat)).2.2) m2.out)); have e0 := Aside0.mk (ho); clear a0 b7 HB d6 e2 n6; have a0 := a7; have b7 := a8; have HB := a9; have d6 := b9; have e2 := d7; have n7 := e0; clear a7 a8 a9 b9 d7 e0 ho hb hg hat; obtain ⟨i3, i7, w4⟩ := Kd.R_slice b7.out; subst w4) | ((with_reducible refine gate_builtin (b := .append) (xs := #[.tmp 65, .tmp 66]) rfl ?_); at_builtin; refine Kd.R_append_rows Kd.string (w0 := w) w.heap.size rfl (.tmp 65) (.tmp 66) 22 9 (.string ⟨#[]⟩) 16 rfl Try.underlying22 info9 rfl (by decide) (by omega) x4 b5 b3 _ _ _ (fun k_ => some k_ ≠ (.slice d4 a2.length a5 : Value).ownBlock ∧ some k_ ≠ (.slice i3 b3.length i7 : Value).ownBlock) (fun _ => False) rfl rfl ?aO ?aR (fun _ _ h => h) (fun _ h => h.elim) ?aF ?aB ?aS ?aL ?_; (case aR => repeat (first | exact (Kd.R_reads' b7.out).2.2 | (with_reducible refine Kd.C_alloc ?_ _) | (with_reducible refine Kd.C_drewN ?_ _) | (with_reducible refine Kd.C_drew ?_))); (case aB => exact (by repeat (first | (with_reducible first | exact HB.out | apply below_alloc | apply pw_below_drewN | apply below_drew1) | exact HB.out))); (case aF => exact (fun k_ hk => ⟨Kd.fresh' (Kd.R_lt (by (with_reducible repeat (first | apply Kd.R_alloc | apply Kd.R_drewN | apply Kd.R_drew)); exact a0.out)) k_ hk, Kd.fresh' (Kd.R_lt (by (with_reducible repeat (first | apply Kd.R_alloc | apply Kd.R_drewN | apply Kd.R_drew)); exact b7.out)) k_ hk⟩)); (case aO => exact (by (with_reducible repeat (first | apply Kd.R_alloc | apply Kd.R_drewN | apply Kd.R_drew)); exact n7.out)); (case aS => exact (below_size (by repeat (first | (with_reducible first | exact HB.out | apply below_alloc | apply pw_below_drewN | apply below_drew1) | exact HB.out)))); (case aL => have := s6.out; omega); intro z7 u9 ho hb hg hat; rw [← t7.out] at ho; have a7 := Aside0.mk (Kd.R_after (ok := (fun k_ => some k_ ≠ (.slice i3 b3.length i7 : Value).ownBlock)) (by (with_reducible repeat (first | apply Kd.R_alloc | apply Kd.R_drewN | apply Kd.R_drew)); exact a0.out) hg hat); have a8 := Aside0.mk (Kd.R_after (ok := (fun k_ => some k_ ≠ (.slice d4 a2.length a5 : Value).ownBlock)) (by (with_reducible repeat (first | apply Kd.R_alloc | apply Kd.R_drewN | apply Kd.R_drew)); exact b7.out) hg hat); have a9 := Aside0.mk (hb); have b9 := Aside0.mk ((show Kd.C Kd.string u9 l6 d1.length d1 from by rw [e9.out, k6.out]; exact Kd.C_drop (m := (a1 : Int).toNat) (c := a5) ((Kd.R_reads' (Kd.R_after (ok := (fun k_ => some k_ ≠ (.slice i3 b3.length i7 : Value).ownBlock)) (by (with_reducible repeat (first | apply Kd.R_alloc | apply Kd.R_drewN | apply Kd.R_drew)); exact a0.out) hg hat)).2.2) k8.out ((Kd.R_reads' (Kd.R_after (ok := (fun k_ => some k_ ≠ (.slice i3 b3.length i7 : Value).ownBlock)) (by (with_reducible repeat (first | apply Kd.R_alloc | apply Kd.R_drewN | apply Kd.R_drew)); exact a0.out) hg hat)).2.1))); have d7 := Aside0.mk ((show Kd.C Kd.string u9 d4 b1.length b1 from by rw [f8.out]; exact Kd.C_take (m := (a1 : Int).toNat) ((Kd.R_reads' (Kd.R_after (ok := (fun k_ => some k_ ≠ (.slice i3 b3.length i7 : Value).ownBlock)) (by (with_reducible repeat (first | apply Kd.R_alloc | apply Kd.R_drewN | apply Kd.R_drew)); exact a0.out) hg hat)).2.2) m2.out)); have e0 := Aside0.mk (ho); clear a0 b7 HB d6 e2 n7; have a0 := a7; have b7 := a8; have HB := a9; have d6 := b9; have e2 := d7; have r8 := e0; clear a7 a8 a9 b9 d7 e0 ho hb hg hat))
                go_roundg k3
                case measure => have := f0.out; have := i1.out; have := j7.out; omega
                case rel => exact ⟨(r5), (wrap64 (a4 + 1)), (by first | rfl | (simp; done) | (simp [*]; done)), H', ⟨by have := f0.out; have := i1.out; have := j7.out; omega⟩, ⟨by (with_reducible repeat (first | apply Kd.R_alloc | apply Kd.R_drewN | apply Kd.R_drew)); exact Kd.R_mono r8.out (fun _ hk => trivial)⟩, ⟨by repeat (first | (with_reducible first | exact HB.out | apply below_alloc | apply pw_below_drewN | apply below_drew1) | exact HB.out)⟩⟩
               ·rw [if_neg p1] at H;exact absurd H (by simp)
              ·rw [if_neg p0] at H;exact absurd H (by simp)
             ·rw [if_neg o9] at H;exact absurd H (by simp)
            ·rw [if_neg o8] at H;exact absurd H (by simp)
           ·rw [if_neg l9] at H;exact absurd H (by simp)
          ·rw [if_neg l8] at H;exact absurd H (by simp)
   ·rw [if_neg c5] at H;have c5b0 : decide (a4 < (wrap64 ((l0.length : Int) + (l1.length : Int)))) = false := decide_eq_false c5;clear c5;obtain rfl := Option.some.inj H;go_wp2
    go_ret
    exact ⟨_, by first | rfl | (simp [errW_none, errW_some] <;> rfl) | (simp [*, errW_none, errW_some] <;> rfl), by (with_reducible repeat (first | apply Kd.R_alloc | apply Kd.R_drewN | apply Kd.R_drew)); exact a0.out, by repeat (first | (with_reducible first | exact HB.out | apply below_alloc | apply pw_below_drewN | apply below_drew1) | exact HB.out)⟩
end Go.Proofs.Ytmcbkmfpmcbdpaa.Pr
set_option linter.unusedVariables false
set_option linter.unusedSimpArgs false
namespace Go.Proofs.Ytmcbkmfpmcbdpaa.PL
theorem rind {α : Type} {P : List α → Prop} (h0 : P []) (h1 : ∀ l a, P l → P (l ++ [a])) (l : List α) : P l := by
 have : ∀ m : List α, P m.reverse := by
  intro m
  induction m with
  | nil => exact h0
  | cons a r ih => rw [List.reverse_cons]; exact h1 _ _ ih
 have := this l.reverse
 rwa [List.reverse_reverse] at this
section
variable {κ : Type} [DecidableEq κ]
def addK (acc : List κ) (k : κ) : List κ := if k ∈ acc then acc else acc ++ [k]
def fstK (ks : List κ) : List κ := ks.foldl addK []
def numK (ks : List κ) : List Int := ks.map fun k => ((fstK ks).idxOf k : Int)
theorem fstK_snoc (ks : List κ) (k : κ) : fstK (ks ++ [k]) = addK (fstK ks) k := by simp [fstK, List.foldl_append]
theorem addK_mem {acc : List κ} {k x : κ} : x ∈ addK acc k ↔ x ∈ acc ∨ x = k := by
 unfold addK
 split
 ·rename_i h
  constructor
  ·exact .inl
  ·rintro (h' | rfl)
   ·exact h'
   ·exact h
 ·simp
theorem addK_nodup {acc : List κ} {k : κ} (h : acc.Nodup) : (addK acc k).Nodup := by
 unfold addK
 split
 ·exact h
 ·rename_i q
  rw [List.nodup_append]
  refine ⟨h, by simp, fun a ha b hb => ?_⟩
  have : b = k := by simpa using hb
  subst this
  intro e
  exact q (e ▸ ha)
theorem fstK_mem (ks : List κ) : ∀ x, x ∈ fstK ks ↔ x ∈ ks := by
 induction ks using rind with
 | h0 => intro x; simp [fstK]
 | h1 l a ih => intro x; rw [fstK_snoc, addK_mem, ih]; simp
theorem fstK_nodup (ks : List κ) : (fstK ks).Nodup := by
 induction ks using rind with
 | h0 => simp [fstK]
 | h1 l a ih => rw [fstK_snoc]; exact addK_nodup ih
theorem fstK_prefix (ks rs : List κ) : fstK ks <+: fstK (ks ++ rs) := by
 induction rs using rind with
 | h0 => simp
 | h1 l a ih =>
  rw [← List.append_assoc, fstK_snoc]
  refine ih.trans ?_
  unfold addK
  split
  ·exact List.prefix_refl _
  ·exact List.prefix_append _ _
theorem idxOf_prefix {a b : List κ} (h : a <+: b) {k : κ} (hk : k ∈ a) : b.idxOf k = a.idxOf k := by
 obtain ⟨r, rfl⟩ := h
 rw [List.idxOf_append, if_pos hk]
theorem idxOf_addK_new {acc : List κ} {k : κ} (h : k ∉ acc) : (addK acc k).idxOf k = acc.length := by
 unfold addK
 rw [if_neg h, List.idxOf_append, if_neg h]
 simp
theorem fstK_length_le (ks : List κ) : (fstK ks).length ≤ ks.length := by
 induction ks using rind with
 | h0 => simp [fstK]
 | h1 l a ih =>
  rw [fstK_snoc]
  unfold addK
  split
  ·simp; omega
  ·simp; omega
theorem numK_length (ks : List κ) : (numK ks).length = ks.length := by simp [numK]
theorem numK_snoc (ks : List κ) (k : κ) : numK (ks ++ [k]) = numK ks ++ [((addK (fstK ks) k).idxOf k : Int)] := by
 unfold numK
 rw [List.map_append, fstK_snoc]
 congr 1
 refine List.map_congr_left fun x hx => ?_
 have hp : fstK ks <+: addK (fstK ks) k := by rw [← fstK_snoc]; exact fstK_prefix ks [k]
 rw [idxOf_prefix hp ((fstK_mem ks x).2 hx)]
theorem numK_at (ks : List κ) {i : Nat} (hi : i < ks.length) : (numK ks).getD i 0 = ((fstK ks).idxOf ks[i] : Int) := by
 simp only [numK, List.getD_eq_getElem?_getD, List.getElem?_map, List.getElem?_eq_getElem hi, Option.map_some, Option.getD_some]
end
def Ker {κ τ : Type} (ks : List κ) (ts : List τ) : Prop := ks.length = ts.length ∧ ∀ (i j : Nat) (hi : i < ks.length) (hj : j < ks.length) (hi' : i < ts.length) (hj' : j < ts.length), ks[i] = ks[j] ↔ ts[i] = ts[j]
theorem Ker.symm {κ τ : Type} {ks : List κ} {ts : List τ} (h : Ker ks ts) : Ker ts ks := ⟨h.1.symm, fun i j a b c d => (h.2 i j c d a b).symm⟩
theorem Ker.refl {κ : Type} (ks : List κ) : Ker ks ks := ⟨rfl, fun _ _ _ _ _ _ => Iff.rfl⟩
theorem Ker.trans {κ τ υ : Type} {ks : List κ} {ts : List τ} {us : List υ} (h : Ker ks ts) (g : Ker ts us) : Ker ks us :=
 ⟨h.1.trans g.1, fun i j a b c d => (h.2 i j a b (by rw [← h.1]; exact a) (by rw [← h.1]; exact b)).trans (g.2 i j (by rw [← h.1]; exact a) (by rw [← h.1]; exact b) c d)⟩
theorem Ker.init {κ τ : Type} {ks : List κ} {ts : List τ} {a : κ} {b : τ} (h : Ker (ks ++ [a]) (ts ++ [b])) : Ker ks ts ∧ ∀ (i : Nat) (hi : i < ks.length) (hi' : i < ts.length), ks[i] = a ↔ ts[i] = b := by
 have hl : ks.length = ts.length := by have := h.1; simp at this; exact this
 refine ⟨⟨hl, fun i j hi hj hi' hj' => ?_⟩, fun i hi hi' => ?_⟩
 ·have := h.2 i j (by simp; omega) (by simp; omega) (by simp; omega) (by simp; omega)
  rwa [List.getElem_append_left hi, List.getElem_append_left hj, List.getElem_append_left hi', List.getElem_append_left hj'] at this
 ·have := h.2 i ks.length (by simp; omega) (by simp) (by simp; omega) (by simp; omega)
  rw [List.getElem_append_left hi, List.getElem_append_left hi'] at this
  simpa [hl] using this
theorem rcases_snoc {α : Type} (l : List α) : l = [] ∨ ∃ r a, l = r ++ [a] := by
 induction l using rind with
 | h0 => exact .inl rfl
 | h1 l a ih => exact .inr ⟨l, a, rfl⟩
section
variable {κ τ : Type} [DecidableEq κ] [DecidableEq τ]
theorem numK_ker : ∀ (ks : List κ) (ts : List τ), Ker ks ts → numK ks = numK ts ∧ (fstK ks).length = (fstK ts).length := by
 intro ks
 induction ks using rind with
 | h0 =>
  intro ts h;have : ts = [] := by have := h.1; simpa using this.symm
  subst this;exact ⟨rfl, rfl⟩
 | h1 l a ih =>
  intro ts h;rcases rcases_snoc ts with rfl | ⟨r, b, rfl⟩
  ·have := h.1; simp at this
  ·have hi := h.init;have hk := ih r hi.1;have hl : l.length = r.length := hi.1.1;rw [numK_snoc, numK_snoc, fstK_snoc, fstK_snoc, hk.1];by_cases q : a ∈ l
   ·obtain ⟨i, hil, hia⟩ := List.getElem_of_mem q;have hb := (hi.2 i hil (by omega)).1 hia;have hb' : b ∈ r := hb ▸ List.getElem_mem (show i < r.length by omega);have e1 : addK (fstK l) a = fstK l := by unfold addK; rw [if_pos ((fstK_mem l a).2 q)]
    have e2 : addK (fstK r) b = fstK r := by unfold addK; rw [if_pos ((fstK_mem r b).2 hb')]
    rw [e1, e2];refine ⟨?_, hk.2⟩;have x1 := numK_at l hil;have x2 := numK_at r (i := i) (by omega);rw [hia] at x1;rw [hb] at x2;rw [← x1, ← x2, hk.1]
   ·have hb' : b ∉ r := by
     intro hb;obtain ⟨i, hil, hib⟩ := List.getElem_of_mem hb;exact q ((hi.2 i (by omega) hil).2 hib ▸ List.getElem_mem (show i < l.length by omega))
    have q1 : a ∉ fstK l := fun h => q ((fstK_mem l a).1 h)
    have q2 : b ∉ fstK r := fun h => hb' ((fstK_mem r b).1 h)
    rw [idxOf_addK_new q1, idxOf_addK_new q2, hk.2];refine ⟨rfl, ?_⟩;unfold addK;rw [if_neg q1, if_neg q2];simp [hk.2]
end
section
variable {κ : Type} [DecidableEq κ]
theorem take_snoc' {α : Type} {l : List α} {m : Nat} (h : m < l.length) : l.take (m + 1) = l.take m ++ [l[m]] := by
 rw [List.take_add_one, List.getElem?_eq_getElem h]; rfl
end
end Go.Proofs.Ytmcbkmfpmcbdpaa.PL
set_option linter.unusedVariables false
set_option linter.unusedSimpArgs false
namespace Go.Proofs.Ytmcbkmfpmcbdpaa.H
open Go.RowKit Go.Proofs.Ytmcbkmfpmcbdpaa.Pr Go.Proofs.YtmcbkmfpmcbdpaaW.PrintWords Go.Proofs.Ytmcbkmfpmcbdpaa.Sem Go.Proofs.Ytmcbkmfpmcbdpaa.PL
theorem toList_eq {a b : ByteArray} : a.toList = b.toList ↔ a = b := by
 constructor
 ·intro h
  exact ByteArray.ext (Array.toList_inj.1 (by simpa [ByteArray.toList_eq] using h))
 ·intro h; rw [h]
instance : LawfulBEq ByteArray where
  eq_of_beq {a b} h := by
    have h2 : a.data = b.data := eq_of_beq (show (a.data == b.data) = true from h)
    exact ByteArray.ext h2
  rfl {a} := show (a.data == a.data) = true from beq_self_eq_true _
def plc (ls : List ByteArray) (s : ByteArray) : Int := if s ∈ ls then (ls.idxOf s : Int) else -1
theorem rdS (ls : List ByteArray) {i : Nat} (hi : i < ls.length) : rdOf ByteArray.empty ls (i : Int) = ls[i] := by
 unfold rdOf
 rw [Int.toNat_natCast, getD_get hi]
theorem idxOf_beforeB : ∀ (l : List ByteArray) (k : ByteArray) (j : Nat) (h : j < l.length), j < l.idxOf k → l[j] ≠ k
 | [], _, _, h, _ => by simp at h
 | a :: r, k, j, h, hj => by
  rw [List.idxOf_cons] at hj
  by_cases q : a = k
  ·subst q; simp at hj
  ·rw [show (a == k) = false by simpa using q] at hj
   cases j with
   | zero => simpa using q
   | succ j => simp only [cond_false] at hj; rw [List.getElem_cons_succ]; exact idxOf_beforeB r k j (by simpa using h) (by omega)
theorem plc_at {ls : List ByteArray} {s : ByteArray} {i : Nat} (hi : i < ls.length) (h : ls[i] = s) (hb : ∀ j (hj : j < ls.length), j < i → ls[j] ≠ s) : plc ls s = (i : Int) := by
 unfold plc
 rw [if_pos (h ▸ List.getElem_mem hi)]
 congr 1
 have h1 := List.idxOf_lt_length_of_mem (h ▸ List.getElem_mem hi : s ∈ ls)
 have h2 := List.getElem_idxOf h1
 rcases Nat.lt_trichotomy (ls.idxOf s) i with q | q | q
 ·exact absurd h2 (hb _ h1 q)
 ·exact q
 ·exact absurd h (idxOf_beforeB ls s i hi q)
theorem plc_no {ls : List ByteArray} {s : ByteArray} (hb : ∀ j (hj : j < ls.length), ls[j] ≠ s) : plc ls s = -1 := by
 unfold plc
 rw [if_neg fun h => ?_]
 obtain ⟨j, hj, e⟩ := List.getElem_of_mem h
 exact hb j hj e
theorem plc_nonneg {ls : List ByteArray} {s : ByteArray} : 0 ≤ plc ls s ↔ s ∈ ls := by
 unfold plc
 split
 ·rename_i h
  exact ⟨fun _ => h, fun _ => by omega⟩
 ·rename_i h
  exact ⟨fun q => by omega, fun q => absurd q h⟩
theorem plc_lt {ls : List ByteArray} {s : ByteArray} : plc ls s < (ls.length : Int) ∨ ls = [] := by
 unfold plc
 split
 ·rename_i h
  have := List.idxOf_lt_length_of_mem h
  exact .inl (by omega)
 ·rcases ls with _ | ⟨x, r⟩
  ·exact .inr rfl
  ·exact .inl (by simp; omega)
theorem index_ev (ls : List ByteArray) (s : ByteArray) (hl : ls.length ≤ 1000000) : Ev (fun k => Pxa.f k ls s) (plc ls s) := by
 have key : ∀ d i : Nat, i + d = ls.length → (∀ j (hj : j < ls.length), j < i → ls[j] ≠ s) → Ev (fun k => Pxa.l0 k ls s (ls.length : Int) (i : Int)) (plc ls s) := by
  intro d
  induction d with
  | zero =>
   intro i h hb
   rw [plc_no fun j hj => hb j hj (by omega)]
   exact Ev.step (fun k => Pxa.l0.eq_2 ..) (Ev.neg (by omega) (Ev.now _))
  | succ d ih =>
   intro i h hb
   have hi : i < ls.length := by omega
   refine Ev.step (fun k => Pxa.l0.eq_2 ..) (Ev.pos (by omega) (Ev.pos (by omega) (Ev.pos (by omega) ?_)))
   rw [rdS ls hi]
   by_cases q : ls[i] = s
   ·rw [plc_at hi q hb]
    exact Ev.pos (toList_eq.2 q.symm) (Ev.now _)
   ·refine Ev.neg (fun h => q (toList_eq.1 h).symm) ?_
    rw [w1n (by omega)]
    refine ih (i + 1) (by omega) fun j hj hji => ?_
    rcases Nat.lt_succ_iff_lt_or_eq.1 hji with h | rfl
    ·exact hb j hj h
    ·exact q
 exact key ls.length 0 (by omega) fun j hj h => by omega
theorem nplace_ev (ls : List ByteArray) (s : ByteArray) (hl : ls.length ≤ 1000000) : Ev (fun k => Pxc.f k ls s) (plc ls s) := Ev.last (index_ev ls s hl)
theorem rplace_ev (ls : List ByteArray) (s : ByteArray) (hl : ls.length ≤ 1000000) : Ev (fun k => Pr02a.f k ls s) (plc ls s) := by
 have key : ∀ d i : Nat, i + d = ls.length → (∀ j (hj : j < ls.length), j < i → ls[j] ≠ s) → Ev (fun k => Pr02a.l0 k ls s (i : Int)) (plc ls s) := by
  intro d
  induction d with
  | zero =>
   intro i h hb
   rw [plc_no fun j hj => hb j hj (by omega)]
   exact Ev.step (fun k => Pr02a.l0.eq_2 ..) (Ev.neg (by omega) (Ev.now _))
  | succ d ih =>
   intro i h hb
   have hi : i < ls.length := by omega
   refine Ev.step (fun k => Pr02a.l0.eq_2 ..) (Ev.pos (by omega) (Ev.pos (by omega) ?_))
   rw [rdS ls hi]
   by_cases q : ls[i] = s
   ·rw [plc_at hi q hb]
    exact Ev.pos (toList_eq.2 q) (Ev.now _)
   ·refine Ev.neg (fun h => q (toList_eq.1 h)) ?_
    rw [w1n (by omega)]
    refine ih (i + 1) (by omega) fun j hj hji => ?_
    rcases Nat.lt_succ_iff_lt_or_eq.1 hji with h | rfl
    ·exact hb j hj h
    ·exact q
 exact key ls.length 0 (by omega) fun j hj h => by omega
theorem bless {a b : ByteArray} : (Op.bytesLess a.toList b.toList = true) ↔ slt a b := by
 rw [bytesLess_lt, decide_eq_true_eq]
 unfold slt
 rw [ByteArray.toList_eq, ByteArray.toList_eq]
theorem uniS_snoc (l : List ByteArray) (s : ByteArray) : uniS (l ++ [s]) = insG (lt := slt) s (uniS l) := by simp [uniS, uniG, List.foldl_append]
theorem uniS_len (l : List ByteArray) : (uniS l).length ≤ l.length := by
 induction l using rind with
 | h0 => simp [uniS, uniG]
 | h1 l a ih =>
  rw [uniS_snoc]
  have : ∀ o : List ByteArray, (insG (lt := slt) a o).length ≤ o.length + 1 := by
   intro o
   induction o with
   | nil => simp [insG]
   | cons x r ih =>
    unfold insG
    split
    ·simp
    ·split
     ·simp; omega
     ·simp
  have := this (uniS l)
  simp; omega
theorem runion_in {k : Nat} {x0 x1 o : List ByteArray} {i t : Nat} {s : ByteArray} (ht : t ≤ o.length) (hl : o.length ≤ 1000000) (R : List ByteArray) (Q : Nat → Option (List ByteArray)) (hQ : ∀ k, Q k = Pr02b.l0 k x0 x1 (o.take t ++ s :: o.drop t) (wrap64 ((i : Int) + 1)))
  (hE : Ev Q R) (hb : ∀ j, j < t → (hj : j < o.length) → slt o[j] s) (hn : (hj : t < o.length) → ¬ slt o[t] s) : ∀ d u : Nat, u + d = t → Ev (fun k => Pr02b.l1 k x0 x1 o (i : Int) s (u : Int)) R := by
 intro d
 induction d with
 | zero =>
  intro u h;obtain rfl : u = t := by omega
  have hfin : Ev (fun k => Pr02b.l0 k x0 x1 ((([] ++ o.take u) ++ [s]) ++ ([] ++ o.drop u)) (wrap64 ((i : Int) + 1))) R := by
   refine Ev.congr (fun k => ?_) hE;rw [hQ];simp
  have l1 : (([] : List ByteArray).length + (o.drop (u : Int).toNat).length) < 8796093022208 := by simp; omega
  have l2 : (([] : List ByteArray).length + (o.take (u : Int).toNat).length) < 8796093022208 := by simp; omega
  have l3 : (([] : List ByteArray) ++ o.take (u : Int).toNat).length < 8796093022208 := by simp; omega
  have l4 : ((([] : List ByteArray) ++ o.take (u : Int).toNat) ++ [s]).length + (([] : List ByteArray) ++ o.drop (u : Int).toNat).length < 8796093022208 := by simp; omega
  by_cases hu : u < o.length
  ·refine Ev.step (fun k => Pr02b.l1.eq_2 ..) (Ev.pos (by omega) (Ev.pos (by omega) (Ev.neg (by rw [rdS o hu, bless]; exact hn hu) ?_)));exact Ev.bindS rfl (Ev.pos (by omega) (Ev.bindS rfl (Ev.pos l1 (Ev.bindS rfl (Ev.bindS rfl (Ev.bindS rfl (Ev.pos l2 (Ev.bindS rfl (Ev.pos l3 (Ev.bindS rfl (Ev.pos l4 hfin)))))))))))
  ·refine Ev.step (fun k => Pr02b.l1.eq_2 ..) (Ev.neg (by omega) ?_);exact Ev.bindS rfl (Ev.pos (by omega) (Ev.pos (by omega) (Ev.bindS rfl (Ev.pos l1 (Ev.bindS rfl (Ev.bindS rfl (Ev.bindS rfl (Ev.pos l2 (Ev.bindS rfl (Ev.pos l3 (Ev.bindS rfl (Ev.pos l4 hfin))))))))))))
 | succ d ih =>
  intro u h;have hu : u < o.length := by omega
  refine Ev.step (fun k => Pr02b.l1.eq_2 ..) (Ev.pos (by omega) (Ev.pos (by omega) (Ev.pos (by rw [rdS o hu, bless]; exact hb u (by omega) hu) ?_)));rw [w1n (by omega)];exact ih (u + 1) (by omega)
theorem runion_ev (xs ys : List ByteArray) (h1 : xs.length ≤ 100000) (h2 : ys.length ≤ 100000) : Ev (fun k => Pr02b.f k xs ys) (uniS (xs ++ ys)) := by
 have key : ∀ d i : Nat, i + d = (xs ++ ys).length → Ev (fun k => Pr02b.l0 k xs ys (uniS ((xs ++ ys).take i)) (i : Int)) (uniS (xs ++ ys)) := by
  intro d
  induction d with
  | zero =>
   intro i h;rw [List.take_of_length_le (by omega)];rw [List.length_append] at h;exact Ev.step (fun k => Pr02b.l0.eq_2 ..) (Ev.neg (by rw [wid (by omega) (by omega)]; omega) (Ev.now _))
  | succ d ih =>
   intro i h;have hl : (xs ++ ys).length = xs.length + ys.length := List.length_append ..;have hi : i < (xs ++ ys).length := by omega
   have ih' := ih (i + 1) (by omega);rw [take_snoc' hi, uniS_snoc] at ih';have hol := uniS_len ((xs ++ ys).take i);rw [List.length_take] at hol;have hos := uniS_sorted ((xs ++ ys).take i);generalize uniS ((xs ++ ys).take i) = o at ih' hol hos ⊢;obtain ⟨s, hs⟩ : ∃ s, s = (xs ++ ys)[i] := ⟨_, rfl⟩
   rw [← hs] at ih'
   have a0 : Ev (fun k => Pr02b.j1 k xs ys o (i : Int) s) (uniS (xs ++ ys)) := by
    refine Ev.step (fun k => Pr02b.j1.eq_2 ..) (Ev.bind (rplace_ev o s (by omega)) ?_);by_cases q : s ∈ o
    ·refine Ev.pos (plc_nonneg.2 q) ?_;rw [w1n (by omega)];rwa [insG_in slt_irr slt_tr slt_tri hos q] at ih'
    ·refine Ev.neg (fun h => q (plc_nonneg.1 h)) ?_
     obtain ⟨t, ht, hb, hn⟩ : ∃ t, t ≤ o.length ∧ (∀ j, j < t → (hj : j < o.length) → slt o[j] s) ∧ ((hj : t < o.length) → ¬ slt o[t] s) := by
      have : ∀ m, m ≤ o.length → (∀ j, j < o.length - m → (hj : j < o.length) → slt o[j] s) → ∃ t, t ≤ o.length ∧ (∀ j, j < t → (hj : j < o.length) → slt o[j] s) ∧ ((hj : t < o.length) → ¬ slt o[t] s) := by
       intro m
       induction m with
       | zero => intro _ h; exact ⟨o.length, Nat.le_refl _, fun j hj h' => h j (by omega) h', fun h' => absurd h' (Nat.lt_irrefl _)⟩
       | succ m ihm =>
        intro hm h;by_cases hq : slt (o[o.length - (m + 1)]'(by omega)) s
        ·refine ihm (by omega) fun j hj h' => ?_
         rcases Nat.lt_or_ge j (o.length - (m + 1)) with g | g
         ·exact h j g h'
         ·obtain rfl : j = o.length - (m + 1) := by omega
          exact hq
        ·exact ⟨o.length - (m + 1), by omega, fun j hj h' => h j hj h', fun _ => hq⟩
      exact this o.length (Nat.le_refl _) fun j hj _ => by omega
     have hins : insG (lt := slt) s o = o.take t ++ s :: o.drop t := by
      refine insG_at slt_irr slt_tr slt_tri hos ht (fun a ha => ?_) (fun a ha => ?_)
      ·obtain ⟨j, hj, rfl⟩ := List.getElem_of_mem ha;rw [List.length_take] at hj;rw [List.getElem_take];exact hb j (by omega) (by omega)
      ·obtain ⟨j, hj, rfl⟩ := List.getElem_of_mem ha;rw [List.length_drop] at hj;rw [List.getElem_drop]
       have h0 : slt s o[t] := by
        have n1 := hn (by omega);rcases Classical.em (slt s o[t]) with g | g
        ·exact g
        ·exact absurd (slt_tri _ _ g n1 ▸ List.getElem_mem _) q
       rcases Nat.eq_zero_or_pos j with rfl | g
       ·simpa using h0
       ·exact slt_tr _ _ _ h0 (List.pairwise_iff_getElem.1 hos t (t + j) (by omega) (by omega) (by omega))
     rw [hins] at ih';exact runion_in (k := 0) ht (by omega) _ (fun k => Pr02b.l0 k xs ys (o.take t ++ s :: o.drop t) (((i + 1 : Nat) : Nat) : Int)) (fun k => by rw [w1n (by omega)]) ih' hb hn t 0 (by omega)
   refine Ev.step (fun k => Pr02b.l0.eq_2 ..) (Ev.pos (by rw [wid (by omega) (by omega)]; omega) ?_);by_cases hx : i < xs.length
   ·have e : rdOf ByteArray.empty xs (i : Int) = s := by rw [rdS xs hx, hs, List.getElem_append_left hx]
    refine Ev.pos (by omega) (Ev.pos (by omega) ?_);rw [e];exact a0
   ·have e : rdOf ByteArray.empty ys (wrap64 ((i : Int) - (xs.length : Int))) = s := by
     rw [wid (by omega) (by omega), show (i : Int) - (xs.length : Int) = ((i - xs.length : Nat) : Int) by omega, rdS ys (by omega), hs, List.getElem_append_right (by omega)]
    refine Ev.neg (by omega) (Ev.pos (by rw [wid (by omega) (by omega)]; omega) (Ev.pos (by rw [wid (by omega) (by omega)]; omega) ?_));rw [e];exact a0
 exact key (xs ++ ys).length 0 (by omega)
end Go.Proofs.Ytmcbkmfpmcbdpaa.H
set_option linter.unusedVariables false
set_option linter.unusedSimpArgs false
namespace Go.Proofs.Ytmcbkmfpmcbdpaa.H
open Go.RowKit Go.Proofs.Ytmcbkmfpmcbdpaa.Pr Go.Proofs.YtmcbkmfpmcbdpaaW.PrintWords Go.Proofs.Ytmcbkmfpmcbdpaa.Sem Go.Sort Go.Shelf Go.Lib
def GW (w W : World) : Prop := ∃ q os, W = grow (w.drewN q) os
theorem GW.refl (w : World) : GW w w := ⟨0, #[], by simp [grow, World.drewN]⟩
theorem GW.alloc {w W : World} (h : GW w W) (o : Obj) : GW w (W.alloc o) := by
 obtain ⟨q, os, rfl⟩ := h
 exact ⟨q, os ++ #[o], by rw [alloc_eq_grow, grow_grow]⟩
theorem GW.drew {w W : World} (h : GW w W) : GW w W.drew := by
 obtain ⟨q, os, rfl⟩ := h
 exact ⟨q + 1, os, by simp [grow, World.drewN, World.drew, Nat.add_assoc]⟩
theorem GW.drewN {w W : World} (h : GW w W) (m : Nat) : GW w (W.drewN m) := by
 obtain ⟨q, os, rfl⟩ := h
 exact ⟨q + m, os, by simp [grow, World.drewN, Nat.add_assoc]⟩
set_option maxRecDepth 100000 in
theorem compareG (a b : Ed) (w : World) : Calls Try.prog 122 #[.agg #[.int .i64 a.f0, .int .i64 a.f1, .int .i64 a.f2], .agg #[.int .i64 b.f0, .int .i64 b.f1, .int .i64 b.f2]] w fun e w' => e = .returned (.int .i64 (cmpE a b)) ∧ GW w w' := by
 go_enter Try.func122, Try.ntmps122
 go_wp2_with fail
 go_region_held3 (fun w' => w'.cell? ⟨w.heap.size, 0, none⟩ = some (.int .i64 a.f0) ∧ w'.cell? ⟨w.heap.size, 1, none⟩ = some (.int .i64 a.f1) ∧ w'.cell? ⟨w.heap.size, 2, none⟩ = some (.int .i64 a.f2) ∧ w'.cell? ⟨w.heap.size + 1, 0, none⟩ = some (.int .i64 b.f0) ∧ w'.cell? ⟨w.heap.size + 1, 1, none⟩ = some (.int .i64 b.f1) ∧ w'.cell? ⟨w.heap.size + 1, 2, none⟩ = some (.int .i64 b.f2))
  (first | go_keep)
  (first
   | (go_at_call 137; refine (compare_any _ _ _).mono ?_; rintro e w' ⟨rfl, rfl⟩)
   | (go_at_call 154; refine (or_any [cmpI a.f0 b.f0, cmpI a.f1 b.f1, cmpI a.f2 b.f2] _ _ _ (by simp) (by intro j hj; match j, hj with | 0, _ => go_simp | 1, _ => go_simp | 2, _ => go_simp)).mono ?_; rintro e w' ⟨rfl, rfl⟩))
 go_wp2
 go_ret
 exact ⟨rfl, by repeat (first | exact GW.refl _ | apply GW.alloc | apply GW.drewN | apply GW.drew)⟩
def encE (x : Ed) : List Value := [.int .i64 x.f0, .int .i64 x.f1, .int .i64 x.f2]
theorem ltE (x y : Ed) : ltOf cmpE x y = decide (elt x y) := by unfold ltOf; rw [decide_eq_decide]; exact cmpE_neg x y
theorem swoE : SWO (ltOf cmpE) where
 irrefl x := by rw [ltE]; simp [elt]
 trans x y z h1 h2 := by rw [ltE] at *; simp only [decide_eq_true_eq] at *; unfold elt at *; omega
 ntrans x y z h1 h2 := by rw [ltE] at *; simp only [decide_eq_false_iff_not] at *; unfold elt at *; omega
theorem totE (x y : Ed) (h1 : ltOf cmpE x y = false) (h2 : ltOf cmpE y x = false) : x = y := by
 rw [ltE, decide_eq_false_iff_not] at h1 h2
 obtain ⟨x0, x1, x2⟩ := x
 obtain ⟨y0, y1, y2⟩ := y
 unfold elt at h1 h2
 simp only at h1 h2
 rw [S80.mk.injEq]
 omega
theorem sortF_any (g c : Nat) (es : List Ed) (w : World) (hH : HoldsK encE 3 w g 0 es.toArray) (hblk : g < w.heap.size) (hsz : es.length ≤ 1000000) :
  Calls Try.prog 133 #[.slice (some ⟨g, 0, none⟩) es.length c, .func (.func 122) #[] #[]] w fun e w' => e = .returned (.tuple #[]) ∧ ∃ n os, w' = sortWorldK encE 3 w g 0 n (es.mergeSort fun x y => !(ltOf cmpE) y x).toArray os := by
 have eg : ∀ args w, (callFunc 122 args).run Try.prog w = .ok (.enter 122 args) w := enters_of Try.func122 (by kernel_rfl) rfl
 have hcon := AnyQ.slices_SortFunc_total Try.sortE 3 (fun _ => by kernel_rfl) (fun _ => by kernel_rfl) encE (fun _ => rfl) (fun x v hv => by simp [encE] at hv; rcases hv with rfl | rfl | rfl <;> rfl) cmpE swoE 122 #[] g 0 c es.toArray w eg (fun m os dk hs x y => compareG x y _) hH hblk (by simp; omega) totE
 change Calls Try.prog 133 _ _ _ at hcon
 simpa using hcon
end Go.Proofs.Ytmcbkmfpmcbdpaa.H
set_option linter.unusedVariables false
set_option linter.unusedSimpArgs false
namespace Go.Proofs.Ytmcbkmfpmcbdpaa.H
open Go.RowKit Go.Proofs.Ytmcbkmfpmcbdpaa.Pr Go.Proofs.YtmcbkmfpmcbdpaaW.PrintWords Go.Proofs.Ytmcbkmfpmcbdpaa.Sem Go.Sort Go.Shelf Go.Lib
theorem holdsK_of_R {W : World} {base g cap : Nat} {ok : Nat → Prop} {es : List Ed} (h : Kd.R k80 80 W base ok (.slice (some ⟨g, 0, none⟩) es.length cap) es) : HoldsK encE 3 W g 0 es.toArray := by
 intro j hj
 rw [size_flatK, List.size_toArray] at hj
 have hi : j / 3 < es.length := by omega
 obtain ⟨c, hcl, hM, hcc, hf⟩ := Kd.R_elem h z80 ((j / 3 : Nat) : Int) (by omega) (by omega)
 have hc := k80_openM hM
 rw [Int.toNat_natCast] at hc hcc hf
 have hsz : (k80 : Kd Ed).sz = 3 := rfl
 rw [hsz] at hcc hf
 have e : j / 3 * 3 + j % 3 = j := by omega
 have h3 : j % 3 < 3 := Nat.mod_lt _ (by omega)
 have hx : es.toArray[j / 3]! = es.getD (j / 3) z80 := by
  rw [getElem!_pos es.toArray (j / 3) (by simpa using hi), getD_get hi]
  simp
 rw [get_flatK _ _ _ _ (by rw [List.size_toArray]; exact hj), hx, Nat.zero_add]
 have hlen : (encE (es.getD (j / 3) z80)).length = 3 := rfl
 refine ⟨?_, by have := hf (j % 3); rwa [e] at this⟩
 have hu : c[j % 3]? = some ((encE (es.getD (j / 3) z80))[j % 3]!) := by
  rw [hc, getElem!_pos (encE (es.getD (j / 3) z80)) (j % 3) (by rw [hlen]; exact h3)]
  exact List.getElem?_eq_getElem (by exact h3)
 have := hcc (j % 3) _ hu
 rwa [e] at this
theorem flat_len (es : List Ed) : (flatK encE 3 es.toArray).toList.length = es.length * 3 := by
 rw [Array.length_toList, size_flatK, List.size_toArray]
theorem flat_seg (es : List Ed) (j : Nat) (hj : j < es.length) : ((flatK encE 3 es.toArray).toList.drop (j * 3)).take 3 = encE es[j] := by
 have hx : es.toArray[j]! = es[j] := by
  rw [getElem!_pos es.toArray j (by simpa using hj)]
  simp
 apply List.ext_getElem
 ·rw [List.length_take, List.length_drop, flat_len]
  show min 3 _ = 3
  omega
 ·intro i h1 h2
  have hi : i < 3 := h2
  rw [List.getElem_take, List.getElem_drop, Array.getElem_toList]
  have := get_flatK encE 3 es.toArray (j * 3 + i) (by rw [List.size_toArray]; omega)
  rw [getElem!_pos (flatK encE 3 es.toArray) (j * 3 + i) (by rw [size_flatK, List.size_toArray]; omega)] at this
  rw [this, show (j * 3 + i) / 3 = j by omega, show (j * 3 + i) % 3 = i by omega, hx]
  exact getElem!_pos (encE es[j]) i h2
theorem R_sorted {W : World} {base g cap : Nat} {es es' : List Ed} (h : Kd.R k80 80 W base (fun _ => True) (.slice (some ⟨g, 0, none⟩) es.length cap) es) (hl : es'.length = es.length) (m : Nat) (os : Array Obj) : Kd.R k80 80 (sortWorldK encE 3 W g 0 m es'.toArray os) base (fun _ => True) (.slice (some ⟨g, 0, none⟩) es'.length cap) es' := by
 obtain ⟨h0, inner, ho, hr⟩ := h;obtain ⟨hil, hcase⟩ := ho;rcases hcase with ⟨hv, _⟩ | ⟨g', cap', cur, hv, hb, hh, hnc, hcm, hcs, htk⟩
 ·cases hv
 ·cases hv;have hsz : (k80 : Kd Ed).sz = 3 := rfl;rw [hsz] at hcs htk hil;have hlt : g < W.heap.size := blk_lt hh
  have hheap : (sortWorldK encE 3 W g 0 m es'.toArray os).heap[g]? = some (.cells (putCells id 0 (flatK encE 3 es'.toArray) cur) 80 (0, 0)) := by
   show ((W.heap.modify g (onCells (putCells id 0 (flatK encE 3 es'.toArray)))) ++ os)[g]? = _;rw [Array.getElem?_append_left (by rw [Array.size_modify]; exact hlt), Array.getElem?_modify, if_pos rfl, hh];rfl
  refine ⟨fun _ _ => trivial, (flatK encE 3 es'.toArray).toList, ⟨by rw [flat_len, hsz], .inr ⟨g, cap, _, rfl, hb, hheap, by omega, hcm, by rw [hsz]; unfold putCells; rw [Array.size_mapIdx]; exact hcs, ?_⟩⟩, ?_⟩
  ·rw [hsz];apply List.ext_getElem
   ·have hq : (putCells id 0 (flatK encE 3 es'.toArray) cur).size = cap * 3 := by unfold putCells; rw [Array.size_mapIdx]; exact hcs
    have hq2 : (putCells id 0 (flatK encE 3 es'.toArray) cur).toList.length = cap * 3 := by rw [Array.length_toList]; exact hq
    rw [List.length_take, hq2, flat_len];have : es.length * 3 ≤ cap * 3 := Nat.mul_le_mul_right _ hnc;omega
   ·intro i h1 h2;rw [flat_len, hl] at h2;rw [List.getElem_take, Array.getElem_toList];unfold putCells;rw [Array.getElem_mapIdx, if_pos (by rw [size_flatK, List.size_toArray, hl]; omega), Nat.sub_zero, getElem!_pos (flatK encE 3 es'.toArray) i (by rw [size_flatK, List.size_toArray, hl]; exact h2)];rfl
  ·refine ⟨by rw [flat_len, hsz], fun j p hp => ?_⟩;obtain ⟨hj, rfl⟩ := List.getElem?_eq_some_iff.1 hp;rw [hsz, flat_seg es' j hj];exact k80_mkM _ _ _ _
def sortedE (es : List Ed) : List Ed := es.mergeSort fun x y => !(ltOf cmpE) y x
end Go.Proofs.Ytmcbkmfpmcbdpaa.H
set_option linter.unusedVariables false
set_option linter.unusedSimpArgs false
namespace Go.Proofs.Ytmcbkmfpmcbdpaa.H
open Go.RowKit Go.Proofs.Ytmcbkmfpmcbdpaa.Pr Go.Proofs.YtmcbkmfpmcbdpaaW.PrintWords Go.Proofs.Ytmcbkmfpmcbdpaa.Sem Go.Lib
theorem run_clear_edges (w : World) (ty : TypeId) (b o n c : Nat) (hn : 0 < n)
  (hc : ∀ j, j < (Builtin.zeroCells #[.int .i64 0, .int .i64 0, .int .i64 0] n).toList.length → (w.cell? ⟨b, o + j, none⟩).isSome = true) (hf : ∀ j, j < (Builtin.zeroCells #[.int .i64 0, .int .i64 0, .int .i64 0] n).toList.length → w.frozen? ⟨b, o + j, none⟩ = false) :
  (Builtin.clear_ #[23] ty #[.slice (some ⟨b, o, none⟩) n c]).run Try.prog w = .ok (.tuple #[]) (w.setCells b o (Builtin.zeroCells #[.int .i64 0, .int .i64 0, .int .i64 0] n).toList) := by
 have hv : ∀ w, (zeroValue 80).run Try.prog w = .ok (.agg #[.int .i64 0, .int .i64 0, .int .i64 0]) w := fun w => by kernel_rfl
 have hst := run_storeCells_cells (P := Try.prog) b o (Builtin.zeroCells #[.int .i64 0, .int .i64 0, .int .i64 0] n).toList 0 w (by simpa using hc) (by simpa using hf) (by
  intro v hv'
  simp [Builtin.zeroCells] at hv'
  obtain ⟨a, _, rfl⟩ := hv'
  have : a % 3 < 3 := Nat.mod_lt _ (by omega)
  rcases (show a % 3 = 0 ∨ a % 3 = 1 ∨ a % 3 = 2 by omega) with h | h | h <;> simp [h, Value.oneCell'])
 simp only [Nat.add_zero] at hst
 obtain ⟨m, rfl⟩ : ∃ m, n = m + 1 := ⟨n - 1, by omega⟩
 simp [Builtin.clear_, run_underlying Try.underlying23, hv, hst, Value.cells]
end Go.Proofs.Ytmcbkmfpmcbdpaa.H
set_option linter.unusedVariables false
set_option linter.unusedSimpArgs false
namespace Go.Proofs.Ytmcbkmfpmcbdpaa.H
open Go.RowKit Go.Proofs.Ytmcbkmfpmcbdpaa.Pr Go.Proofs.YtmcbkmfpmcbdpaaW.PrintWords Go.Proofs.Ytmcbkmfpmcbdpaa.Sem Go.Lib Go.Sort
section
variable {α : Type} [Inhabited α] (enc : α → List Value) (k : Nat) (hk : ∀ x, (enc x).length = k)
include hk
theorem flat_set (d : Array α) (i : Nat) (x : α) (hi : i < d.size) : setMany (flatK enc k d) (i * k) (enc x) = flatK enc k (d.setIfInBounds i x) := by
 refine ext_get! (by simp) fun t ht => ?_
 have ht' : t < d.size * k := by simpa using ht
 have k0 : 0 < k := by
  rcases Nat.eq_zero_or_pos k with h | h
  ·subst h; simp at ht'
  ·exact h
 rw [get_setMany _ _ _ t (by simpa using ht'), get_flatK _ _ _ t ht', get_flatK _ _ _ t (by simpa using ht'), hk]
 by_cases a : t / k = i
 ·rw [if_pos ((blk_iff k i t k0).2 a), a, getElem!_set_same d i x hi]
  subst a
  rw [Nat.mod_eq_sub_div_mul]
 ·rw [if_neg (fun h => a ((blk_iff k i t k0).1 h)), getElem!_set_other d i _ x a]
theorem flat_lay (d : Array α) (j m : Nat) (z : α) (vs : List Value) (hj : j + m ≤ d.size) (hl : vs.length = m * k) (hv : ∀ t, t < m * k → vs[t]! = (enc z)[t % k]!) : setMany (flatK enc k d) (j * k) vs = flatK enc k (lay d j (List.replicate m z)) := by
 have hsz : (lay d j (List.replicate m z)).size = d.size := by
  have : ∀ (xs : List α) (d : Array α) (k : Nat), (lay d k xs).size = d.size := by
   intro xs
   induction xs with
   | nil => intro d k; rfl
   | cons x r ih => intro d k; show (lay (d.setIfInBounds k x) (k + 1) r).size = _; rw [ih]; simp
  exact this _ _ _
 refine ext_get! (by simp [hsz]) fun t ht => ?_
 have ht' : t < d.size * k := by simpa using ht
 have k0 : 0 < k := by
  rcases Nat.eq_zero_or_pos k with h | h
  ·subst h; simp at ht'
  ·exact h
 have hq : t / k < d.size := Nat.div_lt_of_lt_mul (by rwa [Nat.mul_comm] at ht')
 have hget : (lay d j (List.replicate m z))[t / k]! = if j ≤ t / k ∧ t / k < j + m then z else d[t / k]! := by
  have := lay_get? (List.replicate m z) d j (t / k) (by simpa using hj);rw [getElem!_pos _ (t / k) (by rw [hsz]; exact hq)];rw [Array.getElem?_eq_getElem (by rw [hsz]; exact hq)] at this;simp only [List.length_replicate] at this;split
  ·rename_i c;rw [if_pos c, List.getElem?_replicate, if_pos (by omega)] at this;exact Option.some.inj this
  ·rename_i c;rw [if_neg c, Array.getElem?_eq_getElem hq] at this;rw [getElem!_pos d (t / k) hq];exact Option.some.inj this
 rw [get_setMany _ _ _ t (by simpa using ht'), get_flatK _ _ _ t ht', get_flatK _ _ _ t (by rw [hsz]; exact ht'), hget, hl];have hmod : t = k * (t / k) + t % k := (Nat.div_add_mod t k).symm;have hm : t % k < k := Nat.mod_lt _ k0
 have iff1 : (j * k ≤ t ∧ t < j * k + m * k) ↔ (j ≤ t / k ∧ t / k < j + m) := by
  rw [Nat.le_div_iff_mul_le k0, Nat.div_lt_iff_lt_mul k0, Nat.add_mul]
 by_cases c : j ≤ t / k ∧ t / k < j + m
 ·rw [if_pos (iff1.2 c), if_pos c];have c2 := iff1.2 c;rw [hv _ (by omega)];congr 1
  have : t = (t - j * k) + k * j := by rw [Nat.mul_comm k j]; omega
  conv => rhs; rw [this]
  rw [Nat.add_mul_mod_self_left]
 ·rw [if_neg (fun h => c (iff1.1 h)), if_neg c]
theorem store_worldK (w wr : World) (n g off : Nat) (d : Array α) (i : Nat) (x : α) (hi : i < d.size) (h : wr = putRowK enc k (Sort.ahead w n) g off d) : wr.setCells g (off + i * k) (enc x) = putRowK enc k (Sort.ahead w n) g off (d.setIfInBounds i x) := by
 subst h
 have hb : i * k + k ≤ d.size * k := by
  have := Nat.mul_le_mul_right k (show i + 1 ≤ d.size from hi); rwa [Nat.add_mul, Nat.one_mul] at this
 unfold putRowK
 rw [setCells_putRow _ _ _ _ _ _ (by rw [hk, size_flatK]; exact hb), flat_set enc k hk d i x hi]
theorem clear_worldK (w wr : World) (n g off : Nat) (d : Array α) (j m : Nat) (z : α) (vs : List Value) (hj : j + m ≤ d.size) (hl : vs.length = m * k) (hv : ∀ t, t < m * k → vs[t]! = (enc z)[t % k]!) (h : wr = putRowK enc k (Sort.ahead w n) g off d) : wr.setCells g (off + j * k) vs = putRowK enc k (Sort.ahead w n) g off (lay d j (List.replicate m z)) := by
 subst h
 have hb : j * k + m * k ≤ d.size * k := by rw [← Nat.add_mul]; exact Nat.mul_le_mul_right k hj
 unfold putRowK
 rw [setCells_putRow _ _ _ _ _ _ (by rw [hl, size_flatK]; exact hb), flat_lay enc k hk d j m z vs hj hl hv]
end
instance : DecidableEq Ed := fun a b => decidable_of_iff (cmpE a b = 0) (cmpE_zero a b)
theorem dd_snoc : ∀ (l : List Ed) (b a : Ed), dd (l ++ [b, a]) = if b = a then dd (l ++ [b]) else dd (l ++ [b]) ++ [a]
 | [], b, a => by
  show dd [b, a] = _
  unfold dd
  by_cases q : b = a
  ·rw [if_pos ((cmpE_zero b a).2 q), if_pos q, q]; rfl
  ·rw [if_neg (fun h => q ((cmpE_zero b a).1 h)), if_neg q]; rfl
 | [x], b, a => by
  have ih := dd_snoc [] b a
  show dd (x :: b :: [a]) = _
  show _ = if b = a then dd (x :: b :: []) else dd (x :: b :: []) ++ [a]
  unfold dd
  rw [show dd [b, a] = _ from ih]
  split
  ·split <;> rfl
  ·split <;> rfl
 | x :: y :: r, b, a => by
  have ih := dd_snoc (y :: r) b a
  show dd (x :: y :: (r ++ [b, a])) = _
  show _ = if b = a then dd (x :: y :: (r ++ [b])) else dd (x :: y :: (r ++ [b])) ++ [a]
  unfold dd
  rw [show dd (y :: (r ++ [b, a])) = _ from ih]
  split
  ·rfl
  ·split <;> rfl
theorem compact_dd (es : List Ed) : compact es = dd es := by
 have : ∀ m, m ≤ es.length → compactUpTo es.toArray m = dd (es.take m) := by
  intro m
  induction m with
  | zero => intro _; simp [compactUpTo, dd]
  | succ m ih =>
   intro h
   have hm : m < es.length := by omega
   have e0 : es.toArray[m]! = es[m] := by rw [getElem!_pos es.toArray m (by simpa using hm)]; simp
   rw [compactUpTo_succ, ih (by omega), e0]
   rw [List.take_add_one, List.getElem?_eq_getElem hm]
   cases m with
   | zero => simp [keeps, dd]
   | succ m =>
    have hm' : m < es.length := by omega
    have e1 : es.toArray[m]! = es[m] := by rw [getElem!_pos es.toArray m (by simpa using hm')]; simp
    have ek : keeps es.toArray (m + 1) = decide (es[m] ≠ es[m + 1]) := by
     unfold keeps
     rw [e0, show m + 1 - 1 = m from rfl, e1]
     rw [decide_eq_decide]
     constructor
     ·rintro (h | h)
      ·omega
      ·exact fun q => h q.symm
     ·exact fun h => .inr fun q => h q.symm
    rw [ek, List.take_add_one, List.getElem?_eq_getElem hm']
    simp only [Option.toList_some, List.append_assoc, List.cons_append, List.nil_append]
    rw [dd_snoc]
    by_cases q : es[m] = es[m + 1]
    ·simp [q]
    ·simp [q]
 unfold compact
 rw [this _ (Nat.le_refl _), List.take_length]
theorem eqE (x0 x1 x2 y0 y1 y2 : Int) (w : World) : (Op.equalIn 10000 80 (.agg #[.int .i64 x0, .int .i64 x1, .int .i64 x2]) (.agg #[.int .i64 y0, .int .i64 y1, .int .i64 y2])).run Try.prog w = .ok (x0 == y0 && (x1 == y1 && x2 == y2)) w := by
 refine eqA_of Try.underlying80 (by kernel_rfl) ?_
 refine eqf_cons (by rfl) (by go_simp; rfl) (by go_simp; rfl) (by go_simp) ?_
 refine eqf_cons (by rfl) (by go_simp; rfl) (by go_simp; rfl) (by go_simp) ?_
 exact eqf_last (by rfl) (by go_simp; rfl) (by go_simp; rfl) (by go_simp)
theorem eqE_yes {x y : Ed} (h : x = y) (w : World) : (Op.equalIn 10000 80 (.agg #[.int .i64 x.f0, .int .i64 x.f1, .int .i64 x.f2]) (.agg #[.int .i64 y.f0, .int .i64 y.f1, .int .i64 y.f2])).run Try.prog w = .ok true w := by
 subst h; rw [eqE]; simp
theorem eqE_no {x y : Ed} (h : ¬ x = y) (w : World) : (Op.equalIn 10000 80 (.agg #[.int .i64 x.f0, .int .i64 x.f1, .int .i64 x.f2]) (.agg #[.int .i64 y.f0, .int .i64 y.f1, .int .i64 y.f2])).run Try.prog w = .ok false w := by
 rw [eqE]
 congr 1
 obtain ⟨x0, x1, x2⟩ := x
 obtain ⟨y0, y1, y2⟩ := y
 rw [S80.mk.injEq] at h
 simpa using h
theorem cellE {w : World} {g : Nat} {d : Array Ed} (h : HoldsK encE 3 w g 0 d) {i : Nat} (hi : i < d.size) : w.cell? ⟨g, i * 3, none⟩ = some (.int .i64 d[i]!.f0) ∧ w.cell? ⟨g, i * 3 + 1, none⟩ = some (.int .i64 d[i]!.f1) ∧ w.cell? ⟨g, i * 3 + 2, none⟩ = some (.int .i64 d[i]!.f2) ∧
  (w.frozen? ⟨g, i * 3, none⟩ = false ∧ w.frozen? ⟨g, i * 3 + 1, none⟩ = false ∧ w.frozen? ⟨g, i * 3 + 2, none⟩ = false) := by
 have c0 := h.cell hi (show 0 < 3 by omega)
 have c1 := h.cell hi (show 1 < 3 by omega)
 have c2 := h.cell hi (show 2 < 3 by omega)
 simp only [Nat.zero_add, Nat.add_zero] at c0 c1 c2
 exact ⟨c0.1, c1.1, c2.1, c0.2, c1.2, c2.2⟩
set_option maxHeartbeats 4000000 in
set_option maxRecDepth 1000000 in
theorem compact_arr (g cap : Nat) (d : Array Ed) (w : World) (hH : HoldsK encE 3 w g 0 d) (hsz : d.size ≤ 1000000) (hcap : d.size ≤ cap) :
  Calls Try.prog 134 #[.slice (some ⟨g, 0, none⟩) d.size cap] w fun e w' => e = .returned (.slice (some ⟨g, 0, none⟩) (compactUpTo d d.size).length cap) ∧ ∃ q, w' = putRowK encE 3 (Sort.ahead w q) g 0 (compactUpTo d d.size ++ List.replicate (d.size - (compactUpTo d d.size).length) z80).toArray := by
 have same : ∀ q, (∀ j, j < d.size → keeps d j = true) → (compactUpTo d d.size).length = d.size ∧ w.drewN q = putRowK encE 3 (Sort.ahead w q) g 0 (compactUpTo d d.size ++ List.replicate (d.size - (compactUpTo d d.size).length) z80).toArray := by
  intro q hall;have e : compactUpTo d d.size = d.toList := by rw [compactUpTo_all d _ hall, range_map_get]
  rw [e];refine ⟨by simp, ?_⟩;simp only [Array.length_toList, Nat.sub_self, List.replicate_zero, List.append_nil, Array.toArray_toList];exact (putRowK_self encE 3 (Sort.ahead w q) g 0 d (holdsK_ahead encE 3 w q g 0 d hH)).symm
 have HS := Aside0.mk same;clear same;by_cases h2 : d.size < 2
 ·have HH := Aside0.mk hH;clear hH;go_enter Try.func134, Try.ntmps134
  go_wp2
  go_ret
  obtain ⟨e1, e2⟩ := HS.out 0 (fun j hj => keeps_lt_one d j (by omega));exact ⟨by rw [e1]; rfl, 0, e2⟩
 ·have HH := Aside0.mk hH;clear hH;go_enter Try.func134, Try.ntmps134
  go_wp2
  go_loopg [3] d.size (fun gg s3 wr => ∃ k q : Nat, 1 ≤ k ∧ k ≤ d.size ∧ d.size - k ≤ gg ∧ s3 = .int .i64 k ∧ wr = w.drewN q ∧ Aside0 (∀ j, j < k → keeps d j = true))
  case atStart => exact ⟨1, 0, Nat.le_refl _, by omega, by omega, rfl, rfl, ⟨keeps_lt_one d⟩⟩
  case round =>
   obtain ⟨k, q, a7, hk, hg, rfl, rfl, hall⟩ := hrel;by_cases hlt : k < d.size
   ·obtain ⟨c10, a3, a4, f10⟩ := cellE HH.out hlt;obtain ⟨a0, a1, a2, f00⟩ := cellE HH.out (show k - 1 < d.size by omega);generalize hx : d[k]! = x at c10 a3 a4;generalize hy : d[k - 1]! = y at a0 a1 a2;have B := Aside0.mk (And.intro hx hy);clear hx hy f10 f00;by_cases hdup : x = y
    ·have hE := fun W => eqE_yes (x := x) (y := y) hdup W
     go_wp2_with fail
     go_quiet (fail)
     go_wp2
     clear c10 a3 a4 a0 a1 a2 hE;have HD := Aside0.mk (B.out.1.trans (hdup.trans B.out.2.symm));clear hdup B;go_loopg [3, 5] d.size (fun gg s3 s5 wr => ∃ (kk k2 q2 : Nat) (dk : Array Ed), s3 = .int .i64 kk ∧ s5 = .int .i64 k2 ∧ 1 ≤ k2 ∧ k + k2 ≤ d.size ∧ d.size - (k + k2) ≤ gg ∧ Aside0 (wr = putRowK encE 3 (Sort.ahead w q2) g 0 dk) ∧ Aside0 (CompInv d (k + k2) kk dk))
     case atStart => exact ⟨k, 1, _, d, rfl, rfl, Nat.le_refl _, by omega, by omega, ⟨(putRowK_self encE 3 (Sort.ahead w _) g 0 d (holdsK_ahead encE 3 w _ g 0 d HH.out)).symm⟩, ⟨CompInv.start hall.out (keeps_neg (by omega) HD.out)⟩⟩
     case round =>
      obtain ⟨kk, k2, q2, dk, rfl, rfl, h1, hle, a6, W2, I2⟩ := hrel;have hkk := I2.out.lt;have hds := I2.out.size;have HK := Aside0.mk (show HoldsK encE 3 wr g 0 dk by rw [W2.out]; exact holdsK_putRowK encE 3 _ g 0 d dk (holdsK_ahead encE 3 w q2 g 0 d HH.out) hds);by_cases hlt2 : k + k2 < d.size
      ·obtain ⟨m0, m1, m2, _⟩ := cellE HK.out (i := k + k2) (by omega);obtain ⟨p0, p1, p2, _⟩ := cellE HK.out (i := k + (k2 - 1)) (by omega);obtain ⟨o0, o1, o2, f0, f1, f2⟩ := cellE HK.out (i := kk) (by omega);rw [I2.out.high _ (by omega), Nat.add_mul] at m0 m1 m2;rw [I2.out.high _ (by omega), Nat.add_mul] at p0 p1 p2;generalize hu : d[k + k2]! = u at m0 m1 m2;generalize hv : d[k + (k2 - 1)]! = v at p0 p1 p2;generalize dk[kk]! = old at o0 o1 o2;have C := Aside0.mk (And.intro hu hv);clear hu hv;by_cases huv : u = v
       ·have hE := fun W => eqE_yes (x := u) (y := v) huv W
        clear o0 o1 o2 f0 f1 f2;go_wp2_with fail
        go_quiet (fail)
        go_wp2
        go_roundg (d.size - (k + (k2 + 1)))
        case measure => omega
        case rel => exact ⟨kk, k2 + 1, _, dk, rfl, by go_num, by omega, by omega, Nat.le_refl _, ⟨by rw [W2.out]; exact putRowK_drewN encE 3 w q2 _ g 0 dk⟩, ⟨I2.out.skip (keeps_neg (by omega) (by rw [show k + k2 - 1 = k + (k2 - 1) by omega, C.out.1, C.out.2]; exact huv))⟩⟩
       ·have hE := fun W => eqE_no (x := u) (y := v) huv W
        go_wp2_with fail
        go_quiet (fail)
        go_wp2
        go_roundg (d.size - (k + (k2 + 1)))
        case measure => omega
        case rel =>
         have a5 := store_worldK encE 3 (fun _ => rfl) w (wr.drewN nq) (q2 + nq) g 0 dk kk u (by omega) (by rw [W2.out]; exact putRowK_drewN encE 3 w q2 nq g 0 dk);rw [Nat.zero_add] at a5;refine ⟨kk + 1, k2 + 1, q2 + nq, dk.setIfInBounds kk u, by go_num, by go_num, by omega, by omega, Nat.le_refl _, ⟨a5⟩, ⟨?_⟩⟩;have := I2.out.keep hlt2 (keeps_pos (by rw [show k + k2 - 1 = k + (k2 - 1) by omega, C.out.1, C.out.2]; exact huv));rwa [C.out.1] at this
      ·have hend : k + k2 = d.size := by omega
       have hzl : (Builtin.zeroCells #[Value.int .i64 0, .int .i64 0, .int .i64 0] (d.size - kk)).toList.length = (d.size - kk) * 3 := by simp [Builtin.zeroCells, Nat.mul_comm]
       have hcl : ∀ ty, (Builtin.clear_ #[23] ty #[.slice (some ⟨g, kk * 3, none⟩) (d.size - kk) (cap - kk)]).run Try.prog wr = .ok (.tuple #[]) (wr.setCells g (kk * 3) (Builtin.zeroCells #[Value.int .i64 0, .int .i64 0, .int .i64 0] (d.size - kk)).toList) := by
        intro ty;refine run_clear_edges wr ty g (kk * 3) (d.size - kk) (cap - kk) (by omega) (fun j hj => ?_) (fun j hj => ?_)
        ·rw [hzl] at hj;have := HK.out.cell (i := kk + j / 3) (c := j % 3) (by omega) (Nat.mod_lt _ (by omega));rw [show 0 + (kk + j / 3) * 3 + j % 3 = kk * 3 + j by omega] at this;rw [this.1]; rfl
        ·rw [hzl] at hj;have := HK.out.cell (i := kk + j / 3) (c := j % 3) (by omega) (Nat.mod_lt _ (by omega));rw [show 0 + (kk + j / 3) * 3 + j % 3 = kk * 3 + j by omega] at this;exact this.2
       have HW := Aside0.mk (clear_worldK encE 3 (fun _ => rfl) w wr q2 g 0 dk kk (d.size - kk) z80 (Builtin.zeroCells #[Value.int .i64 0, .int .i64 0, .int .i64 0] (d.size - kk)).toList (by omega) hzl (by
        intro t ht;rw [getElem!_pos _ t (by rw [hzl]; exact ht)];have h3 : t % 3 < 3 := Nat.mod_lt _ (by omega);rcases (show t % 3 = 0 ∨ t % 3 = 1 ∨ t % 3 = 2 by omega) with h | h | h <;> simp [Builtin.zeroCells, h, encE, z80]) W2.out)
       generalize (Builtin.zeroCells #[Value.int .i64 0, .int .i64 0, .int .i64 0] (d.size - kk)).toList = zc at hcl HW;clear hzl;go_wp2
       go_ret
       have hI := I2.out;rw [hend] at hI;refine ⟨by rw [hI.len]; rfl, q2, ?_⟩;have hw := HW.out;rw [Nat.zero_add] at hw;rw [hw, hI.len, ← hI.done z80]
    ·have hE := fun W => eqE_no (x := x) (y := y) hdup W
     go_wp2_with fail
     go_quiet (fail)
     go_wp2
     go_roundg (d.size - (k + 1))
     case measure => omega
     case rel =>
      refine ⟨k + 1, _, by omega, by omega, Nat.le_refl _, by go_num, rfl, ⟨fun j hj => ?_⟩⟩;by_cases e : j = k
      ·subst e;exact keeps_pos (by rw [B.out.1, B.out.2]; exact hdup)
      ·exact hall.out j (by omega)
   ·have : k = d.size := by omega
    subst this;go_wp2
    go_ret
    obtain ⟨e1, e2⟩ := HS.out q hall.out;exact ⟨by rw [e1]; rfl, q, e2⟩
theorem dd_len : ∀ l : List Ed, (dd l).length ≤ l.length
 | [] => Nat.le_refl _
 | [a] => Nat.le_refl _
 | a :: b :: r => by
  have ih := dd_len (b :: r)
  unfold dd
  split
  ·simp at ih ⊢; omega
  ·simp at ih ⊢; omega
theorem grown_sortedK (W : World) (g m : Nat) (d : Array Ed) (os : Array Obj) : W.grownBy (sortWorldK encE 3 W g 0 m d os) (some g) := by
 refine ⟨rfl, rfl, rfl, ?_, fun k hk hne => ?_⟩
 ·show W.heap.size ≤ ((W.heap.modify g (onCells (putCells id 0 (flatK encE 3 d)))) ++ os).size
  rw [Array.size_append, Array.size_modify]
  omega
 ·show ((W.heap.modify g (onCells (putCells id 0 (flatK encE 3 d)))) ++ os)[k]? = _
  rw [Array.getElem?_append_left (by rw [Array.size_modify]; omega), Array.getElem?_modify, if_neg (fun e => hne (by rw [e]))]
theorem sortC_any (base : Nat) (v : Value) (es : List Ed) (w : World) (h : Kd.R k80 80 w base (fun _ => True) v es) (hel : es.length ≤ 1000000) :
  Calls Try.prog 133 #[v, .func (.func 122) #[] #[]] w fun e w' => e = .returned (.tuple #[]) ∧ Kd.R k80 80 w' base (fun _ => True) v (sortedE es) ∧ w.grownBy w' v.ownBlock := by
 obtain ⟨A, c, rfl⟩ := Kd.R_slice h
 rcases A with _ | ad
 ·have h0 : es = [] := by
   obtain ⟨A', c', hv, _, hC⟩ := Kd.R_reads h
   injection hv with hA _ _
   subst hA
   rcases es with _ | ⟨x, r⟩
   ·rfl
   ·obtain ⟨ad, h, _⟩ := hC.2.2 (by simp)
    cases h
  subst h0
  refine (Calls.mono (R := fun e w' => e = .returned (.tuple #[]) ∧ w' = w) ?_ ?_)
  ·have := AnyF.slices_SortFunc_none Try.sortE none c (.func (.func 122) #[] #[]) w
   exact this
  ·rintro e w' ⟨rfl, rfl⟩
   exact ⟨rfl, by simpa [sortedE] using h, grown_of_below (Below.refl _ _) _⟩
 ·obtain ⟨g, rfl⟩ := Kd.R_head h
  refine (sortF_any g c es w (holdsK_of_R h) (Kd.R_lt h g rfl) hel).mono ?_
  rintro e w' ⟨rfl, n, os, rfl⟩
  have := R_sorted (es' := sortedE es) h (List.length_mergeSort es) n os
  rw [show (sortedE es).length = es.length from List.length_mergeSort es] at this
  exact ⟨rfl, this, grown_sortedK w g n _ os⟩
theorem sortedE_length (es : List Ed) : (sortedE es).length = es.length := List.length_mergeSort es
theorem compactE_any (g cap base : Nat) (es : List Ed) (w : World) (h : Kd.R k80 80 w base (fun _ => True) (.slice (some ⟨g, 0, none⟩) es.length cap) es) (hel : es.length ≤ 1000000) :
  Calls Try.prog 134 #[.slice (some ⟨g, 0, none⟩) es.length cap] w fun e w' => e = .returned (.slice (some ⟨g, 0, none⟩) (dd es).length cap) ∧ Kd.R k80 80 w' base (fun _ => True) (.slice (some ⟨g, 0, none⟩) (dd es).length cap) (dd es) ∧ w.grownBy w' (some g) := by
 have hc : es.length ≤ cap := (Kd.R_reads' h).2.1
 have hcd : compactUpTo es.toArray es.toArray.size = dd es := by rw [List.size_toArray]; exact compact_dd es
 have hw := compact_arr g cap es.toArray w (holdsK_of_R h) (by simpa using hel) (by simpa using hc)
 rw [hcd] at hw
 simp only [List.size_toArray] at hw
 refine hw.mono ?_
 rintro e w' ⟨rfl, q, rfl⟩
 have hl := dd_len es
 have hL : (dd es ++ List.replicate (es.length - (dd es).length) z80).length = es.length := by simp; omega
 have hs : putRowK encE 3 (Sort.ahead w q) g 0 (dd es ++ List.replicate (es.length - (dd es).length) z80).toArray = sortWorldK encE 3 w g 0 q (dd es ++ List.replicate (es.length - (dd es).length) z80).toArray #[] := by unfold sortWorldK; simp [grow]
 rw [hs]
 have hR := R_sorted h hL q #[]
 have hT := Kd.R_take (m := (dd es).length) hR (by simp)
 rw [List.take_left] at hT
 exact ⟨rfl, hT, grown_sortedK w g q _ #[]⟩
set_option maxHeartbeats 1000000 in
theorem compactE_none (A : Option Addr) (c : Nat) (w : World) : Calls Try.prog 134 #[.slice A 0 c] w fun e w' => e = .returned (.slice A 0 c) ∧ w' = w := by
 go_enter Try.func134, Try.ntmps134
 go_wp2
 go_ret
 exact ⟨rfl, rfl⟩
theorem compactC_any (base : Nat) (v : Value) (es : List Ed) (w : World) (h : Kd.R k80 80 w base (fun _ => True) v es) (hel : es.length ≤ 1000000) :
  Calls Try.prog 134 #[v] w fun e w' => ∃ v', e = .returned v' ∧ Kd.R k80 80 w' base (fun _ => True) v' (dd es) ∧ w.grownBy w' v.ownBlock := by
 obtain ⟨A, c, rfl⟩ := Kd.R_slice h
 rcases A with _ | ad
 ·have h0 : es = [] := by
   obtain ⟨A', c', hv, _, hC⟩ := Kd.R_reads h
   injection hv with hA _ _
   subst hA
   rcases es with _ | ⟨x, r⟩
   ·rfl
   ·obtain ⟨ad, h, _⟩ := hC.2.2 (by simp)
    cases h
  subst h0
  refine (compactE_none none c w).mono ?_
  rintro e w' ⟨rfl, rfl⟩
  exact ⟨_, rfl, h, grown_of_below (Below.refl _ _) _⟩
 ·obtain ⟨g, rfl⟩ := Kd.R_head h
  refine (compactE_any g c base es w h hel).mono ?_
  rintro e w' ⟨rfl, hR, hG⟩
  exact ⟨_, rfl, hR, hG⟩
end Go.Proofs.Ytmcbkmfpmcbdpaa.H
set_option linter.unusedVariables false
set_option linter.unusedSimpArgs false
namespace Go.Proofs.Ytmcbkmfpmcbdpaa.H
open Go.RowKit Go.Proofs.Ytmcbkmfpmcbdpaa.Pr Go.Proofs.YtmcbkmfpmcbdpaaW.PrintWords Go.Proofs.Ytmcbkmfpmcbdpaa.Sem Go.Proofs.YtmcbkmfpmcbdpaaW.PrintLast
set_option maxHeartbeats 4000000 in
set_option maxRecDepth 100000 in
theorem cloneS_any (xs : List ByteArray) (A : Option Addr) (c : Nat) (w : World) (hC : Kd.C Kd.string w A xs.length xs) (hel : xs.length ≤ 1000000) :
  Calls Try.prog 135 #[.slice A xs.length c] w fun e w' => ∃ v0 : Value, e = .returned v0 ∧ Kd.R Kd.string 9 w' w.heap.size (fun _ => True) v0 xs ∧ Below w.heap.size w w' := by
 have HC := Aside0.mk hC;have HB := Aside0.mk (Below.refl w.heap.size w);rcases A with _ | ad
 ·have h0 : xs.length = 0 := by
   rcases Nat.eq_zero_or_pos xs.length with h | h
   ·exact h
   ·obtain ⟨ad, h, _⟩ := hC.2.2 h
    cases h
  obtain rfl : xs = [] := List.eq_nil_of_length_eq_zero h0;clear hC HC h0;have q_ : ∀ (W : World) (a : Option Addr) (n c n' c' : Nat), (binOp .eql 22 (.slice a n c) (.slice none n' c')).run Try.prog W = .ok (.bool a.isNone) W := fun W a n c n' c' => Lib.run_eql_slice_nil W _ _ a n c n' c' Try.underlying22
  go_enter Try.func135, Try.ntmps135
  go_wp2
  go_ret
  exact ⟨_, rfl, Kd.R_nil _ _ _ _ _, HB.out⟩
 ·clear hC;have q_ : ∀ (W : World) (a : Option Addr) (n c n' c' : Nat), (binOp .eql 22 (.slice a n c) (.slice none n' c')).run Try.prog W = .ok (.bool a.isNone) W := fun W a n c n' c' => Lib.run_eql_slice_nil W _ _ a n c n' c' Try.underlying22
  go_enter Try.func135, Try.ntmps135
  go_wp2_with (first
   | ((with_reducible refine gate_dst (N := 5) rfl ?_); refine Kd.R_lit Kd.string _ 9 ?hg (N := 5) ?hd (xs := ([] : List ByteArray)) (inner := []) (ok := fun _ => True) (okp := fun _ => True) ?hr ?hp (fun _ hk => hk) trivial (Below.refl _ _) (Nat.le_refl _) (by simp) ?_; (case hd => rfl); (case hg => rfl); (case hr => first | (go_simp; done) | (go_simp; rfl)); (case hp => exact (Reps.none _ _)); intro v1 w1 ho hb hg_ hnew_; clear hg_ hnew_; have HO := Aside0.mk ho; have HB1 := Aside0.mk (below_step HB.out hb); clear ho hb)
   | (at_builtin; refine Kd.R_append_rows Kd.string (w0 := w) w.heap.size rfl (.tmp 5) (.tmp 6) 22 9 (.string ⟨#[]⟩) 16 rfl Try.underlying22 info9 rfl (by decide) (by omega) v1 [] xs (some ad) _ c (fun _ => True) (fun _ => False) rfl rfl HO.out (Kd.C_below HC.out HB1.out) (fun _ _ h => h) (fun _ h => h.elim) (fun _ _ => trivial) HB1.out HB1.out.size (by simp; omega) ?_; intro v2 w2 ho hb hg hat; have HO2 := Aside0.mk ho; have HB2 := Aside0.mk hb; clear ho hb hg hat))
  go_ret
  exact ⟨_, rfl, by simpa using HO2.out, HB2.out⟩
theorem sortedE_sortE (es : List Ed) : dd (sortedE es) = sortE es := by
 refine dd_sortE ?_ fun x => (List.mergeSort_perm _ _).mem_iff
 have := List.pairwise_mergeSort (le := fun x y => !(ltOf cmpE) y x) (fun a b c h1 h2 => by
  simp only [ltE, Bool.not_eq_true', decide_eq_false_iff_not] at *
  unfold elt at *; omega) (fun a b => by
  simp only [ltE, Bool.or_eq_true, Bool.not_eq_true', decide_eq_false_iff_not]
  unfold elt; omega) es
 refine this.imp fun {a b} h => ?_
 simpa only [ltE, Bool.not_eq_true', decide_eq_false_iff_not] using h
theorem sortE_length (es : List Ed) : (sortE es).length ≤ es.length := by
 rw [← sortedE_sortE]
 exact Nat.le_trans (dd_len _) (Nat.le_of_eq (sortedE_length es))
theorem BoxL.set2 {w : World} {b : Nat} {n : Int} {v1 v2 : Value} (h : BoxL w b n v1 v2) (u : Value) : BoxL (w.setCell ⟨b, 2, none⟩ u) b n v1 u := blk_put h 2 u rfl
set_option maxRecDepth 100000 in
theorem sort_any (n : Int) (ls : List ByteArray) (es : List Ed) (A1 A2 : Option Addr) (c1 c2 : Nat) (w : World) (hr1 : Kd.C Kd.string w A1 ls.length ls) (hc1 : ls.length ≤ c1) (hr2 : Kd.C k80 w A2 es.length es) (hc2 : es.length ≤ c2) (hl : ls.length ≤ 1000000) (he : es.length ≤ 1000000) {r1 : Int} {r2 : List ByteArray} {r3 : List Ed} {r4 : Int} (h : (if mayR n ls (sortE es) then (n, ls, sortE es, (0 : Int)) else (0, [], [], 1)) = (r1, r2, r3, r4)) :
  Calls Try.prog 104 #[.agg #[.int .i64 n, .slice A1 ls.length c1, .slice A2 es.length c2]] w fun e w' => ∃ v1_ v2_ : Value, e = .returned (.tuple #[.agg #[.int .i64 r1, v1_, v2_], .int .i64 r4]) ∧ Kd.R Kd.string 9 w' w.heap.size (fun _ => True) v1_ r2 ∧ Kd.R k80 80 w' w.heap.size (fun _ => True) v2_ r3 ∧ Below w.heap.size w w' := by
 have HB := Aside0.mk (Below.refl w.heap.size w);have b9 := Aside0.mk hr1;have e5 := Aside0.mk hr2;have HH := Aside0.mk h;clear hr1 hr2 h;go_enter Try.func104, Try.ntmps104
 go_wp2_with fail
 refine (clone_any es A2 c2 _ (Kd.C_below e5.out (below_alloc (below_alloc HB.out _) _)) he).mono ?_;rintro e w1 ⟨v1, rfl, hR, hB⟩;have d2 := Kd.R_lower (base' := w.heap.size) hR (below_alloc (below_alloc HB.out _) _).size;have a8 := Aside0.mk (show BoxL w1 w.heap.size n (.slice A1 ls.length c1) (.slice A2 es.length c2) from blk_below (blk_alloc (blk_new w _) _) hB);have e1 := Aside0.mk (show w1.heap[w.heap.size + 1]? = some (.cells #[.int .i64 0, .slice none 0 0, .slice none 0 0] 25 (0, 0)) from blk_below (by have := blk_new (w.alloc (.cells #[.int .i64 n, .slice A1 ls.length c1, .slice A2 es.length c2] 25)) (.cells #[.int .i64 0, .slice none 0 0, .slice none 0 0] 25); simpa using this) hB);have d5 := Aside0.mk (below_then (below_alloc (below_alloc HB.out _) _) (below_alloc (below_alloc HB.out _) _).size hB);have d8 := Aside0.mk d2;have b2 := a8.out.c2;have f2 := Go.Proofs.YtmcbkmfpmcbdpaaW.PrintWords.blk_frozen a8.out 2;obtain ⟨A4, c4, e8⟩ := Kd.R_slice d2;subst e8;clear hR hB d2;go_wp2_with fail
 have b4 := Aside0.mk (a8.out.set2 (.slice A4 es.length c4));have b6 := Aside0.mk (blk_far e1.out (p := ⟨w.heap.size, 2, none⟩) (by simp) (.slice A4 es.length c4));have a5 := Aside0.mk (Kd.R_set d8.out a8.out (by decide) 2 (.slice A4 es.length c4));have a9 := Aside0.mk (below_set d5.out (Nat.le_refl _) (j := 2) (v := .slice A4 es.length c4));clear b2 f2 a8 e1 d8 d5;generalize w1.setCell ⟨w.heap.size, 2, none⟩ (.slice A4 es.length c4) = w2 at b4 b6 a5 a9 ⊢;refine (sortC_any w.heap.size _ es w2 a5.out he).mono ?_;rintro e w3 ⟨rfl, hR, hG⟩;have b5 := Aside0.mk (show BoxL w3 w.heap.size n (.slice A1 ls.length c1) (.slice A4 es.length c4) from blk_grown b4.out hG (Kd.R_ne a5.out b4.out (by decide)));have d1 := Aside0.mk (blk_grown b6.out hG (Kd.R_ne a5.out b6.out (by decide)));have b8 := Aside0.mk (pw_below_grown a9.out _ a9.out.size hG (fun k hk => Kd.R_base a5.out k hk));have a7 := Aside0.mk hR;have b2 := b5.out.c2;clear b4 b6 a5 a9 hR hG;go_wp2_with fail
 refine (compactC_any w.heap.size _ (sortedE es) w3 a7.out (by rw [sortedE_length]; exact he)).mono ?_;rintro e w4 ⟨v5, rfl, hR, hG⟩;rw [sortedE_sortE] at hR;have a3 := Aside0.mk (show BoxL w4 w.heap.size n (.slice A1 ls.length c1) (.slice A4 es.length c4) from blk_grown b5.out hG (Kd.R_ne a7.out b5.out (by decide)));have e2 := Aside0.mk (blk_grown d1.out hG (Kd.R_ne a7.out d1.out (by decide)));have d6 := Aside0.mk (pw_below_grown b8.out _ b8.out.size hG (fun k hk => Kd.R_base a7.out k hk));obtain ⟨A6, c6, e9⟩ := Kd.R_slice hR;subst e9;have d9 := Aside0.mk hR;have b0 := a3.out.c0;have b1 := a3.out.c1;have b2' := a3.out.c2;have f2 := Go.Proofs.YtmcbkmfpmcbdpaaW.PrintWords.blk_frozen a3.out 2;clear b2 b5 d1 a7 b8 hR hG;go_wp2_with fail
 have d0 := Aside0.mk (a3.out.set2 (.slice A6 (sortE es).length c6));have b7 := Aside0.mk (blk_far e2.out (p := ⟨w.heap.size, 2, none⟩) (by simp) (.slice A6 (sortE es).length c6));have b3 := Aside0.mk (Kd.R_set d9.out a3.out (by decide) 2 (.slice A6 (sortE es).length c6));have a1 := Aside0.mk (below_set d6.out (Nat.le_refl _) (j := 2) (v := .slice A6 (sortE es).length c6));clear b0 b1 b2' f2 a3 e2 d9 d6;generalize w4.setCell ⟨w.heap.size, 2, none⟩ (.slice A6 (sortE es).length c6) = w5 at d0 b7 b3 a1 ⊢;obtain ⟨_, _, hv, hcl, hC⟩ := Kd.R_reads b3.out;injection hv with hA _ hc
 subst hA hc;have d7 := Aside0.mk hC;have f3 := Aside0.mk hcl;clear hC hcl
 cases hm : mayR n ls (sortE es) with
 | false =>
  have HF := HH.out;rw [hm, if_neg (by simp)] at HF;simp only [Prod.mk.injEq] at HF;obtain ⟨rfl, rfl, rfl, rfl⟩ := HF;refine (check_no n ls (sortE es) A1 A6 c1 c6 w5 (Kd.C_below b9.out a1.out) d7.out (by rw [may_same]; exact hm)).mono ?_;rintro e w6 ⟨rfl, hB⟩;have a0 := Aside0.mk (blk_below b7.out hB);have a4 := Aside0.mk (below_then a1.out a1.out.size hB);have y0 := bcz a0 0 rfl;have y1 := bcz a0 1 rfl;have y2 := bcz a0 2 rfl;have g0 := Go.Proofs.YtmcbkmfpmcbdpaaW.PrintWords.blk_frozen a0.out 0;have g1 := Go.Proofs.YtmcbkmfpmcbdpaaW.PrintWords.blk_frozen a0.out 1;have g2 := Go.Proofs.YtmcbkmfpmcbdpaaW.PrintWords.blk_frozen a0.out 2;clear hB hm;go_wp2
  refine bodyPost_ret (results_ct rfl _ _ (w.heap.size + 1) 25 #[.int .i64 0, .slice none 0 0, .slice none 0 0] (0, 0) _ rfl (blk_put (blk_put (blk_put a0.out 0 (.int .i64 0) rfl) 1 (.slice none 0 0) rfl) 2 (.slice none 0 0) rfl) Try.underlying25 rfl (by kernel_rfl)) rfl ?_;exact ⟨_, _, rfl, Kd.R_nil _ _ _ _ _, Kd.R_nil _ _ _ _ _, below_set (below_set (below_set a4.out (by omega)) (by omega)) (by omega)⟩
 | true =>
  have HF := HH.out;rw [hm, if_pos rfl] at HF;simp only [Prod.mk.injEq] at HF;obtain ⟨rfl, rfl, rfl, rfl⟩ := HF;refine (check_yes n ls (sortE es) A1 A6 c1 c6 w5 (Kd.C_below b9.out a1.out) d7.out (by rw [may_same]; exact hm)).mono ?_;rintro e w6 ⟨rfl, hB⟩;have e0 := Aside0.mk (d0.out.below hB);have a0 := Aside0.mk (blk_below b7.out hB);have e6 := Aside0.mk (Kd.R_below b3.out hB);have a4 := Aside0.mk (below_then a1.out a1.out.size hB);have b1 := e0.out.c1;clear hB hm d0 b7 b3 a1;go_wp2_with fail
  refine (cloneS_any ls A1 c1 w6 (Kd.C_below b9.out a4.out) hl).mono ?_;rintro e w7 ⟨v8, rfl, hR, hB⟩;obtain ⟨A8, c8, f0⟩ := Kd.R_slice hR;subst f0;have a6 := Aside0.mk (e0.out.below hB);have a2 := Aside0.mk (blk_below a0.out hB);have e7 := Aside0.mk (Kd.R_below e6.out hB);have e4 := Aside0.mk (Kd.R_lower hR a4.out.size);have e3 := Aside0.mk (below_then a4.out a4.out.size hB);have b0 := a6.out.c0;have b1' := a6.out.c1;have b2 := a6.out.c2;have f1 := Go.Proofs.YtmcbkmfpmcbdpaaW.PrintWords.blk_frozen a6.out 1;have y0 := bcz a2 0 rfl;have y1 := bcz a2 1 rfl;have y2 := bcz a2 2 rfl;have g0 := Go.Proofs.YtmcbkmfpmcbdpaaW.PrintWords.blk_frozen a2.out 0;have g1 := Go.Proofs.YtmcbkmfpmcbdpaaW.PrintWords.blk_frozen a2.out 1;have g2 := Go.Proofs.YtmcbkmfpmcbdpaaW.PrintWords.blk_frozen a2.out 2;clear b1 hB hR;go_wp2
  refine bodyPost_ret (results_ct rfl _ _ (w.heap.size + 1) 25 #[.int .i64 n, .slice A8 ls.length c8, .slice A6 (sortE es).length c6] (0, 0) _ rfl (blk_put (blk_put (blk_put (blk_far a2.out (p := ⟨w.heap.size, 1, none⟩) (by simp) _) 0 (.int .i64 n) rfl) 1 (.slice A8 ls.length c8) rfl) 2 (.slice A6 (sortE es).length c6) rfl) Try.underlying25 rfl (by kernel_rfl)) rfl ?_;have d3 := blk_far a2.out (p := ⟨w.heap.size, 1, none⟩) (by simp) (.slice A8 ls.length c8);have d4 := blk_put d3 0 (.int .i64 n) rfl;have hYa := blk_put d4 1 (.slice A8 ls.length c8) rfl
  exact ⟨_, _, rfl, Kd.R_set (Kd.R_set (Kd.R_set (Kd.R_set e4.out a6.out (by decide) 1 _) d3 (by decide) 0 _) d4 (by decide) 1 _) hYa (by decide) 2 _,
   Kd.R_set (Kd.R_set (Kd.R_set (Kd.R_set e7.out a6.out (by decide) 1 _) d3 (by decide) 0 _) d4 (by decide) 1 _) hYa (by decide) 2 _,
   below_set (below_set (below_set (below_set e3.out (Nat.le_refl _)) (by omega)) (by omega)) (by omega)⟩
end Go.Proofs.Ytmcbkmfpmcbdpaa.H
