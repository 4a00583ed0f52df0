/-
  Parts of the proof of WeakOf (joined by wip/tools/bundle.py), part 4: plain words and walks of the functions that the law reaches.
-/
import Derived.Test.YtmcbkmfpmcbdpaaZWeakOf3
set_option linter.unusedVariables false
set_option linter.unusedSimpArgs false
namespace Go.Proofs.Ytmcbkmfpmcbdpaa.H
open Go.RowKit Go.Proofs.Ytmcbkmfpmcbdpaa.Pr Go.Proofs.YtmcbkmfpmcbdpaaW.PrintWords Go.Proofs.Ytmcbkmfpmcbdpaa.Sem
def gi (l : List Int) (x : Int) : Int := l.getD x.toNat 0
def gl (l : List (List Int)) (x : Int) : List Int := l.getD x.toNat []
theorem Nd.nat {n : Nat} {x : Int} (h : Nd n x) : ∃ k : Nat, x = (k : Int) ∧ k < n := ⟨x.toNat, by have := h.1; omega, by have := h.1; have := h.2; omega⟩
theorem Nd.mono {n m : Nat} {x : Int} (h : Nd n x) (hm : n ≤ m) : Nd m x := ⟨h.1, by have := h.2; omega⟩
theorem nd_iff {n : Nat} {k : Nat} : Nd n (k : Int) ↔ k < n := by unfold Nd; omega
theorem nodup_sub : ∀ {l l' : List Int}, l.Nodup → (∀ x ∈ l, x ∈ l') → l.length ≤ l'.length
 | [], l', _, _ => by simp
 | a :: l, l', h, hs => by
  obtain ⟨h1, h2⟩ := List.nodup_cons.1 h
  have := nodup_sub (l := l) (l' := l'.erase a) h2 fun x hx => (List.mem_erase_of_ne (by rintro rfl; exact h1 hx)).2 (hs x (List.mem_cons_of_mem _ hx))
  rw [List.length_erase_of_mem (hs a (List.mem_cons_self ..))] at this
  have hp : 0 < l'.length := List.length_pos_of_mem (hs a (List.mem_cons_self ..))
  simp only [List.length_cons]
  omega
theorem nodup_le {l : List Int} {n : Nat} (h : l.Nodup) (hn : ∀ x ∈ l, Nd n x) : l.length ≤ n := by
 have := nodup_sub (l' := (List.range n).map fun k : Nat => (k : Int)) h fun x hx => by
  obtain ⟨k, rfl, hk⟩ := (hn x hx).nat
  exact List.mem_map.2 ⟨k, List.mem_range.2 hk, rfl⟩
 simpa using this
structure PSt where
  block : List Int
  blocks : List (List Int)
  heap : List Int
  heaps : List (List Int)
structure PW (n : Nat) (p : PSt) : Prop where
  bl : p.block.length = n
  hl : p.heap.length = p.blocks.length
  br : ∀ x, Nd n x → Nd p.blocks.length (gi p.block x)
  bn : ∀ b, Nd p.blocks.length b → (gl p.blocks b).Nodup
  bm : ∀ b, Nd p.blocks.length b → ∀ x, x ∈ gl p.blocks b ↔ Nd n x ∧ gi p.block x = b
  be : ∀ b, Nd p.blocks.length b → gl p.blocks b ≠ []
  hr : ∀ b, Nd p.blocks.length b → Nd p.heaps.length (gi p.heap b)
  hn : ∀ h, Nd p.heaps.length h → (gl p.heaps h).Nodup
  hm : ∀ h, Nd p.heaps.length h → ∀ b, b ∈ gl p.heaps h ↔ Nd p.blocks.length b ∧ gi p.heap b = h
  he : ∀ h, Nd p.heaps.length h → gl p.heaps h ≠ []
theorem parts_le {n : Nat} {ls : List (List Int)} {f : Int → Int} (hm : ∀ b, Nd ls.length b → ∀ x, x ∈ gl ls b → Nd n x ∧ f x = b) (he : ∀ b, Nd ls.length b → gl ls b ≠ []) : ls.length ≤ n := by
 have hd : ∀ b : Nat, b < ls.length → ∃ x, x ∈ gl ls (b : Int) := fun b hb => by
  have := he b (nd_iff.2 hb)
  cases h : gl ls (b : Int) with
  | nil => exact absurd h this
  | cons x r => exact ⟨x, List.mem_cons_self ..⟩
 let g : Nat → Int := fun b => (gl ls (b : Int)).headD 0
 have hg : ∀ b : Nat, b < ls.length → g b ∈ gl ls (b : Int) := fun b hb => by
  have := he b (nd_iff.2 hb)
  show (gl ls (b : Int)).headD 0 ∈ gl ls (b : Int)
  cases h : gl ls (b : Int) with
  | nil => exact absurd h this
  | cons x r => exact List.mem_cons_self ..
 have h1 : ((List.range ls.length).map g).Nodup := by
  refine List.pairwise_map.2 (List.Pairwise.imp_of_mem ?_ List.pairwise_lt_range)
  intro a b ha hb hab e
  have ha' := List.mem_range.1 ha
  have hb' := List.mem_range.1 hb
  have e1 := (hm a (nd_iff.2 ha') _ (hg a ha')).2
  have e2 := (hm b (nd_iff.2 hb') _ (hg b hb')).2
  rw [e, e2] at e1
  omega
 have := nodup_le (n := n) h1 fun x hx => by
  obtain ⟨b, hb, rfl⟩ := List.mem_map.1 hx
  exact (hm b (nd_iff.2 (List.mem_range.1 hb)) _ (hg b (List.mem_range.1 hb))).1
 simpa using this
section
variable {n : Nat} {p : PSt}
theorem PW.nb_le (h : PW n p) : p.blocks.length ≤ n := parts_le (fun b hb x hx => (h.bm b hb x).1 hx) h.be
theorem PW.nh_le (h : PW n p) : p.heaps.length ≤ p.blocks.length := parts_le (fun b hb x hx => (h.hm b hb x).1 hx) h.he
theorem PW.len_b (h : PW n p) {b : Int} (hb : Nd p.blocks.length b) : (gl p.blocks b).length ≤ n := nodup_le (h.bn b hb) fun x hx => ((h.bm b hb x).1 hx).1
theorem PW.len_h (h : PW n p) {b : Int} (hb : Nd p.heaps.length b) : (gl p.heaps b).length ≤ p.blocks.length := nodup_le (h.hn b hb) fun x hx => ((h.hm b hb x).1 hx).1
end
def setAll (l : List Int) (ins : List Int) (v : Int) : List Int := ins.foldl (fun l x => l.set x.toNat v) l
theorem setAll_len (l ins : List Int) (v : Int) : (setAll l ins v).length = l.length := by
 induction ins using PL.rind with
 | h0 => rfl
 | h1 r a ih => rw [show setAll l (r ++ [a]) v = (setAll l r v).set a.toNat v from by simp [setAll, List.foldl_append], List.length_set, ih]
theorem setAll_snoc (l r : List Int) (a v : Int) : setAll l (r ++ [a]) v = (setAll l r v).set a.toNat v := by simp [setAll, List.foldl_append]
theorem gi_set {l : List Int} {x y v : Int} (hx : Nd l.length x) (hy : Nd l.length y) : gi (l.set x.toNat v) y = if y = x then v else gi l y := by
 obtain ⟨a, rfl, ha⟩ := hx.nat
 obtain ⟨b, rfl, hb⟩ := hy.nat
 unfold gi
 simp only [Int.toNat_natCast, List.getD_eq_getElem?_getD, List.getElem?_set]
 by_cases e : a = b
 ·subst e; simp [ha]
 ·rw [if_neg e, if_neg (by omega)]
theorem gl_set {l : List (List Int)} {x y : Int} {v : List Int} (hx : Nd l.length x) (hy : Nd l.length y) : gl (l.set x.toNat v) y = if y = x then v else gl l y := by
 obtain ⟨a, rfl, ha⟩ := hx.nat
 obtain ⟨b, rfl, hb⟩ := hy.nat
 unfold gl
 simp only [Int.toNat_natCast, List.getD_eq_getElem?_getD, List.getElem?_set]
 by_cases e : a = b
 ·subst e; simp [ha]
 ·rw [if_neg e, if_neg (by omega)]
theorem gl_snoc {l : List (List Int)} {v : List Int} {y : Int} (hy : Nd (l.length + 1) y) : gl (l ++ [v]) y = if y = (l.length : Int) then v else gl l y := by
 obtain ⟨b, rfl, hb⟩ := hy.nat
 unfold gl
 simp only [Int.toNat_natCast, List.getD_eq_getElem?_getD]
 by_cases e : b = l.length
 ·subst e; simp
 ·rw [if_neg (by omega), List.getElem?_append_left (by omega)]
theorem gi_snoc {l : List Int} {v : Int} {y : Int} (hy : Nd (l.length + 1) y) : gi (l ++ [v]) y = if y = (l.length : Int) then v else gi l y := by
 obtain ⟨b, rfl, hb⟩ := hy.nat
 unfold gi
 simp only [Int.toNat_natCast, List.getD_eq_getElem?_getD]
 by_cases e : b = l.length
 ·subst e; simp
 ·rw [if_neg (by omega), List.getElem?_append_left (by omega)]
theorem gi_setAll {l ins : List Int} {v x : Int} (hi : ∀ y ∈ ins, Nd l.length y) (hx : Nd l.length x) : gi (setAll l ins v) x = if x ∈ ins then v else gi l x := by
 induction ins using PL.rind with
 | h0 => simp [setAll]
 | h1 r a ih =>
  have ih := ih fun y hy => hi y (List.mem_append_left _ hy)
  rw [setAll_snoc, gi_set (by rw [setAll_len]; exact hi a (by simp)) (by rw [setAll_len]; exact hx), ih]
  by_cases e : x = a
  ·subst e; simp
  ·rw [if_neg e]
   simp [e]
def HP (p : PSt) (x : Int) : Int := gi p.heap (gi p.block x)
def cutP (p : PSt) (b : Int) (ins : List Int) : PSt where
 block := setAll p.block ins p.blocks.length
 blocks := (p.blocks.set b.toNat ((gl p.blocks b).filter fun x => decide (gi (setAll p.block ins p.blocks.length) x = b))) ++ [ins]
 heap := p.heap ++ [gi p.heap b]
 heaps := p.heaps.set (gi p.heap b).toNat (gl p.heaps (gi p.heap b) ++ [(p.blocks.length : Int)])
section
variable {n : Nat} {p : PSt} {b : Int} {ins : List Int}
theorem cut_blk (h : PW n p) (hb : Nd p.blocks.length b) (hs : ∀ x ∈ ins, x ∈ gl p.blocks b) {x : Int} (hx : Nd n x) : gi (cutP p b ins).block x = if x ∈ ins then (p.blocks.length : Int) else gi p.block x :=
 gi_setAll (fun y hy => by rw [h.bl]; exact ((h.bm b hb y).1 (hs y hy)).1) (by rw [h.bl]; exact hx)
theorem cut_hp (h : PW n p) (hb : Nd p.blocks.length b) (hs : ∀ x ∈ ins, x ∈ gl p.blocks b) {x : Int} (hx : Nd n x) : HP (cutP p b ins) x = HP p x := by
 unfold HP
 rw [cut_blk h hb hs hx]
 show gi (p.heap ++ [gi p.heap b]) _ = _
 by_cases e : x ∈ ins
 ·rw [if_pos e, gi_snoc (by rw [h.hl]; exact nd_iff.2 (by omega)), if_pos (by rw [h.hl]), ((h.bm b hb x).1 (hs x e)).2]
 ·rw [if_neg e, gi_snoc (by rw [h.hl]; exact (h.br x hx).mono (by omega)), if_neg (by have := (h.br x hx).2; rw [h.hl]; omega)]
theorem PW.cut (h : PW n p) (hb : Nd p.blocks.length b) (hn : ins.Nodup) (hs : ∀ x ∈ ins, x ∈ gl p.blocks b) (h0 : ins ≠ []) (hlt : ins.length < (gl p.blocks b).length) : PW n (cutP p b ins) := by
 have hlen : (cutP p b ins).blocks.length = p.blocks.length + 1 := by simp [cutP]
 have hB : ∀ x, Nd n x → gi (cutP p b ins).block x = if x ∈ ins then (p.blocks.length : Int) else gi p.block x := fun x hx => cut_blk h hb hs hx
 have hbs : ∀ c, Nd (p.blocks.length + 1) c → gl (cutP p b ins).blocks c = if c = (p.blocks.length : Int) then ins else if c = b then (gl p.blocks b).filter (fun x => decide (gi (setAll p.block ins p.blocks.length) x = b)) else gl p.blocks c := by
  intro c hc;show gl (p.blocks.set b.toNat _ ++ [ins]) c = _;rw [gl_snoc (by rw [List.length_set]; exact hc), List.length_set];by_cases e : c = (p.blocks.length : Int)
  ·rw [if_pos e, if_pos e]
  ·rw [if_neg e, if_neg e, gl_set hb ⟨hc.1, by have := hc.2; omega⟩]
 have hrest : ∀ x, x ∈ (gl p.blocks b).filter (fun x => decide (gi (setAll p.block ins p.blocks.length) x = b)) ↔ x ∈ gl p.blocks b ∧ x ∉ ins := by
  intro x;rw [List.mem_filter];constructor
  ·rintro ⟨h1, h2⟩;refine ⟨h1, fun hi => ?_⟩;have h3 := hB x ((h.bm b hb x).1 h1).1;rw [if_pos hi] at h3;have h4 : gi (setAll p.block ins p.blocks.length) x = b := of_decide_eq_true h2;rw [show (cutP p b ins).block = setAll p.block ins p.blocks.length from rfl, h4] at h3;have := hb.2;omega
  ·rintro ⟨h1, h2⟩;refine ⟨h1, decide_eq_true ?_⟩;have h3 := hB x ((h.bm b hb x).1 h1).1;rw [if_neg h2, ((h.bm b hb x).1 h1).2] at h3;exact h3
 have hH : ∀ c, Nd (p.blocks.length + 1) c → gi (cutP p b ins).heap c = if c = (p.blocks.length : Int) then gi p.heap b else gi p.heap c := by
  intro c hc;show gi (p.heap ++ [gi p.heap b]) c = _;rw [gi_snoc (by rw [h.hl]; exact hc), h.hl]
 have hhb := h.hr b hb
 have hHs : ∀ c, Nd p.heaps.length c → gl (cutP p b ins).heaps c = if c = gi p.heap b then gl p.heaps (gi p.heap b) ++ [(p.blocks.length : Int)] else gl p.heaps c := by
  intro c hc;show gl (p.heaps.set (gi p.heap b).toNat _) c = _;rw [gl_set hhb hc]
 have hhl : (cutP p b ins).heaps.length = p.heaps.length := by simp [cutP]
 refine ⟨by rw [show (cutP p b ins).block = setAll p.block ins p.blocks.length from rfl, setAll_len, h.bl], by rw [hlen]; simp [cutP, h.hl], ?_, ?_, ?_, ?_, ?_, ?_, ?_, ?_⟩
 ·intro x hx;rw [hlen, hB x hx];split
  ·exact nd_iff.2 (by omega)
  ·exact (h.br x hx).mono (by omega)
 ·intro c hc;rw [hlen] at hc;rw [hbs c hc];split
  ·exact hn
  ·split
   ·exact (h.bn b hb).sublist List.filter_sublist
   ·exact h.bn c ⟨hc.1, by have := hc.2; omega⟩
 ·intro c hc x;rw [hlen] at hc;rw [hbs c hc];by_cases e : c = (p.blocks.length : Int)
  ·rw [if_pos e];constructor
   ·intro hx;have hN := ((h.bm b hb x).1 (hs x hx)).1;exact ⟨hN, by rw [hB x hN, if_pos hx, e]⟩
   ·rintro ⟨hN, h2⟩;rw [hB x hN] at h2;by_cases hi : x ∈ ins
    ·exact hi
    ·rw [if_neg hi, e] at h2;have := (h.br x hN).2;omega
  ·rw [if_neg e];have hc' : Nd p.blocks.length c := ⟨hc.1, by have := hc.2; omega⟩
   by_cases e2 : c = b
   ·rw [if_pos e2, hrest, h.bm b hb];constructor
    ·rintro ⟨⟨hN, h1⟩, h2⟩;exact ⟨hN, by rw [hB x hN, if_neg h2, h1, e2]⟩
    ·rintro ⟨hN, h1⟩;rw [hB x hN] at h1;by_cases hi : x ∈ ins
     ·rw [if_pos hi] at h1;exact absurd h1.symm e
     ·rw [if_neg hi, e2] at h1;exact ⟨⟨hN, h1⟩, hi⟩
   ·rw [if_neg e2, h.bm c hc'];constructor
    ·rintro ⟨hN, h1⟩;refine ⟨hN, ?_⟩;rw [hB x hN, if_neg]
     ·exact h1
     ·intro hi;have := ((h.bm b hb x).1 (hs x hi)).2;exact e2 (h1.symm.trans this)
    ·rintro ⟨hN, h1⟩;refine ⟨hN, ?_⟩;rw [hB x hN] at h1;by_cases hi : x ∈ ins
     ·rw [if_pos hi] at h1;exact absurd h1.symm e
     ·rwa [if_neg hi] at h1
 ·intro c hc;rw [hlen] at hc;rw [hbs c hc];split
  ·exact h0
  ·split
   ·intro hnil
    have : (gl p.blocks b).length ≤ ins.length := nodup_sub (h.bn b hb) fun x hx => by
     by_cases hi : x ∈ ins
     ·exact hi
     ·have := (hrest x).2 ⟨hx, hi⟩;rw [hnil] at this
      cases this
    omega
   ·exact h.be c ⟨hc.1, by have := hc.2; omega⟩
 ·intro c hc;rw [hlen] at hc;rw [hhl, hH c hc];split
  ·exact hhb
  ·exact h.hr c ⟨hc.1, by have := hc.2; omega⟩
 ·intro c hc;rw [hhl] at hc;rw [hHs c hc];split
  ·rw [List.nodup_append];refine ⟨h.hn _ hhb, by simp, fun x hx y hy e => ?_⟩;have := ((h.hm _ hhb x).1 hx).1.2;have h2 : y = (p.blocks.length : Int) := by simpa using hy
   omega
  ·exact h.hn c hc
 ·intro c hc x;rw [hhl] at hc;rw [hHs c hc, hlen];by_cases e : c = gi p.heap b
  ·rw [if_pos e, List.mem_append, h.hm _ hhb x, List.mem_singleton];constructor
   ·rintro (⟨h1, h2⟩ | h1)
    ·refine ⟨h1.mono (by omega), ?_⟩;rw [hH x (h1.mono (by omega)), if_neg (by have := h1.2; omega), h2, e]
    ·subst h1;exact ⟨nd_iff.2 (by omega), by rw [hH _ (nd_iff.2 (by omega)), if_pos rfl, e]⟩
   ·rintro ⟨h1, h2⟩;rw [hH x h1] at h2;by_cases e2 : x = (p.blocks.length : Int)
    ·exact .inr e2
    ·rw [if_neg e2, e] at h2;exact .inl ⟨⟨h1.1, by have := h1.2; omega⟩, h2⟩
  ·rw [if_neg e, h.hm c hc x];constructor
   ·rintro ⟨h1, h2⟩;refine ⟨h1.mono (by omega), ?_⟩;rw [hH x (h1.mono (by omega)), if_neg (by have := h1.2; omega), h2]
   ·rintro ⟨h1, h2⟩;rw [hH x h1] at h2;by_cases e2 : x = (p.blocks.length : Int)
    ·rw [if_pos e2] at h2;exact absurd h2.symm e
    ·rw [if_neg e2] at h2;exact ⟨⟨h1.1, by have := h1.2; omega⟩, h2⟩
 ·intro c hc;rw [hhl] at hc;rw [hHs c hc];split
  ·simp
  ·exact h.he c hc
end
def Wt (p : PSt) (w : Int → Bool) : Prop := ∀ h, w h = true ↔ Nd p.heaps.length h ∧ 2 ≤ (gl p.heaps h).length
theorem Wt.cut {n : Nat} {p : PSt} {b : Int} {ins : List Int} {w : Int → Bool} (hw : Wt p w) (h : PW n p) (hb : Nd p.blocks.length b) : Wt (cutP p b ins) fun x => decide (x = gi p.heap b) || w x := by
 intro c
 have hhb := h.hr b hb
 have hhl : (cutP p b ins).heaps.length = p.heaps.length := by simp [cutP]
 have hHs : ∀ c, Nd p.heaps.length c → gl (cutP p b ins).heaps c = if c = gi p.heap b then gl p.heaps (gi p.heap b) ++ [(p.blocks.length : Int)] else gl p.heaps c := by
  intro c hc
  show gl (p.heaps.set (gi p.heap b).toNat _) c = _
  rw [gl_set hhb hc]
 rw [hhl, Bool.or_eq_true, hw c]
 by_cases e : c = gi p.heap b
 ·have h2 : 0 < (gl p.heaps (gi p.heap b)).length := List.length_pos_iff.2 (h.he _ hhb)
  subst e
  rw [hHs _ hhb, if_pos rfl]
  simp only [decide_true, true_or, true_iff]
  exact ⟨hhb, by simp; omega⟩
 ·simp only [e, decide_false, Bool.false_eq_true, false_or]
  constructor
  ·rintro ⟨h1, h2⟩; exact ⟨h1, by rw [hHs c h1, if_neg e]; exact h2⟩
  ·rintro ⟨h1, h2⟩; exact ⟨h1, by rw [hHs c h1, if_neg e] at h2; exact h2⟩
def takeP (p : PSt) (old : Int) (a : Nat) : PSt where
 block := p.block
 blocks := p.blocks
 heap := p.heap.set ((gl p.heaps old).getD a 0).toNat p.heaps.length
 heaps := (p.heaps.set old.toNat ((gl p.heaps old).eraseIdx a)) ++ [[(gl p.heaps old).getD a 0]]
section
variable {n : Nat} {p : PSt} {old : Int} {a : Nat}
theorem take_mem (h : PW n p) (ho : Nd p.heaps.length old) (ha : a < (gl p.heaps old).length) : Nd p.blocks.length ((gl p.heaps old).getD a 0) ∧ gi p.heap ((gl p.heaps old).getD a 0) = old :=
 (h.hm old ho _).1 (by simp [List.getD_eq_getElem?_getD, List.getElem?_eq_getElem ha])
theorem take_heap (h : PW n p) (ho : Nd p.heaps.length old) (ha : a < (gl p.heaps old).length) {c : Int} (hc : Nd p.blocks.length c) : gi (takeP p old a).heap c = if c = (gl p.heaps old).getD a 0 then (p.heaps.length : Int) else gi p.heap c :=
 gi_set (by rw [h.hl]; exact (take_mem h ho ha).1) (by rw [h.hl]; exact hc)
theorem take_heaps (ho : Nd p.heaps.length old) {c : Int} (hc : Nd (p.heaps.length + 1) c) : gl (takeP p old a).heaps c = if c = (p.heaps.length : Int) then [(gl p.heaps old).getD a 0] else if c = old then (gl p.heaps old).eraseIdx a else gl p.heaps c := by
 show gl (p.heaps.set old.toNat _ ++ [_]) c = _
 rw [gl_snoc (by rw [List.length_set]; exact hc), List.length_set]
 by_cases e : c = (p.heaps.length : Int)
 ·rw [if_pos e, if_pos e]
 ·rw [if_neg e, if_neg e, gl_set ho ⟨hc.1, by have := hc.2; omega⟩]
theorem take_hp (h : PW n p) (ho : Nd p.heaps.length old) (ha : a < (gl p.heaps old).length) {x : Int} (hx : Nd n x) : HP (takeP p old a) x = if gi p.block x = (gl p.heaps old).getD a 0 then (p.heaps.length : Int) else HP p x :=
 take_heap h ho ha (h.br x hx)
theorem mem_eraseIdx {l : List Int} (hn : l.Nodup) {a : Nat} (ha : a < l.length) (x : Int) : x ∈ l.eraseIdx a ↔ x ∈ l ∧ x ≠ l.getD a 0 := by
 have hg : l.getD a 0 = l[a] := by simp [List.getD_eq_getElem?_getD, List.getElem?_eq_getElem ha]
 rw [hg, List.mem_eraseIdx_iff_getElem?]
 constructor
 ·rintro ⟨i, hi, hx⟩
  refine ⟨List.mem_of_getElem? hx, fun e => hi ?_⟩
  have h1 : l[i]? = l[a]? := by rw [hx, List.getElem?_eq_getElem ha, e]
  exact (List.getElem?_inj (by have := (List.getElem?_eq_some_iff.1 hx).1; exact this) hn).1 h1
 ·rintro ⟨hx, hne⟩
  obtain ⟨i, hi⟩ := List.getElem?_of_mem hx
  refine ⟨i, fun e => hne ?_, hi⟩
  subst e
  rw [List.getElem?_eq_getElem ha] at hi
  exact (Option.some.inj hi).symm
theorem PW.take (h : PW n p) (ho : Nd p.heaps.length old) (ha : a < (gl p.heaps old).length) (h2 : 2 ≤ (gl p.heaps old).length) : PW n (takeP p old a) := by
 obtain ⟨t1, t2⟩ := take_mem h ho ha;have hlen : (takeP p old a).heaps.length = p.heaps.length + 1 := by simp [takeP]
 generalize hq : (gl p.heaps old).getD a 0 = q at t1 t2;refine ⟨h.bl, by show (p.heap.set _ _).length = _; rw [List.length_set]; exact h.hl, h.br, h.bn, h.bm, h.be, ?_, ?_, ?_, ?_⟩
 ·intro c hc;rw [hlen, take_heap h ho ha hc];split
  ·exact nd_iff.2 (by omega)
  ·exact (h.hr c hc).mono (by omega)
 ·intro c hc;rw [hlen] at hc;rw [take_heaps ho hc];split
  ·simp
  ·split
   ·exact (h.hn old ho).sublist (List.eraseIdx_sublist _ _)
   ·exact h.hn c ⟨hc.1, by have := hc.2; omega⟩
 ·intro c hc x;rw [hlen] at hc;rw [take_heaps ho hc, hq];show _ ↔ Nd p.blocks.length x ∧ _;by_cases e : c = (p.heaps.length : Int)
  ·rw [if_pos e, List.mem_singleton];constructor
   ·rintro rfl;exact ⟨t1, by rw [take_heap h ho ha t1, hq, if_pos rfl, e]⟩
   ·rintro ⟨hN, h1⟩;rw [take_heap h ho ha hN, hq] at h1;by_cases e2 : x = q
    ·exact e2
    ·rw [if_neg e2, e] at h1;have := (h.hr x hN).2;omega
  ·rw [if_neg e];have hc' : Nd p.heaps.length c := ⟨hc.1, by have := hc.2; omega⟩
   by_cases e2 : c = old
   ·rw [if_pos e2, mem_eraseIdx (h.hn old ho) ha, hq, h.hm old ho];constructor
    ·rintro ⟨⟨hN, h1⟩, h3⟩;exact ⟨hN, by rw [take_heap h ho ha hN, hq, if_neg h3, h1, e2]⟩
    ·rintro ⟨hN, h1⟩;rw [take_heap h ho ha hN, hq] at h1;by_cases e3 : x = q
     ·rw [if_pos e3] at h1;exact absurd h1.symm e
     ·rw [if_neg e3, e2] at h1;exact ⟨⟨hN, h1⟩, e3⟩
   ·rw [if_neg e2, h.hm c hc'];constructor
    ·rintro ⟨hN, h1⟩;refine ⟨hN, ?_⟩;rw [take_heap h ho ha hN, hq, if_neg]
     ·exact h1
     ·rintro rfl;exact e2 (h1.symm.trans t2)
    ·rintro ⟨hN, h1⟩;rw [take_heap h ho ha hN, hq] at h1;by_cases e3 : x = q
     ·rw [if_pos e3] at h1;exact absurd h1.symm e
     ·rw [if_neg e3] at h1;exact ⟨hN, h1⟩
 ·intro c hc;rw [hlen] at hc;rw [take_heaps ho hc];split
  ·simp
  ·split
   ·intro hnil;have := congrArg List.length hnil;rw [List.length_eraseIdx_of_lt ha] at this;simp at this;omega
   ·exact h.he c ⟨hc.1, by have := hc.2; omega⟩
theorem Wt.take {w : Int → Bool} (hw : Wt p w) (ho : Nd p.heaps.length old) (ha : a < (gl p.heaps old).length) (h2 : 2 ≤ (gl p.heaps old).length) :
  Wt (takeP p old a) fun x => w x && !(decide (x = old) && decide ((gl p.heaps old).length = 2)) := by
 intro c
 have hlen : (takeP p old a).heaps.length = p.heaps.length + 1 := by simp [takeP]
 rw [hlen, Bool.and_eq_true, hw c]
 constructor
 ·rintro ⟨⟨h1, h3⟩, h4⟩
  refine ⟨h1.mono (by omega), ?_⟩
  rw [take_heaps ho (h1.mono (by omega)), if_neg (by have := h1.2; omega)]
  by_cases e : c = old
  ·subst e
   rw [if_pos rfl, List.length_eraseIdx_of_lt ha]
   simp at h4
   omega
  ·rw [if_neg e]; exact h3
 ·rintro ⟨h1, h3⟩
  rw [take_heaps ho h1] at h3
  by_cases e : c = (p.heaps.length : Int)
  ·rw [if_pos e] at h3
   simp at h3
  ·rw [if_neg e] at h3
   have hc' : Nd p.heaps.length c := ⟨h1.1, by have := h1.2; omega⟩
   by_cases e2 : c = old
   ·subst e2
    rw [if_pos rfl, List.length_eraseIdx_of_lt ha] at h3
    refine ⟨⟨hc', h2⟩, ?_⟩
    simp
    omega
   ·rw [if_neg e2] at h3
    exact ⟨⟨hc', h3⟩, by simp [e2]⟩
theorem PW.apart (h : PW n p) (hw : ∀ c, Nd p.heaps.length c → (gl p.heaps c).length < 2) {x y : Int} (hx : Nd n x) (hy : Nd n y) (e : HP p x = HP p y) : gi p.block x = gi p.block y := by
 have h1 := (h.hm _ (h.hr _ (h.br x hx)) (gi p.block x)).2 ⟨h.br x hx, rfl⟩
 have h2 := (h.hm _ (h.hr _ (h.br x hx)) (gi p.block y)).2 ⟨h.br y hy, e.symm⟩
 have h3 := hw _ (h.hr _ (h.br x hx))
 generalize gl p.heaps (gi p.heap (gi p.block x)) = l at h1 h2 h3
 match l, h3 with
 | [], _ => cases h1
 | [z], _ =>
  rw [List.mem_singleton.1 h1, List.mem_singleton.1 h2]
end
def cntE (es : List Ed) (P : Int → Bool) (s l : Int) : Int := ((es.filter fun e => decide (e.f0 = s) && decide (e.f1 = l) && P e.f2).length : Nat)
theorem cntE_congr {es : List Ed} {P Q : Int → Bool} (h : ∀ e ∈ es, P e.f2 = Q e.f2) (s l : Int) : cntE es P s l = cntE es Q s l := by
 unfold cntE
 congr 2
 refine List.filter_congr fun e he => ?_
 rw [h e he]
theorem cntE_pos {es : List Ed} {P : Int → Bool} {s l : Int} : cntE es P s l ≠ 0 ↔ ∃ e ∈ es, e.f0 = s ∧ e.f1 = l ∧ P e.f2 = true := by
 unfold cntE
 constructor
 ·intro h
  have h1 : (es.filter fun e => decide (e.f0 = s) && decide (e.f1 = l) && P e.f2) ≠ [] := fun e => h (by rw [e]; rfl)
  obtain ⟨e, he⟩ := List.exists_mem_of_ne_nil _ h1
  obtain ⟨h2, h3⟩ := List.mem_filter.1 he
  simp only [Bool.and_eq_true, decide_eq_true_eq] at h3
  exact ⟨e, h2, h3.1.1, h3.1.2, h3.2⟩
 ·rintro ⟨e, he, h0, h1, h2⟩ h3
  have : e ∈ es.filter fun e => decide (e.f0 = s) && decide (e.f1 = l) && P e.f2 := List.mem_filter.2 ⟨he, by simp [h0, h1, h2]⟩
  have h4 := List.length_pos_of_mem this
  omega
theorem cntE_nn (es : List Ed) (P : Int → Bool) (s l : Int) : 0 ≤ cntE es P s l ∧ cntE es P s l ≤ es.length := by
 unfold cntE
 have := List.length_filter_le (fun e : Ed => decide (e.f0 = s) && decide (e.f1 = l) && P e.f2) es
 omega
theorem len_split {α : Type} (P Q : α → Bool) (l : List α) : (l.filter P).length = (l.filter fun x => P x && Q x).length + (l.filter fun x => P x && !Q x).length := by
 induction l with
 | nil => rfl
 | cons x r ih =>
  simp only [List.filter_cons]
  cases P x <;> cases Q x <;> simp <;> omega
theorem cntE_sub (es : List Ed) (P Q : Int → Bool) (h : ∀ e ∈ es, Q e.f2 = true → P e.f2 = true) (s l : Int) : cntE es P s l - cntE es Q s l = cntE es (fun x => P x && !Q x) s l := by
 have h1 := len_split (fun e : Ed => decide (e.f0 = s) && decide (e.f1 = l) && P e.f2) (fun e => Q e.f2) es
 have h2 : (es.filter fun e => (decide (e.f0 = s) && decide (e.f1 = l) && P e.f2) && Q e.f2) = es.filter fun e => decide (e.f0 = s) && decide (e.f1 = l) && Q e.f2 := by
  refine List.filter_congr fun e he => ?_
  have := h e he
  cases hq : Q e.f2
  ·simp
  ·rw [this hq]; simp
 have h3 : (es.filter fun e => (decide (e.f0 = s) && decide (e.f1 = l) && P e.f2) && !Q e.f2) = es.filter fun e => decide (e.f0 = s) && decide (e.f1 = l) && (P e.f2 && !Q e.f2) := by
  refine List.filter_congr fun e he => ?_
  rw [Bool.and_assoc]
 rw [h2, h3] at h1
 unfold cntE
 show ((es.filter fun e => decide (e.f0 = s) && decide (e.f1 = l) && P e.f2).length : Int) - ((es.filter fun e => decide (e.f0 = s) && decide (e.f1 = l) && Q e.f2).length : Int) = ((es.filter fun e => decide (e.f0 = s) && decide (e.f1 = l) && (P e.f2 && !Q e.f2)).length : Int)
 omega
end Go.Proofs.Ytmcbkmfpmcbdpaa.H
namespace Go.Proofs.Ytmcbkmfpmcbdpaa.Pr
open Go.RowKit Go.Proofs.YtmcbkmfpmcbdpaaW.PrintWords
def classL (n : Nat) (es : List S80) : List Int := (List.range n).map fun i : Nat => (((List.range n).find? fun k : Nat => H.relS (H.greatL n es) (i : Int) (k : Int)).getD i : Nat)
def refL (n : Nat) (es : List S80) : List Int := PL.numK (classL n es)
end Go.Proofs.Ytmcbkmfpmcbdpaa.Pr
namespace Go.Proofs.Ytmcbkmfpmcbdpaa.H
open Go.RowKit Go.Proofs.Ytmcbkmfpmcbdpaa.Pr Go.Proofs.YtmcbkmfpmcbdpaaW.PrintWords Go.Proofs.Ytmcbkmfpmcbdpaa.Sem
theorem RefI.congr {n : Nat} {es : List Ed} {B H H' : Int → Int} (h : RefI n es B H) (hH : ∀ x, Nd n x → H' x = H x) (hes : ∀ e ∈ es, Nd n e.f2) : RefI n es B H' where
 i3 := h.i3
 i6 := fun s t hs ht e => by rw [hH s hs, hH t ht]; exact h.i6 s t hs ht e
 i4 := fun s t hs ht e l x ⟨f, hf, f0, f1, f2⟩ => by
  obtain ⟨g, hg, g0, g1, g2⟩ := h.i4 s t hs ht e l x ⟨f, hf, f0, f1, by rw [← hH _ (hes f hf)]; exact f2⟩
  exact ⟨g, hg, g0, g1, by rw [hH _ (hes g hg)]; exact g2⟩
theorem take_ref {n : Nat} {es : List Ed} {p : PSt} {old a : Nat} (hP : PW n p) (ho : old < p.heaps.length) (ha : a < (gl p.heaps (old : Int)).length) (h2 : 2 ≤ (gl p.heaps (old : Int)).length) (hR : RefI n es (gi p.block) (HP p)) :
  ∃ b : Nat, PW n (takeP p (old : Int) a) ∧ p.heaps.length < (takeP p (old : Int) a).heaps.length ∧ gl (takeP p (old : Int) a).heaps (p.heaps.length : Int) = [(b : Int)] ∧ (∀ x ∈ gl (takeP p (old : Int) a).blocks (b : Int), HP p x = (old : Int)) ∧
   (∀ x, Nd n x → HP (takeP p (old : Int) a) x = if gi (takeP p (old : Int) a).block x = (b : Int) then (p.heaps.length : Int) else HP p x) ∧ (∀ x, Nd n x → HP p x < (p.heaps.length : Int)) ∧ RefJ n es (gi (takeP p (old : Int) a).block) (HP p) (gi (takeP p (old : Int) a).block) (HP (takeP p (old : Int) a)) (p.heaps.length : Int) (old : Int) 0 := by
 have hoN : Nd p.heaps.length (old : Int) := nd_iff.2 ho;obtain ⟨t1, t2⟩ := take_mem hP hoN ha;obtain ⟨b, hb, hbn⟩ := t1.nat
 have hh : ∀ x, Nd n x → HP (takeP p (old : Int) a) x = if gi (takeP p (old : Int) a).block x = (b : Int) then (p.heaps.length : Int) else HP p x := fun x hx => by
  rw [take_hp hP hoN ha hx, hb];rfl
 have hlt : ∀ x, Nd n x → HP p x < (p.heaps.length : Int) := fun x hx => (hP.hr _ (hP.br x hx)).2
 have hbo : ∀ x, gi p.block x = (b : Int) → HP p x = (old : Int) := fun x e => by
  show gi p.heap (gi p.block x) = _;rw [e, ← hb];exact t2
 refine ⟨b, hP.take hoN ha h2, by simp [takeP], ?_, ?_, hh, hlt, ?_⟩
 ·rw [take_heaps hoN (nd_iff.2 (by omega)), if_pos rfl, hb]
 ·intro x hx;have hx : x ∈ gl p.blocks (b : Int) := hx;exact hbo x ((hP.bm _ (nd_iff.2 hbn) x).1 hx).2
 ·exact RefI.take (b := (b : Int)) hR hh (fun s _ e => hbo s e) (fun s hs => by have := hlt s hs; omega) (by omega)
theorem class_iff {n : Nat} {es : List Ed} (hes : ∀ e ∈ es, Nd n e.f0 ∧ Nd n e.f2) {i j : Nat} (hi' : i < (classL n es).length) (hj' : j < (classL n es).length) : Bis n es (i : Int) (j : Int) ↔ (classL n es)[i] = (classL n es)[j] := by
 have hlen : (classL n es).length = n := by simp [classL]
 have hat : ∀ (i : Nat) (hi : i < (classL n es).length), (classL n es)[i] = ((((List.range n).find? fun k : Nat => relS (greatL n es) (i : Int) (k : Int)).getD i : Nat) : Int) := fun i hi => by simp [classL]
 have hex : ∀ i, i < n → ∃ k, ((List.range n).find? fun k : Nat => relS (greatL n es) (i : Int) (k : Int)) = some k ∧ Bis n es (i : Int) (k : Int) := fun i hi => by
  have h1 : ((List.range n).find? fun k : Nat => relS (greatL n es) (i : Int) (k : Int)).isSome = true := List.find?_isSome.2 ⟨i, List.mem_range.2 hi, Bis.refl hes (nd_iff.2 hi)⟩;obtain ⟨k, hk⟩ := Option.isSome_iff_exists.1 h1;exact ⟨k, hk, List.find?_some (p := fun k : Nat => relS (greatL n es) (i : Int) (k : Int)) hk⟩
 have hi2 : i < n := by omega
 have hj2 : j < n := by omega
 rw [hat i hi', hat j hj'];obtain ⟨k, hk, hbk⟩ := hex i hi2;obtain ⟨m, hm, hbm⟩ := hex j hj2;constructor
 ·intro hij
  have e : (fun k : Nat => relS (greatL n es) (i : Int) (k : Int)) = fun k : Nat => relS (greatL n es) (j : Int) (k : Int) := by
   funext k
   have h1 : relS (greatL n es) (i : Int) (k : Int) = true ↔ relS (greatL n es) (j : Int) (k : Int) = true := ⟨fun x => Bis.trans (Bis.symm hij) x, fun x => Bis.trans hij x⟩
   exact Bool.eq_iff_iff.2 h1
  rw [e, hm];simp
 ·intro e;rw [hk, hm] at e;simp only [Option.getD_some] at e;have e : k = m := by omega
  subst e;exact hbk.trans hbm.symm
theorem ker_class {n : Nat} {es : List Ed} {bl : List Int} (hes : ∀ e ∈ es, Nd n e.f0 ∧ Nd n e.f2) (hl : bl.length = n) (h : ∀ s t, Nd n s → Nd n t → (Bis n es s t ↔ gi bl s = gi bl t)) : PL.Ker bl (classL n es) := by
 have hlen : (classL n es).length = n := by simp [classL]
 refine ⟨by rw [hl, hlen], fun i j hi hj hi' hj' => ?_⟩
 rw [← class_iff hes hi' hj', h _ _ (nd_iff.2 (by omega)) (nd_iff.2 (by omega))]
 unfold gi
 simp [List.getD_eq_getElem?_getD, List.getElem?_eq_getElem hi, List.getElem?_eq_getElem hj]
theorem ref_end {n : Nat} {es : List Ed} {p : PSt} (hP : PW n p) (hR : RefI n es (gi p.block) (HP p)) (hw : ∀ c, Nd p.heaps.length c → (gl p.heaps c).length < 2) (hes : ∀ e ∈ es, Nd n e.f0 ∧ Nd n e.f2) :
  PL.numK p.block = refL n es ∧ (p.blocks.length : Int) = ((PL.fstK (classL n es)).length : Int) := by
 have hk := PL.numK_ker _ _ (ker_class hes hP.bl fun s t hs ht => RefI.last hR (fun s t hs ht e => hP.apart hw hs ht e) hes hs ht);refine ⟨hk.1, ?_⟩;rw [← hk.2]
 have hin : ∀ x, x ∈ PL.fstK p.block ↔ Nd p.blocks.length x := fun x => by
  rw [PL.fstK_mem];constructor
  ·intro hx;obtain ⟨i, hi, rfl⟩ := List.getElem_of_mem hx;have := hP.br (i : Int) (nd_iff.2 (by rw [← hP.bl]; exact hi));unfold gi at this;simpa [List.getD_eq_getElem?_getD, List.getElem?_eq_getElem hi] using this
  ·intro hx;obtain ⟨y, hy⟩ := List.exists_mem_of_ne_nil _ (hP.be x hx);obtain ⟨hy1, hy2⟩ := (hP.bm x hx y).1 hy;obtain ⟨k, rfl, hk⟩ := hy1.nat;rw [← hy2];unfold gi;rw [← hP.bl] at hk;simp [List.getD_eq_getElem?_getD, List.getElem?_eq_getElem hk]
 have h1 : (PL.fstK p.block).length ≤ p.blocks.length := nodup_le (PL.fstK_nodup _) fun x hx => (hin x).1 hx
 have h2 := nodup_sub (l := (List.range p.blocks.length).map fun k : Nat => (k : Int)) (l' := PL.fstK p.block) (List.pairwise_map.2 (List.Pairwise.imp (fun h e => absurd h (by omega)) List.pairwise_lt_range)) fun x hx => by
  obtain ⟨k, hk, rfl⟩ := List.mem_map.1 hx;exact (hin _).2 (nd_iff.2 (List.mem_range.1 hk))
 simp at h2;omega
end Go.Proofs.Ytmcbkmfpmcbdpaa.H
namespace Go.Proofs.Ytmcbkmfpmcbdpaa.Pr
open Go.RowKit Go.Proofs.YtmcbkmfpmcbdpaaW.PrintWords Go.Proofs.YtmcbkmfpmcbdpaaW.PrintLast Go.Proofs.YtmcbkmfpmcbdpaaW.PrintMore
theorem bz {w w' : World} {g : Nat} {o : Obj} (h : w.heap[g]? = some o) (k : w.heap[g]? = some o → w'.heap[g]? = some o := by intro h_; (with_reducible repeat (first | refine blk_drewN ?_ _ | refine blk_drew ?_ | refine blk_alloc ?_ _)); exact h_) : w'.heap[g]? = some o := k h
theorem rz {α : Type} {d : Kd α} {e base : Nat} {w w' : World} {ok : Nat → Prop} {v : Value} {xs : List α} (h : d.R e w base ok v xs) (k : d.R e w base ok v xs → d.R e w' base ok v xs := by intro h_; (with_reducible repeat (first | apply Kd.R_alloc | apply Kd.R_drewN | apply Kd.R_drew)); exact h_) : d.R e w' base ok v xs := k h
theorem wz {n : Nat} {w0 w w' : World} (h : Below n w0 w) (k : Below n w0 w → Below n w0 w' := by intro h_; repeat (first | (with_reducible first | exact h_ | apply below_alloc | apply pw_below_drewN | apply below_drew1 | refine below_set ?_ (Aside0.out (by assumption))) | exact h_)) : Below n w0 w' := k h
theorem cz {α : Type} {d : Kd α} {w w1 w2 : World} {A : Option Addr} {n : Nat} {xs : List α} (h : d.C w A n xs) (hb : Below w.heap.size w w1) (k : d.C w1 A n xs → d.C w2 A n xs := by intro h_; repeat (first | exact h_ | (with_reducible refine Kd.C_alloc ?_ _) | (with_reducible refine Kd.C_drewN ?_ _) | (with_reducible refine Kd.C_drew ?_))) : d.C w2 A n xs := k (Kd.C_below h hb)
def Pl33a.f (k : Nat) (a0_0 : Int) (l0_1 : List ByteArray) (l0_2 : List S80) : Option Bool := some (H.light33 a0_0 l0_1 l0_2)
theorem Pl33a.mono : ∀ a0 a1 a2 k, LeO (Pl33a.f k a0 a1 a2) (Pl33a.f (k + 1) a0 a1 a2) := fun _ _ _ _ => LeO.refl _
theorem Pl33a.calls (k : Nat) (a0_0 : Int) (A0_1 : Option Addr) (c0_1 : Nat) (l0_1 : List ByteArray) (A0_2 : Option Addr) (c0_2 : Nat) (l0_2 : List S80) (r : Bool) (w : World) (hr0_1 : Kd.C Kd.string w A0_1 l0_1.length l0_1) (hc0_1 : l0_1.length ≤ c0_1) (hr0_2 : Kd.C k80 w A0_2 l0_2.length l0_2) (hc0_2 : l0_2.length ≤ c0_2) (h : Pl33a.f k a0_0 l0_1 l0_2 = some r) :
  Calls Try.prog 15 #[.agg #[.int .i64 a0_0, .slice A0_1 l0_1.length c0_1, .slice A0_2 l0_2.length c0_2]] w fun e w' => e = .returned (.bool r) ∧ Below w.heap.size w w' := by
 obtain rfl := Option.some.inj h
 exact H.light33_any a0_0 l0_1 l0_2 A0_1 A0_2 c0_1 c0_2 w hr0_1 (H.C_len hr0_2)
end Go.Proofs.Ytmcbkmfpmcbdpaa.Pr
namespace Go.Proofs.Ytmcbkmfpmcbdpaa.H
open Go.RowKit Go.Proofs.Ytmcbkmfpmcbdpaa.Pr Go.Proofs.YtmcbkmfpmcbdpaaW.PrintWords Go.Proofs.Ytmcbkmfpmcbdpaa.Sem
def SmallL (n : Int) (ls : List ByteArray) (es : List Ed) : Prop := (n ≤ 16 ∨ 2048 < n) ∧ es.length ≤ 60 ∧ ls.length ≤ 8
theorem light33_small {n : Int} {ls : List ByteArray} {es : List Ed} (h : light33 n ls es = true) : SmallL n ls es := by
 unfold light33 at h
 simp only [Bool.and_eq_true, Bool.or_eq_true, decide_eq_true_eq] at h
 exact h.2
end Go.Proofs.Ytmcbkmfpmcbdpaa.H
namespace Go.Proofs.Ytmcbkmfpmcbdpaa.Pr
open Go.RowKit Go.Proofs.YtmcbkmfpmcbdpaaW.PrintWords Go.Proofs.YtmcbkmfpmcbdpaaW.PrintLast Go.Proofs.YtmcbkmfpmcbdpaaW.PrintMore
def Pr34a.f (a0_0 : Int) (l0_1 : List ByteArray) (l0_2 : List S80) : Option (List Bool) := if H.mayR a0_0 l0_1 l0_2 then some (H.pairsR a0_0.toNat l0_2) else none
theorem Pr34a.calls (a0_0 : Int) (A0_1 : Option Addr) (c0_1 : Nat) (l0_1 : List ByteArray) (A0_2 : Option Addr) (c0_2 : Nat) (l0_2 : List S80) (r : List Bool) (w : World) (hr0_1 : Kd.C Kd.string w A0_1 l0_1.length l0_1) (hc0_1 : l0_1.length ≤ c0_1) (hr0_2 : Kd.C k80 w A0_2 l0_2.length l0_2) (hc0_2 : l0_2.length ≤ c0_2) (h : Pr34a.f a0_0 l0_1 l0_2 = some r) :
  Calls Try.prog 71 #[.agg #[.int .i64 a0_0, .slice A0_1 l0_1.length c0_1, .slice A0_2 l0_2.length c0_2]] w fun e w' => ∃ v0_ : Value, e = .returned (v0_) ∧ Kd.R Kd.bool 4 w' w.heap.size (fun _ => True) v0_ r ∧ Below w.heap.size w w' := by
 unfold Pr34a.f at h
 split at h
 ·rename_i hm
  obtain rfl := Option.some.inj h
  obtain ⟨m, rfl⟩ := Int.eq_ofNat_of_zero_le (show 0 ≤ a0_0 by have := H.n_le hm; omega)
  exact H.pairsR_any m l0_1 l0_2 _ A0_2 c0_2 w hr0_2 hm
 ·cases h
end Go.Proofs.Ytmcbkmfpmcbdpaa.Pr
set_option linter.unusedSectionVars false
namespace Go.Proofs.Ytmcbkmfpmcbdpaa.H
open Go.RowKit Go.Proofs.Ytmcbkmfpmcbdpaa.Pr Go.Proofs.YtmcbkmfpmcbdpaaW.PrintWords Go.Proofs.Ytmcbkmfpmcbdpaa.Sem Go.Proofs.YtmcbkmfpmcbdpaaW.PrintLast Go.Proofs.Ytmcbkmfpmcbdpaa.PL
theorem infoIj : (Try.prog.info? 3).map (fun i => (i.zero, i.size, i.bytes)) = some (some (.int .i64 0), 1, 8) := by kernel_rfl
theorem zeroIj (w : World) : (zeroValue 3).run Try.prog w = .ok (.int .i64 0) w := by kernel_rfl
theorem take_snocJ {α : Type} (d : α) {xs : List α} {k : Nat} (hk : k < xs.length) : xs.take (k + 1) = xs.take k ++ [xs.getD k d] := by
 rw [List.getD_eq_getElem?_getD, List.getElem?_eq_getElem hk, Option.getD_some, List.take_succ_eq_append_getElem hk]
def NumF (ks : List Int) (f : Int → Option Value) : Prop := ∀ a, i64in a → f a = if a ∈ fstK ks then some (.int .i64 ((fstK ks).idxOf a : Int)) else none
set_option maxHeartbeats 8000000 in
set_option maxRecDepth 100000 in
theorem number_any (ks : List Int) (A : Option Addr) (c0 : Nat) (w : World) (hC : Kd.C (Kd.int .i64) w A ks.length ks) (hks : ∀ x ∈ ks, i64in x) (hl : ks.length ≤ 1000000000) :
    Calls Try.prog 118 #[.slice A ks.length c0] w fun e w' => ∃ v, e = .returned v ∧ Kd.R (Kd.int .i64) 3 w' w.heap.size (fun _ => True) v (numK ks) ∧ Below w.heap.size w w' := by
  have hmm := @run_makeMap Try.prog;have HC := Aside0.mk hC;have HK := Aside0.mk hks;clear hC hks;go_enter Try.func118, Try.ntmps118
  go_wp2
  clear hmm;have a2 := Aside0.mk (GM.made Try.prog 3 ik i64in w);have a5 := Aside0.mk (below_alloc (Below.refl w.heap.size w) (Obj.map #[] 0));obtain ⟨M, hM⟩ : ∃ M, M = w.heap.size := ⟨_, rfl⟩
  rw [← hM] at a2 ⊢;have HM := Aside0.mk hM;clear hM;go_loopw [4, 12] (fun v i wr => ∃ (k : Nat) (f : Int → Option Value), k ≤ ks.length ∧ i = .int .i64 k ∧ Aside0 (GM Try.prog 3 ik i64in wr M f (fstK (ks.take k)).length) ∧ Aside0 (NumF (ks.take k) f) ∧ Aside0 (Kd.R (Kd.int .i64) 3 wr w.heap.size (fun q => q ≠ M) v (numK (ks.take k))) ∧ Aside0 (Below w.heap.size w wr)) (fun _ i _ => ks.length - (intOf i).toNat)
  case atStart => exact ⟨0, _, Nat.zero_le _, rfl, a2, ⟨fun a ha => rfl⟩, ⟨Kd.R_nil _ _ _ _ _⟩, a5⟩
  case round =>
    clear a2 a5;obtain ⟨k, f, hk, rfl, HG, HF, HR, HB⟩ := hrel;by_cases hlt : k < ks.length
    · obtain ⟨ad, hA, hc⟩ := atI HC.out k hlt
      subst hA;replace hc := later HB.out hc;have a0 := HK.out (ks.getD k 0) (by simp [List.getD_eq_getElem?_getD, List.getElem?_eq_getElem hlt]);obtain ⟨x, hx⟩ : ∃ x, x = ks.getD k 0 := ⟨_, rfl⟩
      rw [← hx] at hc a0;have HT := Aside0.mk (show ks.take (k + 1) = ks.take k ++ [x] by rw [take_snocJ (0 : Int) hlt, hx]);have hlook := HG.out.look intKB a0 Try.underlying88 (zeroIj _);rw [HF.out x a0] at hlook;have hfl := fstK_length_le (ks.take k);rw [List.length_take] at hfl;have hnl : (numK (ks.take k)).length = k := by rw [numK_length, List.length_take]; omega
      obtain ⟨m, hm⟩ : ∃ m, m = (fstK (ks.take k)).length := ⟨_, rfl⟩
      rw [← hm] at hfl;have HX := Aside0.mk a0;have Hm := Aside0.mk hm;have HNl := Aside0.mk hnl;clear hx a0 hm hnl;by_cases hmem : x ∈ fstK (ks.take k)
      · rw [if_pos hmem] at hlook
        obtain ⟨z, hz⟩ : ∃ z : Nat, z = (fstK (ks.take k)).idxOf x := ⟨_, rfl⟩
        rw [← hz] at hlook;have HZ := Aside0.mk hz;have HMem := Aside0.mk hmem;clear hz hmem;go_wp2_with (at_builtin; refine Kd.R_append (Kd.int .i64) (w0 := w) w.heap.size rfl (.tmp 29) (.tmp 31) 28 3 (.int .i64 0) 8 rfl Try.underlying28 infoIj rfl (by decide) (by omega) _ (numK (ks.take k)) (z : Int) [.int .i64 (z : Int)] (fun q => q ≠ M) (fun _ => False) rfl rfl rfl (fun _ hk => hk.elim) (fun q hq e => by have := HG.out.lt_; omega) HR.out HB.out HB.out.size (by rw [HNl.out]; omega) ?_; intro v9 w9 ho hb hg hat; have a4 := Aside0.mk ho; have a1 := Aside0.mk hb; have a3 := Aside0.mk (HG.out.grown (fun e => HR.out.1 M e rfl) hg); clear ho hb hg hat)
        go_roundw
        case rel =>
          have hadd : addK (fstK (ks.take k)) x = fstK (ks.take k) := by unfold addK; rw [if_pos HMem.out]
          refine ⟨k + 1, f, by omega, by go_num, ⟨?_⟩, ⟨?_⟩, ⟨?_⟩, a1⟩
          · rw [HT.out, fstK_snoc, hadd]; exact a3.out
          · rw [HT.out]
            intro a ha;rw [fstK_snoc, hadd];exact HF.out a ha
          · rw [HT.out, numK_snoc, hadd, ← HZ.out]; exact a4.out
        case measure => simp [intOf]; omega
      · rw [if_neg hmem] at hlook
        have HMem := Aside0.mk hmem;have hlen := HG.out.len Try.underlying88 3;rw [← Hm.out] at hlen;clear hmem
        go_wp2_with (first
          | (refine wpList_gput _ intKB rfl _ _ _ 88 rfl 3 Try.underlying88 M _ f rfl HG.out (by rw [← Hm.out]; unfold maxLen; omega) x HX.out (.int .i64 (m : Int)) rfl rfl ?_
             intro w8 hgm hgg hsz;have a7 := Aside0.mk hgm;have a8 := Aside0.mk (Kd.R_grown HR.out hgg fun q hq e => by cases e; exact hq rfl);have a6 := Aside0.mk (HB.out.grown hgg HB.out.size fun q e => by cases e; rw [HM.out]; exact Nat.le_refl _);clear hgm hgg hsz hlen)
          | (at_builtin
             refine Kd.R_append (Kd.int .i64) (w0 := w) w.heap.size rfl (.tmp 29) (.tmp 31) 28 3 (.int .i64 0) 8 rfl Try.underlying28 infoIj rfl (by decide) (by omega) _ (numK (ks.take k)) (m : Int) [.int .i64 (m : Int)] (fun q => q ≠ M) (fun _ => False) rfl rfl rfl (fun _ hk => hk.elim) (fun q hq e => by have := a7.out.lt_; omega) a8.out a6.out a6.out.size (by rw [HNl.out]; omega) ?_;intro v9 w9 ho hb hg hat;have a4 := Aside0.mk ho;have a1 := Aside0.mk hb;have a3 := Aside0.mk (a7.out.grown (fun e => a8.out.1 M e rfl) hg);clear ho hb hg hat))
        go_roundw
        case rel =>
          have hadd : addK (fstK (ks.take k)) x = fstK (ks.take k) ++ [x] := by unfold addK; rw [if_neg HMem.out]
          have hnone : (f x).isSome = false := by rw [HF.out x HX.out, if_neg HMem.out]; rfl
          have a9 := a3.out;rw [hnone, if_neg (by simp)] at a9;refine ⟨k + 1, putM f x (.int .i64 (m : Int)), by omega, by go_num, ⟨?_⟩, ⟨?_⟩, ⟨?_⟩, a1⟩
          · rw [HT.out, fstK_snoc, hadd, List.length_append]; exact a9
          · rw [HT.out]
            intro a ha;rw [fstK_snoc, hadd];unfold putM;by_cases e : a = x
            · rw [if_pos e, if_pos (by simp [e]), e, List.idxOf_append, if_neg HMem.out, Hm.out]
              simp
            · rw [if_neg e, HF.out a ha]
              by_cases hq : a ∈ fstK (ks.take k)
              · rw [if_pos hq, if_pos (List.mem_append_left _ hq), List.idxOf_append, if_pos hq]
              · rw [if_neg hq, if_neg (by simp [hq, e])]
          · rw [HT.out, numK_snoc, idxOf_addK_new HMem.out, ← Hm.out]; exact a4.out
        case measure => simp [intOf]; omega
    · have ek : ks.take k = ks := List.take_of_length_le (by omega)
      rw [ek] at HR;go_wp2
      go_ret
      exact ⟨_, rfl, Kd.R_mono HR.out fun _ _ => trivial, HB.out⟩
set_option maxHeartbeats 8000000 in
theorem plain_any (ks : List Int) (A : Option Addr) (c0 : Nat) (w : World) (hC : Kd.C (Kd.int .i64) w A ks.length ks) (hks : ∀ x ∈ ks, i64in x) (hl : ks.length ≤ 1000000000) :
  Calls Try.prog 69 #[.slice A ks.length c0] w fun e w' => ∃ v, e = .returned v ∧ Kd.R (Kd.int .i64) 3 w' w.heap.size (fun _ => True) v (numK ks) ∧ Below w.heap.size w w' := by
 go_enter Try.func69, Try.ntmps69
 go_wp2_with (go_at_call 118; refine (number_any ks A c0 w hC hks hl).mono ?_; rintro e w1 ⟨v1, rfl, hR, hB⟩)
 go_ret
 exact ⟨v1, rfl, hR, hB⟩
end Go.Proofs.Ytmcbkmfpmcbdpaa.H
namespace Go.Proofs.Ytmcbkmfpmcbdpaa.H
open Go.RowKit Go.Proofs.Ytmcbkmfpmcbdpaa.Pr Go.Proofs.YtmcbkmfpmcbdpaaW.PrintWords Go.Proofs.Ytmcbkmfpmcbdpaa.Sem Go.Proofs.YtmcbkmfpmcbdpaaW.PrintLast
abbrev Sl := Option Addr × Nat × Nat
def slV (x : Sl) : Value := .slice x.1 x.2.1 x.2.2
def kSl : Kd Sl := Kd.scalar slV (fun _ => rfl)
abbrev nilL : Sl := (none, 0, 0)
theorem infoSI : (Try.prog.info? 28).map (fun i => (i.zero, i.size, i.bytes)) = some (some (.slice none 0 0), 1, 24) := by kernel_rfl
theorem infoI : (Try.prog.info? 3).map (fun i => (i.zero, i.size, i.bytes)) = some (some (.int .i64 0), 1, 8) := by kernel_rfl
theorem run_st1 {P : Program} (w : World) (g i : Nat) (ty : TypeId) (v : Value) (h1 : v.oneCell' = true) (hc : ∃ old, w.cell? ⟨g, i, none⟩ = some old) (hf : w.frozen? ⟨g, i, none⟩ = false) (hi : (P.info? ty).map (·.size) = some 1) :
  (storeVar ty ⟨g, i, none⟩ v).run P w = .ok () (w.setCell ⟨g, i, none⟩ v) := by
 obtain ⟨old, hc⟩ := hc
 have hcs : v.cells = #[v] := by cases v <;> first | rfl | cases h1
 cases hq : P.info? ty with
 | none => simp [hq] at hi
 | some k =>
  have hs : k.size = 1 := by simpa [hq] using hi
  have ha : (⟨g, i, none⟩ : Addr).add 0 = ⟨g, i, none⟩ := by unfold Addr.add; split <;> simp_all
  simp [storeVar, sizeOf, typeInfo, hq, hcs, hs, storeCells, run_store _ _ _ _ _ h1, ha, hc, hf]
theorem wpList_st1 {P : Program} {w : World} {ops : Array Oper} {rest : List Oper} {o : Oper} {a : Act} {Q : Exit → Act → World → Prop} (hgd : o.guard = none) (ty : TypeId) (x y : Operand) (ho : o.op = .store ty x y)
  (g i : Nat) (v : Value) (hx : a.eval x = .pointer (some ⟨g, i, none⟩)) (hy : a.eval y = v) (h1 : v.oneCell' = true) (hc : ∃ old, w.cell? ⟨g, i, none⟩ = some old) (hf : w.frozen? ⟨g, i, none⟩ = false) (hi : (P.info? ty).map (·.size) = some 1)
  (h : ∀ w1, w1 = w.setCell ⟨g, i, none⟩ v → wpList P ops Q rest (a.put o.dst undef) w1) : wpList P ops Q (o :: rest) a w :=
 wpList_plain hgd fun _ hK => by
  unfold Oper.wp execOp
  simp only [ho, hx, hy, Instr.storeAt, Instr.sureAddr, Sem.run_bind, Sem.run_pure, Result.andThen_ok, run_st1 w g i ty v h1 hc hf hi]
  exact hK _ _ (h _ rfl)
theorem sizeI : (Try.prog.info? 3).map (·.size) = some 1 := by kernel_rfl
theorem sizeSI : (Try.prog.info? 28).map (·.size) = some 1 := by kernel_rfl
theorem sizeSSI : (Try.prog.info? 40).map (·.size) = some 1 := by kernel_rfl
inductive Cl where
  | tt | blk | hp | bs | hs | mc | mw | tab | tro
  | bro (i : Nat) | hro (i : Nat) | cmp (i : Nat) | far (j : Nat)
def Cl.own : Cl → Bool
 | .far _ => false
 | _ => true
abbrev IR (w : World) (base : Nat) (cls : Nat → Cl) (c : Cl) (v : Value) (xs : List Int) : Prop := Kd.R (Kd.int .i64) 3 w base (fun k => cls k = c) v xs
abbrev SR (w : World) (base : Nat) (cls : Nat → Cl) (c : Cl) (v : Value) (xs : List Sl) : Prop := Kd.R kSl 28 w base (fun k => cls k = c) v xs
abbrev XR (w : World) (base : Nat) (cls : Nat → Cl) (c : Cl) (v : Value) (xs : List Sl) : Prop := Kd.R kSl 23 w base (fun k => cls k = c) v xs
abbrev ER (w : World) (base : Nat) (cls : Nat → Cl) (c : Cl) (v : Value) (xs : List Ed) : Prop := Kd.R k80 80 w base (fun k => cls k = c) v xs
abbrev G1 (w : World) (m : Nat) (f : Int → Option Value) (c : Nat) : Prop := GM Try.prog 3 ik i64in w m f c
abbrev G2 (w : World) (m : Nat) (f : Int × Int → Option Value) (c : Nat) : Prop := GM Try.prog 167 ptL ptOk w m f c
structure Sg where
  tc : List Value
  vI : Value
  is : List Sl
  ins : List (List Ed)
  vB : Value
  block : List Int
  vBs : Value
  bs : List Sl
  bsl : List Sl
  blocks : List (List Int)
  vH : Value
  heap : List Int
  vHs : Value
  hs : List Sl
  hsl : List Sl
  heaps : List (List Int)
  mC : Nat
  fC : Int → Option Value
  cC : Nat
  cm : List Nat
  fc : Nat → Int × Int → Option Value
  cc : Nat → Nat
  mW : Nat
  fW : Int → Option Value
  cW : Nat
def Part (base T : Nat) (w : World) (cls : Nat → Cl) (s : Sg) : Cl → Prop
 | .tt => w.heap[T]? = some (.cells s.tc.toArray 90 (0, 0)) ∧ cls T = .tt ∧ base ≤ T
 | .blk => IR w base cls .blk s.vB s.block
 | .hp => IR w base cls .hp s.vH s.heap
 | .bs => SR w base cls .bs s.vBs s.bs
 | .hs => SR w base cls .hs s.vHs s.hs
 | .tab => XR w base cls .tab s.vI s.is
 | .tro => ∀ i, i < s.is.length → ER w base cls .tro (slV (s.is.getD i nilL)) (s.ins.getD i [])
 | .bro i => i < s.bsl.length → IR w base cls (.bro i) (slV (s.bsl.getD i nilL)) (s.blocks.getD i [])
 | .hro i => i < s.hsl.length → IR w base cls (.hro i) (slV (s.hsl.getD i nilL)) (s.heaps.getD i [])
 | .mc => cls s.mC = .mc ∧ G1 w s.mC s.fC s.cC ∧ base ≤ s.mC
 | .mw => cls s.mW = .mw ∧ G1 w s.mW s.fW s.cW ∧ base ≤ s.mW
 | .cmp i => i < s.cm.length → cls (s.cm.getD i 0) = .cmp i ∧ G2 w (s.cm.getD i 0) (s.fc i) (s.cc i) ∧ base ≤ s.cm.getD i 0
 | .far _ => True
def SP (base T : Nat) (w : World) (cls : Nat → Cl) (s : Sg) : Prop := ∀ c, Part base T w cls s c
section
variable {base T : Nat} {w w1 : World} {cls cls' : Nat → Cl} {s s' : Sg} {c : Cl} {C : Cl → Prop}
theorem R_moved {α : Type} {d : Kd α} {e : Nat} {v : Value} {xs : List α} (h : d.R e w base (fun k => cls k = c) v xs) (hk : Kept w w1 (fun k => C (cls k))) (hc : ¬ C c) (hcl : ∀ k, k < w.heap.size → cls k = c → cls' k = c) : d.R e w1 base (fun k => cls' k = c) v xs :=
 Kd.R_mono (Kd.R_move (Kd.R_bound h) fun k hk2 => hk.2 k hk2.2.2.1 (by show ¬ C (cls _); rw [hk2.1]; exact hc)) fun k hk2 => hcl k hk2.2.2.1 hk2.1
theorem Part.move (h : Part base T w cls s c) (hk : Kept w w1 (fun k => C (cls k))) (hc : ¬ C c) (hcl : ∀ k, k < w.heap.size → cls k = c → cls' k = c) : Part base T w1 cls' s c := by
 have blk : ∀ {m : Nat} {o : Obj}, cls m = c → w.heap[m]? = some o → w1.heap[m]? = some o := fun hm ho => blk_kept ho hk (by show ¬ C (cls _); rw [hm]; exact hc)
 cases c with
 | tt => exact ⟨blk h.2.1 h.1, hcl T (blk_lt h.1) h.2.1, h.2.2⟩
 | blk => exact R_moved h hk hc hcl
 | hp => exact R_moved h hk hc hcl
 | bs => exact R_moved h hk hc hcl
 | hs => exact R_moved h hk hc hcl
 | tab => exact R_moved h hk hc hcl
 | tro => exact fun i hi => R_moved (h i hi) hk hc hcl
 | bro i => exact fun hi => R_moved (h hi) hk hc hcl
 | hro i => exact fun hi => R_moved (h hi) hk hc hcl
 | mc => exact ⟨hcl _ h.2.1.lt_ h.1, h.2.1.same (hk.2 _ h.2.1.lt_ (by show ¬ C (cls _); rw [h.1]; exact hc)), h.2.2⟩
 | mw => exact ⟨hcl _ h.2.1.lt_ h.1, h.2.1.same (hk.2 _ h.2.1.lt_ (by show ¬ C (cls _); rw [h.1]; exact hc)), h.2.2⟩
 | cmp i => exact fun hi => ⟨hcl _ (h hi).2.1.lt_ (h hi).1, (h hi).2.1.same (hk.2 _ (h hi).2.1.lt_ (by show ¬ C (cls _); rw [(h hi).1]; exact hc)), (h hi).2.2⟩
 | far j => trivial
theorem SP.upd (h : SP base T w cls s) (C : Cl → Prop) (hk : Kept w w1 (fun k => C (cls k))) (hcl : ∀ k, k < w.heap.size → (cls k).own = true → cls' k = cls k)
  (same : ∀ c, ¬ C c → Part base T w1 cls' s c → Part base T w1 cls' s' c) (new : ∀ c, C c → Part base T w1 cls' s' c) : SP base T w1 cls' s' := by
 intro c
 by_cases hc : C c
 ·exact new c hc
 ·cases ho : c.own with
  | true => exact same c hc (Part.move (h c) hk hc fun k hk2 e => by rw [hcl k hk2 (by rw [e]; exact ho), e])
  | false =>
   cases c <;> first | trivial | cases ho
theorem SP.stay (h : SP base T w cls s) (hk : Kept w w1 (fun k => (cls k).own = false)) (hcl : ∀ k, k < w.heap.size → (cls k).own = true → cls' k = cls k) : SP base T w1 cls' s :=
 h.upd (fun c => c.own = false) hk hcl (fun c _ hp => hp) fun c hc => by cases c <;> first | trivial | cases hc
theorem SP.below (h : SP base T w cls s) (hb : Below w.heap.size w w1) : SP base T w1 cls s := h.stay (Kept.of_below hb _) fun _ _ _ => rfl
theorem IR.far {j : Nat} {v : Value} {xs : List Int} (h : IR w base cls (.far j) v xs) (hk : Kept w w1 (fun k => (cls k).own = true)) (hcl : ∀ k, k < w.heap.size → cls k = .far j → cls' k = .far j) : IR w1 base cls' (.far j) v xs :=
 R_moved (C := fun c => c.own = true) h hk (by simp [Cl.own]) hcl
theorem IR.alloc {v : Value} {xs : List Int} (h : IR w base cls c v xs) (o : Obj) : IR (w.alloc o) base cls c v xs := Kd.R_alloc h o
noncomputable def up (cls : Nat → Cl) (v : Value) (c : Cl) : Nat → Cl := fun k => if v.ownBlock = some k then c else cls k
theorem up_self {v : Value} {k : Nat} (h : v.ownBlock = some k) : up cls v c k = c := by unfold up; rw [if_pos h]
theorem up_ne {v : Value} {k : Nat} (h : v.ownBlock ≠ some k) : up cls v c k = cls k := by unfold up; rw [if_neg h]
theorem up_keep {v v9 : Value} (hat : v9.ownBlock = v.ownBlock ∨ ∃ b, v9.ownBlock = some b ∧ w.heap.size ≤ b) (hv : ∀ k, v.ownBlock = some k → cls k = c) : ∀ k, k < w.heap.size → up cls v9 c k = cls k := by
 intro k hk
 unfold up
 split
 ·rename_i e
  rcases hat with hat | ⟨b, hb, hle⟩
  ·exact (hv k (by rw [← hat]; exact e)).symm
  ·rw [hb] at e
   cases e
   omega
 ·rfl
theorem R_up {α : Type} {d : Kd α} {e : Nat} {v : Value} {xs : List α} {ok : Nat → Prop} (hE : d.E = []) (h : d.R e w base ok v xs) : d.R e w base (fun k => up cls v c k = c) v xs := Kd.R_mono (Kd.R_tight hE h) fun k hk => up_self hk.symm
theorem kept_grown {row : Option Nat} (hg : w.grownBy w1 row) {S : Nat → Prop} (hr : ∀ k, row = some k → S k) : Kept w w1 S := ⟨hg.size, fun i hi hn => hg.block i hi fun e => hn (hr i e.symm)⟩
theorem set_at {g i : Nat} {cs : List Value} {t : TypeId} {v : Value} (h : w.heap[g]? = some (.cells cs.toArray t (0, 0))) : (w.setCell ⟨g, i, none⟩ v).heap[g]? = some (.cells (cs.set i v).toArray t (0, 0)) := by
 simp [World.setCell, Array.getElem?_modify, h]
theorem cell_at {g i : Nat} {cs : List Value} {t : TypeId} (h : w.heap[g]? = some (.cells cs.toArray t (0, 0))) (hi : i < cs.length) : w.cell? ⟨g, i, none⟩ = some cs[i] := by
 have := blk_cell h i
 rw [this]
 simp [hi]
theorem SP.ownT (h : SP base T w cls s) : T < w.heap.size := blk_lt (h .tt).1
theorem SP.cell (h : SP base T w cls s) (i : Nat) (v : Value) (hi : s.tc[i]? = some v) : w.cell? ⟨T, i, none⟩ = some v := by
 obtain ⟨hl, e⟩ := List.getElem?_eq_some_iff.1 hi
 rw [cell_at (h .tt).1 hl, e]
theorem SP.setT (h : SP base T w cls s) (i : Nat) (v : Value) : SP base T (w.setCell ⟨T, i, none⟩ v) cls { s with tc := s.tc.set i v } := by
 have hc := (h .tt).2.1
 refine h.upd (· = .tt) ((Kept.refl w _).setCell (.inl hc) v) (fun _ _ _ => rfl) (fun c hne hp => ?_) (fun c e => ?_)
 ·cases c <;> first | exact hp | exact absurd rfl hne
 ·subst e
  exact ⟨set_at (h .tt).1, hc, (h .tt).2.2⟩
theorem SP.setBlk (h : SP base T w cls s) {g c0 : Nat} (hv : s.vB = .slice (some ⟨g, 0, none⟩) s.block.length c0) (x : Nat) (v : Int) : SP base T (w.setCell ⟨g, x, none⟩ (.int .i64 v)) cls { s with block := s.block.set x v } := by
 have h1 : IR w base cls .blk s.vB s.block := h .blk
 rw [hv] at h1
 obtain ⟨h2, hg⟩ := Kd.R_put h1 (x : Int) v
 rw [Int.toNat_natCast] at h2 hg
 refine h.upd (· = .blk) (kept_grown hg fun k e => by cases e; exact h1.1 g rfl) (fun _ _ _ => rfl) (fun c hne hp => ?_) (fun c e => ?_)
 ·cases c <;> first | exact hp | exact absurd rfl hne
 ·subst e
  show IR _ _ _ _ s.vB _
  rw [hv]
  have h3 := h2
  rw [show (Kd.scalar (Value.int IntKind.i64) _) = Kd.int .i64 from rfl] at h3
  simpa using h3
theorem SP.setHp (h : SP base T w cls s) {g c0 : Nat} (hv : s.vH = .slice (some ⟨g, 0, none⟩) s.heap.length c0) (x : Nat) (v : Int) : SP base T (w.setCell ⟨g, x, none⟩ (.int .i64 v)) cls { s with heap := s.heap.set x v } := by
 have h1 : IR w base cls .hp s.vH s.heap := h .hp
 rw [hv] at h1
 obtain ⟨h2, hg⟩ := Kd.R_put h1 (x : Int) v
 rw [Int.toNat_natCast] at h2 hg
 refine h.upd (· = .hp) (kept_grown hg fun k e => by cases e; exact h1.1 g rfl) (fun _ _ _ => rfl) (fun c hne hp => ?_) (fun c e => ?_)
 ·cases c <;> first | exact hp | exact absurd rfl hne
 ·subst e
  show IR _ _ _ _ s.vH _
  rw [hv]
  have h3 := h2
  rw [show (Kd.scalar (Value.int IntKind.i64) _) = Kd.int .i64 from rfl] at h3
  simpa using h3
theorem gD_set {α : Type} (l : List α) (i j : Nat) (x d : α) (hi : i < l.length) : (l.set i x).getD j d = if j = i then x else l.getD j d := by
 by_cases e : j = i
 ·subst e; simp [List.getD_eq_getElem?_getD, hi]
 ·rw [if_neg e]; simp [List.getD_eq_getElem?_getD, List.getElem?_set, Ne.symm e]
theorem gD_snoc {α : Type} (l : List α) (j : Nat) (x d : α) : (l ++ [x]).getD j d = if j = l.length then x else l.getD j d := by
 by_cases e : j = l.length
 ·subst e; simp [List.getD_eq_getElem?_getD]
 ·rw [if_neg e]
  rcases Nat.lt_or_gt_of_ne e with h | h
  ·simp [List.getD_eq_getElem?_getD, List.getElem?_append_left h]
  ·rw [List.getD_eq_getElem?_getD, List.getD_eq_getElem?_getD, List.getElem?_eq_none (by simp; omega), List.getElem?_eq_none (by omega)]
theorem SP.setBs (h : SP base T w cls s) {g c0 : Nat} (hv : s.vBs = .slice (some ⟨g, 0, none⟩) s.bs.length c0) (b : Nat) (r : Sl) (rest : List Int) {j : Nat} (hr : IR w base cls (.far j) (slV r) rest) (hb : b < s.bsl.length) (hbl : s.blocks.length = s.bsl.length) :
  SP base T (w.setCell ⟨g, b, none⟩ (slV r)) (up cls (slV r) (.bro b)) { s with bs := s.bs.set b r, bsl := s.bsl.set b r, blocks := s.blocks.set b rest } := by
 have h1 : SR w base cls .bs s.vBs s.bs := h .bs;rw [hv] at h1;obtain ⟨h2, hg⟩ := Kd.R_put h1 (b : Int) r;rw [Int.toNat_natCast] at h2 hg;have hgc : cls g = .bs := h1.1 g rfl;have hnew : ∀ k, (slV r).ownBlock = some k → cls k = .far j := fun k hk => hr.1 k hk
 have hcl : ∀ k, (cls k).own = true → up cls (slV r) (.bro b) k = cls k := fun k ho => up_ne fun e => by rw [hnew k e] at ho; cases ho
 have hK : Kept w (w.setCell ⟨g, b, none⟩ (slV r)) (fun k => cls k = .bs) := kept_grown hg fun k e => by cases e; exact hgc
 refine h.upd (fun c => c = .bs ∨ c = .bro b) (hK.mono fun k hk => .inl hk) (fun k _ ho => hcl k ho) (fun c hne hp => ?_) (fun c e => ?_)
 ·cases c with
  | bro i =>
   have hi : i ≠ b := fun e => hne (.inr (by rw [e]))
   intro hl;have hl' : i < s.bsl.length := by simpa using hl
   show IR _ _ _ _ (slV ((s.bsl.set b r).getD i nilL)) ((s.blocks.set b rest).getD i []);rw [gD_set _ _ _ _ _ hb, gD_set _ _ _ _ _ (by omega), if_neg hi, if_neg hi];exact hp hl'
  | bs => exact absurd (.inl rfl) hne
  | _ => exact hp
 ·rcases e with rfl | rfl
  ·show SR _ _ _ _ s.vBs _;rw [hv];have h3 : SR (w.setCell ⟨g, b, none⟩ (slV r)) base cls .bs (.slice (some ⟨g, 0, none⟩) s.bs.length c0) (s.bs.set b r) := h2;have h4 : SR (w.setCell ⟨g, b, none⟩ (slV r)) base (up cls (slV r) (.bro b)) .bs (.slice (some ⟨g, 0, none⟩) s.bs.length c0) (s.bs.set b r) := Kd.R_mono h3 fun k hk => by rw [hcl k (by rw [hk]; rfl)]; exact hk
   simpa using h4
  ·intro _;show IR _ _ _ _ (slV ((s.bsl.set b r).getD b nilL)) ((s.blocks.set b rest).getD b []);rw [gD_set _ _ _ _ _ hb, gD_set _ _ _ _ _ (by omega), if_pos rfl, if_pos rfl];exact R_up rfl (R_moved (cls' := cls) (C := fun c => c = .bs) hr hK (by simp) fun _ _ e => e)
theorem SP.pushBs (h : SP base T w cls s) {w9 : World} {v9 : Value} (r : Sl) (rest : List Int) {j : Nat} (hr : IR w base cls (.far j) (slV r) rest) (hbl : s.blocks.length = s.bsl.length) (hl : s.bs.length = s.bsl.length)
  (ho : Kd.R kSl 28 w9 base (fun k => cls k = .bs ∨ w.heap.size ≤ k) v9 (s.bs ++ [r])) (hg : w.grownBy w9 s.vBs.ownBlock) (hat : v9.ownBlock = s.vBs.ownBlock ∨ ∃ b, v9.ownBlock = some b ∧ w.heap.size ≤ b) :
  SP base T (w9.setCell ⟨T, 5, none⟩ v9) (up (up cls v9 .bs) (slV r) (.bro s.bsl.length)) { s with vBs := v9, bs := s.bs ++ [r], bsl := s.bsl ++ [r], blocks := s.blocks ++ [rest], tc := s.tc.set 5 v9 } := by
 have hT := (h .tt).2.1;have hTl := h.ownT;have hob : ∀ k, s.vBs.ownBlock = some k → cls k = .bs := (h .bs).1;have hk1 := up_keep (c := .bs) hat hob;have hnew : ∀ k, (slV r).ownBlock = some k → cls k = .far j := fun k hk => hr.1 k hk
 have hrl : ∀ k, (slV r).ownBlock = some k → k < w.heap.size := Kd.R_lt hr
 have hv9r : ∀ k, v9.ownBlock = some k → (slV r).ownBlock ≠ some k := fun k hk e => by
  rcases ho.1 k hk with h1 | h1
  ·rw [hnew k e] at h1; cases h1
  ·have := hrl k e; omega
 have hcl : ∀ k, k < w.heap.size → (cls k).own = true → up (up cls v9 .bs) (slV r) (.bro s.bsl.length) k = cls k := fun k hk ho2 => by
  rw [up_ne fun e => by rw [hnew k e] at ho2; cases ho2];exact hk1 k hk
 have hK1 : Kept w w9 (fun k => cls k = .bs) := kept_grown hg hob;have hK : Kept w (w9.setCell ⟨T, 5, none⟩ v9) (fun k => cls k = .bs ∨ cls k = .tt) := (hK1.mono fun k hk => .inl hk).setCell (.inl (.inr hT)) v9;have hT9 : w9.heap[T]? = some (.cells s.tc.toArray 90 (0, 0)) := blk_kept (h .tt).1 hK1 (by show ¬ cls T = _; rw [hT]; simp);refine h.upd (fun c => c = .bs ∨ c = .tt ∨ c = .bro s.bsl.length) (hK.mono fun k hk => hk.elim .inl fun e => .inr (.inl e)) hcl (fun c hne hp => ?_) (fun c e => ?_)
 ·cases c with
  | bro i =>
   have hi : i ≠ s.bsl.length := fun e => hne (.inr (.inr (by rw [e])))
   intro hl2
   have hl' : i < s.bsl.length := by
    have : i < (s.bsl ++ [r]).length := hl2;simp at this;omega
   show IR _ _ _ _ (slV ((s.bsl ++ [r]).getD i nilL)) ((s.blocks ++ [rest]).getD i []);rw [gD_snoc, gD_snoc, if_neg hi, if_neg (by omega)];exact hp hl'
  | bs => exact absurd (.inl rfl) hne
  | tt => exact absurd (.inr (.inl rfl)) hne
  | _ => exact hp
 ·rcases e with rfl | rfl | rfl
  ·have h3 := Kd.R_far (p := ⟨T, 5, none⟩) ho (fun k hk e => by
    have e : k = T := e;rw [e] at hk;rcases hk with h1 | h1
    ·rw [hT] at h1; cases h1
    ·have : w.heap.size ≤ T := h1;omega) v9
   exact Kd.R_mono (Kd.R_tight rfl h3) fun k hk => by
    rw [up_ne (hv9r k hk.symm)];exact up_self hk.symm
  ·exact ⟨set_at hT9, by rw [hcl T hTl (by rw [hT]; rfl), hT], (h .tt).2.2⟩
  ·intro _;show IR _ _ _ _ (slV ((s.bsl ++ [r]).getD s.bsl.length nilL)) ((s.blocks ++ [rest]).getD s.bsl.length []);rw [gD_snoc, gD_snoc, if_pos rfl, if_pos hbl.symm];exact R_up rfl (R_moved (cls' := cls) (C := fun c => c = .bs ∨ c = .tt) hr hK (by simp) fun _ _ e => e)
theorem SP.pushHp (h : SP base T w cls s) {w9 : World} {v9 : Value} (x : Int)
  (ho : Kd.R (Kd.int .i64) 3 w9 base (fun k => cls k = .hp ∨ w.heap.size ≤ k) v9 (s.heap ++ [x])) (hg : w.grownBy w9 s.vH.ownBlock) (hat : v9.ownBlock = s.vH.ownBlock ∨ ∃ b, v9.ownBlock = some b ∧ w.heap.size ≤ b) :
  SP base T (w9.setCell ⟨T, 6, none⟩ v9) (up cls v9 .hp) { s with vH := v9, heap := s.heap ++ [x], tc := s.tc.set 6 v9 } := by
 have hT := (h .tt).2.1
 have hTl := h.ownT
 have hob : ∀ k, s.vH.ownBlock = some k → cls k = .hp := (h .hp).1
 have hk1 := up_keep (c := .hp) hat hob
 have hK1 : Kept w w9 (fun k => cls k = .hp) := kept_grown hg hob
 have hK : Kept w (w9.setCell ⟨T, 6, none⟩ v9) (fun k => cls k = .hp ∨ cls k = .tt) := (hK1.mono fun k hk => .inl hk).setCell (.inl (.inr hT)) v9
 have hT9 : w9.heap[T]? = some (.cells s.tc.toArray 90 (0, 0)) := blk_kept (h .tt).1 hK1 (by show ¬ cls T = _; rw [hT]; simp)
 refine h.upd (fun c => c = .hp ∨ c = .tt) hK (fun k hk _ => hk1 k hk) (fun c hne hp => ?_) (fun c e => ?_)
 ·cases c with
  | hp => exact absurd (.inl rfl) hne
  | tt => exact absurd (.inr rfl) hne
  | _ => exact hp
 ·rcases e with rfl | rfl
  ·have h3 := Kd.R_far (p := ⟨T, 6, none⟩) ho (fun k hk e => by
    have e : k = T := e
    rw [e] at hk
    rcases hk with h1 | h1
    ·rw [hT] at h1; cases h1
    ·have : w.heap.size ≤ T := h1
     omega) v9
   exact R_up rfl h3
  ·exact ⟨set_at hT9, by rw [hk1 T hTl, hT], (h .tt).2.2⟩
theorem SP.pushHs (h : SP base T w cls s) {w9 : World} {v9 : Value} (r : Sl) (rest : List Int) {j : Nat} (hr : IR w base cls (.far j) (slV r) rest) (hbl : s.heaps.length = s.hsl.length) (hl : s.hs.length = s.hsl.length)
  (ho : Kd.R kSl 28 w9 base (fun k => cls k = .hs ∨ w.heap.size ≤ k) v9 (s.hs ++ [r])) (hg : w.grownBy w9 s.vHs.ownBlock) (hat : v9.ownBlock = s.vHs.ownBlock ∨ ∃ b, v9.ownBlock = some b ∧ w.heap.size ≤ b) :
  SP base T (w9.setCell ⟨T, 7, none⟩ v9) (up (up cls v9 .hs) (slV r) (.hro s.hsl.length)) { s with vHs := v9, hs := s.hs ++ [r], hsl := s.hsl ++ [r], heaps := s.heaps ++ [rest], tc := s.tc.set 7 v9 } := by
 have hT := (h .tt).2.1;have hTl := h.ownT;have hob : ∀ k, s.vHs.ownBlock = some k → cls k = .hs := (h .hs).1;have hk1 := up_keep (c := .hs) hat hob;have hnew : ∀ k, (slV r).ownBlock = some k → cls k = .far j := fun k hk => hr.1 k hk
 have hrl : ∀ k, (slV r).ownBlock = some k → k < w.heap.size := Kd.R_lt hr
 have hv9r : ∀ k, v9.ownBlock = some k → (slV r).ownBlock ≠ some k := fun k hk e => by
  rcases ho.1 k hk with h1 | h1
  ·rw [hnew k e] at h1; cases h1
  ·have := hrl k e; omega
 have hcl : ∀ k, k < w.heap.size → (cls k).own = true → up (up cls v9 .hs) (slV r) (.hro s.hsl.length) k = cls k := fun k hk ho2 => by
  rw [up_ne fun e => by rw [hnew k e] at ho2; cases ho2];exact hk1 k hk
 have hK1 : Kept w w9 (fun k => cls k = .hs) := kept_grown hg hob;have hK : Kept w (w9.setCell ⟨T, 7, none⟩ v9) (fun k => cls k = .hs ∨ cls k = .tt) := (hK1.mono fun k hk => .inl hk).setCell (.inl (.inr hT)) v9;have hT9 : w9.heap[T]? = some (.cells s.tc.toArray 90 (0, 0)) := blk_kept (h .tt).1 hK1 (by show ¬ cls T = _; rw [hT]; simp);refine h.upd (fun c => c = .hs ∨ c = .tt ∨ c = .hro s.hsl.length) (hK.mono fun k hk => hk.elim .inl fun e => .inr (.inl e)) hcl (fun c hne hp => ?_) (fun c e => ?_)
 ·cases c with
  | hro i =>
   have hi : i ≠ s.hsl.length := fun e => hne (.inr (.inr (by rw [e])))
   intro hl2
   have hl' : i < s.hsl.length := by
    have : i < (s.hsl ++ [r]).length := hl2;simp at this;omega
   show IR _ _ _ _ (slV ((s.hsl ++ [r]).getD i nilL)) ((s.heaps ++ [rest]).getD i []);rw [gD_snoc, gD_snoc, if_neg hi, if_neg (by omega)];exact hp hl'
  | hs => exact absurd (.inl rfl) hne
  | tt => exact absurd (.inr (.inl rfl)) hne
  | _ => exact hp
 ·rcases e with rfl | rfl | rfl
  ·have h3 := Kd.R_far (p := ⟨T, 7, none⟩) ho (fun k hk e => by
    have e : k = T := e;rw [e] at hk;rcases hk with h1 | h1
    ·rw [hT] at h1; cases h1
    ·have : w.heap.size ≤ T := h1;omega) v9
   exact Kd.R_mono (Kd.R_tight rfl h3) fun k hk => by
    rw [up_ne (hv9r k hk.symm)];exact up_self hk.symm
  ·exact ⟨set_at hT9, by rw [hcl T hTl (by rw [hT]; rfl), hT], (h .tt).2.2⟩
  ·intro _;show IR _ _ _ _ (slV ((s.hsl ++ [r]).getD s.hsl.length nilL)) ((s.heaps ++ [rest]).getD s.hsl.length []);rw [gD_snoc, gD_snoc, if_pos rfl, if_pos hbl.symm];exact R_up rfl (R_moved (cls' := cls) (C := fun c => c = .hs ∨ c = .tt) hr hK (by simp) fun _ _ e => e)
theorem SP.setHs (h : SP base T w cls s) {g c0 : Nat} (hv : s.vHs = .slice (some ⟨g, 0, none⟩) s.hs.length c0) (b : Nat) (r : Sl) (rest : List Int) {j : Nat} (hr : IR w base cls (.far j) (slV r) rest) (hb : b < s.hsl.length) (hbl : s.heaps.length = s.hsl.length) :
  SP base T (w.setCell ⟨g, b, none⟩ (slV r)) (up cls (slV r) (.hro b)) { s with hs := s.hs.set b r, hsl := s.hsl.set b r, heaps := s.heaps.set b rest } := by
 have h1 : SR w base cls .hs s.vHs s.hs := h .hs;rw [hv] at h1;obtain ⟨h2, hg⟩ := Kd.R_put h1 (b : Int) r;rw [Int.toNat_natCast] at h2 hg;have hgc : cls g = .hs := h1.1 g rfl;have hnew : ∀ k, (slV r).ownBlock = some k → cls k = .far j := fun k hk => hr.1 k hk
 have hcl : ∀ k, (cls k).own = true → up cls (slV r) (.hro b) k = cls k := fun k ho => up_ne fun e => by rw [hnew k e] at ho; cases ho
 have hK : Kept w (w.setCell ⟨g, b, none⟩ (slV r)) (fun k => cls k = .hs) := kept_grown hg fun k e => by cases e; exact hgc
 refine h.upd (fun c => c = .hs ∨ c = .hro b) (hK.mono fun k hk => .inl hk) (fun k _ ho => hcl k ho) (fun c hne hp => ?_) (fun c e => ?_)
 ·cases c with
  | hro i =>
   have hi : i ≠ b := fun e => hne (.inr (by rw [e]))
   intro hl;have hl' : i < s.hsl.length := by simpa using hl
   show IR _ _ _ _ (slV ((s.hsl.set b r).getD i nilL)) ((s.heaps.set b rest).getD i []);rw [gD_set _ _ _ _ _ hb, gD_set _ _ _ _ _ (by omega), if_neg hi, if_neg hi];exact hp hl'
  | hs => exact absurd (.inl rfl) hne
  | _ => exact hp
 ·rcases e with rfl | rfl
  ·show SR _ _ _ _ s.vHs _;rw [hv];have h3 : SR (w.setCell ⟨g, b, none⟩ (slV r)) base cls .hs (.slice (some ⟨g, 0, none⟩) s.hs.length c0) (s.hs.set b r) := h2;have h4 : SR (w.setCell ⟨g, b, none⟩ (slV r)) base (up cls (slV r) (.hro b)) .hs (.slice (some ⟨g, 0, none⟩) s.hs.length c0) (s.hs.set b r) := Kd.R_mono h3 fun k hk => by rw [hcl k (by rw [hk]; rfl)]; exact hk
   simpa using h4
  ·intro _;show IR _ _ _ _ (slV ((s.hsl.set b r).getD b nilL)) ((s.heaps.set b rest).getD b []);rw [gD_set _ _ _ _ _ hb, gD_set _ _ _ _ _ (by omega), if_pos rfl, if_pos rfl];exact R_up rfl (R_moved (cls' := cls) (C := fun c => c = .hs) hr hK (by simp) fun _ _ e => e)
theorem SP.appHs (h : SP base T w cls s) {w9 : World} {r : Sl} {g c0 : Nat} (hv : s.vHs = .slice (some ⟨g, 0, none⟩) s.hs.length c0) (b : Nat) (x : Int) (hb : b < s.hsl.length) (hbl : s.heaps.length = s.hsl.length)
  (ho : Kd.R (Kd.int .i64) 3 w9 base (fun k => cls k = .hro b ∨ w.heap.size ≤ k) (slV r) (s.heaps.getD b [] ++ [x])) (hg : w.grownBy w9 (slV (s.hsl.getD b nilL)).ownBlock) (hat : (slV r).ownBlock = (slV (s.hsl.getD b nilL)).ownBlock ∨ ∃ k, (slV r).ownBlock = some k ∧ w.heap.size ≤ k) :
  SP base T (w9.setCell ⟨g, b, none⟩ (slV r)) (up cls (slV r) (.hro b)) { s with hs := s.hs.set b r, hsl := s.hsl.set b r, heaps := s.heaps.set b (s.heaps.getD b [] ++ [x]) } := by
 have hob : ∀ k, (slV (s.hsl.getD b nilL)).ownBlock = some k → cls k = .hro b := (h (.hro b) hb).1;have hk1 := up_keep (c := .hro b) hat hob;have hK1 : Kept w w9 (fun k => cls k = .hro b) := kept_grown hg hob
 have h1 : SR w9 base cls .hs (.slice (some ⟨g, 0, none⟩) s.hs.length c0) s.hs := by
  have h0 : SR w base cls .hs s.vHs s.hs := h .hs;rw [hv] at h0;exact R_moved (C := fun c => c = .hro b) h0 hK1 (by simp) fun _ _ e => e
 obtain ⟨h2, hg2⟩ := Kd.R_put h1 (b : Int) r;rw [Int.toNat_natCast] at h2 hg2;have hgc : cls g = .hs := h1.1 g rfl
 have hgl : g < w.heap.size := by
  have h0 : SR w base cls .hs s.vHs s.hs := h .hs;rw [hv] at h0;exact Kd.R_lt h0 g rfl
 have hK : Kept w (w9.setCell ⟨g, b, none⟩ (slV r)) (fun k => cls k = .hs ∨ cls k = .hro b) := (hK1.mono fun k hk => .inr hk).setCell (.inl (.inl hgc)) _;refine h.upd (fun c => c = .hs ∨ c = .hro b) hK (fun k hk _ => hk1 k hk) (fun c hne hp => ?_) (fun c e => ?_)
 ·cases c with
  | hro i =>
   have hi : i ≠ b := fun e => hne (.inr (by rw [e]))
   intro hl;have hl' : i < s.hsl.length := by simpa using hl
   show IR _ _ _ _ (slV ((s.hsl.set b r).getD i nilL)) ((s.heaps.set b _).getD i []);rw [gD_set _ _ _ _ _ hb, gD_set _ _ _ _ _ (by omega), if_neg hi, if_neg hi];exact hp hl'
  | hs => exact absurd (.inl rfl) hne
  | _ => exact hp
 ·rcases e with rfl | rfl
  ·show SR _ _ _ _ s.vHs _;rw [hv];have h3 : SR (w9.setCell ⟨g, b, none⟩ (slV r)) base cls .hs (.slice (some ⟨g, 0, none⟩) s.hs.length c0) (s.hs.set b r) := h2
   have h4 : SR (w9.setCell ⟨g, b, none⟩ (slV r)) base (up cls (slV r) (.hro b)) .hs (.slice (some ⟨g, 0, none⟩) s.hs.length c0) (s.hs.set b r) := Kd.R_mono (Kd.R_tight rfl h3) fun k hk => by
    have : g = k := by simpa [Value.ownBlock] using hk.symm
    subst this;rw [hk1 g hgl, hgc]
   simpa using h4
  ·intro _;show IR _ _ _ _ (slV ((s.hsl.set b r).getD b nilL)) ((s.heaps.set b _).getD b []);rw [gD_set _ _ _ _ _ hb, gD_set _ _ _ _ _ (by omega), if_pos rfl, if_pos rfl];refine R_up rfl (Kd.R_far (p := ⟨g, b, none⟩) ho (fun k hk e => ?_) (slV r));have e : k = g := e;rw [e] at hk;rcases hk with e | e
   ·rw [hgc] at e; cases e
   ·have : w.heap.size ≤ g := e;omega
theorem SP.setW (h : SP base T w cls s) {f : Int → Option Value} {n : Nat} (hm : G1 w1 s.mW f n) (hg : w.grownBy w1 (some s.mW)) : SP base T w1 cls { s with fW := f, cW := n } := by
 have hc := (h .mw).1
 refine h.upd (· = .mw) (kept_grown hg fun k e => by cases e; exact hc) (fun _ _ _ => rfl) (fun c hne hp => ?_) (fun c e => ?_)
 ·cases c <;> first | exact hp | exact absurd rfl hne
 ·subst e
  exact ⟨hc, hm, (h .mw).2.2⟩
theorem SP.setC (h : SP base T w cls s) {i : Nat} (hi : i < s.cm.length) {f : Int × Int → Option Value} {n : Nat} (hm : G2 w1 (s.cm.getD i 0) f n) (hg : w.grownBy w1 (some (s.cm.getD i 0))) :
  SP base T w1 cls { s with fc := fun j => if j = i then f else s.fc j, cc := fun j => if j = i then n else s.cc j } := by
 have hc := (h (.cmp i) hi).1
 refine h.upd (· = .cmp i) (kept_grown hg fun k e => by cases e; exact hc) (fun _ _ _ => rfl) (fun c hne hp => ?_) (fun c e => ?_)
 ·cases c with
  | cmp j =>
   have hj : j ≠ i := fun e => hne (by rw [e])
   intro hl
   show cls (s.cm.getD j 0) = .cmp j ∧ G2 w1 (s.cm.getD j 0) (if j = i then f else s.fc j) (if j = i then n else s.cc j) ∧ base ≤ s.cm.getD j 0
   rw [if_neg hj, if_neg hj]
   exact hp hl
  | _ => exact hp
 ·subst e
  intro _
  show cls (s.cm.getD i 0) = .cmp i ∧ G2 w1 (s.cm.getD i 0) (if i = i then f else s.fc i) (if i = i then n else s.cc i) ∧ base ≤ s.cm.getD i 0
  rw [if_pos rfl, if_pos rfl]
  exact ⟨hc, hm, (h (.cmp i) hi).2.2⟩
theorem SP.pushC (h : SP base T w cls s) {m : Nat} {f : Int × Int → Option Value} {n : Nat} {fC : Int → Option Value} {nC : Nat} {j : Nat} (hc : cls m = .far j) (hb : base ≤ m) (hm : G2 w m f n) (hM : G1 w1 s.mC fC nC) (hg : w.grownBy w1 (some s.mC)) :
  SP base T w1 (fun k => if k = m then .cmp s.cm.length else cls k) { s with fC := fC, cC := nC, cm := s.cm ++ [m], fc := fun i => if i = s.cm.length then f else s.fc i, cc := fun i => if i = s.cm.length then n else s.cc i } := by
 have hmc := (h .mc).1
 have hcl : ∀ k, (cls k).own = true → (fun k => if k = m then Cl.cmp s.cm.length else cls k) k = cls k := fun k ho => by
  show (if k = m then Cl.cmp s.cm.length else cls k) = cls k;rw [if_neg];rintro rfl;rw [hc] at ho
  cases ho
 have hK : Kept w w1 (fun k => cls k = .mc) := kept_grown hg fun k e => by cases e; exact hmc
 refine h.upd (fun c => c = .mc ∨ c = .cmp s.cm.length) (hK.mono fun k hk => .inl hk) (fun k _ ho => hcl k ho) (fun c hne hp => ?_) (fun c e => ?_)
 ·cases c with
  | cmp i =>
   have hi : i ≠ s.cm.length := fun e => hne (.inr (by rw [e]))
   intro hl
   have hl' : i < s.cm.length := by
    have : i < (s.cm ++ [m]).length := hl;simp at this;omega
   show (if (s.cm ++ [m]).getD i 0 = m then Cl.cmp s.cm.length else cls ((s.cm ++ [m]).getD i 0)) = .cmp i ∧ G2 w1 ((s.cm ++ [m]).getD i 0) (if i = s.cm.length then f else s.fc i) (if i = s.cm.length then n else s.cc i) ∧ base ≤ (s.cm ++ [m]).getD i 0;rw [gD_snoc, if_neg hi, if_neg hi, if_neg hi];exact hp hl'
  | mc => exact absurd (.inl rfl) hne
  | _ => exact hp
 ·rcases e with rfl | rfl
  ·exact ⟨by rw [hcl _ (by rw [hmc]; rfl)]; exact hmc, hM, (h .mc).2.2⟩
  ·intro _;show (if (s.cm ++ [m]).getD s.cm.length 0 = m then Cl.cmp s.cm.length else cls ((s.cm ++ [m]).getD s.cm.length 0)) = .cmp s.cm.length ∧ G2 w1 ((s.cm ++ [m]).getD s.cm.length 0) (if s.cm.length = s.cm.length then f else s.fc s.cm.length) (if s.cm.length = s.cm.length then n else s.cc s.cm.length) ∧ base ≤ (s.cm ++ [m]).getD s.cm.length 0;rw [gD_snoc, if_pos rfl, if_pos rfl, if_pos rfl, if_pos rfl];exact ⟨rfl, hm.same (hK.2 _ hm.lt_ (by show ¬ cls m = _; rw [hc]; simp)), hb⟩
end
end Go.Proofs.Ytmcbkmfpmcbdpaa.H
namespace Go.Proofs.Ytmcbkmfpmcbdpaa.H
open Go.RowKit Go.Proofs.Ytmcbkmfpmcbdpaa.Pr Go.Proofs.YtmcbkmfpmcbdpaaW.PrintWords Go.Proofs.Ytmcbkmfpmcbdpaa.Sem Go.Proofs.YtmcbkmfpmcbdpaaW.PrintLast
def upS (s : Nat → Nat) (i b : Nat) : Nat → Nat := fun k => if k = i then b else s k
theorem upS_self (s : Nat → Nat) (i b : Nat) : upS s i b i = b := by unfold upS; rw [if_pos rfl]
theorem upS_ne (s : Nat → Nat) {i j : Nat} (b : Nat) (h : j ≠ i) : upS s i b j = s j := by unfold upS; rw [if_neg h]
def BegL (obj : (Nat → Nat) → Nat → Obj) (w0 : World) (D : List Nat) (s : Nat → Nat) (w : World) : Prop := Below w0.heap.size w0 w ∧ ∀ i ∈ D, w0.heap.size ≤ s i ∧ w.heap[s i]? = some (obj s i) ∧ ∀ j ∈ D, s i = s j → i = j
theorem BegL.start (obj : (Nat → Nat) → Nat → Obj) (w : World) (s : Nat → Nat) : BegL obj w [] s w := ⟨Below.refl _ _, fun i h => by cases h⟩
theorem BegL.step {obj : (Nat → Nat) → Nat → Obj} {w0 : World} {D : List Nat} {s : Nat → Nat} {w : World} (h : BegL obj w0 D s w) (i : Nat) (hi : i ∉ D) (hobj : ∀ j b, j = i ∨ j ∈ D → obj (upS s i b) j = obj s j) {D' : List Nat} (hD : ∀ j ∈ D', j = i ∨ j ∈ D) : BegL obj w0 D' (upS s i w.heap.size) (w.alloc (obj s i)) := by
 have ui : upS s i w.heap.size i = w.heap.size := upS_self _ _ _
 have uj : ∀ j, j ≠ i → upS s i w.heap.size j = s j := fun j hj => upS_ne _ _ hj
 have hlt : ∀ j ∈ D, s j < w.heap.size := fun j hj => blk_lt (h.2 j hj).2.1
 refine ⟨below_alloc h.1 _, fun j hj => ?_⟩
 rw [hobj j _ (hD j hj)]
 by_cases e : j = i
 ·subst e
  rw [ui]
  refine ⟨h.1.size, blk_new w _, fun k hk he => ?_⟩
  rcases hD k hk with hk | hk
  ·exact hk.symm
  ·have hne : k ≠ j := fun e => hi (e ▸ hk)
   rw [uj k hne] at he
   have := hlt k hk
   omega
 ·have hjD : j ∈ D := (hD j hj).resolve_left e
  rw [uj j e]
  refine ⟨(h.2 j hjD).1, blk_below (h.2 j hjD).2.1 (below_alloc (Below.refl _ _) _), fun k hk he => ?_⟩
  rcases hD k hk with hk | hk
  ·subst hk
   rw [ui] at he
   have := hlt j hjD
   omega
  ·have hne : k ≠ i := fun e => hi (e ▸ hk)
   rw [uj k hne] at he
   exact (h.2 j hjD).2.2 k hk he
def listedP (l0 : Array Bool) (p : Nat → Bool) : Array Bool := l0.mapIdx fun k b => b || p k
theorem listedP_at (l0 : Array Bool) (p : Nat → Bool) (k : Nat) : (listedP l0 p)[k]? = (l0[k]?).map fun b => b || p k := by unfold listedP; rw [Array.getElem?_mapIdx]
theorem listedP_set (l0 : Array Bool) (p : Nat → Bool) (i : Nat) : (listedP l0 p).setIfInBounds i true = listedP l0 fun k => p k || decide (k = i) := by
 apply Array.ext_getElem?
 intro k
 rw [listedP_at]
 by_cases e : i = k
 ·subst e
  rw [Array.getElem?_setIfInBounds]
  rw [if_pos rfl]
  cases h : l0[i]? with
  | none =>
   have : ¬ i < l0.size := by intro h2; rw [Array.getElem?_eq_getElem h2] at h; cases h
   rw [if_neg (by simpa [listedP] using this)]
   rfl
  | some b =>
   have := (Array.getElem?_eq_some_iff.1 h).1
   rw [if_pos (by simpa [listedP] using this)]
   simp
 ·rw [Array.getElem?_setIfInBounds_ne e, listedP_at]
  have : ¬ k = i := fun h => e h.symm
  simp [this]
def subs : List Nat → List (List Nat)
 | [] => [[]]
 | x :: r => subs r ++ (subs r).map (x :: ·)
theorem filter_subs (p : Nat → Bool) : ∀ C : List Nat, C.filter p ∈ subs C
 | [] => by simp [subs]
 | x :: r => by
  have ih := filter_subs p r
  unfold subs
  rw [List.filter_cons]
  split
  ·exact List.mem_append_right _ (List.mem_map.2 ⟨_, ih, rfl⟩)
  ·exact List.mem_append_left _ ih
theorem filter_more {p : Nat → Bool} {i : Nat} : ∀ {C : List Nat}, C.Nodup → i ∈ C → p i = false → (C.filter fun k => p k || decide (k = i)).length = (C.filter p).length + 1
 | [], _, hi, _ => by cases hi
 | x :: r, hn, hi, hpi => by
  obtain ⟨h1, h2⟩ := List.nodup_cons.1 hn
  rw [List.filter_cons, List.filter_cons]
  by_cases e : x = i
  ·subst e
   have : r.filter (fun k => p k || decide (k = x)) = r.filter p := List.filter_congr fun y hy => by
    have : y ≠ x := fun e => h1 (e ▸ hy)
    simp [this]
   simp [hpi, this]
  ·have := filter_more h2 ((List.mem_cons.1 hi).resolve_left (Ne.symm e)) hpi
   simp only [e, decide_false, Bool.or_false]
   split
   ·simp [this]
   ·exact this
def allocB (md : Region.Mode) (ops : Array Oper) (l0 l1 : Array Bool) (C : List Nat) (needs : Nat → List Nat) : Bool :=
 decide (listedP l0 (fun k => C.contains k) = l1) && (subs C).all fun D => D.length == C.length || !(D.all fun j => (needs j).all fun k => D.contains k) ||
  (!(Region.ready md ops (listedP l0 fun k => D.contains k)).isEmpty && (Region.ready md ops (listedP l0 fun k => D.contains k)).all fun i => C.contains i && !D.contains i && (needs i).all fun k => D.contains k)
structure ActP (C : List Nat) (slot : Nat → Tmp) (val : (Nat → Nat) → Nat → Value) (a0 : Act) (p : Nat → Bool) (s : Nat → Nat) (a : Act) : Prop where
  size : a.tmps.size = a0.tmps.size
  defs : a.defers = a0.defers
  old : ∀ k, (∀ i ∈ C, slot i ≠ k) → a.tmps[k]? = a0.tmps[k]?
  new : ∀ i ∈ C, p i = true → a.tmps[slot i]? = some (val s i)
section
variable {P : Program} {ops : Array Oper} {Q : Exit → Act → World → Prop} {md : Region.Mode} {S : World → Prop}
variable {C : List Nat} {slot : Nat → Tmp} {val : (Nat → Nat) → Nat → Value} {obj : (Nat → Nat) → Nat → Obj} {needs : Nat → List Nat} {a0 : Act} {l0 l1 : Array Bool} {V : World}
theorem wpOp_val {i : Nat} {o : Oper} {v : Value} {a : Act} {w w1 : World} {K : Act → World → Prop} (ho : ops[i]? = some o) (hg : o.guard = none) (hrun : (execOp a.eval o).run P w = .ok (.value v) w1) (h : K (a.put o.dst v) w1) : wpOp P ops Q i K a w := by
 unfold wpOp
 rw [ho]
 show if Region.wanted o (yielded ops a.tmps) = true then _ else _
 rw [if_pos (by unfold Region.wanted; rw [hg])]
 left
 unfold Oper.wp
 rw [hrun]
 exact h
theorem run_mkS {a : Act} {o : Oper} {t : TypeId} {x : Operand} {z v : Value} {W W1 : World} (ho : o.op = .makeSlice t x x) (hx : a.eval x = z) (h : (Instr.makeSlice t z z).run P W = .ok v W1) : (execOp a.eval o).run P W = .ok (.value v) W1 := by
 unfold execOp
 simp only [ho, hx, Sem.run_bind, Sem.run_pure, h, Result.andThen_ok]
theorem run_mkM {a : Act} {o : Oper} {t : TypeId} {v : Value} {W W1 : World} (ho : o.op = .makeMap t none) (h : (Instr.makeMap t none).run P W = .ok v W1) : (execOp a.eval o).run P W = .ok (.value v) W1 := by
 unfold execOp
 simp [ho, h]
theorem ActP.eval {p : Nat → Bool} {s : Nat → Nat} {a : Act} (h : ActP C slot val a0 p s a) (k : Nat) (hk : ∀ i ∈ C, slot i ≠ k) : a.eval (.tmp k) = a0.eval (.tmp k) := by
 show a.tmps.getD k undef = a0.tmps.getD k undef
 have := h.old k hk
 simp [this]
theorem ActP.evalN {p : Nat → Bool} {s : Nat → Nat} {a : Act} (h : ActP C slot val a0 p s a) {i : Nat} (hi : i ∈ C) (hp : p i = true) : a.eval (.tmp (slot i)) = val s i := by
 show a.tmps.getD (slot i) undef = _
 have := h.new i hi hp
 simp [this]
theorem ActP.step {p : Nat → Bool} {s : Nat → Nat} {a : Act} (h : ActP C slot val a0 p s a) {i b : Nat} (hi : i ∈ C) (hp : p i = false) (hinj : ∀ i ∈ C, ∀ j ∈ C, slot i = slot j → i = j) (hlt : ∀ i ∈ C, slot i < a0.tmps.size) (hval : ∀ s i j b, j ≠ i → val (upS s i b) j = val s j) :
  ActP C slot val a0 (fun k => p k || decide (k = i)) (upS s i b) (a.put (some (slot i)) (val (upS s i b) i)) where
 size := by simp [Act.put, h.size]
 defs := h.defs
 old := fun k hk => by
  have := hk i hi
  simp only [Act.put]
  rw [Array.getElem?_setIfInBounds_ne this]
  exact h.old k hk
 new := fun j hj hpj => by
  simp only [Act.put]
  by_cases e : j = i
  ·subst e
   rw [Array.getElem?_setIfInBounds_self_of_lt (by rw [h.size]; exact hlt j hj)]
  ·have hne : slot i ≠ slot j := fun e2 => e (hinj i hi j hj e2).symm
   rw [Array.getElem?_setIfInBounds_ne hne, hval _ _ _ _ e]
   refine h.new j hj ?_
   simpa [e] using hpj
theorem putAll_eq : ∀ (L : List (Tmp × Value)) (a0 a : Act), (L.map Prod.fst).Nodup → (∀ x ∈ L, x.1 < a0.tmps.size) → a.tmps.size = a0.tmps.size → a.defers = a0.defers → (∀ k, k ∉ L.map Prod.fst → a.tmps[k]? = a0.tmps[k]?) → (∀ x ∈ L, a.tmps[x.1]? = some x.2) → putAll a0 L = a
 | [], a0, a, _, _, hs, hd, h1, _ => by
  have e : a0.tmps = a.tmps := Array.ext_getElem? fun k => (h1 k (by simp)).symm
  show a0 = a
  cases a0; cases a
  simp only [Act.mk.injEq]
  exact ⟨e, hd.symm⟩
 | (n, v) :: r, a0, a, hn, hlt, hs, hd, h1, h2 => by
  obtain ⟨hn1, hn2⟩ := List.nodup_cons.1 hn
  show putAll (a0.put (some n) v) r = a
  have hsz : (a0.put (some n) v).tmps.size = a0.tmps.size := by simp [Act.put]
  refine putAll_eq r _ a hn2 (fun x hx => by rw [hsz]; exact hlt x (List.mem_cons_of_mem _ hx)) (by rw [hsz]; exact hs) hd (fun k hk => ?_) fun x hx => h2 x (List.mem_cons_of_mem _ hx)
  simp only [Act.put]
  by_cases e : n = k
  ·subst e
   rw [Array.getElem?_setIfInBounds_self_of_lt (hlt (n, v) (List.mem_cons_self ..))]
   exact h2 (n, v) (List.mem_cons_self ..)
  ·rw [Array.getElem?_setIfInBounds_ne e]
   exact h1 k (by simp only [List.map_cons, List.mem_cons]; rintro (h | h); exact e h.symm; exact hk h)
theorem ActP.full {p : Nat → Bool} {s : Nat → Nat} {a : Act} (h : ActP C slot val a0 p s a) (hp : ∀ i ∈ C, p i = true) (hnd : (C.map slot).Nodup) (hlt : ∀ i ∈ C, slot i < a0.tmps.size) : putAll a0 (C.map fun i => (slot i, val s i)) = a := by
 have e : (C.map fun i => (slot i, val s i)).map Prod.fst = C.map slot := by rw [List.map_map]; rfl
 refine putAll_eq _ a0 a (by rw [e]; exact hnd) (fun x hx => ?_) h.size h.defs (fun k hk => ?_) fun x hx => ?_
 ·obtain ⟨i, hi, rfl⟩ := List.mem_map.1 hx
  exact hlt i hi
 ·rw [e] at hk
  exact h.old k fun i hi he => hk (List.mem_map.2 ⟨i, hi, he⟩)
 ·obtain ⟨i, hi, rfl⟩ := List.mem_map.1 hx
  exact h.new i hi (hp i hi)
theorem alloc_region {fuel m : Nat} (hm : m = C.length + fuel) (hchk : allocB md ops l0 l1 C needs = true) (hnd : (C.map slot).Nodup) (hlt : ∀ i ∈ C, slot i < a0.tmps.size) (hval : ∀ s i j b, j ≠ i → val (upS s i b) j = val s j) (hobj : ∀ s i j b, i ∉ needs j → obj (upS s i b) j = obj s j) (hself : ∀ i ∈ C, i ∉ needs i)
  (hSa : ∀ w o, S w → S (w.alloc o)) (hS : S V)
  (hrun : ∀ i ∈ C, ∀ (p : Nat → Bool) (s : Nat → Nat) (a : Act) (w : World), ActP C slot val a0 p s a → (∀ j ∈ needs i, p j = true) → ∃ o, ops[i]? = some o ∧ o.guard = none ∧ o.dst = some (slot i) ∧ (execOp a.eval o).run P w = .ok (.value (val (upS s i w.heap.size) i)) (w.alloc (obj s i)))
  (hcont : ∀ (s : Nat → Nat) (w : World), BegL obj V C s w → S w → wpAnyLast P md ops Q S [] fuel l1 (putAll a0 (C.map fun i => (slot i, val s i))) w) : wpAnyLast P md ops Q S [] m l0 a0 V := by
 unfold allocB at hchk;rw [Bool.and_eq_true, decide_eq_true_eq, List.all_eq_true] at hchk;obtain ⟨a4, hchk⟩ := hchk
 have hinj : ∀ i ∈ C, ∀ j ∈ C, slot i = slot j → i = j := by
  intro i hi j hj e;obtain ⟨x, hx, rfl⟩ := List.getElem_of_mem hi;obtain ⟨y, hy, rfl⟩ := List.getElem_of_mem hj;have h1 : (C.map slot)[x]'(by simpa using hx) = (C.map slot)[y]'(by simpa using hy) := by simpa using e
  have h2 := (List.getElem_inj hnd).1 h1;subst h2;rfl
 have key : ∀ (k : Nat) (p : Nat → Bool) (s : Nat → Nat) (a : Act) (w : World), (∀ i, p i = true → i ∈ C) → (∀ j, p j = true → ∀ i ∈ needs j, p i = true) → (C.filter p).length + k = C.length → ActP C slot val a0 p s a → BegL obj V (C.filter p) s w → S w → wpAnyLast P md ops Q S [] (k + fuel) (listedP l0 p) a w := by
  intro k
  induction k with
  | zero =>
   intro p s a w hpC hcl hk hA hL hSw;have hall : ∀ i ∈ C, p i = true := List.filter_eq_self.1 ((List.filter_sublist (p := p) (l := C)).eq_of_length (by omega))
   have hp : p = fun k => C.contains k := by
    funext i
    rw [Bool.eq_iff_iff];simp only [List.contains_iff_mem];exact ⟨hpC i, hall i⟩
   rw [List.filter_eq_self.2 hall] at hL;have h := hcont s w hL hSw;rw [hA.full hall hnd hlt, ← a4, ← hp] at h;rwa [Nat.zero_add]
  | succ k ih =>
   intro p s a w hpC hcl hk hA hL hSw
   have hp : p = fun k => (C.filter p).contains k := by
    funext i
    rw [Bool.eq_iff_iff];simp only [List.contains_iff_mem, List.mem_filter];exact ⟨fun h => ⟨hpC i h, h⟩, fun h => h.2⟩
   have hD := hchk _ (filter_subs p C);rw [← hp] at hD;have h1 : ((C.filter p).length == C.length) = false := by simpa using (show (C.filter p).length ≠ C.length by omega)
   have h2 : ((C.filter p).all fun j => (needs j).all fun k => p k) = true := by
    rw [List.all_eq_true];intro j hj;rw [List.all_eq_true];exact hcl j (List.mem_filter.1 hj).2
   have hc : ∀ k, (C.filter p).contains k = p k := fun k => (congrFun hp k).symm
   simp only [hc] at hD;rw [h1, h2, Bool.not_true, Bool.or_false, Bool.false_or, Bool.and_eq_true, List.all_eq_true] at hD;obtain ⟨hne, hrd⟩ := hD
   have a2 : Region.ready md ops (listedP l0 p) ≠ [] := by
    intro e;rw [e] at hne;simp at hne
   rw [Nat.succ_add];refine wpAnyLast_all rfl a2 fun i hi => ?_
   have h3 := hrd i hi;simp only [Bool.and_eq_true, List.contains_iff_mem, Bool.not_eq_true', List.all_eq_true] at h3;obtain ⟨⟨hiC, hpi⟩, hni⟩ := h3;obtain ⟨o, ho, hg, hd, hr⟩ := hrun i hiC p s a w hA hni;refine wpOp_val ho hg hr ?_;rw [hd, listedP_set]
   have hmem : ∀ j, j ∈ C.filter (fun k => p k || decide (k = i)) → j = i ∨ j ∈ C.filter p := fun j hj => by
    obtain ⟨a3, a1⟩ := List.mem_filter.1 hj;simp only [Bool.or_eq_true, decide_eq_true_eq] at a1;rcases a1 with h | h
    ·exact .inr (List.mem_filter.2 ⟨a3, h⟩)
    ·exact .inl h
   have hiF : i ∉ C.filter p := fun h => by rw [(List.mem_filter.1 h).2] at hpi; cases hpi
   refine ⟨fun _ hS => hSa _ _ hS, ih _ _ _ _ (fun j hj => ?_) (fun j hj l hl => ?_) ?_ (hA.step hiC hpi hinj hlt hval) (hL.step i hiF (fun j b hj => hobj _ _ _ _ ?_) hmem) (hSa _ _ hSw)⟩
   ·simp only [Bool.or_eq_true, decide_eq_true_eq] at hj;rcases hj with h | h
    ·exact hpC j h
    ·exact h ▸ hiC
   ·simp only [Bool.or_eq_true, decide_eq_true_eq] at hj ⊢;left
    rcases hj with h | h
    ·exact hcl j h l hl
    ·subst h; exact hni l hl
   ·have hCn : C.Nodup := by
     have := hnd;exact (List.pairwise_map.1 this).imp fun h e => h (by rw [e])
    have e1 := filter_more hCn hiC hpi;omega
   ·rcases hj with h | h
    ·subst h; exact hself _ hiC
    ·intro h4;exact hiF (List.mem_filter.2 ⟨hpC i (hcl j (List.mem_filter.1 h).2 i h4), hcl j (List.mem_filter.1 h).2 i h4⟩)
 subst hm
 have h0 : listedP l0 (fun _ => false) = l0 := by
  apply Array.ext
  ·simp [listedP]
  ·intro k h1 h2; simp [listedP]
 have hf : C.filter (fun _ => false) = [] := List.filter_eq_nil_iff.2 fun _ _ => by simp
 have := key C.length (fun _ => false) (fun _ => 0) a0 V (fun _ h => by cases h) (fun _ h => by cases h) (by rw [hf]; simp) ⟨rfl, rfl, fun _ _ => rfl, fun _ _ h => by cases h⟩ (by rw [hf]; exact BegL.start _ _ _) hS;rwa [h0] at this
end
end Go.Proofs.Ytmcbkmfpmcbdpaa.H
namespace Go.Proofs.Ytmcbkmfpmcbdpaa.H
open Go.RowKit Go.Proofs.Ytmcbkmfpmcbdpaa.Pr Go.Proofs.YtmcbkmfpmcbdpaaW.PrintWords Go.Proofs.Ytmcbkmfpmcbdpaa.Sem Go.Proofs.YtmcbkmfpmcbdpaaW.PrintLast
structure Std (n : Nat) (v1 v2 : Value) (s : Sg) (p : PSt) : Prop where
  tc : s.tc = [.int .i64 n, v1, v2, s.vI, s.vB, s.vBs, s.vH, s.vHs, .map (some s.mC), .map (some s.mW), .int .i64 ((p.blocks.length : Int) - 1)]
  block : s.block = p.block
  heap : s.heap = p.heap
  blocks : s.blocks = p.blocks
  heaps : s.heaps = p.heaps
  bs : s.bs = s.bsl
  bl : s.bsl.length = p.blocks.length
  hs : s.hs = s.hsl
  hl : s.hsl.length = p.heaps.length
def StdW (s : Sg) (wt : Int → Bool) : Prop := ∀ h, i64in h → s.fW h = if wt h = true then some (.int .i64 1) else none
def Same0 (s s' : Sg) : Prop := s'.vI = s.vI ∧ s'.is = s.is ∧ s'.ins = s.ins ∧ s'.mC = s.mC ∧ s'.fC = s.fC ∧ s'.cC = s.cC ∧ s'.cm = s.cm ∧ s'.fc = s.fc ∧ s'.cc = s.cc ∧ s'.mW = s.mW
theorem Same0.refl (s : Sg) : Same0 s s := ⟨rfl, rfl, rfl, rfl, rfl, rfl, rfl, rfl, rfl, rfl⟩
theorem Same0.trans {s s' s'' : Sg} (h : Same0 s s') (g : Same0 s' s'') : Same0 s s'' := by
 obtain ⟨a1, a2, a3, a4, a5, a6, a7, a8, a9, a10⟩ := h
 obtain ⟨b1, b2, b3, b4, b5, b6, b7, b8, b9, b10⟩ := g
 exact ⟨b1.trans a1, b2.trans a2, b3.trans a3, b4.trans a4, b5.trans a5, b6.trans a6, b7.trans a7, b8.trans a8, b9.trans a9, b10.trans a10⟩
structure Fr (w w' : World) (cls cls' : Nat → Cl) (D : Nat → Prop) : Prop where
  kept : Kept w w' (fun k => (cls k).own = true ∨ D k)
  cl : ∀ k, k < w.heap.size → ∀ j, cls k = .far j → ¬ D k → cls' k = .far j
section
variable {base T n : Nat} {w w1 w2 : World} {cls cls1 cls2 : Nat → Cl} {s s' : Sg} {p : PSt} {v1 v2 : Value} {D : Nat → Prop}
theorem Fr.refl (w : World) (cls : Nat → Cl) (D : Nat → Prop) : Fr w w cls cls D := ⟨Kept.refl _ _, fun _ _ _ h _ => h⟩
theorem Cl.isFar {c : Cl} (h : ¬ c.own = true) : ∃ j, c = .far j := by cases c <;> simp [Cl.own] at h ⊢
theorem Fr.trans {D' : Nat → Prop} (h : Fr w w1 cls cls1 D) (g : Fr w1 w2 cls1 cls2 D') (hD' : ∀ k, D' k → D k ∨ w.heap.size ≤ k) : Fr w w2 cls cls2 D := by
 have hn : ∀ k, k < w.heap.size → ¬ D k → ¬ D' k := fun k hk hd e => (hD' k e).elim hd (by omega)
 refine ⟨⟨Nat.le_trans h.kept.1 g.kept.1, fun i hi hni => ?_⟩, fun k hk j e hD => g.cl k (Nat.lt_of_lt_of_le hk h.kept.1) j (h.cl k hk j e hD) (hn k hk hD)⟩
 obtain ⟨j, hj⟩ := Cl.isFar fun e => hni (.inl e)
 have hD : ¬ D i := fun hd => hni (.inr hd)
 have h1 := h.cl i hi j hj hD
 rw [g.kept.2 i (Nat.lt_of_lt_of_le hi h.kept.1) (by
  rintro (e | e)
  ·rw [h1] at e; cases e
  ·exact hn i hi hD e)]
 exact h.kept.2 i hi hni
theorem Fr.of (hk : Kept w w1 (fun k => (cls k).own = true)) (he : ∀ k, k < w.heap.size → ∀ j, cls k = .far j → ¬ D k → cls1 k = .far j) : Fr w w1 cls cls1 D := ⟨hk.mono fun _ h => .inl h, he⟩
theorem Fr.same (hk : Kept w w1 (fun k => (cls k).own = true)) (he : ∀ k, k < w.heap.size → cls1 k = cls k) : Fr w w1 cls cls1 D := Fr.of hk fun k h j e _ => by rw [he k h]; exact e
theorem Fr.mono {D' : Nat → Prop} (h : Fr w w1 cls cls1 D) (hD : ∀ j, D j → D' j) : Fr w w1 cls cls1 D' := ⟨h.kept.mono fun k hk => hk.imp id (hD k), fun k hk j e hn => h.cl k hk j e fun hd => hn (hD k hd)⟩
theorem Fr.step (h : Fr w w1 cls cls1 D) (hk : Kept w1 w2 (fun k => (cls1 k).own = true ∨ w.heap.size ≤ k)) (he : ∀ k, k < w.heap.size → ∀ j, cls1 k = .far j → ¬ D k → cls2 k = .far j) : Fr w w2 cls cls2 D := by
 refine ⟨⟨Nat.le_trans h.kept.1 hk.1, fun i hi hn => ?_⟩, fun k hk2 j e hD => he k hk2 j (h.cl k hk2 j e hD) hD⟩
 obtain ⟨j, hj⟩ := Cl.isFar fun e => hn (.inl e)
 have hD : ¬ D i := fun hd => hn (.inr hd)
 have h1 := h.cl i hi j hj hD
 rw [hk.2 i (Nat.lt_of_lt_of_le hi h.kept.1) (by
  rintro (e | e)
  ·rw [h1] at e; cases e
  ·omega)]
 exact h.kept.2 i hi hn
theorem blk_frozen {g i : Nat} {cs : Array Value} {t : TypeId} (hb : w.heap[g]? = some (.cells cs t (0, 0))) : w.frozen? ⟨g, i, none⟩ = false := by
 unfold World.frozen?
 simp only [hb]
 simp
theorem IR.fr {j : Nat} {v : Value} {xs : List Int} (h : IR w base cls (.far j) v xs) (f : Fr w w1 cls cls1 D) (hD : ∀ k, v.ownBlock = some k → ¬ D k) : IR w1 base cls1 (.far j) v xs := by
 have h2 := Kd.R_bound (Kd.R_tight2 (e := 3) (d := Kd.int .i64) rfl h)
 refine Kd.R_mono (Kd.R_move h2 fun k hk2 => f.kept.2 k hk2.2.2.1 ?_) fun k hk2 => f.cl k hk2.2.2.1 j hk2.1.2 (hD k hk2.1.1.symm)
 rintro (e | e)
 ·rw [hk2.1.2] at e; cases e
 ·exact hD k hk2.1.1.symm e
theorem Fr.blk {j k : Nat} (f : Fr w w1 cls cls1 D) (hk : k < w.heap.size) (e : cls k = .far j) (hD : ¬ D k) : w1.heap[k]? = w.heap[k]? ∧ cls1 k = .far j :=
  ⟨f.kept.2 k hk (by rintro (h | h); · rw [e] at h; cases h
                     · exact hD h), f.cl k hk j e hD⟩
theorem SP.rowBs (h : SP base T w cls s) (v : Value) (e : s.vBs = v) : ∀ k, v.ownBlock = some k → cls k = .bs := e ▸ (h .bs).1
theorem SP.rowHs (h : SP base T w cls s) (v : Value) (e : s.vHs = v) : ∀ k, v.ownBlock = some k → cls k = .hs := e ▸ (h .hs).1
theorem SP.rowHp (h : SP base T w cls s) (v : Value) (e : s.vH = v) : ∀ k, v.ownBlock = some k → cls k = .hp := e ▸ (h .hp).1
theorem SP.slice (h : SP base T w cls s) {v : Value} {xs : List Sl} {c : Cl} (hR : SR w base cls c v xs) (h0 : 0 < xs.length) : ∃ g c0, v = .slice (some ⟨g, 0, none⟩) xs.length c0 ∧ ∀ i, i < xs.length → w.cell? ⟨g, i, none⟩ = some (slV (xs.getD i nilL)) ∧ w.frozen? ⟨g, i, none⟩ = false := by
 obtain ⟨g, c0, e, _⟩ := Kd.R_form hR h0
 refine ⟨g, c0, e, fun i hi => ?_⟩
 subst e
 have := Kd.R_cell nilL hR (i : Int) (by omega) (by omega)
 simpa [rdOf] using this
theorem IR.slice {v : Value} {xs : List Int} {c : Cl} (hR : IR w base cls c v xs) (h0 : 0 < xs.length) : ∃ g c0, v = .slice (some ⟨g, 0, none⟩) xs.length c0 ∧ ∀ i, i < xs.length → w.cell? ⟨g, i, none⟩ = some (.int .i64 (xs.getD i 0)) ∧ w.frozen? ⟨g, i, none⟩ = false := by
 obtain ⟨g, c0, e, _⟩ := Kd.R_form hR h0
 refine ⟨g, c0, e, fun i hi => ?_⟩
 subst e
 have := Kd.R_cell (0 : Int) hR (i : Int) (by omega) (by omega)
 simpa [rdOf] using this
end
set_option maxHeartbeats 16000000 in
set_option maxRecDepth 100000 in
theorem cut_any {T n : Nat} {v1 v2 : Value} {s : Sg} {p : PSt} {wt : Int → Bool} {b : Nat} {ins : List Int} {A : Option Addr} {c0 : Nat} {j : Nat} {cls : Nat → Cl} (w0 w : World) (hS : SP w0.heap.size T w cls s) (hD : Std n v1 v2 s p) (hP : PW n p) (hW : StdW s wt) (hWt : Wt p wt)
    (hr : IR w w0.heap.size cls (.far j) (.slice A ins.length c0) ins) (hb : b < p.blocks.length) (hnd : ins.Nodup) (hs : ∀ x ∈ ins, x ∈ gl p.blocks (b : Int)) (h0 : ins ≠ []) (hlt : ins.length < (gl p.blocks (b : Int)).length) (hn : n ≤ 2048) (hB : Below w0.heap.size w0 w) :
    Calls Try.prog 166 #[.pointer (some ⟨T, 0, none⟩), .int .i64 (b : Int), .slice A ins.length c0] w fun e w' => e = .returned (.tuple #[]) ∧ ∃ s' cls', SP w0.heap.size T w' cls' s' ∧ Std n v1 v2 s' (cutP p b ins) ∧ StdW s' (fun x => decide (x = gi p.heap b) || wt x) ∧ Same0 s s' ∧ Fr w w' cls cls' (fun k => (Value.slice A ins.length c0).ownBlock = some k) ∧ Below w0.heap.size w0 w' := by
  have hnb := hP.nb_le;have hbN : Nd p.blocks.length (b : Int) := nd_iff.2 hb;have i5 : 0 < n := by omega
  obtain ⟨gB, cB, hvB, hcB⟩ := IR.slice (hS .blk) (by rw [hD.block, hP.bl]; exact i5);obtain ⟨gQ, cQ, hvQ, hcQ⟩ := hS.slice (hS .bs) (by rw [hD.bs, hD.bl]; omega);obtain ⟨nb, hnbe⟩ : ∃ nb, nb = p.blocks.length := ⟨_, rfl⟩
  obtain ⟨hh, hhe, hhn⟩ := (hP.hr _ hbN).nat;have HHh := Aside0.mk hhe;clear hhe;have hrc := (Kd.R_reads' hr).2.2;have t5 := hS.cell 5 _ (by rw [hD.tc]; rfl);rw [hvQ, hD.bs, hD.bl, ← hnbe] at t5;have HS := Aside0.mk hS;have HD := Aside0.mk hD;have HR := Aside0.mk hr;have HB := Aside0.mk hB;have HP := Aside0.mk hP;have hins : ∀ x ∈ ins, Nd n x := fun x hx => ((hP.bm _ hbN x).1 (hs x hx)).1
  have hil : ins.length ≤ n := nodup_le hnd hins;have HI := Aside0.mk hins;have HLt := Aside0.mk hlt;have HSub := Aside0.mk hs;have HNb := Aside0.mk hnbe;have HW := Aside0.mk hW;have HWt := Aside0.mk hWt;clear hS hD hr hB hP hins hlt hs hcQ hnbe hW hWt hrc;have hnb' : nb ≤ n := by rw [HNb.out]; exact hnb
  have hbb : b < nb := by rw [HNb.out]; exact hb
  clear hnb hb;go_enter Try.func166, Try.ntmps166
  go_wp2
  clear t5;go_loopw [20] (fun i wr => ∃ k : Nat, k ≤ ins.length ∧ i = .int .i64 k ∧ Aside0 (SP w0.heap.size T wr cls { s with block := setAll p.block (ins.take k) nb }) ∧ Aside0 (Fr w wr cls cls fun _ => False) ∧ Aside0 (Below w0.heap.size w0 wr)) (fun i _ => ins.length - (intOf i).toNat)
  case atStart => exact ⟨0, Nat.zero_le _, rfl, ⟨by have := HS.out; rw [← HD.out.block]; exact this⟩, ⟨Fr.refl _ _ _⟩, HB⟩
  case round =>
    clear HS HB;obtain ⟨k, hk, rfl, HS, HK, HB⟩ := hrel;have g7 := Aside0.mk (IR.fr HR.out HK.out fun _ _ h => h);by_cases hlt : k < ins.length
    · obtain ⟨ad, hA, hc⟩ := atI (Kd.R_reads' g7.out).2.2 k hlt
      subst hA;obtain ⟨x, hx, hxn⟩ := (HI.out (ins.getD k 0) (by simp [List.getD_eq_getElem?_getD, List.getElem?_eq_getElem hlt])).nat;rw [hx] at hc;have HX := Aside0.mk hx;clear hx
      have hbl : ({ s with block := setAll p.block (ins.take k) nb } : Sg).block.length = n := by
        show (setAll p.block (ins.take k) nb).length = n;rw [setAll_len, HP.out.bl]
      obtain ⟨g, c, hv, hcB⟩ := IR.slice (HS.out .blk) (by rw [hbl]; exact i5);rw [hbl] at hv hcB;have t4 := HS.out.cell 4 _ (by rw [HD.out.tc]; rfl);change s.vB = _ at hv;rw [hv] at t4;obtain ⟨h6, m5⟩ := hcB x hxn;have HV := Aside0.mk hv;have HBl := Aside0.mk hbl;clear hv hcB hbl;go_wp2
      go_roundw
      case rel =>
        refine ⟨k + 1, by omega, by go_num, ⟨?_⟩, ⟨HK.out.trans (D' := fun _ => False) (Fr.same ((Kept.refl _ _).setCell (.inl (by have := (HS.out .blk).1 g (by show Value.ownBlock s.vB = _; rw [HV.out]; rfl); show (cls g).own = true; rw [this]; rfl)) _) fun _ _ => rfl) fun _ h => h.elim⟩, ⟨below_set HB.out (Kd.R_base (HS.out .blk) g (by show Value.ownBlock s.vB = _; rw [HV.out]; rfl))⟩⟩;have h9 := HS.out.setBlk (by rw [HBl.out]; exact HV.out) x (nb : Int)
        have e9 : setAll p.block (ins.take (k + 1)) nb = (setAll p.block (ins.take k) nb).set x (nb : Int) := by
          rw [take_snoc (0 : Int) hlt, setAll_snoc, HX.out, Int.toNat_natCast]
        rw [e9];exact h9
      case measure => simp [intOf]; omega
    · have ek : k = ins.length := by omega
      subst ek;rw [List.take_length] at HS;clear hlt hk;obtain ⟨gQ, cQ, hvQ, hcQ⟩ := HS.out.slice (HS.out .bs) (by show 0 < s.bs.length; rw [HD.out.bs, HD.out.bl, ← HNb.out]; omega);have t5 := HS.out.cell 5 _ (by rw [HD.out.tc]; rfl);change s.vBs = _ at hvQ;rw [hvQ] at t5;have hbs : b < s.bs.length := by rw [HD.out.bs, HD.out.bl, ← HNb.out]; exact hbb
      have k6 := (hcQ b hbs).1;have b3 := HS.out (.bro b) (by show b < s.bsl.length; rw [HD.out.bl, ← HNb.out]; exact hbb)
      have b3 : IR wr w0.heap.size cls (.bro b) (slV (s.bsl.getD b nilL)) (gl p.blocks (b : Int)) := by
        have := b3;rwa [show ({ s with block := setAll p.block ins nb } : Sg).blocks.getD b [] = gl p.blocks (b : Int) by show s.blocks.getD b [] = _; rw [HD.out.blocks]; rfl] at this
      obtain ⟨L, hL⟩ : ∃ L, L = gl p.blocks (b : Int) := ⟨_, rfl⟩
      rw [← hL] at b3;obtain ⟨A1, c1, k7, _, k5⟩ := Kd.R_reads b3
      have m3 : wr.cell? ⟨gQ, b, none⟩ = some (.slice A1 L.length c1) := by
        rw [← k7];have := k6;rwa [show ({ s with block := setAll p.block ins nb } : Sg).bs = s.bsl from HD.out.bs] at this
      have l9 := Aside0.mk b3;have HL := Aside0.mk hL;have j5 := Aside0.mk k5;have hLn : L.length ≤ n := by rw [hL]; exact HP.out.len_b hbN
      clear hcQ k6 b3 hL k7 k5;obtain ⟨bk, hbk⟩ : ∃ bk, bk = setAll p.block ins (nb : Int) := ⟨_, rfl⟩
      have hbkl : bk.length = n := by rw [hbk, setAll_len, HP.out.bl]
      rw [← hbk] at HS;have HBk := Aside0.mk hbk;clear hbk;have hLm : ∀ y ∈ L, Nd n y := fun y hy => ((HP.out.bm _ hbN y).1 (by rw [← HL.out]; exact hy)).1
      have HLm := Aside0.mk hLm;clear hLm;go_wp2
      clear t5 m3;obtain ⟨W1, m2⟩ : ∃ W1, W1 = wr := ⟨_, rfl⟩
      subst m2;go_loopw [9, 40] (fun v i wr => ∃ k : Nat, k ≤ L.length ∧ i = .int .i64 k ∧ Aside0 (Kd.R (Kd.int .i64) 3 wr W1.heap.size (fun _ => True) v ((L.take k).filter fun x => decide (gi bk x = (b : Int)))) ∧ Aside0 (Below W1.heap.size W1 wr)) (fun _ i _ => L.length - (intOf i).toNat)
      case atStart => exact ⟨0, Nat.zero_le _, rfl, ⟨Kd.R_nil _ _ _ _ _⟩, ⟨Below.refl _ _⟩⟩
      case round =>
        obtain ⟨k, hk, rfl, HRr, HBr⟩ := hrel;by_cases hlt : k < L.length
        · obtain ⟨ad, hA, hc⟩ := atI j5.out k hlt
          subst hA;replace hc := later HBr.out hc;obtain ⟨x, hx, hxn⟩ := (HLm.out (L.getD k 0) (by simp [List.getD_eq_getElem?_getD, List.getElem?_eq_getElem hlt])).nat;rw [hx] at hc;have HX := Aside0.mk hx;clear hx;have HS1 := Aside0.mk (HS.out.below HBr.out);obtain ⟨g, c, hv, hcB⟩ := IR.slice (HS1.out .blk) (by show 0 < bk.length; rw [hbkl]; exact i5);change s.vB = Value.slice (some ⟨g, 0, none⟩) bk.length c at hv;rw [hbkl] at hv;have t4 := HS1.out.cell 4 _ (by rw [HD.out.tc]; rfl);rw [hv] at t4;have h6 : wr.cell? ⟨g, x, none⟩ = some (.int .i64 (gi bk (x : Int))) := (hcB x (by show x < bk.length; omega)).1;have hfl : ((L.take k).filter fun x => decide (gi bk x = (b : Int))).length ≤ n := Nat.le_trans (List.length_filter_le _ _) (by rw [List.length_take]; omega);have HT : Aside0 (L.take (k + 1) = L.take k ++ [(x : Int)]) := ⟨by rw [take_snoc (0 : Int) hlt, HX.out]⟩
          obtain ⟨F, hF⟩ : ∃ F, F = (L.take k).filter fun x => decide (gi bk x = (b : Int)) := ⟨_, rfl⟩
          rw [← hF] at HRr hfl;have HF := Aside0.mk hF;clear hF hv hcB;by_cases hq : gi bk (x : Int) = (b : Int)
          · rw [hq] at h6
            have hqq : ((b : Int) == (b : Int)) = true := by simp
            have HQ := Aside0.mk hq;clear hq;go_wp2_with (at_builtin; refine Kd.R_append (Kd.int .i64) (w0 := W1) W1.heap.size rfl (.tmp 53) (.tmp 55) 28 3 (.int .i64 0) 8 rfl Try.underlying28 infoI rfl (by decide) (by omega) _ F (x : Int) [.int .i64 (x : Int)] (fun _ => True) (fun _ => False) rfl rfl rfl (fun _ hk => hk.elim) (fun _ _ => trivial) HRr.out HBr.out HBr.out.size (by omega) ?_; intro v9 w9 ho hb hg hat; have l8 := Aside0.mk ho; have d5 := Aside0.mk hb; clear ho hb hg hat)
            go_roundw
            case rel => exact ⟨k + 1, by omega, by go_num, ⟨by rw [HT.out, List.filter_append, ← HF.out, show [(x : Int)].filter (fun x => decide (gi bk x = (b : Int))) = [(x : Int)] from by simp [HQ.out]]; exact l8.out⟩, d5⟩
            case measure => simp [intOf]; omega
          · obtain ⟨y, hy⟩ : ∃ y, y = gi bk (x : Int) := ⟨_, rfl⟩
            rw [← hy] at h6 hq;have hqq : (y == (b : Int)) = false := by simpa using hq
            have m6 : decide (y = (b : Int)) = false := by simpa using hq
            have HQ := Aside0.mk hq;have HY := Aside0.mk hy;clear hq hy;go_wp2
            go_roundw
            case rel => exact ⟨k + 1, by omega, by go_num, ⟨by rw [HT.out, List.filter_append, ← HF.out, show [(x : Int)].filter (fun x => decide (gi bk x = (b : Int))) = [] from by simp [← HY.out, HQ.out], List.append_nil]; exact HRr.out⟩, HBr⟩
            case measure => simp [intOf]; omega
        · have ek : k = L.length := by omega
          subst ek;rw [List.take_length] at HRr;clear hlt hk;obtain ⟨F, hF⟩ : ∃ F, F = L.filter fun x => decide (gi bk x = (b : Int)) := ⟨_, rfl⟩
          rw [← hF] at HRr;have HF := Aside0.mk hF;clear hF;obtain ⟨A2, c2, f0⟩ := Kd.R_slice HRr.out;subst f0;have l6 : w0.heap.size ≤ W1.heap.size := HB.out.size;have b2 : ∀ k, (slV (A2, F.length, c2)).ownBlock = some k → W1.heap.size ≤ k := Kd.R_base HRr.out;obtain ⟨r2, e8⟩ : ∃ r2 : Sl, r2 = (A2, F.length, c2) := ⟨_, rfl⟩
          rw [← e8] at b2;have HRr' : Aside0 (Kd.R (Kd.int .i64) 3 wr W1.heap.size (fun _ => True) (slV r2) F) := ⟨by rw [e8]; exact HRr.out⟩
          have e0 : Aside0 (IR wr w0.heap.size (up cls (slV r2) (.far (j + 1))) (.far (j + 1)) (slV r2) F) := ⟨R_up rfl (Kd.R_lower HRr'.out l6)⟩
          have d3 : ∀ k, k < W1.heap.size → up cls (slV r2) (.far (j + 1)) k = cls k := fun k hk => up_ne fun e => by have := b2 k e; omega
          obtain ⟨s2, i8⟩ : ∃ s2 : Sg, s2 = { s with block := bk } := ⟨_, rfl⟩
          rw [← i8] at HS;have HS2 : Aside0 (SP w0.heap.size T wr (up cls (slV r2) (.far (j + 1))) s2) := ⟨HS.out.stay (Kept.of_below HBr.out _) fun k hk _ => d3 k hk⟩
          have g1 : Aside0 (Fr W1 wr cls (up cls (slV r2) (.far (j + 1))) fun _ => False) := ⟨Fr.same (Kept.of_below HBr.out _) d3⟩
          have g5 := Aside0.mk ((HK.out.trans g1.out fun _ h => .inl h).mono (D' := fun k => (Value.slice A ins.length c0).ownBlock = some k) fun _ h => h.elim);have g3 := Aside0.mk (IR.fr g7.out g1.out fun _ _ h => h);have l7 := Aside0.mk (show ∀ k, (slV r2).ownBlock = some k → w.heap.size ≤ k from fun k hk => Nat.le_trans HK.out.kept.1 (b2 k hk));have a1 := Aside0.mk i8;obtain ⟨b0, h7⟩ : ∃ b0, b0 = up cls (slV r2) (.far (j + 1)) := ⟨_, rfl⟩
          rw [← h7] at e0 HS2 g5 g3;have j2 := Aside0.mk (below_then HB.out HB.out.size HBr.out);clear b2 h7 HRr HRr' g1 d3 i8 HS b3 l9 j5 g7 HK HB HBr;have b4 : s2.bs.length = nb := by rw [a1.out]; show s.bs.length = nb; rw [HD.out.bs, HD.out.bl, HNb.out]
          have h5 : s2.bsl.length = nb := by rw [a1.out]; show s.bsl.length = nb; rw [HD.out.bl, HNb.out]
          have h4 : s2.blocks.length = nb := by rw [a1.out]; show s.blocks.length = nb; rw [HD.out.blocks, HNb.out]
          obtain ⟨gQ, cQ, hvQ, hcQ⟩ := HS2.out.slice (HS2.out .bs) (by rw [b4]; omega);have t5 := HS2.out.cell 5 s2.vBs (by rw [a1.out]; show s.tc[5]? = _; rw [HD.out.tc]; rfl);rw [hvQ, b4] at t5;obtain ⟨q1, q2⟩ := hcQ b (by rw [b4]; exact hbb);have HV := Aside0.mk hvQ;have f0 : slV r2 = .slice A2 F.length c2 := by rw [e8]; rfl
          have m0 := Aside0.mk f0;have a8 := Aside0.mk (And.intro b4 (And.intro h5 h4));clear hcQ hvQ f0 b4 h5 h4 e8
          go_wp2_with (first
            | (refine wpList_st1 rfl _ _ _ rfl gQ b (.slice A2 F.length c2) rfl rfl rfl ⟨_, q1⟩ q2 sizeSI ?_
               intro w3 d2;rw [← m0.out] at d2;have HS3 := Aside0.mk (HS2.out.setBs (by rw [HV.out]) b r2 F e0.out (by rw [a8.out.2.1]; exact hbb) (by rw [a8.out.2.1, a8.out.2.2]));rw [← d2] at HS3;obtain ⟨s3, b6⟩ : ∃ s3 : Sg, s3 = { s2 with bs := s2.bs.set b r2, bsl := s2.bsl.set b r2, blocks := s2.blocks.set b F } := ⟨_, rfl⟩
               rw [← b6] at HS3;have hgo : b0 gQ = .bs := (HS2.out .bs).1 gQ (by rw [HV.out]; rfl);have hKs : Kept wr w3 (fun k => (b0 k).own = true) := by rw [d2]; exact (Kept.refl _ _).setCell (.inl (by show (b0 gQ).own = true; rw [hgo]; rfl)) _
               have d6 := Aside0.mk (g5.out.step (cls2 := up b0 (slV r2) (.bro b)) (hKs.mono fun _ h => .inl h) (fun k hk i e _ => by rw [up_ne fun e2 => by have := l7.out k e2; omega]; exact e));have g4 := Aside0.mk (IR.far (cls' := up b0 (slV r2) (.bro b)) g3.out hKs (fun k _ e => by rw [up_ne fun e2 => by rw [e0.out.1 k e2] at e; simp at e]; exact e));have f7 := Aside0.mk (show Below w0.heap.size w0 w3 by rw [d2]; exact below_set j2.out (Kd.R_base (HS2.out .bs) gQ (by rw [HV.out]; rfl)));obtain ⟨a3, h8⟩ : ∃ a3, a3 = up b0 (slV r2) (.bro b) := ⟨_, rfl⟩
               rw [← h8] at HS3 d6 g4;have t5 : w3.cell? ⟨T, 5, none⟩ = some (.slice (some ⟨gQ, 0, none⟩) nb cQ) := by rw [HS3.out.cell 5 s2.vBs (by rw [b6]; show s2.tc[5]? = _; rw [a1.out]; show s.tc[5]? = _; rw [HD.out.tc]; rfl), HV.out, a8.out.1]
               have k3 : Aside0 (Kd.R kSl 28 w3 w0.heap.size (fun k => a3 k = .bs ∨ w3.heap.size ≤ k) (.slice (some ⟨gQ, 0, none⟩) nb cQ) s3.bs) := ⟨by
                 have : SR w3 w0.heap.size a3 .bs s3.vBs s3.bs := HS3.out .bs;rw [show s3.vBs = .slice (some ⟨gQ, 0, none⟩) nb cQ by rw [b6]; show s2.vBs = _; rw [HV.out, a8.out.1]] at this;exact Kd.R_mono this fun k hk => .inl hk⟩
               have a2 := Aside0.mk b6;have a9 := Aside0.mk (show s3.bs.length = nb ∧ s3.bsl.length = nb ∧ s3.blocks.length = nb by rw [b6]; simpa using a8.out);clear h8 hKs hgo b6 d2 HS2 e0 g5 g3 j2 q1 q2)
            | (at_builtin
               refine Kd.R_append kSl (w0 := w0) w0.heap.size rfl (.tmp 69) (.tmp 71) 40 28 (.slice none 0 0) 24 rfl Try.underlying40 infoSI rfl (by decide) (by omega) _ s3.bs (A, ins.length, c0) [.slice A ins.length c0] (fun k => a3 k = .bs ∨ w3.heap.size ≤ k) (fun _ => False) rfl rfl rfl (fun _ hk => hk.elim) (fun _ hk => .inr hk) k3.out f7.out f7.out.size (by rw [a9.out.1]; omega) ?_;intro v9 w4 ho hb hg hat;obtain ⟨A9, c9, d1⟩ := Kd.R_slice ho;rw [show (s3.bs ++ [(A, ins.length, c0)]).length = nb + 1 by rw [List.length_append, a9.out.1]; rfl] at d1;subst d1;have hgk : Kept w3 w4 (fun k => a3 k = .bs) := kept_grown hg fun k hk => HS3.out.rowBs (.slice (some ⟨gQ, 0, none⟩) nb cQ) (by rw [a2.out]; show s2.vBs = _; rw [HV.out, a8.out.1]) k hk
               have h2 : w4.heap[T]? = some (.cells s3.tc.toArray 90 (0, 0)) := blk_kept (HS3.out .tt).1 hgk (by show ¬ a3 T = _; rw [(HS3.out .tt).2.1]; simp);have t5 : w4.cell? ⟨T, 5, none⟩ = some s2.vBs := by rw [blk_cell h2 5]; show s3.tc.toArray[5]? = _; rw [a2.out]; show s2.tc.toArray[5]? = _; rw [a1.out]; show s.tc.toArray[5]? = _; rw [HD.out.tc]; rfl
               have f5 : w4.frozen? ⟨T, 5, none⟩ = false := blk_frozen h2;have j9 := Aside0.mk ho;have j6 := Aside0.mk hg;have f3 := Aside0.mk hat;have j3 := Aside0.mk hb;have HGK := Aside0.mk hgk;clear ho hb hg hat hgk h2)
            | (refine wpList_st1 rfl _ _ _ rfl T 5 (.slice A9 (nb + 1) c9) rfl rfl rfl ⟨_, t5⟩ f5 sizeSSI ?_
               intro w5 f1;have hvr : s3.vBs.ownBlock = (Value.slice (some ⟨gQ, 0, none⟩) nb cQ).ownBlock := by rw [a2.out]; show s2.vBs.ownBlock = _; rw [HV.out, a8.out.1]
               have HS5 := Aside0.mk (HS3.out.pushBs (A, ins.length, c0) ins g4.out (by rw [a9.out.2.1, a9.out.2.2]) (by rw [a9.out.1, a9.out.2.1]) j9.out (by rw [hvr]; exact j6.out) (by rw [hvr]; exact f3.out));rw [← f1, a9.out.2.1] at HS5;obtain ⟨s5, d0⟩ : ∃ s5 : Sg, s5 = { s3 with vBs := .slice A9 (nb + 1) c9, bs := s3.bs ++ [(A, ins.length, c0)], bsl := s3.bsl ++ [(A, ins.length, c0)], blocks := s3.blocks ++ [ins], tc := s3.tc.set 5 (.slice A9 (nb + 1) c9) } := ⟨_, rfl⟩
               rw [← d0] at HS5;have b9 : a3 T = .tt := (HS3.out .tt).2.1;have g8 : Kept w3 w5 (fun k => (a3 k).own = true) := by rw [f1]; exact (HGK.out.mono fun k hk => by show (a3 k).own = true; rw [show a3 k = .bs from hk]; rfl).setCell (.inl (by show (a3 T).own = true; rw [b9]; rfl)) _
               have b1 := up_keep (cls := a3) (c := .bs) f3.out (HS3.out.rowBs (.slice (some ⟨gQ, 0, none⟩) nb cQ) (by rw [a2.out]; show s2.vBs = _; rw [HV.out, a8.out.1]))
               have d7 := Aside0.mk (d6.out.step (cls2 := up (up a3 (.slice A9 (nb + 1) c9) .bs) (slV (A, ins.length, c0)) (.bro nb)) (g8.mono fun _ h => .inl h) (fun k hk i e hi => by
                 rw [up_ne (v := slV (A, ins.length, c0)) fun e2 => hi e2, b1 k (Nat.lt_of_lt_of_le hk d6.out.kept.1)];exact e))
               have f9 := Aside0.mk (show Below w0.heap.size w0 w5 by rw [f1]; exact below_set j3.out (HS3.out .tt).2.2);obtain ⟨a4, i0⟩ : ∃ a4, a4 = up (up a3 (.slice A9 (nb + 1) c9) .bs) (slV (A, ins.length, c0)) (.bro nb) := ⟨_, rfl⟩
               rw [← i0] at HS5 d7;have a5 := Aside0.mk d0;have e7 : s5.heap = p.heap := by rw [d0]; show s3.heap = _; rw [a2.out]; show s2.heap = _; rw [a1.out]; exact HD.out.heap
               obtain ⟨gH, cH, hvH, hcH⟩ := IR.slice (HS5.out .hp) (by rw [e7, HP.out.hl, ← HNb.out]; omega);rw [e7, HP.out.hl, ← HNb.out] at hvH hcH;have t6 : w5.cell? ⟨T, 6, none⟩ = some (.slice (some ⟨gH, 0, none⟩) nb cH) := by rw [HS5.out.cell 6 s5.vH (by rw [d0]; show (s3.tc.set 5 _)[6]? = some s3.vH; rw [a2.out]; show (s2.tc.set 5 _)[6]? = some s2.vH; rw [a1.out]; show (s.tc.set 5 _)[6]? = some s.vH; rw [HD.out.tc]; rfl), hvH]
               have q6 : w5.cell? ⟨gH, b, none⟩ = some (.int .i64 (hh : Int)) := by rw [(hcH b hbb).1]; show some (Value.int .i64 (gi p.heap (b : Int))) = _; rw [HHh.out]
               have k4 : Aside0 (Kd.R (Kd.int .i64) 3 w5 w0.heap.size (fun k => a4 k = .hp ∨ w5.heap.size ≤ k) (.slice (some ⟨gH, 0, none⟩) nb cH) p.heap) := ⟨by
                 have : IR w5 w0.heap.size a4 .hp s5.vH s5.heap := HS5.out .hp;rw [hvH, e7] at this;exact Kd.R_mono this fun k hk => .inl hk⟩
               have HVH := Aside0.mk hvH;clear hvH hcH d0 i0 b1 g8 b9 hvr f1 HS3 g4 d6 f7 k3 j9 j6 f3 j3 HGK t5 f5 e7)
            | (at_builtin
               refine Kd.R_append (Kd.int .i64) (w0 := w0) w0.heap.size rfl (.tmp 86) (.tmp 88) 28 3 (.int .i64 0) 8 rfl Try.underlying28 infoI rfl (by decide) (by omega) _ p.heap (hh : Int) [.int .i64 (hh : Int)] (fun k => a4 k = .hp ∨ w5.heap.size ≤ k) (fun _ => False) rfl rfl rfl (fun _ hk => hk.elim) (fun _ hk => .inr hk) k4.out f9.out f9.out.size (by rw [HP.out.hl, ← HNb.out]; omega) ?_;intro v9 w6 ho hb hg hat;obtain ⟨A8, c8, d1⟩ := Kd.R_slice ho;rw [show (p.heap ++ [(hh : Int)]).length = nb + 1 by rw [List.length_append, HP.out.hl, ← HNb.out]; rfl] at d1;subst d1;have hgk : Kept w5 w6 (fun k => a4 k = .hp) := kept_grown hg fun k hk => HS5.out.rowHp _ HVH.out k hk
               have h3 : w6.heap[T]? = some (.cells s5.tc.toArray 90 (0, 0)) := blk_kept (HS5.out .tt).1 hgk (by show ¬ a4 T = _; rw [(HS5.out .tt).2.1]; simp);have t6 : w6.cell? ⟨T, 6, none⟩ = some s.vH := by rw [blk_cell h3 6, a5.out]; show (s3.tc.set 5 _).toArray[6]? = _; rw [a2.out]; show (s2.tc.set 5 _).toArray[6]? = _; rw [a1.out]; show (s.tc.set 5 _).toArray[6]? = _; rw [HD.out.tc]; rfl
               have f6 : w6.frozen? ⟨T, 6, none⟩ = false := blk_frozen h3;have k2 := Aside0.mk ho;have j7 := Aside0.mk hg;have f4 := Aside0.mk hat;have j4 := Aside0.mk hb;have HGK := Aside0.mk hgk;clear ho hb hg hat hgk h3 q6)
            | (refine wpList_st1 rfl _ _ _ rfl T 6 (.slice A8 (nb + 1) c8) rfl rfl rfl ⟨_, t6⟩ f6 sizeSI ?_
               intro w7 f2;have HS7 := Aside0.mk (HS5.out.pushHp (w9 := w6) (v9 := .slice A8 (nb + 1) c8) (hh : Int) (by have := k2.out; rwa [show s5.heap = p.heap by rw [a5.out]; show s3.heap = _; rw [a2.out]; show s2.heap = _; rw [a1.out]; exact HD.out.heap]) (by rw [HVH.out]; exact j7.out) (by rw [HVH.out]; exact f4.out));rw [← f2] at HS7;obtain ⟨s7, i9⟩ : ∃ s7 : Sg, s7 = { s5 with vH := .slice A8 (nb + 1) c8, heap := s5.heap ++ [(hh : Int)], tc := s5.tc.set 6 (.slice A8 (nb + 1) c8) } := ⟨_, rfl⟩
               rw [← i9] at HS7;have b9 : a4 T = .tt := (HS5.out .tt).2.1;have g9 : Kept w5 w7 (fun k => (a4 k).own = true) := by rw [f2]; exact (HGK.out.mono fun k hk => by show (a4 k).own = true; rw [show a4 k = .hp from hk]; rfl).setCell (.inl (by show (a4 T).own = true; rw [b9]; rfl)) _
               have b1 := up_keep (cls := a4) (c := .hp) f4.out (HS5.out.rowHp _ HVH.out);have g6 := Aside0.mk (d7.out.step (cls2 := up a4 (.slice A8 (nb + 1) c8) .hp) (g9.mono fun _ h => .inl h) (fun k hk i e hi => by rw [b1 k (Nat.lt_of_lt_of_le hk d7.out.kept.1)]; exact e));have g0 := Aside0.mk (show Below w0.heap.size w0 w7 by rw [f2]; exact below_set j4.out (HS5.out .tt).2.2);obtain ⟨a0, i1⟩ : ∃ a0, a0 = up a4 (.slice A8 (nb + 1) c8) .hp := ⟨_, rfl⟩
               rw [← i1] at HS7 g6;have a7 := Aside0.mk i9;clear i9 i1 b1 g9 b9 f2 HS5 d7 f9 k4 HVH k2 j7 f4 j4 HGK t6 f6))
          have hs7h : s7.heaps = p.heaps := by rw [a7.out]; show s5.heaps = _; rw [a5.out]; show s3.heaps = _; rw [a2.out]; show s2.heaps = _; rw [a1.out]; exact HD.out.heaps
          have hs7l : s7.hsl = s.hsl ∧ s7.hs = s.hsl ∧ s7.vHs = s.vHs ∧ s7.mW = s.mW ∧ s7.fW = s.fW := by rw [a7.out, a5.out, a2.out, a1.out]; exact ⟨rfl, HD.out.hs, rfl, rfl, rfl⟩
          have hs7t : s7.tc = [.int .i64 n, v1, v2, s.vI, s.vB, .slice A9 (nb + 1) c9, .slice A8 (nb + 1) c8, s.vHs, .map (some s.mC), .map (some s.mW), .int .i64 ((nb : Int) - 1)] := by
            rw [a7.out]; show s5.tc.set 6 _ = _; rw [a5.out]; show (s3.tc.set 5 _).set 6 _ = _; rw [a2.out]; show (s2.tc.set 5 _).set 6 _ = _; rw [a1.out]; show (s.tc.set 5 _).set 6 _ = _; rw [HD.out.tc, HNb.out]; rfl
          have e5 := below_drew1 (Below.refl w7.heap.size w7);have HS8 := Aside0.mk (HS7.out.below e5);have d8 := Aside0.mk (g6.out.step (cls2 := a0) (Kept.of_below e5 _) fun _ _ _ e _ => e);have d4 := Aside0.mk (below_then g0.out g0.out.size e5);clear e5 HS7 g6 g0;obtain ⟨nh, hnh⟩ : ∃ nh, nh = p.heaps.length := ⟨_, rfl⟩
          rw [← hnh] at hhn;have m4 : nh ≤ nb := by rw [hnh, HNb.out]; exact HP.out.nh_le
          have hhl : s7.hs.length = nh := by rw [hs7l.2.1, HD.out.hl, hnh]
          obtain ⟨gS, cS, hvS, hcS⟩ := HS8.out.slice (HS8.out .hs) (by rw [hhl]; omega);rw [hhl] at hvS hcS;have hRz : IR w7.drew w0.heap.size a0 (.hro hh) (slV (s7.hsl.getD hh nilL)) (s7.heaps.getD hh []) := HS8.out (.hro hh) (by rw [hs7l.1, HD.out.hl, ← hnh]; exact hhn);obtain ⟨zs, hzs⟩ : ∃ zs, zs = s7.heaps.getD hh [] := ⟨_, rfl⟩
          rw [← hzs] at hRz
          have hzl : zs.length ≤ nb := by
            have := HP.out.len_h (b := (hh : Int)) (nd_iff.2 (by rw [← hnh]; exact hhn));rw [HNb.out, hzs, hs7h];exact this
          obtain ⟨Ar, cr, hvr, _, _⟩ := Kd.R_reads hRz;have c7 := HS8.out.cell 7 s.vHs (by rw [hs7t]; rfl);rw [← hs7l.2.2.1, hvS] at c7;obtain ⟨c8', f8⟩ := hcS hh hhn;have c8'' : w7.drew.cell? ⟨gS, hh, none⟩ = some (.slice Ar zs.length cr) := by rw [c8', ← hvr, hs7l.1, hs7l.2.1]
          have k0 : (0 : Int) ≤ (hh : Int) := by omega
          have k1 : (hh : Int) < (nh : Int) := by omega
          have k1n := hhn;have HRz := Aside0.mk hRz;have HVr := Aside0.mk hvr;have HVS := Aside0.mk hvS;have HZ := Aside0.mk hzs;have HNh := Aside0.mk hnh;have H7 := Aside0.mk (And.intro hs7h (And.intro hs7l (And.intro hs7t hhl)));clear hRz hvr hvS hzs hnh hs7h hs7l hs7t hhl hcS c8' f8;refine start_ (n := 17) (S := fun w' => w'.cell? ⟨T, 7, none⟩ = some (.slice (some ⟨gS, 0, none⟩) nh cS) ∧ w'.cell? ⟨gS, hh, none⟩ = some (.slice Ar zs.length cr)) (ds := [16]) (bqz 17 0) (by kernel_rfl) rfl rfl ⟨c7, c8''⟩ (fun hHeld => ?_);generalize w7.drew = V at HS8 d8 d4 HRz hHeld ⊢; clear c7 c8''; have g2 := Aside0.mk hHeld
          refine pqz 0 (some 92) (bqz 17 1) rfl rfl (by kernel_rfl) ?_ ?_ (fun _ _ _ h => h) (by rfl) ?_ ?_ ?_;rotate_left 2;intro w';go_simp;(with_reducible rfl);simp only [Act.put, qz1, qz2, qz3, i64_w, i32_w];rfl
          refine pqz 1 (some 93) (bqz 17 3) rfl rfl (by kernel_rfl) ?_ ?_ (fun _ _ _ h => h) (by rfl) ?_ ?_ ?_;rotate_left 2;intro w';go_simp;(with_reducible rfl);simp only [Act.put, qz1, qz2, qz3, i64_w, i32_w];rfl
          refine pqz 2 (some 94) (bqz 17 7) rfl rfl (by kernel_rfl) ?_ ?_ (fun _ _ _ h => h) (by rfl) ?_ ?_ ?_;rotate_left 2;intro w';go_simp;(with_reducible rfl);simp only [Act.put, qz1, qz2, qz3, i64_w, i32_w];rfl
          refine pqz 4 (some 96) (bqz 17 23) rfl rfl (by kernel_rfl) ?_ ?_ (fun _ _ _ h => h) (by rfl) ?_ ?_ ?_;rotate_left 2;intro w';go_simp;(with_reducible rfl);simp only [Act.put, qz1, qz2, qz3, i64_w, i32_w];rfl
          refine pqz 5 (some 97) (bqz 17 55) rfl rfl (by kernel_rfl) ?_ ?_ (fun _ _ _ h => h) (by rfl) ?_ ?_ ?_;rotate_left 2;intro w';go_simp;(with_reducible rfl);simp only [Act.put, qz1, qz2, qz3, i64_w, i32_w];rfl
          refine pqz 6 (some 98) (bqz 17 119) rfl rfl (by kernel_rfl) ?_ ?_ (fun _ _ _ h => h) (by rfl) ?_ ?_ ?_;rotate_left 2;intro w';go_simp;(with_reducible rfl);simp only [Act.put, qz1, qz2, qz3, i64_w, i32_w];rfl
          refine pqz 7 (some 99) (bqz 17 247) rfl rfl (by kernel_rfl) ?_ ?_ (fun _ _ _ h => h) (by rfl) ?_ ?_ ?_;rotate_left 2;intro w';go_simp;(with_reducible rfl);simp only [Act.put, qz1, qz2, qz3, i64_w, i32_w];rfl
          refine pqz 9 (some 101) (bqz 17 759) rfl rfl (by kernel_rfl) ?_ ?_ (fun _ _ _ h => h) (by rfl) ?_ ?_ ?_;rotate_left 2;intro w';go_simp;(with_reducible rfl);simp only [Act.put, qz1, qz2, qz3, i64_w, i32_w];rfl
          refine pqz 12 (some 104) (bqz 17 4855) rfl rfl (by kernel_rfl) ?_ ?_ (fun _ _ _ h => h) (by rfl) ?_ ?_ ?_;rotate_left 2;intro w';go_simp;(with_reducible rfl);simp only [Act.put, qz1, qz2, qz3, i64_w, i32_w];rfl
          refine tqz 3 (some 95) (bqz 17 4863) rfl rfl (by kernel_rfl) ?_ ?_ (fun _ _ _ h => h) (by rfl) ?_ hHeld ?_ ?_;rotate_left 2;rintro w' ⟨s0, s1⟩;go_simp;(with_reducible rfl);simp only [Act.put, qz1, qz2, qz3, i64_w, i32_w];rfl
          refine tqz 8 (some 100) (bqz 17 5119) rfl rfl (by kernel_rfl) ?_ ?_ (fun _ _ _ h => h) (by rfl) ?_ hHeld ?_ ?_;rotate_left 2;rintro w' ⟨s0, s1⟩;go_simp;(with_reducible rfl);simp only [Act.put, qz1, qz2, qz3, i64_w, i32_w];rfl
          refine pqz 10 (some 102) (bqz 17 6143) rfl rfl (by kernel_rfl) ?_ ?_ (fun _ _ _ h => h) (by rfl) ?_ ?_ ?_;rotate_left 2;intro w';go_simp;(with_reducible rfl);simp only [Act.put, qz1, qz2, qz3, i64_w, i32_w];rfl
          refine tqz 11 (some 103) (bqz 17 8191) rfl rfl (by kernel_rfl) ?_ ?_ (fun _ _ _ h => h) (by rfl) ?_ hHeld ?_ ?_;rotate_left 2;rintro w' ⟨s0, s1⟩;go_simp;(with_reducible rfl);simp only [Act.put, qz1, qz2, qz3, i64_w, i32_w];rfl
          refine one_ (i := 13) (N := some 105) (bqz 17 16383) rfl rfl (by kernel_rfl) (by decide) (fun K hK => ?_);refine value_ (w1 := ?_) (v := ?_) (by rfl) rfl ?_ ?_;rotate_left 2
          · go_simp
            constructor
            · rfl
            · rfl
          refine hK.out _ _ ⟨later (below_alloc (Below.refl _ _) _) hHeld.1, later (below_alloc (Below.refl _ _) _) hHeld.2⟩ (fun hHeld => ?_);clear hK K;refine norm_ (a' := ?_) ?_ ?_;rotate_left
          · show Act.put _ (some 105) _ = _
            simp only [Act.put, qz1, qz2, qz3, i64_w, i32_w];rfl
          refine one_ (i := 14) (N := some 106) (bqz 17 32767) rfl rfl (by kernel_rfl) (by decide) (fun K hK => ?_);refine Kd.R_append_step (Kd.int .i64) (w0 := w0) w0.heap.size (by rfl) (.tmp 103) (.tmp 105) 28 3 (.int .i64 0) 8 rfl Try.underlying28 infoI rfl (by decide) (by omega) (.slice Ar zs.length cr) zs (nb : Int) [.int .i64 (nb : Int)] (fun k => a0 k = .hro hh ∨ V.heap.size ≤ k) (fun _ => False) rfl rfl rfl (fun _ hk => hk.elim) (fun _ hk => .inr hk) ?aO ?aB ?aS ?aL ?_
          (case aO => rw [← HVr.out]; exact Kd.R_mono HRz.out fun k hk => .inl hk)
          (case aB => exact d4.out)
          (case aS => exact d4.out.size)
          (case aL => omega)
          intro v1 w8 ho hb hg hat;obtain ⟨A7, c7, k8⟩ := Kd.R_slice ho;rw [List.length_append, List.length_singleton] at k8;subst k8;have hgk : Kept V w8 (fun k => a0 k = .hro hh) := kept_grown hg fun k hk => HRz.out.1 k (by rw [HVr.out]; exact hk)
          have m1 : w8.heap[T]? = some (.cells s7.tc.toArray 90 (0, 0)) := blk_kept (HS8.out .tt).1 hgk (by show ¬ a0 T = _; rw [(HS8.out .tt).2.1]; simp);have hgS : a0 gS = .hs := HS8.out.rowHs _ HVS.out gS rfl;have f8 : w8.frozen? ⟨gS, hh, none⟩ = false := by obtain ⟨cs, hcs⟩ := Kd.R_typed (HS8.out .hs) gS (by rw [HVS.out]; rfl); exact blk_frozen (blk_kept hcs hgk (by show ¬ a0 gS = _; rw [hgS]; simp))
          have HO := Aside0.mk ho;have HG := Aside0.mk hg;have HAt := Aside0.mk hat;have HBw := Aside0.mk hb;have HGK := Aside0.mk hgk;clear ho hb hg hat hgk m1 hgS;refine hK.out _ _ ⟨cell_kept g2.out.1 HGK.out (by show ¬ a0 T = _; rw [(HS8.out .tt).2.1]; simp), cell_kept g2.out.2 HGK.out (by show ¬ a0 gS = _; rw [HS8.out.rowHs _ HVS.out gS rfl]; simp)⟩ (fun hHeld => ?_);clear hK K;refine norm_ (a' := ?_) ?_ ?_;rotate_left
          · show Act.put _ (some 106) _ = _
            simp only [Act.put, qz1, qz2, qz3, i64_w, i32_w];rfl
          refine pqz 15 (some 107) (bqz 17 65535) rfl rfl (by kernel_rfl) ?_ ?_ (fun _ _ _ h => h) (by rfl) ?_ ?_ ?_;rotate_left 2;intro w';go_simp;(with_reducible rfl);simp only [Act.put, qz1, qz2, qz3, i64_w, i32_w];rfl
          refine last_ (i := 16) (N := none) (bqz 17 131071) rfl rfl (by kernel_rfl) (by decide) (fun K hK => ?_);refine skip_ (w1 := ?_) (by rfl) rfl ?_ ?_;rotate_left
          · go_simp
            rfl
          refine hK.out _ _ ?_;clear hK K;refine done_ (by kernel_rfl) ?_;obtain ⟨e1, e2, e3, e4⟩ := H7.out;have HS9 := Aside0.mk (HS8.out.appHs (w9 := w8) (r := (A7, zs.length + 1, c7)) (by rw [e4]; exact HVS.out) hh (nb : Int) (by rw [e2.1, HD.out.hl, ← HNh.out]; exact k1n) (by rw [e1, e2.1, HD.out.hl]) (by rw [← HZ.out]; exact HO.out) (by rw [HVr.out]; exact HG.out) (by rw [HVr.out]; exact HAt.out));have b5 : ∃ w9, w9 = w8.setCell ⟨gS, hh, none⟩ (.slice A7 (zs.length + 1) c7) := ⟨_, rfl⟩
          obtain ⟨w9, b5⟩ := b5;rw [show w8.setCell ⟨gS, hh, none⟩ (slV (A7, zs.length + 1, c7)) = w9 from b5.symm] at HS9;have hgS : a0 gS = .hs := HS8.out.rowHs _ HVS.out gS rfl;have h1 : Kept V w9 (fun k => (a0 k).own = true) := by rw [b5]; exact (HGK.out.mono fun k hk => by show (a0 k).own = true; rw [show a0 k = .hro hh from hk]; rfl).setCell (.inl (by show (a0 gS).own = true; rw [hgS]; rfl)) _
          have hob : ∀ k, (Value.slice Ar zs.length cr).ownBlock = some k → a0 k = .hro hh := fun k hk => HRz.out.1 k (by rw [HVr.out]; exact hk)
          have b1 := up_keep (cls := a0) (c := .hro hh) HAt.out hob;have j8 := Aside0.mk (d8.out.step (cls2 := up a0 (slV (A7, zs.length + 1, c7)) (.hro hh)) (h1.mono fun _ h => .inl h) (fun k hk i e hi => by rw [show slV (A7, zs.length + 1, c7) = .slice A7 (zs.length + 1) c7 from rfl, b1 k (Nat.lt_of_lt_of_le hk d8.out.kept.1)]; exact e));have d5 := Aside0.mk (show Below w0.heap.size w0 w9 by rw [b5]; exact below_set HBw.out (Kd.R_base (HS8.out .hs) gS (by rw [HVS.out]; rfl)));obtain ⟨b8, i2⟩ : ∃ b8, b8 = up a0 (slV (A7, zs.length + 1, c7)) (.hro hh) := ⟨_, rfl⟩
          rw [← i2] at HS9 j8;obtain ⟨s9, b7⟩ : ∃ s9 : Sg, s9 = { s7 with hs := s7.hs.set hh (A7, zs.length + 1, c7), hsl := s7.hsl.set hh (A7, zs.length + 1, c7), heaps := s7.heaps.set hh (s7.heaps.getD hh [] ++ [(nb : Int)]) } := ⟨_, rfl⟩
          rw [← b7] at HS9;have a6 := Aside0.mk b7;have t9 := HS9.out.cell 9 (.map (some s.mW)) (by rw [b7]; show s7.tc[9]? = _; rw [e3]; rfl);have i4 : s9.mW = s.mW := by rw [b7]; exact e2.2.2.2.1
          have i3 : s9.fW = s.fW := by rw [b7]; exact e2.2.2.2.2
          have hG : G1 w9 s.mW s.fW s9.cW := by
            have := (HS9.out .mw).2.1;rwa [i4, i3] at this
          have hcw : s9.cW ≤ nh := by
            have := hG.count_le intKB ((List.range nh).map fun k : Nat => (k : Int)) fun a ha h => by
              rw [HW.out a ha] at h
              cases hwa : wt a with
              | false => rw [hwa] at h; cases h
              | true =>
                obtain ⟨k, rfl, hk⟩ := ((HWt.out a).1 hwa).1.nat;exact List.mem_map.2 ⟨k, List.mem_range.2 (by rw [HNh.out]; exact hk), rfl⟩
            simpa using this
          have hin : i64in (hh : Int) := by unfold i64in; omega
          have HGm := Aside0.mk hG;have HIn := Aside0.mk hin;have d9 := Aside0.mk (And.intro i4 i3);have hw9' := b5;clear hG hin b5 hgS h1 hob b1 i2 b7 i4 i3 HS8 d8 d4 HRz g2 HO HG HAt HBw HGK f8;rw [show w8.setCell ⟨gS, hh, none⟩ (.slice A7 (zs.length + 1) c7) = w9 from hw9'.symm];clear hw9'
          go_wp2_with (first
            | (refine wpList_gput _ intKB rfl _ _ _ 88 rfl 3 Try.underlying88 s.mW s9.cW s.fW rfl HGm.out (by unfold maxLen; omega) (hh : Int) HIn.out (.int .i64 1) rfl rfl ?_
               intro k9 hgm hgg hsz;have HS10 := Aside0.mk (HS9.out.setW (f := putM s.fW (hh : Int) (.int .i64 1)) (by rw [d9.out.1]; exact hgm) (by rw [d9.out.1]; exact hgg));have l4 := Aside0.mk (j8.out.step (cls2 := b8) (kept_grown hgg fun k e => by cases e; exact .inl (by rw [← d9.out.1, (HS9.out .mw).1]; rfl)) fun _ _ _ e _ => e);have l2 := Aside0.mk (d5.out.grown hgg d5.out.size (fun k e => by cases e; rw [← d9.out.1]; exact (HS9.out .mw).2.2));have m7 := HS10.out.cell 10 (.int .i64 ((nb : Int) - 1)) (by show s9.tc[10]? = _; rw [a6.out]; show s7.tc[10]? = _; rw [e3]; rfl);have f10 : k9.frozen? ⟨T, 10, none⟩ = false := blk_frozen (HS10.out .tt).1;clear hgm hgg hsz))
          go_end0
          have HS11 := Aside0.mk (HS10.out.setT 10 (.int .i64 (nb : Int)));have l5 := Aside0.mk (l4.out.step (w2 := k9.setCell ⟨T, 10, none⟩ (.int .i64 (nb : Int))) (cls2 := b8) ((Kept.refl _ _).setCell (.inl (.inl (by show (b8 T).own = true; rw [(HS10.out .tt).2.1]; rfl))) _) fun _ _ _ e _ => e);have l3 := Aside0.mk (below_set (j := 10) (v := .int .i64 (nb : Int)) l2.out (HS10.out .tt).2.2);refine ⟨rfl, _, _, HS11.out, ?_, ?_, ?_, l5.out, l3.out⟩
          · have i7 : (cutP p (b : Int) ins).blocks.length = nb + 1 := by simp [cutP, HNb.out]
            have hz : s7.heaps.getD hh [] = gl p.heaps (hh : Int) := by rw [e1]; rfl
            have e6 : cutP p (b : Int) ins = { block := bk, blocks := (p.blocks.set b F) ++ [ins], heap := p.heap ++ [(hh : Int)], heaps := p.heaps.set hh (gl p.heaps (hh : Int) ++ [(nb : Int)]) } := by
              unfold cutP;rw [HHh.out, ← HNb.out, ← HBk.out, HF.out, HL.out];rfl
            refine ⟨?_, ?_, ?_, ?_, ?_, ?_, ?_, ?_, ?_⟩
            · show s9.tc.set 10 _ = _
              rw [a6.out];show s7.tc.set 10 _ = _;rw [e3, i7, a7.out, a5.out, a2.out, a1.out];show [Value.int .i64 n, v1, v2, s.vI, s.vB, .slice A9 (nb + 1) c9, .slice A8 (nb + 1) c8, s.vHs, .map (some s.mC), .map (some s.mW), .int .i64 (nb : Int)] = [Value.int .i64 n, v1, v2, s.vI, s.vB, .slice A9 (nb + 1) c9, .slice A8 (nb + 1) c8, s.vHs, .map (some s.mC), .map (some s.mW), .int .i64 (((nb + 1 : Nat) : Int) - 1)];rw [show (((nb + 1 : Nat) : Int) - 1) = (nb : Int) by omega]
            · rw [e6, a6.out, a7.out, a5.out, a2.out, a1.out]
            · rw [e6, a6.out, a7.out]; show s5.heap ++ [(hh : Int)] = p.heap ++ [(hh : Int)]; rw [a5.out]; show s3.heap ++ _ = _; rw [a2.out]; show s2.heap ++ _ = _; rw [a1.out]; show s.heap ++ _ = _; rw [HD.out.heap]
            · rw [e6, a6.out, a7.out, a5.out]; show s3.blocks ++ [ins] = p.blocks.set b F ++ [ins]; rw [a2.out]; show s2.blocks.set b F ++ _ = _; rw [a1.out]; show s.blocks.set b F ++ _ = _; rw [HD.out.blocks]
            · rw [e6, a6.out]; show s7.heaps.set hh (s7.heaps.getD hh [] ++ [(nb : Int)]) = p.heaps.set hh (gl p.heaps (hh : Int) ++ [(nb : Int)]); rw [hz, e1]
            · rw [a6.out, a7.out, a5.out, a2.out, a1.out]; show s.bs.set b r2 ++ _ = s.bsl.set b r2 ++ _; rw [HD.out.bs]
            · rw [i7, a6.out, a7.out, a5.out]; show (s3.bsl ++ _).length = _; rw [List.length_append, a9.out.2.1]; rfl
            · rw [a6.out]; show s7.hs.set hh _ = s7.hsl.set hh _; rw [e2.1, e2.2.1]
            · rw [a6.out]; show (s7.hsl.set hh _).length = _; rw [List.length_set, e2.1, HD.out.hl]; simp [cutP]
          · intro x hx
            show putM s.fW (hh : Int) (.int .i64 1) x = _;unfold putM;by_cases e : x = (hh : Int)
            · rw [if_pos e, if_pos (by simp [e, HHh.out])]
            · rw [if_neg e, HW.out x hx]
              rw [HHh.out];simp [e]
          · rw [a6.out, a7.out, a5.out, a2.out, a1.out]
            exact ⟨rfl, rfl, rfl, rfl, rfl, rfl, rfl, rfl, rfl, rfl⟩
end Go.Proofs.Ytmcbkmfpmcbdpaa.H
namespace Go.Proofs.Ytmcbkmfpmcbdpaa.H
open Go.RowKit Go.Proofs.Ytmcbkmfpmcbdpaa.Pr Go.Proofs.YtmcbkmfpmcbdpaaW.PrintWords Go.Proofs.Ytmcbkmfpmcbdpaa.Sem Go.Proofs.YtmcbkmfpmcbdpaaW.PrintLast
theorem run_gupd {P : Program} {op : Oper} {a : Act} {w w1 : World} {x y z : Operand} {t m : Nat} {k u : Value} (ho : op.op = .mapUpdate t x y z) (hx : a.eval x = .map (some m)) (hy : a.eval y = k) (hz : a.eval z = u) (h : (Instr.mapUpdate t (.map (some m)) k u).run P w = .ok () w1) : (execOp a.eval op).run P w = .ok .skip w1 := by
 unfold execOp
 simp only [ho, hx, hy, hz, Sem.run_bind, Sem.run_pure, h, Result.andThen_ok]
structure MtI (N : Nat) (W : World) (M : Nat) (dl : Nat → Option Int) (g : Int → Option Value) (c : Nat) (xs : Int → List Int) : Prop where
  gm : G1 W M g c
  low : N ≤ M
  dm : dl M = none
  no : ∀ b, i64in b → g b = none → xs b = []
  yes : ∀ b v, i64in b → g b = some v → xs b ≠ [] ∧ Kd.R (Kd.int .i64) 3 W N (fun k => dl k = some b) v (xs b)
section
variable {N : Nat} {W w1 : World} {M : Nat} {dl : Nat → Option Int} {g : Int → Option Value} {c : Nat} {xs : Int → List Int}
theorem MtI.made (W : World) (N : Nat) (hN : N ≤ W.heap.size) : MtI N (W.alloc (.map #[] 0)) W.heap.size (fun _ => none) (fun _ => none) 0 (fun _ => []) :=
 ⟨GM.made _ _ _ _ _, hN, rfl, fun _ _ _ => rfl, fun _ _ _ h => by cases h⟩
theorem MtI.below (h : MtI N W M dl g c xs) (hb : Below W.heap.size W w1) : MtI N w1 M dl g c xs :=
 ⟨h.gm.below hb, h.low, h.dm, h.no, fun b v hb2 hg => ⟨(h.yes b v hb2 hg).1, Kd.R_below (h.yes b v hb2 hg).2 hb⟩⟩
def gv (g : Int → Option Value) (b : Int) : Value := (g b).getD (.slice none 0 0)
theorem MtI.row (h : MtI N W M dl g c xs) {b : Int} (hb : i64in b) : Kd.R (Kd.int .i64) 3 W N (fun k => dl k = some b) (gv g b) (xs b) := by
 unfold gv
 cases hg : g b with
 | none => rw [h.no b hb hg]; exact Kd.R_nil _ _ _ _ _
 | some v => exact (h.yes b v hb hg).2
theorem MtI.step (h : MtI N W M dl g c xs) {b x : Int} (hb : i64in b) {w9 w10 : World} {v9 : Value} {c' : Nat} (ho : Kd.R (Kd.int .i64) 3 w9 N (fun k => dl k = some b ∨ W.heap.size ≤ k) v9 (xs b ++ [x])) (hg : W.grownBy w9 (gv g b).ownBlock) (hat : v9.ownBlock = (gv g b).ownBlock ∨ ∃ k, v9.ownBlock = some k ∧ W.heap.size ≤ k)
  (hgm : G1 w10 M (putM g b v9) c') (hgg : w9.grownBy w10 (some M)) : MtI N w10 M (fun k => if v9.ownBlock = some k then some b else dl k) (putM g b v9) c' (fun b' => if b' = b then xs b ++ [x] else xs b') := by
 have hM : M < W.heap.size := h.gm.lt_
 have hv9 : ∀ k, v9.ownBlock = some k → k < W.heap.size → dl k = some b := fun k hk hl => by
  rcases hat with hat | ⟨k', hk', hle⟩
  ·exact (h.row hb).1 k (by rw [← hat]; exact hk)
  ·rw [hk] at hk'; cases hk'; omega
 have hM9 : v9.ownBlock ≠ some M := fun e => by have := hv9 M e hM; rw [h.dm] at this; cases this
 have hK : Kept W w10 (fun k => k = M ∨ dl k = some b) := Kept.of_grown hgg (kept_grown hg fun k hk => .inr ((h.row hb).1 k hk)) fun k hk => by cases hk; exact .inl (.inl rfl)
 refine ⟨hgm, h.low, by show (if v9.ownBlock = some M then some b else dl M) = none; rw [if_neg hM9]; exact h.dm, ?_, ?_⟩
 ·intro b' hb' hn;unfold putM at hn;split at hn
  ·cases hn
  ·rename_i e;show (if b' = b then xs b ++ [x] else xs b') = [];rw [if_neg e];exact h.no b' hb' hn
 ·intro b' v hb' hs;unfold putM at hs;by_cases e : b' = b
  ·rw [if_pos e] at hs
   cases hs;subst e;show (if b' = b' then xs b' ++ [x] else xs b') ≠ [] ∧ Kd.R _ _ _ _ _ _ (if b' = b' then xs b' ++ [x] else xs b');rw [if_pos rfl];refine ⟨by simp, ?_⟩;have h1 := Kd.R_grown (Kd.R_tight rfl ho) hgg fun k hk e2 => hM9 (by rw [← hk]; exact e2)
   exact Kd.R_mono h1 fun k hk => by
    show (if v9.ownBlock = some k then some b' else dl k) = some b';rw [if_pos hk.symm]
  ·rw [if_neg e] at hs;show (if b' = b then xs b ++ [x] else xs b') ≠ [] ∧ Kd.R _ _ _ _ _ _ (if b' = b then xs b ++ [x] else xs b');rw [if_neg e];refine ⟨(h.yes b' v hb' hs).1, ?_⟩;refine Kd.R_mono (Kd.R_move (Kd.R_bound (h.yes b' v hb' hs).2) fun k hk => hK.2 k hk.2.2.1 ?_) fun k hk => ?_
   ·rintro (e2 | e2)
    ·rw [e2, h.dm] at hk; cases hk.1
    ·rw [hk.1] at e2; cases e2; exact e rfl
   ·show (if v9.ownBlock = some k then some b else dl k) = some b';rw [if_neg fun e2 => by have := hv9 k e2 hk.2.2.1; rw [hk.1] at this; cases this; exact e rfl];exact hk.1
end
theorem zeroS (w : World) : (zeroValue 28).run Try.prog w = .ok (.slice none 0 0) w := by kernel_rfl
theorem MtI.get {N : Nat} {W : World} {M : Nat} {dl : Nat → Option Int} {g : Int → Option Value} {c : Nat} {xs : Int → List Int} (h : MtI N W M dl g c xs) {b : Int} (hb : i64in b) : (Instr.lookup 186 (.map (some M)) (.int .i64 b) false).run Try.prog W = .ok (gv g b) W := h.gm.get intKB hb Try.underlying186 (zeroS W)
theorem MtI.getv {N : Nat} {W : World} {M : Nat} {dl : Nat → Option Int} {g : Int → Option Value} {c : Nat} {xs : Int → List Int} (h : MtI N W M dl g c xs) {b : Int} (hb : i64in b) {v : Value} (hv : gv g b = v) : (Instr.lookup 186 (.map (some M)) (.int .i64 b) false).run Try.prog W = .ok v W := hv ▸ h.get hb
theorem MtI.cnt {N : Nat} {W : World} {M : Nat} {dl : Nat → Option Int} {g : Int → Option Value} {c : Nat} {xs : Int → List Int} (h : MtI N W M dl g c xs) {nb : Nat} (hb : ∀ b x, x ∈ xs b → Nd nb b) : c ≤ nb := by
 have := h.gm.count_le intKB ((List.range nb).map fun k : Nat => (k : Int)) fun a ha hs => by
  obtain ⟨v, hv⟩ := Option.isSome_iff_exists.1 hs
  obtain ⟨x, hx⟩ := List.exists_mem_of_ne_nil _ (h.yes a v ha hv).1
  obtain ⟨k, rfl, hk⟩ := (hb a x hx).nat
  exact List.mem_map.2 ⟨k, List.mem_range.2 hk, rfl⟩
 simpa using this
structure SpI (n : Nat) (X : Int → Bool) (p p' : PSt) (left : Int → Bool) : Prop where
  pw : PW n p'
  j1 : ∀ x y, Nd n x → Nd n y → (gi p'.block x = gi p'.block y ↔ gi p.block x = gi p.block y ∧ (left (gi p.block x) = false → X x = X y))
  j2 : ∀ b, Nd p.blocks.length b → left b = true → gl p'.blocks b = gl p.blocks b ∧ ∀ x, Nd n x → (gi p'.block x = b ↔ gi p.block x = b)
  j3 : ∀ x, Nd n x → HP p' x = HP p x
  j4 : p'.heaps.length = p.heaps.length
  j5 : p.blocks.length ≤ p'.blocks.length
section
variable {n : Nat} {X : Int → Bool} {p p' : PSt} {left : Int → Bool}
theorem SpI.start (h : PW n p) (hl : ∀ x, Nd n x → X x = true → left (gi p.block x) = true) : SpI n X p p left := by
 refine ⟨h, fun x y hx hy => ⟨fun e => ⟨e, fun hn => ?_⟩, fun e => e.1⟩, fun b _ _ => ⟨rfl, fun _ _ => Iff.rfl⟩, fun _ _ => rfl, rfl, Nat.le_refl _⟩
 cases hX : X x with
 | true => rw [hl x hx hX] at hn; cases hn
 | false =>
  cases hY : X y with
  | true => rw [e, hl y hy hY] at hn; cases hn
  | false => rfl
theorem nodup_full {l l' : List Int} (hn : l.Nodup) (hn' : l'.Nodup) (hs : ∀ x ∈ l, x ∈ l') (hl : l'.length ≤ l.length) : ∀ x ∈ l', x ∈ l := by
 intro x hx
 by_cases hm : x ∈ l
 ·exact hm
 ·have := nodup_sub (l := x :: l) (l' := l') (List.nodup_cons.2 ⟨hm, hn⟩) fun y hy => by
   rcases List.mem_cons.1 hy with rfl | hy
   ·exact hx
   ·exact hs y hy
  simp at this
  omega
theorem SpI.full (h : SpI n X p p' left) {b : Int} (hb : Nd p.blocks.length b) (hl : left b = true) {ins : List Int} (hm : ∀ x, x ∈ ins ↔ Nd n x ∧ X x = true ∧ gi p.block x = b) (hn : ins.Nodup) (hp : PW n p) (hlen : ins.length = (gl p'.blocks b).length) :
  SpI n X p p' (fun z => left z && !decide (z = b)) := by
 have hall : ∀ x, Nd n x → gi p.block x = b → X x = true := fun x hx e => by
  have h1 : x ∈ gl p.blocks b := (hp.bm b hb x).2 ⟨hx, e⟩
  have h2 := nodup_full hn (hp.bn b hb) (fun y hy => (hp.bm b hb y).2 ⟨((hm y).1 hy).1, ((hm y).1 hy).2.2⟩) (by rw [hlen, (h.j2 b hb hl).1]; exact Nat.le_refl _) x h1
  exact ((hm x).1 h2).2.1
 refine ⟨h.pw, fun x y hx hy => ?_, fun c hc hcl => h.j2 c hc (by simp at hcl; exact hcl.1), h.j3, h.j4, h.j5⟩
 rw [h.j1 x y hx hy]
 refine ⟨fun ⟨e, f⟩ => ⟨e, fun hf => ?_⟩, fun ⟨e, f⟩ => ⟨e, fun hf => f (by rw [hf]; rfl)⟩⟩
 by_cases hbx : gi p.block x = b
 ·rw [hall x hx hbx, hall y hy (by rw [← e]; exact hbx)]
 ·exact f (by simp [hbx] at hf; exact hf)
theorem SpI.cut (h : SpI n X p p' left) {b : Int} (hb : Nd p.blocks.length b) (hl : left b = true) {ins : List Int} (hm : ∀ x, x ∈ ins ↔ Nd n x ∧ X x = true ∧ gi p.block x = b) (hn : ins.Nodup) (hp : PW n p) (h0 : ins ≠ []) (hlt : ins.length < (gl p'.blocks b).length) :
  SpI n X p (cutP p' b ins) (fun z => left z && !decide (z = b)) := by
 have hb' : Nd p'.blocks.length b := hb.mono h.j5
 have hsub : ∀ x ∈ ins, x ∈ gl p'.blocks b := fun x hx => by
  rw [(h.j2 b hb hl).1];exact (hp.bm b hb x).2 ⟨((hm x).1 hx).1, ((hm x).1 hx).2.2⟩
 have hB : ∀ x, Nd n x → gi (cutP p' b ins).block x = if x ∈ ins then (p'.blocks.length : Int) else gi p'.block x := fun x hx => cut_blk h.pw hb' hsub hx
 have hlen : (cutP p' b ins).blocks.length = p'.blocks.length + 1 := by simp [cutP]
 refine ⟨h.pw.cut hb' hn hsub h0 hlt, fun x y hx hy => ?_, fun c hc hcl => ?_, fun x hx => by rw [cut_hp h.pw hb' hsub hx, h.j3 x hx], by simp [cutP]; exact h.j4, by rw [hlen]; have := h.j5; omega⟩
 ·rw [hB x hx, hB y hy];have hnx := (h.pw.br x hx).2;have hny := (h.pw.br y hy).2;by_cases ix : x ∈ ins <;> by_cases iy : y ∈ ins
  ·rw [if_pos ix, if_pos iy];obtain ⟨_, a1, a2⟩ := (hm x).1 ix;obtain ⟨_, b1, b2⟩ := (hm y).1 iy;simp [a1, b1, a2, b2]
  ·rw [if_pos ix, if_neg iy];obtain ⟨_, a1, a2⟩ := (hm x).1 ix;refine ⟨fun e => by omega, fun ⟨e, f⟩ => ?_⟩;have hf := f (by simp [a2]);exact absurd ((hm y).2 ⟨hy, by rw [← hf]; exact a1, by rw [← e]; exact a2⟩) iy
  ·rw [if_neg ix, if_pos iy];obtain ⟨_, b1, b2⟩ := (hm y).1 iy;refine ⟨fun e => by omega, fun ⟨e, f⟩ => ?_⟩;have hf := f (by rw [e]; simp [b2]);exact absurd ((hm x).2 ⟨hx, by rw [hf]; exact b1, by rw [e]; exact b2⟩) ix
  ·rw [if_neg ix, if_neg iy, h.j1 x y hx hy];refine ⟨fun ⟨e, f⟩ => ⟨e, fun hf => ?_⟩, fun ⟨e, f⟩ => ⟨e, fun hf => f (by rw [hf]; rfl)⟩⟩;by_cases hbx : gi p.block x = b
   ·cases hX : X x with
    | true => exact absurd ((hm x).2 ⟨hx, hX, hbx⟩) ix
    | false =>
     cases hY : X y with
     | true => exact absurd ((hm y).2 ⟨hy, hY, by rw [← e]; exact hbx⟩) iy
     | false => rfl
   ·exact f (by simp [hbx] at hf; exact hf)
 ·have hcl' : left c = true ∧ c ≠ b := by simpa using hcl
  obtain ⟨k1, k2⟩ := h.j2 c hc hcl'.1;have hc' : Nd (p'.blocks.length + 1) c := hc.mono (by have := h.j5; omega);have hcn : c ≠ (p'.blocks.length : Int) := by have := hc.2; have := h.j5; omega
  refine ⟨?_, fun x hx => ?_⟩
  ·rw [← k1];show gl (p'.blocks.set b.toNat _ ++ [ins]) c = _;rw [gl_snoc (by rw [List.length_set]; exact hc'), List.length_set, if_neg hcn, gl_set hb' ⟨hc.1, by have := hc'.2; omega⟩, if_neg hcl'.2]
  ·rw [hB x hx, ← k2 x hx];by_cases ix : x ∈ ins
   ·rw [if_pos ix];refine ⟨fun e => absurd e.symm hcn, fun e => ?_⟩;have := (k2 x hx).1 e;rw [((hm x).1 ix).2.2] at this;exact absurd this.symm hcl'.2
   ·rw [if_neg ix]
theorem SpI.done (h : SpI n X p p' left) (hl : ∀ x, Nd n x → left (gi p.block x) = false) {x y : Int} (hx : Nd n x) (hy : Nd n y) : gi p'.block x = gi p'.block y ↔ gi p.block x = gi p.block y ∧ (X x = true ↔ X y = true) := by
 rw [h.j1 x y hx hy]
 refine ⟨fun ⟨e, f⟩ => ⟨e, by rw [f (hl x hx)]⟩, fun ⟨e, f⟩ => ⟨e, fun _ => ?_⟩⟩
 cases hX : X x <;> cases hY : X y <;> simp_all
end
set_option maxHeartbeats 16000000 in
set_option maxRecDepth 100000 in
theorem split_any {T n : Nat} {v1 v2 : Value} {s : Sg} {p : PSt} {wt : Int → Bool} {m c jm : Nat} {f : Int → Option Value} {X : Int → Bool} {cls : Nat → Cl} (w0 w : World) (hS : SP w0.heap.size T w cls s) (hD : Std n v1 v2 s p) (hP : PW n p) (hW : StdW s wt) (hWt : Wt p wt)
  (hm : G1 w m f c) (hcm : cls m = .far jm) (hf : ∀ a, i64in a → (f a).isSome = X a) (hX : ∀ a, X a = true → Nd n a) (hn0 : 0 < n) (hn : n ≤ 2048) (hB : Below w0.heap.size w0 w) :
  Calls Try.prog 148 #[.pointer (some ⟨T, 0, none⟩), .map (some m)] w fun e w' => e = .returned (.tuple #[]) ∧ ∃ s' cls' p' wt', SP w0.heap.size T w' cls' s' ∧ Std n v1 v2 s' p' ∧ PW n p' ∧ StdW s' wt' ∧ Wt p' wt' ∧
   (∀ x y, Nd n x → Nd n y → (gi p'.block x = gi p'.block y ↔ gi p.block x = gi p.block y ∧ (X x = true ↔ X y = true))) ∧ (∀ x, Nd n x → HP p' x = HP p x) ∧ p'.heaps.length = p.heaps.length ∧ Same0 s s' ∧ Fr w w' cls cls' (fun _ => False) ∧ Below w0.heap.size w0 w' := by
 have hmm := @run_makeMap Try.prog;have HS := Aside0.mk hS;have HD := Aside0.mk hD;have HP := Aside0.mk hP;have HW := Aside0.mk hW;have HWt := Aside0.mk hWt;have HM := Aside0.mk hm;have HMc := Aside0.mk hcm;have HF := Aside0.mk hf;have HX := Aside0.mk hX;have HB := Aside0.mk hB;clear hS hD hP hW hWt hm hcm hf hX hB;go_enter Try.func148, Try.ntmps148
 go_wp2_with (at_range; refine wpList_grange _ intKB rfl _ 88 rfl 3 Try.underlying88 m c f rfl (HM.out.below (below_alloc (Below.refl _ _) _)) ?_; intro w1 hgr hg hsz)
 go_frame
 clear hmm;have HMt := Aside0.mk ((MtI.made w w.heap.size (Nat.le_refl _)).below ⟨hg.os, hg.tape, hg.output, hg.size, fun k hk => hg.block k hk (by simp)⟩);have HGr := Aside0.mk hgr;have a3 := Aside0.mk (show Below w.heap.size w w1 from (below_alloc (Below.refl _ _) _).grown hg (by simp) (fun k e => by cases e));have e5 := Aside0.mk (GR.iter hgr);obtain ⟨M, hM⟩ : ∃ M, M = w.heap.size := ⟨_, rfl⟩
 obtain ⟨r, hr⟩ : ∃ r, r = (w.alloc (Obj.map #[] 0)).heap.size := ⟨_, rfl⟩
 have HrM := Aside0.mk (show w.heap.size ≤ r ∧ r ≠ M by rw [hr, hM]; simp);rw [← hr] at HGr e5 ⊢;have HMt : Aside0 (MtI w.heap.size w1 M (fun _ => none) (fun _ => none) 0 (fun _ => [])) := ⟨by rw [hM]; exact HMt.out⟩
 rw [← hM];have HMe := Aside0.mk hM;clear hgr hg hsz hr hM
 go_loopw [] (fun wr => ∃ (left : Int → Bool) (cnt : Nat) (dl : Nat → Option Int) (g : Int → Option Value) (c' : Nat) (xs : Int → List Int),
  Aside0 (GR Try.prog 3 ik i64in wr m r f left cnt) ∧ Aside0 (MtI w.heap.size wr M dl g c' xs) ∧ Aside0 (∀ b x, x ∈ xs b ↔ Nd n x ∧ X x = true ∧ gi p.block x = b ∧ left x = false) ∧ Aside0 (∀ b, (xs b).Nodup) ∧ Aside0 (Below w.heap.size w wr) ∧ Aside0 (∀ x, Nd n x → X x = false → left x = false)) (fun wr => wr.rangeLeft m r)
 case atStart =>
  refine ⟨_, _, _, _, _, _, HGr, HMt, ⟨fun b x => ?_⟩, ⟨fun b => List.nodup_nil⟩, a3, ⟨fun x hx he => by rw [HF.out x (by unfold i64in; have := hx.1; have := hx.2; omega), he]⟩⟩;constructor
  ·intro h; cases h
  ·rintro ⟨h1, h2, h3, h4⟩;rw [HF.out x (by unfold i64in; have := h1.1; have := h1.2; omega), h2] at h4
   cases h4
 case round =>
  clear HGr HMt a3 e5;obtain ⟨left, cnt, dl, g, c', xs, HGr, HMt, HMem, HNd, a3, HLf⟩ := hrel;go_wp2_with (at_next; refine wpList_gnext _ intKB rfl _ rfl m r f left cnt rfl HGr.out ?_ ?_)
  rotate_left
  ·intro y v w2 f9 hy hly hfy b0 hlt a7 hsz hen;have hXy : X y = true := by rw [← HF.out y hy, hfy]; rfl
   obtain ⟨x, rfl, hxn⟩ := (HX.out y hXy).nat;have g1 := Aside0.mk b0;have e3 := Aside0.mk a7;have HIt := Aside0.mk (GR.iter HGr.out);have d8 := Aside0.mk (a3.out.grown a7 a3.out.size (fun k e => by cases e; exact HrM.out.1));have HFin := Aside0.mk (And.intro hy (And.intro hly (And.intro hfy (And.intro hXy hlt))));clear b0 hsz a7 hly hfy hXy hlt;go_wp2_with fail
   clear hen;have hnb := HP.out.nb_le;obtain ⟨y, hye, hyn⟩ := (HP.out.br (x : Int) (nd_iff.2 hxn)).nat;obtain ⟨gB, cB, hvB, hcB⟩ := IR.slice (HS.out .blk) (by rw [HD.out.block, HP.out.bl]; exact hn0);rw [HD.out.block, HP.out.bl] at hvB;have tw : w.cell? ⟨T, 4, none⟩ = some (.slice (some ⟨gB, 0, none⟩) n cB) := by rw [HS.out.cell 4 s.vB (by rw [HD.out.tc]; rfl), hvB]
   have qw : w.cell? ⟨gB, x, none⟩ = some (.int .i64 (y : Int)) := by rw [(hcB x (by rw [HD.out.block, HP.out.bl]; exact hxn)).1, HD.out.block]; show some (Value.int .i64 (gi p.block (x : Int))) = _; rw [hye]
   have hyi : i64in (y : Int) := by unfold i64in; omega
   have d2 := below_drew1 (Below.refl w2.heap.size w2);have a0 := Aside0.mk ((show MtI w.heap.size w2 M dl g c' xs from ⟨HMt.out.gm.same (e3.out.block M HMt.out.gm.lt_ (fun e => HrM.out.2 (by cases e; rfl))), HMt.out.low, HMt.out.dm, HMt.out.no, fun b v hb hg => ⟨(HMt.out.yes b v hb hg).1, Kd.R_grown (Kd.R_bound (HMt.out.yes b v hb hg).2) e3.out (fun k hk e => by cases e; obtain ⟨_, _, _, _, hi⟩ := HIt.out; obtain ⟨_, _, _, q, _, cs, hc⟩ := hk; rw [hi] at hc; cases hc) |> fun h => Kd.R_mono h fun k hk => hk.1⟩⟩).below d2);have a1 := Aside0.mk (g1.out.same (w1 := w2.drew) rfl rfl);have a2 := Aside0.mk (below_then d8.out d8.out.size d2);obtain ⟨zs, hzs⟩ : ∃ zs, zs = xs (y : Int) := ⟨_, rfl⟩
   have hrow := a0.out.row hyi;rw [← hzs] at hrow;obtain ⟨Az, cz, hvz⟩ := Kd.R_slice hrow;have hlook := a0.out.get hyi;rw [hvz] at hlook;have hzl : zs.length ≤ n := nodup_le (by rw [hzs]; exact HNd.out _) fun a ha => ((HMem.out _ a).1 (by rw [← hzs]; exact ha)).1
   have t4 := later a2.out tw;have q4 := later a2.out qw;have HTw := Aside0.mk (And.intro tw qw);have HVz := Aside0.mk hvz;have HZ := Aside0.mk hzs;have HY := Aside0.mk hye;have HYi := Aside0.mk hyi;have k0 : (0 : Int) ≤ (x : Int) := by omega
   have k1 : (x : Int) < (n : Int) := by omega
   have hcl : c' ≤ p.blocks.length := a0.out.cnt fun b x hx => by
    obtain ⟨h1, h2, h3, _⟩ := (HMem.out b x).1 hx;rw [← h3];exact HP.out.br x h1
   clear hvB hcB tw qw hrow hvz hzs hye d2 hyi;refine start_ (n := 21) (S := fun w' => w'.cell? ⟨T, 4, none⟩ = some (.slice (some ⟨gB, 0, none⟩) n cB) ∧ w'.cell? ⟨gB, x, none⟩ = some (.int .i64 (y : Int)) ∧ (Instr.lookup 186 (.map (some M)) (.int .i64 (y : Int)) false).run Try.prog w' = .ok (.slice Az zs.length cz) w') (ds := [20]) (bqz 21 0) (by kernel_rfl) rfl rfl ⟨t4, q4, hlook⟩ (fun hHeld => ?_);generalize w2.drew = V at a0 a1 a2 hHeld ⊢; clear t4 q4 hlook
   refine pqz 0 (some 15) (bqz 21 1) rfl rfl (by kernel_rfl) ?_ ?_ (fun _ _ _ h => h) (by rfl) ?_ ?_ ?_;rotate_left 2;intro w';go_simp;(with_reducible rfl);simp only [Act.put, qz1, qz2, qz3, i64_w, i32_w];rfl
   refine pqz 1 (some 16) (bqz 21 3) rfl rfl (by kernel_rfl) ?_ ?_ (fun _ _ _ h => h) (by rfl) ?_ ?_ ?_;rotate_left 2;intro w';go_simp;(with_reducible rfl);simp only [Act.put, qz1, qz2, qz3, i64_w, i32_w];rfl
   refine pqz 2 (some 17) (bqz 21 7) rfl rfl (by kernel_rfl) ?_ ?_ (fun _ _ _ h => h) (by rfl) ?_ ?_ ?_;rotate_left 2;intro w';go_simp;(with_reducible rfl);simp only [Act.put, qz1, qz2, qz3, i64_w, i32_w];rfl
   refine pqz 3 (some 18) (bqz 21 15) rfl rfl (by kernel_rfl) ?_ ?_ (fun _ _ _ h => h) (by rfl) ?_ ?_ ?_;rotate_left 2;intro w';go_simp;(with_reducible rfl);simp only [Act.put, qz1, qz2, qz3, i64_w, i32_w];rfl
   refine pqz 5 (some 20) (bqz 21 47) rfl rfl (by kernel_rfl) ?_ ?_ (fun _ _ _ h => h) (by rfl) ?_ ?_ ?_;rotate_left 2;intro w';go_simp;(with_reducible rfl);simp only [Act.put, qz1, qz2, qz3, i64_w, i32_w];rfl
   refine pqz 8 (some 23) (bqz 21 303) rfl rfl (by kernel_rfl) ?_ ?_ (fun _ _ _ h => h) (by rfl) ?_ ?_ ?_;rotate_left 2;intro w';go_simp;(with_reducible rfl);simp only [Act.put, qz1, qz2, qz3, i64_w, i32_w];rfl
   refine pqz 9 (some 24) (bqz 21 815) rfl rfl (by kernel_rfl) ?_ ?_ (fun _ _ _ h => h) (by rfl) ?_ ?_ ?_;rotate_left 2;intro w';go_simp;(with_reducible rfl);simp only [Act.put, qz1, qz2, qz3, i64_w, i32_w];rfl
   refine pqz 10 (some 25) (bqz 21 1839) rfl rfl (by kernel_rfl) ?_ ?_ (fun _ _ _ h => h) (by rfl) ?_ ?_ ?_;rotate_left 2;intro w';go_simp;(with_reducible rfl);simp only [Act.put, qz1, qz2, qz3, i64_w, i32_w];rfl
   refine pqz 11 (some 26) (bqz 21 3887) rfl rfl (by kernel_rfl) ?_ ?_ (fun _ _ _ h => h) (by rfl) ?_ ?_ ?_;rotate_left 2;intro w';go_simp;(with_reducible rfl);simp only [Act.put, qz1, qz2, qz3, i64_w, i32_w];rfl
   refine pqz 13 (some 28) (bqz 21 12079) rfl rfl (by kernel_rfl) ?_ ?_ (fun _ _ _ h => h) (by rfl) ?_ ?_ ?_;rotate_left 2;intro w';go_simp;(with_reducible rfl);simp only [Act.put, qz1, qz2, qz3, i64_w, i32_w];rfl
   refine pqz 17 (some 32) (bqz 21 143151) rfl rfl (by kernel_rfl) ?_ ?_ (fun _ _ _ h => h) (by rfl) ?_ ?_ ?_;rotate_left 2;intro w';go_simp;(with_reducible rfl);simp only [Act.put, qz1, qz2, qz3, i64_w, i32_w];rfl
   refine tqz 4 (some 19) (bqz 21 143167) rfl rfl (by kernel_rfl) ?_ ?_ (fun _ _ _ h => h) (by rfl) ?_ hHeld ?_ ?_;rotate_left 2;rintro w' ⟨s0, s1, s2⟩;go_simp;(with_reducible rfl);simp only [Act.put, qz1, qz2, qz3, i64_w, i32_w];rfl
   refine pqz 6 (some 21) (bqz 21 143231) rfl rfl (by kernel_rfl) ?_ ?_ (fun _ _ _ h => h) (by rfl) ?_ ?_ ?_;rotate_left 2;intro w';go_simp;(with_reducible rfl);simp only [Act.put, qz1, qz2, qz3, i64_w, i32_w];rfl
   refine tqz 7 (some 22) (bqz 21 143359) rfl rfl (by kernel_rfl) ?_ ?_ (fun _ _ _ h => h) (by rfl) ?_ hHeld ?_ ?_;rotate_left 2;rintro w' ⟨s0, s1, s2⟩;go_simp;(with_reducible rfl);simp only [Act.put, qz1, qz2, qz3, i64_w, i32_w];rfl
   refine tqz 12 (some 27) (bqz 21 147455) rfl rfl (by kernel_rfl) ?_ ?_ (fun _ _ _ h => h) (by rfl) ?_ hHeld ?_ ?_;rotate_left 2;rintro w' ⟨s0, s1, s2⟩;go_simp;(with_reducible rfl);simp only [Act.put, qz1, qz2, qz3, i64_w, i32_w];rfl
   refine pqz 14 (some 29) (bqz 21 163839) rfl rfl (by kernel_rfl) ?_ ?_ (fun _ _ _ h => h) (by rfl) ?_ ?_ ?_;rotate_left 2;intro w';go_simp;(with_reducible rfl);simp only [Act.put, qz1, qz2, qz3, i64_w, i32_w];rfl
   refine tqz 15 (some 30) (bqz 21 196607) rfl rfl (by kernel_rfl) ?_ ?_ (fun _ _ _ h => h) (by rfl) ?_ hHeld ?_ ?_;rotate_left 2;rintro w' ⟨s0, s1, s2⟩;go_simp;(with_reducible rfl);simp only [Act.put, qz1, qz2, qz3, i64_w, i32_w];rfl
   refine tqz 16 (some 31) (bqz 21 262143) rfl rfl (by kernel_rfl) ?_ ?_ (fun _ _ _ h => h) (by rfl) ?_ hHeld ?_ ?_;rotate_left 2;rintro w' ⟨s0, s1, s2⟩;go_simp;(with_reducible rfl);simp only [Act.put, qz1, qz2, qz3, i64_w, i32_w];rfl
   refine one_ (i := 18) (N := some 33) (bqz 21 524287) rfl rfl (by kernel_rfl) (by decide) (fun K hK => ?_);refine value_ (w1 := ?_) (v := ?_) (by rfl) rfl ?_ ?_;rotate_left 2
   ·go_simp;constructor
    ·rfl
    ·rfl
   refine hK.out _ _ ⟨later (below_then a2.out a2.out.size (below_alloc (Below.refl _ _) _)) HTw.out.1, later (below_then a2.out a2.out.size (below_alloc (Below.refl _ _) _)) HTw.out.2, (a0.out.below (below_alloc (Below.refl _ _) _)).getv HYi.out HVz.out⟩ (fun hHeld => ?_);clear hK K;refine norm_ (a' := ?_) ?_ ?_;rotate_left
   ·show Act.put _ (some 33) _ = _;simp only [Act.put, qz1, qz2, qz3, i64_w, i32_w];rfl
   refine one_ (i := 19) (N := some 34) (bqz 21 1048575) rfl rfl (by kernel_rfl) (by decide) (fun K hK => ?_);refine Kd.R_append_step (Kd.int .i64) (w0 := w) w.heap.size (by rfl) (.tmp 31) (.tmp 33) 28 3 (.int .i64 0) 8 rfl Try.underlying28 infoI rfl (by decide) (by omega) (.slice Az zs.length cz) zs (x : Int) [.int .i64 (x : Int)] (fun k => dl k = some (y : Int) ∨ V.heap.size ≤ k) (fun _ => False) rfl rfl rfl (fun _ hk => hk.elim) (fun _ hk => .inr hk) ?aO ?aB ?aS ?aL ?_
   (case aO => have := a0.out.row HYi.out; rw [HVz.out, ← HZ.out] at this; exact Kd.R_mono this fun k hk => .inl hk)
   (case aB => exact a2.out)
   (case aS => exact a2.out.size)
   (case aL => omega)
   intro v1 w9 ho hb hg hat;have hMne : (Value.slice Az zs.length cz).ownBlock ≠ some M := fun e => by have := a0.out.row HYi.out; rw [HVz.out] at this; have h8 : dl M = some (y : Int) := this.1 M e; rw [a0.out.dm] at h8; cases h8
   have hrne : (Value.slice Az zs.length cz).ownBlock ≠ some r := fun e => by obtain ⟨_, _, _, _, hi⟩ := GR.iter a1.out; have h1 := a0.out.row HYi.out; rw [HVz.out] at h1; obtain ⟨cs, hc⟩ := Kd.R_typed h1 r e; rw [hi] at hc; cases hc
   obtain ⟨f6, hrun, hgm, hgg, hsz⟩ := (a0.out.gm.grown hMne hg).put intKB HYi.out (v := v1) (by unfold maxLen; omega) Try.underlying186;have HRun := Aside0.mk hrun;have HLk := Aside0.mk ((a0.out.gm.grown hMne hg).get intKB HYi.out Try.underlying186 (zeroS w9));have b6 := a0.out.step HYi.out (by rw [← HZ.out]; exact ho) (by rw [HVz.out]; exact hg) (by rw [HVz.out]; exact hat) hgm hgg;rw [← HZ.out] at b6;have f8 := Aside0.mk b6;have d1 := Aside0.mk (a1.out.same (w1 := f6) ((hgg.block m (Nat.lt_of_lt_of_le a1.out.mlt hg.size) (fun e => by cases e; have := a0.out.low; have := HM.out.lt_; omega)).trans (hg.block m a1.out.mlt (fun e => by have h1 := a0.out.row HYi.out; rw [HVz.out] at h1; have := Kd.R_base h1 m e.symm; have := HM.out.lt_; omega))) ((hgg.block r (Nat.lt_of_lt_of_le a1.out.lt_ hg.size) (fun e => by cases e; exact HrM.out.2 rfl)).trans (hg.block r a1.out.lt_ (fun e => hrne e.symm))));have f7 := Aside0.mk (hb.grown hgg hb.size (fun k e => by cases e; exact a0.out.low));have e0 := Aside0.mk hb;clear ho hb hg hat hMne hrne hrun hgm hgg hsz b6;refine hK.out _ _ ⟨later e0.out HTw.out.1, later e0.out HTw.out.2, (by have := HLk.out; rw [show (g (y : Int)).getD (.slice none 0 0) = gv g (y : Int) from rfl, HVz.out] at this; exact this)⟩ (fun hHeld => ?_);clear hK K;refine norm_ (a' := ?_) ?_ ?_;rotate_left
   ·show Act.put _ (some 34) _ = _;simp only [Act.put, qz1, qz2, qz3, i64_w, i32_w];rfl
   refine last_ (i := 20) (N := none) (bqz 21 2097151) rfl rfl (by kernel_rfl) (by decide) (fun K hK => ?_);refine skip_ (w1 := f6) (by rfl) rfl (run_gupd rfl rfl rfl rfl HRun.out) ?_;refine hK.out _ _ ?_;clear hK K;refine done_ (by kernel_rfl) ?_;go_wp2
   go_roundw
   case rel =>
    refine ⟨_, _, _, _, _, _, d1, f8, ⟨fun b a => ?_⟩, ⟨fun b => ?_⟩, f7, ⟨fun a ha he => by rw [HLf.out a ha he]; rfl⟩⟩
    ·by_cases e : b = (y : Int)
     ·subst e;rw [if_pos rfl, List.mem_append, HZ.out, HMem.out, List.mem_singleton];constructor
      ·rintro (⟨h1, h2, h3, h4⟩ | rfl)
       ·exact ⟨h1, h2, h3, by rw [h4]; rfl⟩
       ·exact ⟨nd_iff.2 hxn, HFin.out.2.2.2.1, HY.out, by simp⟩
      ·rintro ⟨h1, h2, h3, h4⟩;by_cases ea : a = (x : Int)
       ·exact .inr ea
       ·exact .inl ⟨h1, h2, h3, by simpa [ea] using h4⟩
     ·rw [if_neg e, HMem.out];constructor
      ·rintro ⟨h1, h2, h3, h4⟩;exact ⟨h1, h2, h3, by rw [h4]; rfl⟩
      ·rintro ⟨h1, h2, h3, h4⟩;have ea : a ≠ (x : Int) := fun ea => e (by rw [← h3, ea]; exact HY.out)
       exact ⟨h1, h2, h3, by simpa [ea] using h4⟩
    ·by_cases e : b = (y : Int)
     ·subst e;rw [if_pos rfl, List.nodup_append];refine ⟨by rw [HZ.out]; exact HNd.out _, by simp, fun a ha z hz e2 => ?_⟩;rw [HZ.out, HMem.out] at ha;have : z = (x : Int) := by simpa using hz
      rw [e2, this, HFin.out.2.1] at ha
      cases ha.2.2.2
     ·rw [if_neg e]; exact HNd.out b
   case measure =>
    rw [d1.out.left_eq, HGr.out.left_eq];exact HFin.out.2.2.2.2
  ·intro f1 b8
   have a4 := Aside0.mk (show ∀ b x, x ∈ xs b ↔ Nd n x ∧ X x = true ∧ gi p.block x = b from fun b x => by
    rw [HMem.out b x];refine ⟨fun h => ⟨h.1, h.2.1, h.2.2.1⟩, fun h => ⟨h.1, h.2.1, h.2.2, b8 x ?_⟩⟩;have h1 := h.1.1;have h2 := h.1.2;unfold i64in;omega)
   clear HGr HMem HLf f1 b8;go_wp2_with (at_range; refine wpList_grange _ intKB rfl _ 186 rfl 28 Try.underlying186 M c' g rfl HMt.out.gm ?_; intro w3 hgr hg hsz)
   go_frame
   obtain ⟨q, hq⟩ : ∃ q, q = wr.heap.size := ⟨_, rfl⟩
   rw [← hq] at hgr ⊢;have hbw : Below w.heap.size w w3 := a3.out.grown hg a3.out.size (fun k e => by cases e);have hqw : w.heap.size ≤ q := by rw [hq]; exact a3.out.size
   have hMw : w.heap.size ≤ M := HMt.out.low;have hMq : M < q := by rw [hq]; exact HMt.out.gm.lt_
   have hnb := HP.out.nb_le;have f4 : w0.heap.size ≤ w.heap.size := HB.out.size;obtain ⟨a6, a9⟩ : ∃ a6 : Nat → Cl, a6 = fun k => if k < w.heap.size then cls k else if k = M then .far 5000 else if k = q then .far 5001 else match dl k with | some b => .far b.toNat | none => .far 6000 := ⟨_, rfl⟩
   have d7 : ∀ k, k < w.heap.size → a6 k = cls k := fun k hk => by rw [a9]; show (if k < w.heap.size then cls k else _) = _; rw [if_pos hk]
   have hcM : a6 M = .far 5000 := by rw [a9]; show (if M < w.heap.size then cls M else if M = M then _ else _) = _; rw [if_neg (by omega), if_pos rfl]
   have hcq : a6 q = .far 5001 := by rw [a9]; show (if q < w.heap.size then cls q else if q = M then _ else if q = q then _ else _) = _; rw [if_neg (by omega), if_neg (by omega), if_pos rfl]
   have hcd : ∀ k b, w.heap.size ≤ k → k < q → dl k = some b → a6 k = .far b.toNat := fun k b h1 h2 h3 => by
    rw [a9];show (if k < w.heap.size then cls k else if k = M then _ else if k = q then _ else match dl k with | some b => Cl.far b.toNat | none => Cl.far 6000) = _;rw [if_neg (by omega), if_neg (by rintro rfl; rw [HMt.out.dm] at h3; cases h3), if_neg (by omega), h3]
   have HS3 := Aside0.mk (HS.out.stay (cls' := a6) (Kept.of_below hbw _) fun k hk _ => d7 k hk);have e6 := Aside0.mk (Fr.same (D := fun _ => False) (Kept.of_below hbw _) d7)
   have e9 := Aside0.mk (show ∀ b v, i64in b → g b = some v → IR w3 w0.heap.size a6 (.far b.toNat) v (xs b) from fun b v hb hv => by
    have h1 := Kd.R_bound (HMt.out.yes b v hb hv).2;have h2 := Kd.R_grown h1 hg (fun k _ e => by cases e);refine Kd.R_lower (Kd.R_mono h2 fun k hk => hcd k b hk.2.1 (by rw [hq]; exact hk.2.2.1) hk.1) f4)
   have HNe := Aside0.mk (show ∀ b v, i64in b → g b = some v → xs b ≠ [] from fun b v hb hv => (HMt.out.yes b v hb hv).1);have HOw := Aside0.mk (show ∀ b v, i64in b → g b = some v → ∀ k, v.ownBlock = some k → w.heap.size ≤ k from fun b v hb hv => Kd.R_base (HMt.out.yes b v hb hv).2)
   have HSp := Aside0.mk (SpI.start (X := X) (left := fun a => (g a).isSome) HP.out fun x hx hXx => by
    have h1 : x ∈ xs (gi p.block x) := (a4.out _ _).2 ⟨hx, hXx, rfl⟩
    cases hgx : g (gi p.block x) with
    | none =>
     have hbr := HP.out.br x hx;rw [HMt.out.no _ (by unfold i64in; have := hbr.1; have := hbr.2; omega) hgx] at h1
     cases h1
    | some v => rfl)
   have a2 := Aside0.mk (below_then HB.out HB.out.size hbw);have HGr := Aside0.mk hgr;have e1 := Aside0.mk (And.intro hcM hcq);have HLow := Aside0.mk (And.intro hqw hMw);clear hgr hg hsz hbw hqw hMw hMq f4 d7 hcM hcq hcd a9 hq HMt a3 HMe HrM
   go_loopw [] (fun wr => ∃ (left : Int → Bool) (cnt : Nat) (s' : Sg) (cl' : Nat → Cl) (p' : PSt) (wt' : Int → Bool),
    Aside0 (GR Try.prog 3 ik i64in wr M q g left cnt) ∧ Aside0 (SP w0.heap.size T wr cl' s') ∧ Aside0 (Std n v1 v2 s' p') ∧ Aside0 (SpI n X p p' left) ∧ Aside0 (StdW s' wt') ∧ Aside0 (Wt p' wt') ∧ Aside0 (Same0 s s') ∧ Aside0 (Fr w wr cls cl' fun _ => False) ∧
    Aside0 (∀ b v, i64in b → left b = true → g b = some v → IR wr w0.heap.size cl' (.far b.toNat) v (xs b)) ∧ Aside0 (cl' M = .far 5000 ∧ cl' q = .far 5001) ∧ Aside0 (Below w0.heap.size w0 wr)) (fun wr => wr.rangeLeft M q)
   case atStart => exact ⟨_, _, _, _, _, _, HGr, HS3, HD, HSp, HW, HWt, ⟨Same0.refl s⟩, e6, ⟨fun b v hb _ hv => e9.out b v hb hv⟩, e1, a2⟩
   case round =>
    clear HGr HS3 HSp e6 e9 e1 a2;obtain ⟨left, cnt, s', cl', p', wt', HGr, HS', HD', HSp, HW', HWt', HSm, HK, HRw, HC, HB'⟩ := hrel;go_wp2_with (at_next; refine wpList_gnext _ intKB rfl _ rfl M q g left cnt rfl HGr.out ?_ ?_)
    ·intro f1 b8;go_wp2
     go_end0
     refine ⟨rfl, s', cl', p', wt', HS'.out, HD'.out, HSp.out.pw, HW'.out, HWt'.out, fun x y hx hy => HSp.out.done (fun z hz => ?_) hx hy, HSp.out.j3, HSp.out.j4, HSm.out, HK.out, HB'.out⟩;have hbr := HP.out.br z hz;exact b8 _ (by unfold i64in; have := hbr.1; have := hbr.2; omega)
    ·intro y v w4 f9 hy hly hgy b0 hlt a7 hsz hen;obtain ⟨z, hz⟩ := List.exists_mem_of_ne_nil _ (HNe.out y v hy hgy);obtain ⟨f5, b4, a8⟩ := (a4.out y z).1 hz;obtain ⟨b, rfl, hbn⟩ := (show Nd p.blocks.length y by rw [← a8]; exact HP.out.br z f5).nat;have hbi : i64in (b : Int) := hy;obtain ⟨c5, b1⟩ := HC.out;have d3 : Kept wr w4 (fun k => k = q) := kept_grown a7 fun k e => by cases e; rfl
     have HS4 := Aside0.mk (HS'.out.stay (cls' := cl') (d3.mono fun k hk => by show (cl' k).own = false; rw [show k = q from hk, b1]; rfl) fun _ _ _ => rfl);have e7 := Aside0.mk (HK.out.step (cls2 := cl') (d3.mono fun k hk => .inr (by rw [show k = q from hk]; exact HLow.out.1)) fun _ _ _ e _ => e);have d9 := Aside0.mk (HB'.out.grown a7 HB'.out.size (fun k e => by cases e; exact Nat.le_trans HB.out.size HLow.out.1))
     have b5 := Aside0.mk (show ∀ b v, Nd p.blocks.length b → left b = true → g b = some v → IR w4 w0.heap.size cl' (.far b.toNat) v (xs b) from fun b v hb hl hv => by
      have hbr : i64in b := by unfold i64in; have := hb.1; have := hb.2; have := HP.out.nb_le; omega
      refine Kd.R_grown (HRw.out b v hbr hl hv) a7 fun k hk e => ?_
      cases e;have hk : cl' q = .far b.toNat := hk;rw [b1] at hk;have := Cl.far.inj hk;have := hb.2;have := HP.out.nb_le;omega)
     have a1 := Aside0.mk b0;have a5 := Aside0.mk (And.intro hly (And.intro hgy hlt));clear b0 hlt a7 hsz d3 hz f5 b4 a8 HS' HK HRw HB' HC;have hrow := b5.out (b : Int) v (nd_iff.2 hbn) hly hgy;rw [Int.toNat_natCast] at hrow;obtain ⟨zs, hzs⟩ : ∃ zs, zs = xs (b : Int) := ⟨_, rfl⟩
     rw [← hzs] at hrow;obtain ⟨Az, cz, hvz⟩ := Kd.R_slice hrow;subst hvz;have g7 := HSp.out.j5;have g8 := HSp.out.pw.nb_le;have hbs : s'.bs.length = p'.blocks.length := by rw [HD'.out.bs, HD'.out.bl]
     obtain ⟨gQ, cQ, hvQ, hcQ⟩ := HS4.out.slice (HS4.out .bs) (by rw [hbs]; omega);have t5 := HS4.out.cell 5 s'.vBs (by rw [HD'.out.tc]; rfl);rw [hvQ] at t5;have d5 : b < s'.bs.length := by rw [hbs]; omega
     have d4 : IR w4 w0.heap.size cl' (.bro b) (slV (s'.bsl.getD b nilL)) (s'.blocks.getD b []) := HS4.out (.bro b) (by rw [HD'.out.bl]; omega);obtain ⟨L, hL⟩ : ∃ L, L = s'.blocks.getD b [] := ⟨_, rfl⟩
     rw [← hL] at d4;obtain ⟨A1, c1, f3, _, _⟩ := Kd.R_reads d4;have q5 : w4.cell? ⟨gQ, b, none⟩ = some (.slice A1 L.length c1) := by rw [(hcQ b d5).1, HD'.out.bs, f3]
     have HL := Aside0.mk (show L = gl p'.blocks (b : Int) by rw [hL, HD'.out.blocks]; rfl);have HRz := Aside0.mk hrow;have HZs := Aside0.mk hzs;have HMz := Aside0.mk (show ∀ x, x ∈ zs ↔ Nd n x ∧ X x = true ∧ gi p.block x = (b : Int) from fun x => by rw [hzs]; exact a4.out (b : Int) x);have HNz := Aside0.mk (show zs.Nodup by rw [hzs]; exact HNd.out _);have e8 := Aside0.mk (show zs ≠ [] by rw [hzs]; exact HNe.out _ _ hbi hgy);clear hvQ hcQ d4 hL f3 hrow hzs hly hgy hbs;by_cases hqq : zs.length = L.length
     ·have h1 : ((zs.length : Int) == (L.length : Int)) = true := by rw [hqq]; simp
      have HE := Aside0.mk hqq;rw [hqq] at hen;clear hqq;go_wp2
      go_roundw
      case rel =>
       refine ⟨_, _, s', cl', p', wt', a1, HS4, HD', ⟨HSp.out.full (nd_iff.2 hbn) a5.out.1 HMz.out HNz.out HP.out (by rw [HE.out, HL.out])⟩, HW', HWt', HSm, e7, ⟨fun b2 v2 d5 b9 b3 => ?_⟩, ⟨c5, b1⟩, d9⟩;have d0 : left b2 = true := by simp at b9; exact b9.1
       obtain ⟨z2, b4⟩ := List.exists_mem_of_ne_nil _ (HNe.out b2 v2 d5 b3);have a8 := (a4.out b2 z2).1 b4;exact b5.out b2 v2 (by rw [← a8.2.2]; exact HP.out.br z2 a8.1) d0 b3
      case measure => rw [a1.out.left_eq, HGr.out.left_eq]; exact a5.out.2.2
     ·have h1 : ((zs.length : Int) == (L.length : Int)) = false := by simp; omega
      have h2 : decide ((zs.length : Int) = (L.length : Int)) = false := by simp; omega
      have HE := Aside0.mk hqq;clear hqq
      go_wp2_with (go_at_call 166; refine (cut_any w0 w4 HS4.out HD'.out HSp.out.pw HW'.out HWt'.out HRz.out (by omega) HNz.out (fun x hx => by rw [(HSp.out.j2 _ (nd_iff.2 hbn) a5.out.1).1]; exact (HP.out.bm _ (nd_iff.2 hbn) x).2 ⟨((HMz.out x).1 hx).1, ((HMz.out x).1 hx).2.2⟩) e8.out (by
       rw [← HL.out];have h3 := nodup_sub HNz.out (l' := gl p'.blocks (b : Int)) fun x hx => by rw [(HSp.out.j2 _ (nd_iff.2 hbn) a5.out.1).1]; exact (HP.out.bm _ (nd_iff.2 hbn) x).2 ⟨((HMz.out x).1 hx).1, ((HMz.out x).1 hx).2.2⟩
       rw [← HL.out] at h3;have := HE.out;omega) hn d9.out).mono ?_; rintro e w5 ⟨rfl, s5, g2, g5, g4, g6, g0, b7, g3⟩)
      have hoz : ∀ k, (Value.slice Az zs.length cz).ownBlock = some k → cl' k = .far b := HRz.out.1;have f0 := b7.blk (k := M) a1.out.mlt c5 (fun e => by have := hoz M e; rw [c5] at this; have := Cl.far.inj this; omega);have f2 := b7.blk (k := q) a1.out.lt_ b1 (fun e => by have := hoz q e; rw [b1] at this; have := Cl.far.inj this; omega);have e4 := Aside0.mk (a1.out.same f0.1 f2.1);go_roundw
      case rel =>
       refine ⟨_, _, s5, g2, _, _, e4, ⟨g5⟩, ⟨g4⟩, ⟨HSp.out.cut (nd_iff.2 hbn) a5.out.1 HMz.out HNz.out HP.out e8.out ?_⟩, ⟨g6⟩, ⟨HWt'.out.cut HSp.out.pw (nd_iff.2 (by omega))⟩, ⟨HSm.out.trans g0⟩, ⟨e7.out.trans b7 fun k hk => .inr (HOw.out _ _ hbi a5.out.2.1 k hk)⟩, ⟨fun b2 v2 hb2' b9 b3 => ?_⟩, ⟨f0.2, f2.2⟩, ⟨g3⟩⟩
       ·rw [← HL.out];have h3 := nodup_sub HNz.out (l' := gl p'.blocks (b : Int)) fun x hx => by rw [(HSp.out.j2 _ (nd_iff.2 hbn) a5.out.1).1]; exact (HP.out.bm _ (nd_iff.2 hbn) x).2 ⟨((HMz.out x).1 hx).1, ((HMz.out x).1 hx).2.2⟩
        rw [← HL.out] at h3;have := HE.out;omega
       ·have d0 : left b2 = true ∧ b2 ≠ (b : Int) := by simpa using b9
        obtain ⟨z2, b4⟩ := List.exists_mem_of_ne_nil _ (HNe.out b2 v2 hb2' b3);have a8 := (a4.out b2 z2).1 b4;have d6 : Nd p.blocks.length b2 := by rw [← a8.2.2]; exact HP.out.br z2 a8.1
        have hrw := b5.out b2 v2 d6 d0.1 b3;refine IR.fr hrw b7 fun k hk e => ?_
        have h5 := hoz k e;rw [hrw.1 k hk] at h5;have := Cl.far.inj h5;have := d6.1;exact d0.2 (by omega)
      case measure => rw [e4.out.left_eq, HGr.out.left_eq]; exact a5.out.2.2
end Go.Proofs.Ytmcbkmfpmcbdpaa.H
namespace Go.Proofs.Ytmcbkmfpmcbdpaa.H
open Go.RowKit Go.Proofs.Ytmcbkmfpmcbdpaa.Pr Go.Proofs.YtmcbkmfpmcbdpaaW.PrintWords Go.Proofs.Ytmcbkmfpmcbdpaa.Sem
open Go.Maps (Keyed)
open Go.WideElems Go.ChangeMaps
section
variable {α : Type} [DecidableEq α] {P : Program} {k : TypeId} {mk : α → Value} {lt : α → Lit} {ok : α → Prop}
theorem setBlock_size (w : World) (b : Nat) (o : Obj) : (setBlock w b o).heap.size = w.heap.size := by simp [setBlock]
theorem setBlock_grown {w : World} {b : Nat} {o : Obj} {es : Array MapEntry} {cl : Nat} (h : w.heap[b]? = some (.map es cl)) : w.grownBy (setBlock w b o) (some b) :=
 ⟨rfl, rfl, rfl, by simp [setBlock], fun i _ hi => heap_setBlock_other h _ (fun e => hi (by rw [e]))⟩
theorem GM.entry (B : KB P k mk lt ok) (KL : WideMaps.KeyLaw P k) {w : World} {m c : Nat} {f : α → Option Value} (h : GM P k lt ok w m f c) {a : α} (ha : ok a) {t e : TypeId} (ht : P.underlying t = some (.map k e)) {z : Value} (hz : ∀ u : World, (zeroValue e).run P u = .ok z u) (hn : c < maxLen) :
  ∃ v0 st w1, (Instr.mapEntry t (.map (some m)) (mk a)).run P w = .ok (.tuple #[v0, goInt st]) w1 ∧ w.grownBy w1 (some m) ∧ w1.heap.size = w.heap.size ∧ (Instr.lookup t (.map (some m)) (mk a) false).run P w1 = .ok ((f a).getD z) w1 ∧
   ∀ w2 val, w2.heap[m]? = w1.heap[m]? → ∃ w3, (Instr.entryStore t (.map (some m)) (goInt st) val).run P w2 = .ok () w3 ∧ GM P k lt ok w3 m (putM f a val) (if (f a).isSome then c else c + 1) ∧ w2.grownBy w3 (some m) ∧ w3.heap.size = w2.heap.size := by
 obtain ⟨D, ⟨es, clock, hb, F, hs, hD⟩, hsz, hH⟩ := id h;have hkey := B.key a ha;obtain ⟨v0, st, es1, clock1, hrun, hv0, hst⟩ := entry_then_store KL ht hz hb F hkey
 have hlook : (Instr.lookup t (.map (some m)) (mk a) false).run P (setBlock w m (.map es1 clock1)) = .ok ((f a).getD z) (setBlock w m (.map es1 clock1)) := by
  rcases KL.find w hkey es.toList F.keys with ⟨h1, h2⟩ | ⟨j, e0, h1, h2, h3⟩
  ·
   have e1 : Result.ok (Value.tuple #[z, goInt clock]) (setBlock w m (.map (es.push ⟨mk a, z, clock⟩) (clock + 1))) = Result.ok (Value.tuple #[v0, goInt st]) (setBlock w m (.map es1 clock1)) := by
    rw [← hrun];simp [Instr.mapEntry, run_underlying ht, MapKept.run_getObj_map hb, KL.check w false hkey, h1, hz, MapKept.run_setObj_map _ hb, Result.andThen, setBlock]
   obtain ⟨w1, hput, hg, _⟩ := h.put B ha (v := z) hn ht
   have e2 : Result.ok () (setBlock w m (.map (es.push ⟨mk a, z, clock⟩) (clock + 1))) = Result.ok () w1 := by
    rw [← hput];simp [Instr.mapUpdate, run_underlying ht, MapKept.run_getObj_map hb, KL.check w false hkey, h1, MapKept.run_setObj_map _ hb, Result.andThen, setBlock]
   have e3 : setBlock w m (.map es1 clock1) = w1 := by
    have a1 := (Result.ok.inj e1).2;have a2 := (Result.ok.inj e2).2;rw [← a1, a2]
   rw [e3];have h5 := hg.get B ha ht (hz w1)
   have h6 : (f a).getD z = z := by
    cases hfa : f a with
    | none => rfl
    | some u =>
     exfalso
     have h7 := (hH a ha).1;rw [hfa] at h7
     obtain ⟨v, hv⟩ : ∃ v, v ∈ es.toList ∧ v.key = mk a := by
      rw [hD] at h7;obtain ⟨p, hp, hpk⟩ := List.any_eq_true.1 h7;obtain ⟨x, hx, rfl⟩ := List.mem_map.1 (mem_sorted.1 hp);obtain ⟨y, hy⟩ := F.reads x hx;refine ⟨x, hx, ?_⟩;have e4 := WideAt.sameKey_eq hpk;rw [rg_of hy] at e4;have e5 := rd_key hy;rw [e4] at e5;exact B.K.inj e5 hkey
     exact h2 v hv.1 hv.2
   rw [h5, h6];unfold putM;rw [if_pos rfl];rfl
  ·
   have hj : es[j]? = some e0 := by simpa using h2
   have hsame : es.modify j (fun e => { e with key := mk a }) = es := by
    apply Array.ext';rw [Array.toList_modify, modify_eq_set _ _ _ _ h2];have : ({ e0 with key := mk a } : MapEntry) = e0 := by rw [← h3]
    rw [this];exact set_self _ _ _ h2
   have e1 : Result.ok (Value.tuple #[e0.val, goInt e0.born]) (setBlock w m (.map es clock)) = Result.ok (Value.tuple #[v0, goInt st]) (setBlock w m (.map es1 clock1)) := by
    rw [← hrun];simp [Instr.mapEntry, run_underlying ht, MapKept.run_getObj_map hb, KL.check w false hkey, h1, hj, h3, KL.stays w hkey, hsame, MapKept.run_setObj_map _ hb, Result.andThen, setBlock]
   rw [← (Result.ok.inj e1).2];exact (h.same ((heap_setBlock_same hb _).trans hb.symm)).get B ha ht (hz _)
 refine ⟨v0, st, _, hrun, setBlock_grown hb, setBlock_size _ _ _, hlook, fun w2 val hw2 => ?_⟩;obtain ⟨es', clock', hst1, hst2⟩ := hst w2 val (hw2.trans (heap_setBlock_same hb _));obtain ⟨w3', hput, hg, _, _⟩ := h.put B ha (v := val) hn ht;rw [hst2] at hput;have e3 : setBlock w m (.map es' clock') = w3' := (Result.ok.inj hput).2;have hb2 : w2.heap[m]? = some (.map es1 clock1) := hw2.trans (heap_setBlock_same hb _);refine ⟨_, hst1, hg.same ?_, setBlock_grown hb2, setBlock_size _ _ _⟩;rw [← e3, heap_setBlock_same hb2, heap_setBlock_same hb]
end
theorem pt_law : WideMaps.KeyLaw Try.prog 167 := deep_law_laid laid_out (m := 2) (by omega) (of_decide_eq_true (by kernel_rfl)) (by kernel_rfl) (by kernel_rfl)
theorem zeroI (w : World) : (zeroValue 3).run Try.prog w = .ok (.int .i64 0) w := by kernel_rfl
theorem run_gentry {op : Oper} {a : Act} {w w1 : World} {x y : Operand} {t m : Nat} {k u : Value} (ho : op.op = .mapEntry t x y) (hx : a.eval x = .map (some m)) (hy : a.eval y = k) (h : (Instr.mapEntry t (.map (some m)) k).run Try.prog w = .ok u w1) : (execOp a.eval op).run Try.prog w = .ok (.value u) w1 := by
 unfold execOp
 simp only [ho, hx, hy, Sem.run_bind, Sem.run_pure, h, Result.andThen_ok]
theorem run_gstore {op : Oper} {a : Act} {w w1 : World} {x y z : Operand} {t m : Nat} {k u : Value} (ho : op.op = .entryStore t x y z) (hx : a.eval x = .map (some m)) (hy : a.eval y = k) (hz : a.eval z = u) (h : (Instr.entryStore t (.map (some m)) k u).run Try.prog w = .ok () w1) : (execOp a.eval op).run Try.prog w = .ok .skip w1 := by
 unfold execOp
 simp only [ho, hx, hy, hz, Sem.run_bind, Sem.run_pure, h, Result.andThen_ok]
end Go.Proofs.Ytmcbkmfpmcbdpaa.H
namespace Go.Proofs.Ytmcbkmfpmcbdpaa.H
open Go.RowKit Go.Proofs.Ytmcbkmfpmcbdpaa.Pr Go.Proofs.YtmcbkmfpmcbdpaaW.PrintWords Go.Proofs.Ytmcbkmfpmcbdpaa.Sem Go.Proofs.YtmcbkmfpmcbdpaaW.PrintLast
def cntL (l : List Ed) (q : Int × Int) : Int := ((l.filter fun e => decide (e.f0 = q.1) && decide (e.f1 = q.2)).length : Nat)
def encZ (z : Int) : Option Value := if z = 0 then none else some (.int .i64 z)
theorem encZ_get (z : Int) : (encZ z).getD (.int .i64 0) = .int .i64 z := by
 unfold encZ
 split
 ·rename_i h; rw [h]; rfl
 ·rfl
theorem encZ_some {z : Int} : (encZ z).isSome = true ↔ z ≠ 0 := by
 unfold encZ
 split <;> simp_all
theorem cntL_nn (l : List Ed) (q : Int × Int) : 0 ≤ cntL l q ∧ cntL l q ≤ l.length := by
 unfold cntL
 have := List.length_filter_le (fun e : Ed => decide (e.f0 = q.1) && decide (e.f1 = q.2)) l
 omega
theorem cntL_snoc (l : List Ed) (e : Ed) (q : Int × Int) : cntL (l ++ [e]) q = if q = (e.f0, e.f1) then cntL l q + 1 else cntL l q := by
 unfold cntL
 rw [List.filter_append]
 by_cases h : q = (e.f0, e.f1)
 ·subst h
  simp
 ·rw [if_neg h]
  have : (decide (e.f0 = q.1) && decide (e.f1 = q.2)) = false := by
   cases hd : (decide (e.f0 = q.1) && decide (e.f1 = q.2)) with
   | false => rfl
   | true =>
    simp only [Bool.and_eq_true, decide_eq_true_eq] at hd
    exact absurd (Prod.ext hd.1.symm hd.2.symm) h
  simp [this]
theorem cntL_append (l m : List Ed) (q : Int × Int) : cntL (l ++ m) q = cntL l q + cntL m q := by
 unfold cntL
 rw [List.filter_append, List.length_append]
 omega
def intoL (es : List Ed) (L : List Int) : List Ed := L.flatMap fun x => es.filter fun e => decide (e.f2 = x)
theorem intoL_snoc (es : List Ed) (L : List Int) (x : Int) : intoL es (L ++ [x]) = intoL es L ++ es.filter fun e => decide (e.f2 = x) := by simp [intoL]
theorem intoL_len (es : List Ed) (L : List Int) : (intoL es L).length ≤ L.length * es.length := by
 unfold intoL
 induction L with
 | nil => simp
 | cons x r ih =>
  have := List.length_filter_le (fun e : Ed => decide (e.f2 = x)) es
  simp only [List.flatMap_cons, List.length_append, List.length_cons, Nat.succ_mul]
  omega
theorem cntL_into (es : List Ed) (q : Int × Int) : ∀ L : List Int, L.Nodup → cntL (intoL es L) q = cntE es (fun x => decide (x ∈ L)) q.1 q.2
 | [], _ => by
  have e : (es.filter fun e => decide (e.f0 = q.1) && decide (e.f1 = q.2) && decide (e.f2 ∈ ([] : List Int))) = [] := List.filter_eq_nil_iff.2 fun e _ => by simp
  unfold cntL cntE
  rw [e]
  rfl
 | x :: r, h => by
  obtain ⟨h1, h2⟩ := List.nodup_cons.1 h
  have ih := cntL_into es q r h2
  rw [show intoL es (x :: r) = (es.filter fun e => decide (e.f2 = x)) ++ intoL es r from rfl, cntL_append, ih]
  unfold cntL cntE
  rw [List.filter_filter]
  have e1 := len_split (fun e : Ed => decide (e.f0 = q.1) && decide (e.f1 = q.2) && decide (e.f2 ∈ x :: r)) (fun e => decide (e.f2 = x)) es
  have e2 : (es.filter fun e => (decide (e.f0 = q.1) && decide (e.f1 = q.2) && decide (e.f2 ∈ x :: r)) && decide (e.f2 = x)) = es.filter fun e => decide (e.f0 = q.1) && decide (e.f1 = q.2) && decide (e.f2 = x) := by
   refine List.filter_congr fun e _ => ?_
   by_cases hx : e.f2 = x <;> simp [hx]
  have e3 : (es.filter fun e => (decide (e.f0 = q.1) && decide (e.f1 = q.2) && decide (e.f2 ∈ x :: r)) && !decide (e.f2 = x)) = es.filter fun e => decide (e.f0 = q.1) && decide (e.f1 = q.2) && decide (e.f2 ∈ r) := by
   refine List.filter_congr fun e _ => ?_
   by_cases hx : e.f2 = x
   ·subst hx; simp [h1]
   ·simp [hx]
  rw [e2, e3] at e1;show ((es.filter fun e => decide (e.f0 = q.1) && decide (e.f1 = q.2) && decide (e.f2 = x)).length : Int) + ((es.filter fun e => decide (e.f0 = q.1) && decide (e.f1 = q.2) && decide (e.f2 ∈ r)).length : Int) = ((es.filter fun e => decide (e.f0 = q.1) && decide (e.f1 = q.2) && decide (e.f2 ∈ x :: r)).length : Int);omega
theorem cnt_le2 {w : World} {m c : Nat} {f : Int × Int → Option Value} {l : List Ed} (h : G2 w m f c) (hf : ∀ q, ptOk q → f q = encZ (cntL l q)) : c ≤ l.length := by
 have := h.count_le ptKB (l.map fun e => (e.f0, e.f1)) fun q hq hs => by
  rw [hf q hq] at hs
  have h1 := encZ_some.1 hs
  unfold cntL at h1
  have h2 : (l.filter fun e => decide (e.f0 = q.1) && decide (e.f1 = q.2)) ≠ [] := fun e => h1 (by rw [e]; rfl)
  obtain ⟨e, he⟩ := List.exists_mem_of_ne_nil _ h2
  obtain ⟨h3, h4⟩ := List.mem_filter.1 he
  simp only [Bool.and_eq_true, decide_eq_true_eq] at h4
  exact List.mem_map.2 ⟨e, h3, Prod.ext h4.1 h4.2⟩
 simpa using this
theorem slR {base e : Nat} {w : World} {okp : Nat → Prop} {v : Value} {xs : List Sl} (hR : kSl.R e w base okp v xs) (h0 : 0 < xs.length) : ∃ g c0, v = .slice (some ⟨g, 0, none⟩) xs.length c0 ∧ ∀ i, i < xs.length → w.cell? ⟨g, i, none⟩ = some (slV (xs.getD i nilL)) ∧ w.frozen? ⟨g, i, none⟩ = false := by
 obtain ⟨g, c0, e, _⟩ := Kd.R_form hR h0
 refine ⟨g, c0, e, fun i hi => ?_⟩
 subst e
 have := Kd.R_cell nilL hR (i : Int) (by omega) (by omega)
 simpa [rdOf] using this
theorem cell_keep {W w5 : World} {M E i : Nat} {u : Value} (hg : W.grownBy w5 (some M)) (hne : M < E) (h : W.cell? ⟨E, i, none⟩ = some u) : w5.cell? ⟨E, i, none⟩ = some u :=
 cell_kept h (kept_grown (S := fun k => k = M) hg fun k e => by cases e; rfl) (by show ¬ E = M; omega)
theorem cell_keep2 {W w5 : World} {M E i : Nat} {u : Value} (hg : W.grownBy w5 (some M)) (hne : E ≠ M) (h : W.cell? ⟨E, i, none⟩ = some u) : w5.cell? ⟨E, i, none⟩ = some u :=
 cell_kept h (kept_grown (S := fun k => k = M) hg fun k e => by cases e; rfl) hne
theorem GM.alloc_ {α : Type} [DecidableEq α] {P : Program} {k : TypeId} {lt : α → Lit} {ok : α → Prop} {w : World} {m c : Nat} {f : α → Option Value} (h : GM P k lt ok w m f c) (o : Obj) : GM P k lt ok (w.alloc o) m f c := h.below (below_alloc (Below.refl _ _) o)
theorem zeroM (w : World) : (zeroValue 165).run Try.prog w = .ok (.map none) w := by kernel_rfl
theorem look_eq {α : Type} [DecidableEq α] {P : Program} {k : TypeId} {mk : α → Value} {lt : α → Lit} {ok : α → Prop} (B : KB P k mk lt ok) {w : World} {m c : Nat} {f : α → Option Value} (h : GM P k lt ok w m f c) {a : α} (ha : ok a) {t e : TypeId} (ht : P.underlying t = some (.map k e)) {z : Value} (hz : (zeroValue e).run P w = .ok z w) {v : Value} (hv : (f a).getD z = v) :
  (Instr.lookup t (.map (some m)) (mk a) false).run P w = .ok v w := hv ▸ h.get B ha ht hz
structure StdI (n : Nat) (es : List Ed) (s : Sg) : Prop where
  len : s.is.length = n
  ins : ∀ i, i < n → s.ins.getD i [] = es.filter fun e => decide (e.f2 = (i : Int))
structure StdC (es : List Ed) (s : Sg) (N : Nat) (H : Int → Int) : Prop where
  ln : s.cm.length = N
  fC : ∀ h, i64in h → s.fC h = if decide (0 ≤ h) && decide (h < (N : Int)) then some (.map (some (s.cm.getD h.toNat 0))) else none
  fc : ∀ i, i < N → ∀ q, ptOk q → s.fc i q = encZ (cntE es (fun x => decide (H x = (i : Int))) q.1 q.2)
  cc : ∀ i, i < N → s.cc i ≤ es.length
theorem R_at {α : Type} {enc : α → Value} {h1 : ∀ x, (enc x).oneCell' = true} {e : Nat} {w : World} {base g : Nat} {ok : Nat → Prop} {xs : List α} (hg : w.heap[g]? = some (.cells (xs.map enc).toArray e (0, 0))) (hb : base ≤ g) (hl : xs.length ≤ 9223372036854775807) (hok : ok g) : (Kd.scalar enc h1).R e w base ok (.slice (some ⟨g, 0, none⟩) xs.length xs.length) xs := by
 refine Kd.R_of_own ⟨by simp [encs], .inr ⟨g, xs.length, (xs.map enc).toArray, rfl, hb, hg, Nat.le_refl _, by simpa [maxLen] using hl, by simp, ?_⟩⟩ fun k hk => ?_
 ·simp [encs]
  exact List.take_of_length_le (by simp)
 ·have : g = k := by simpa [Value.ownBlock] using hk
  exact this ▸ hok
theorem IR_at {w : World} {base g : Nat} {ok : Nat → Prop} {xs : List Int} (hg : w.heap[g]? = some (.cells (xs.map (Value.int .i64)).toArray 3 (0, 0))) (hb : base ≤ g) (hl : xs.length ≤ 9223372036854775807) (hok : ok g) : Kd.R (Kd.int .i64) 3 w base ok (.slice (some ⟨g, 0, none⟩) xs.length xs.length) xs := R_at (enc := Value.int .i64) (h1 := fun _ => rfl) hg hb hl hok
theorem SR_at {w : World} {base g t : Nat} {ok : Nat → Prop} {xs : List Sl} (hg : w.heap[g]? = some (.cells (xs.map slV).toArray t (0, 0))) (hb : base ≤ g) (hl : xs.length ≤ 9223372036854775807) (hok : ok g) : Kd.R kSl t w base ok (.slice (some ⟨g, 0, none⟩) xs.length xs.length) xs := R_at (enc := slV) (h1 := fun _ => rfl) hg hb hl hok
def insL (n : Nat) (es : List Ed) : List (List Ed) := (List.range n).map fun i : Nat => es.filter fun e => decide (e.f2 = (i : Int))
theorem insL_len (n : Nat) (es : List Ed) : (insL n es).length = n := by simp [insL]
theorem insL_at (es : List Ed) {n i : Nat} (hi : i < n) : (insL n es).getD i [] = es.filter fun e => decide (e.f2 = (i : Int)) := by
 unfold insL
 simp [List.getD_eq_getElem?_getD, List.getElem?_map, List.getElem?_range, hi]
theorem insL_snoc (es : List Ed) (e : Ed) {n i : Nat} (hi : i < n) (he : e.f2 = (i : Int)) : insL n (es ++ [e]) = (insL n es).set i ((insL n es).getD i [] ++ [e]) := by
 apply List.ext_getElem
 ·simp [insL]
 ·intro j h1 h2
  have hj : j < n := by simpa [insL] using h1
  have hG := insL_at es hi
  generalize (insL n es).getD i [] = G at hG h2 ⊢
  subst hG
  rw [List.getElem_set]
  simp only [insL, List.getElem_map, List.getElem_range, List.filter_append]
  by_cases e2 : i = j
  ·subst e2
   simp [he]
  ·rw [if_neg e2]
   have : ¬ ((i : Int) = (j : Int)) := by omega
   simp [he, this]
theorem insL_nil (n : Nat) : insL n [] = List.replicate n [] := by
 apply List.ext_getElem
 ·simp [insL]
 ·intro i h1 h2; simp [insL]
structure BegI (base T gI mA : Nat) (w : World) (cls : Nat → Cl) (s : Sg) (vs : List Value) (xss : List (List Ed)) (f : Int × Int → Option Value) (c : Nat) : Prop where
  parts : ∀ c, c ≠ .mc → c ≠ .tab → c ≠ .tro → Part base T w cls s c
  tab : Tab k80 80 23 w base gI vs xss
  gI : cls gI = .tab
  rows : ∀ i k, i < vs.length → (vs.getD i nilS).ownBlock = some k → cls k = .tro
  all : G2 w mA f c
  far : cls mA = .far 300
section
variable {base T gI mA : Nat} {w w1 : World} {cls : Nat → Cl} {s : Sg} {vs : List Value} {xss : List (List Ed)} {f : Int × Int → Option Value} {c : Nat}
theorem BegI.below (h : BegI base T gI mA w cls s vs xss f c) (hb : Below w.heap.size w w1) : BegI base T gI mA w1 cls s vs xss f c :=
 ⟨fun c h1 h2 h3 => Part.move (C := fun _ => False) (h.parts c h1 h2 h3) (Kept.of_below hb _) id fun _ _ e => e, h.tab.below hb, h.gI, h.rows, h.all.below hb, h.far⟩
theorem BegI.app (h : BegI base T gI mA w cls s vs xss f c) {i : Nat} (hi : i < xss.length) {x : Ed} {w3 : World} {v1 : Value} (ho : Kd.R k80 80 w3 base (fun _ => True) v1 (xss.getD i [] ++ [x]))
  (hg : w.grownBy w3 (vs.getD i nilS).ownBlock) (hat : v1.ownBlock = (vs.getD i nilS).ownBlock ∨ ∃ b, v1.ownBlock = some b ∧ w.heap.size ≤ b) : BegI base T gI mA (w3.setCell ⟨gI, i, none⟩ v1) (up cls v1 .tro) s (vs.set i v1) (xss.set i (xss.getD i [] ++ [x])) f c := by
 have hi' : i < vs.length := by rw [h.tab.len]; exact hi
 have hrow : ∀ k, (vs.getD i nilS).ownBlock = some k → cls k = .tro := fun k hk => h.rows i k hi' hk
 have hk1 := up_keep (c := .tro) hat hrow;have hK1 : Kept w w3 (fun k => cls k = .tro) := kept_grown hg hrow;have hK : Kept w (w3.setCell ⟨gI, i, none⟩ v1) (fun k => cls k = .tro ∨ cls k = .tab) := (hK1.mono fun k hk => .inl hk).setCell (.inl (.inr h.gI)) v1
 refine ⟨fun c h1 h2 h3 => Part.move (C := fun c => c = .tro ∨ c = .tab) (h.parts c h1 h2 h3) hK (by rintro (e | e); exact h3 e; exact h2 e) fun k hk e => by rw [hk1 k hk]; exact e,
  h.tab.put rfl (by decide) i hi ho hg hat, by rw [hk1 gI h.tab.lt]; exact h.gI, fun j k hj hk => ?_, h.all.same (hK.2 mA h.all.lt_ (by show ¬ (cls mA = _ ∨ cls mA = _); rw [h.far]; simp)), by rw [hk1 mA h.all.lt_]; exact h.far⟩
 have hj' : j < vs.length := by simpa using hj
 rw [gD_set _ _ _ _ _ hi'] at hk;by_cases e : v1.ownBlock = some k
 ·exact up_self e
 ·rw [up_ne e];by_cases ej : j = i
  ·rw [if_pos ej] at hk; exact absurd hk e
  ·rw [if_neg ej] at hk; exact h.rows j k hj' hk
theorem BegI.count (h : BegI base T gI mA w cls s vs xss f c) {f' : Int × Int → Option Value} {c' : Nat} (hm : G2 w1 mA f' c') (hg : w.grownBy w1 (some mA)) : BegI base T gI mA w1 cls s vs xss f' c' := by
 obtain ⟨es, cl, hb⟩ := h.all.blk
 refine ⟨fun c h1 h2 h3 => ?_, h.tab.grown rfl hb (fun _ _ _ e => by cases e) hg, h.gI, h.rows, hm, h.far⟩
 by_cases e : c = .far 300
 ·subst e; trivial
 ·exact Part.move (C := fun c => c = .far 300) (h.parts c h1 h2 h3) (kept_grown hg fun k e => by cases e; exact h.far) e fun _ _ e => e
theorem BegI.tt (h : BegI base T gI mA w cls s vs xss f c) : w.heap[T]? = some (.cells s.tc.toArray 90 (0, 0)) ∧ cls T = .tt ∧ base ≤ T := h.parts .tt (by simp) (by simp) (by simp)
def toSl : Value → Sl
 | .slice a l c => (a, l, c)
 | _ => nilL
theorem tab_sl (h : Tab k80 80 23 w base gI vs xss) : (vs.map toSl).map slV = vs := by
 rw [List.map_map]
 apply List.ext_getElem
 ·simp
 ·intro i h1 h2
  obtain ⟨A, c, hv, _⟩ := Kd.R_reads (h.row i h2)
  have hv2 : vs[i] = vs.getD i nilS := by simp [List.getD_eq_getElem?_getD, List.getElem?_eq_getElem h2]
  rw [hv] at hv2
  simp only [List.getElem_map, Function.comp]
  rw [hv2]
  rfl
theorem toSl_at (h : Tab k80 80 23 w base gI vs xss) (i : Nat) (hi : i < vs.length) : slV ((vs.map toSl).getD i nilL) = vs.getD i nilS := by
 obtain ⟨A, c, hv, _⟩ := Kd.R_reads (h.row i hi)
 have e : (vs.map toSl).getD i nilL = toSl (vs.getD i nilS) := by simp [List.getD_eq_getElem?_getD, List.getElem?_eq_getElem hi]
 rw [e, hv]
 rfl
def clF (cls : Nat → Cl) (gQ gN mC mA : Nat) : Nat → Cl := fun k => if k = gQ then .bs else if k = gN then .bro 0 else if k = mC then .mc else if k = mA then .cmp 0 else cls k
theorem Part.lower {base' : Nat} {c : Cl} (h : Part base T w cls s c) (hb : base' ≤ base) : Part base' T w cls s c := by
 cases c with
 | tt => exact ⟨h.1, h.2.1, Nat.le_trans hb h.2.2⟩
 | blk => exact Kd.R_lower h hb
 | hp => exact Kd.R_lower h hb
 | bs => exact Kd.R_lower h hb
 | hs => exact Kd.R_lower h hb
 | tab => exact Kd.R_lower h hb
 | tro => exact fun i hi => Kd.R_lower (h i hi) hb
 | bro i => exact fun hi => Kd.R_lower (h hi) hb
 | hro i => exact fun hi => Kd.R_lower (h hi) hb
 | mc => exact ⟨h.1, h.2.1, Nat.le_trans hb h.2.2⟩
 | mw => exact ⟨h.1, h.2.1, Nat.le_trans hb h.2.2⟩
 | cmp i => exact fun hi => ⟨(h hi).1, (h hi).2.1, Nat.le_trans hb (h hi).2.2⟩
 | far j => trivial
theorem SP.lower {base' : Nat} (h : SP base T w cls s) (hb : base' ≤ base) : SP base' T w cls s := fun c => (h c).lower hb
theorem BegI.fin (h : BegI base T gI mA w cls s vs xss f c) (hb0 : base ≤ gI) (hmb : base ≤ mA) (hwb : base ≤ w.heap.size) (hvl : vs.length ≤ 9223372036854775807) {W : World} (hK : Kept w W fun k => k = T) (hT0 : cls T = .tt) {tc : List Value} (hT : W.heap[T]? = some (.cells tc.toArray 90 (0, 0))) (hTb : base ≤ T)
  {gN gQ mC : Nat} {nodes : List Int} {cN : Nat} (hN : Kd.R (Kd.int .i64) 3 W base (fun k => k = gN) (.slice (some ⟨gN, 0, none⟩) nodes.length cN) nodes) (hgN : w.heap.size ≤ gN)
  (hQ : W.heap[gQ]? = some (.cells #[.slice (some ⟨gN, 0, none⟩) nodes.length cN] 28 (0, 0))) (hgQ : w.heap.size ≤ gQ) {fC : Int → Option Value} (hC : G1 W mC fC 1) (hmC : w.heap.size ≤ mC) (d1 : gQ ≠ gN) (d2 : mC ≠ gN) (d3 : mC ≠ gQ)
  (hbs : s.bsl = []) (hcm : s.cm = []) :
  SP base T W (clF cls gQ gN mC mA)
   { s with tc := tc, vI := .slice (some ⟨gI, 0, none⟩) vs.length vs.length, is := vs.map toSl, ins := xss, vBs := .slice (some ⟨gQ, 0, none⟩) 1 1, bs := [(some ⟨gN, 0, none⟩, nodes.length, cN)], bsl := [(some ⟨gN, 0, none⟩, nodes.length, cN)], blocks := [nodes], mC := mC, fC := fC, cC := 1, cm := [mA], fc := fun _ => f, cc := fun _ => c } := by
 have hmw := h.all.lt_;have hgw := h.tab.lt;have hTw : T < w.heap.size := blk_lt (h.parts .tt (by simp) (by simp) (by simp)).1
 have hcl : ∀ k, k < w.heap.size → k ≠ mA → clF cls gQ gN mC mA k = cls k := fun k hk hne => by
  show (if k = gQ then Cl.bs else if k = gN then .bro 0 else if k = mC then .mc else if k = mA then .cmp 0 else cls k) = cls k;rw [if_neg (by omega), if_neg (by omega), if_neg (by omega), if_neg hne]
 have hTm : T ≠ mA := fun e => by rw [e, h.far] at hT0; cases hT0
 have hIm : gI ≠ mA := fun e => by have := h.gI; rw [e, h.far] at this; cases this
 have hTI : gI ≠ T := fun e => by have := h.gI; rw [e, hT0] at this; cases this
 have a0 : Kept w W fun k => cls k = .tt := hK.mono fun k hk => by rw [show k = T from hk]; exact hT0
 have mv : ∀ c, c ≠ .mc → c ≠ .tab → c ≠ .tro → c ≠ .tt → c ≠ .far 300 → Part base T W (clF cls gQ gN mC mA) s c := fun c h1 h2 h3 h4 h5 =>
  Part.move (C := fun c => c = .tt) (h.parts c h1 h2 h3) a0 h4 fun k hk e => by rw [hcl k hk (fun e2 => h5 (by rw [← e, e2, h.far]))]; exact e
 intro c
 cases c with
 | tt => exact ⟨hT, by rw [hcl T hTw hTm]; exact hT0, hTb⟩
 | blk => exact mv .blk (by simp) (by simp) (by simp) (by simp) (by simp)
 | hp => exact mv .hp (by simp) (by simp) (by simp) (by simp) (by simp)
 | hs => exact mv .hs (by simp) (by simp) (by simp) (by simp) (by simp)
 | mw => exact mv .mw (by simp) (by simp) (by simp) (by simp) (by simp)
 | hro i => exact mv (.hro i) (by simp) (by simp) (by simp) (by simp) (by simp)
 | far j => trivial
 | mc => exact ⟨by show (if mC = gQ then Cl.bs else if mC = gN then .bro 0 else if mC = mC then .mc else _) = _; rw [if_neg d3, if_neg d2, if_pos rfl], hC, by show base ≤ mC; omega⟩
 | bs =>
  show Kd.R kSl 28 W base _ (.slice (some ⟨gQ, 0, none⟩) 1 1) [(some ⟨gN, 0, none⟩, nodes.length, cN)];exact SR_at (xs := [(some ⟨gN, 0, none⟩, nodes.length, cN)]) hQ (by omega) (by simp) (by show (if gQ = gQ then _ else _) = _; rw [if_pos rfl])
 | bro i =>
  intro hi
  have hi : i = 0 := by
   have : i < [((some ⟨gN, 0, none⟩, nodes.length, cN) : Sl)].length := hi;simpa using this
  subst hi;show Kd.R (Kd.int .i64) 3 W base _ (.slice (some ⟨gN, 0, none⟩) nodes.length cN) nodes
  exact Kd.R_mono hN fun k hk => by
   rw [show k = gN from hk];show (if gN = gQ then Cl.bs else if gN = gN then .bro 0 else _) = _;rw [if_neg (Ne.symm d1), if_pos rfl]
 | cmp i =>
  intro hi
  have hi : i = 0 := by
   have : i < [mA].length := hi;simpa using this
  subst hi;show (if mA = gQ then Cl.bs else if mA = gN then .bro 0 else if mA = mC then .mc else if mA = mA then .cmp 0 else _) = .cmp 0 ∧ G2 W mA f c ∧ base ≤ mA;rw [if_neg (by omega), if_neg (by omega), if_neg (by omega), if_pos rfl];exact ⟨rfl, h.all.same (hK.2 mA hmw (Ne.symm hTm)), hmb⟩
 | tab =>
  show Kd.R kSl 23 W base _ (.slice (some ⟨gI, 0, none⟩) vs.length vs.length) (vs.map toSl);have h1 := SR_at (w := W) (base := base) (g := gI) (t := 23) (xs := vs.map toSl) (ok := fun k => clF cls gQ gN mC mA k = .tab) (by rw [tab_sl h.tab, hK.2 gI hgw hTI]; exact h.tab.blk) hb0 (by simpa using hvl) (by rw [hcl gI hgw hIm]; exact h.gI);simpa using h1
 | tro =>
  intro i hi;have hi : i < vs.length := by simpa using hi
  show Kd.R _ _ W base _ (slV ((vs.map toSl).getD i nilL)) (xss.getD i []);rw [toSl_at h.tab i hi];have h1 := Kd.R_bound (Kd.R_tight2 (e := 80) (d := k80) rfl (h.tab.row i hi));have hc : ∀ k, (vs.getD i nilS).ownBlock = some k → cls k = .tro := fun k hk => h.rows i k hi hk
  refine Kd.R_mono (Kd.R_move h1 fun k hk => hK.2 k hk.2.2.1 fun e => ?_) fun k hk => ?_
  ·have := hc k hk.1.1.symm;rw [show k = T from e, hT0] at this
   cases this
  ·have h2 := hc k hk.1.1.symm;rw [hcl k hk.2.2.1 (fun e => by rw [e, h.far] at h2; cases h2)];exact h2
end
theorem GM.at_ {α : Type} [DecidableEq α] {P : Program} {k : TypeId} {lt : α → Lit} {ok : α → Prop} {w : World} {m : Nat} (hb : w.heap[m]? = some (.map #[] 0)) : GM P k lt ok w m (fun _ => none) 0 := by
 have hl : m < w.heap.size := blk_lt hb
 obtain ⟨u, hu⟩ : ∃ u : World, u.heap.size = m := ⟨{ w with heap := w.heap.extract 0 m }, by simp; omega⟩
 have h := GM.made P k lt ok u
 have h2 := blk_new u (.map #[] 0)
 rw [hu] at h h2
 exact h.same (by rw [hb, h2])
def litO (n : Nat) (s : Nat → Nat) (i : Nat) : Obj :=
 if i = 3 then .cells (madeCells #[.slice none 0 0] n) 23 else if i = 6 then .cells (madeCells #[.int .i64 0] n) 3 else if i = 7 then .cells #[.int .i64 0] 3 else if i = 8 then .cells #[.int .i64 0] 3
 else if i = 9 then .cells #[.slice (some ⟨s 8, 0, none⟩) 1 1] 28 else .map #[] 0
def needZ (i : Nat) : List Nat := if i = 9 then [8] else []
theorem litO_up (n : Nat) (s : Nat → Nat) (i j b : Nat) (h : i ∉ needZ j) : litO n (upS s i b) j = litO n s j := by
 unfold litO
 by_cases e : j = 9
 ·subst e
  have : upS s i b 8 = s 8 := upS_ne _ _ (by intro e; apply h; simp [needZ, e])
  rw [this]
 ·simp [e]
def slotZ (i : Nat) : Tmp := if i = 3 then 15 else if i = 6 then 18 else if i = 7 then 19 else if i = 8 then 20 else if i = 9 then 21 else 22
def valZ (n : Nat) (s : Nat → Nat) (i : Nat) : Value := if i = 3 ∨ i = 6 then .slice (some ⟨s i, 0, none⟩) n n else if i = 10 then .map (some (s i)) else .slice (some ⟨s i, 0, none⟩) 1 1
theorem slotZ_le (i : Nat) : slotZ i ≤ 22 := by unfold slotZ; (repeat' split) <;> decide
theorem valZ_up (n : Nat) (s : Nat → Nat) (i j b : Nat) (h : j ≠ i) : valZ n (upS s i b) j = valZ n s j := by unfold valZ; rw [upS_ne _ _ h]
def sgZ (n : Nat) (g : Nat → Nat) (v1 v2 : Value) : Sg where
 tc := [.int .i64 n, v1, v2, .slice (some ⟨g 3, 0, none⟩) n n, .slice (some ⟨g 6, 0, none⟩) n n, .slice none 0 0, .slice (some ⟨g 7, 0, none⟩) 1 1, .slice (some ⟨g 9, 0, none⟩) 1 1, .map none, .map (some (g 10)), .int .i64 0]
 vI := .slice none 0 0
 is := []
 ins := []
 vB := .slice (some ⟨g 6, 0, none⟩) n n
 block := List.replicate n 0
 vBs := .slice none 0 0
 bs := []
 bsl := []
 blocks := []
 vH := .slice (some ⟨g 7, 0, none⟩) 1 1
 heap := [0]
 vHs := .slice (some ⟨g 9, 0, none⟩) 1 1
 hs := [(some ⟨g 8, 0, none⟩, 1, 1)]
 hsl := [(some ⟨g 8, 0, none⟩, 1, 1)]
 heaps := [[0]]
 mC := 0
 fC := fun _ => none
 cC := 0
 cm := []
 fc := fun _ _ => none
 cc := fun _ => 0
 mW := g 10
 fW := fun _ => none
 cW := 0
noncomputable def clZ (g : Nat → Nat) (T : Nat) : Nat → Cl := fun k => if k = T then .tt else if k = g 3 then .tab else if k = g 6 then .blk else if k = g 7 then .hp else if k = g 8 then .hro 0 else if k = g 9 then .hs else if k = g 10 then .mw else .far 300
theorem made_rep (z : Value) (n : Nat) : madeCells #[z] n = (List.replicate n z).toArray := Array.ext' (by rw [toList_madeCells_one])
theorem BegI.start {n : Nat} {V W : World} {g : Nat → Nat} {base : Nat} {v1 v2 : Value} (h : BegL (litO n) V [3, 6, 7, 8, 9, 10] g W) (hb : base ≤ V.heap.size) (hn : n ≤ 2048) :
  BegI base W.heap.size (g 3) (W.heap.size + 1) ((W.alloc (.cells (sgZ n g v1 v2).tc.toArray 90)).alloc (.map #[] 0)) (clZ g W.heap.size) (sgZ n g v1 v2) (List.replicate n nilS) (insL n []) (fun _ => none) 0 := by
 obtain ⟨hB, hL⟩ := h;have hlt : ∀ i ∈ [3, 6, 7, 8, 9, 10], g i < W.heap.size := fun i hi => blk_lt (hL i hi).2.1
 have hbb : ∀ i ∈ [3, 6, 7, 8, 9, 10], base ≤ g i := fun i hi => Nat.le_trans hb (hL i hi).1
 have hne : ∀ i ∈ [3, 6, 7, 8, 9, 10], ∀ j ∈ [3, 6, 7, 8, 9, 10], i ≠ j → g i ≠ g j := fun i hi j hj e h2 => e ((hL i hi).2.2 j hj h2)
 have hbl : Below W.heap.size W ((W.alloc (.cells (sgZ n g v1 v2).tc.toArray 90)).alloc (.map #[] 0)) := below_alloc (below_alloc (Below.refl _ _) _) _;have blk : ∀ i ∈ [3, 6, 7, 8, 9, 10], ((W.alloc (.cells (sgZ n g v1 v2).tc.toArray 90)).alloc (.map #[] 0)).heap[g i]? = some (litO n g i) := fun i hi => blk_below (hL i hi).2.1 hbl
 have cl : ∀ k, clZ g W.heap.size k = if k = W.heap.size then Cl.tt else if k = g 3 then .tab else if k = g 6 then .blk else if k = g 7 then .hp else if k = g 8 then .hro 0 else if k = g 9 then .hs else if k = g 10 then .mw else .far 300 := fun k => rfl
 have l3 := hlt 3 (by decide);have l6 := hlt 6 (by decide);have l7 := hlt 7 (by decide);have l8 := hlt 8 (by decide);have l9 := hlt 9 (by decide);have b1 := hlt 10 (by decide);have a1 := hne 6 (by decide) 3 (by decide) (by decide);have a2 := hne 7 (by decide) 3 (by decide) (by decide);have a3 := hne 7 (by decide) 6 (by decide) (by decide);have a4 := hne 8 (by decide) 3 (by decide) (by decide);have a5 := hne 8 (by decide) 6 (by decide) (by decide);have a6 := hne 8 (by decide) 7 (by decide) (by decide);have a7 := hne 9 (by decide) 3 (by decide) (by decide);have a8 := hne 9 (by decide) 6 (by decide) (by decide);have a9 := hne 9 (by decide) 7 (by decide) (by decide);have b0 := hne 9 (by decide) 8 (by decide) (by decide);have m3 := hne 10 (by decide) 3 (by decide) (by decide);have m6 := hne 10 (by decide) 6 (by decide) (by decide);have m7 := hne 10 (by decide) 7 (by decide) (by decide);have m8 := hne 10 (by decide) 8 (by decide) (by decide);have m9 := hne 10 (by decide) 9 (by decide) (by decide);have c3 : clZ g W.heap.size (g 3) = .tab := by rw [cl, if_neg (by omega), if_pos rfl]
 have c6 : clZ g W.heap.size (g 6) = .blk := by rw [cl, if_neg (by omega), if_neg a1, if_pos rfl]
 have c7 : clZ g W.heap.size (g 7) = .hp := by rw [cl, if_neg (by omega), if_neg a2, if_neg a3, if_pos rfl]
 have c8 : clZ g W.heap.size (g 8) = .hro 0 := by rw [cl, if_neg (by omega), if_neg a4, if_neg a5, if_neg a6, if_pos rfl]
 have c9 : clZ g W.heap.size (g 9) = .hs := by rw [cl, if_neg (by omega), if_neg a7, if_neg a8, if_neg a9, if_neg b0, if_pos rfl]
 have c10 : clZ g W.heap.size (g 10) = .mw := by rw [cl, if_neg (by omega), if_neg m3, if_neg m6, if_neg m7, if_neg m8, if_neg m9, if_pos rfl]
 have a0 : (W.alloc (.cells (sgZ n g v1 v2).tc.toArray 90)).heap.size = W.heap.size + 1 := by simp
 refine ⟨fun c h1 h2 h3 => ?_, ?_, c3, fun i k hi hk => ?_, ?_, ?_⟩
 ·cases c with
  | tt => exact ⟨blk_below (blk_new W _) (below_alloc (Below.refl _ _) _), by rw [cl, if_pos rfl], Nat.le_trans hb hB.size⟩
  | mc => exact absurd rfl h1
  | tab => exact absurd rfl h2
  | tro => exact absurd rfl h3
  | blk =>
   have h := blk 6 (by decide);have h4 := IR_at (xs := List.replicate n 0) (base := base) (ok := fun k => clZ g W.heap.size k = .blk) (by rw [h]; show some (Obj.cells (madeCells #[.int .i64 0] n) _ _) = _; rw [made_rep, List.map_replicate]) (hbb 6 (by decide)) (by simp; omega) c6;rw [List.length_replicate] at h4;exact h4
  | hp =>
   have h := blk 7 (by decide);exact IR_at (xs := [0]) (base := base) (ok := fun k => clZ g W.heap.size k = .hp) h (hbb 7 (by decide)) (by simp) c7
  | bs => exact Kd.R_nil _ _ _ _ _
  | hs =>
   have h := blk 9 (by decide);exact SR_at (xs := [(some ⟨g 8, 0, none⟩, 1, 1)]) (base := base) (ok := fun k => clZ g W.heap.size k = .hs) h (hbb 9 (by decide)) (by simp) c9
  | bro i => intro hi; cases hi
  | hro i =>
   intro hi
   have hi : i = 0 := by
    have : i < [((some ⟨g 8, 0, none⟩, 1, 1) : Sl)].length := hi;simpa using this
   subst hi;have h := blk 8 (by decide);exact IR_at (xs := [0]) (base := base) (ok := fun k => clZ g W.heap.size k = .hro 0) h (hbb 8 (by decide)) (by simp) c8
  | cmp i => intro hi; cases hi
  | far j => trivial
  | mw =>
   have h := blk 10 (by decide);exact ⟨c10, GM.at_ h, hbb 10 (by decide)⟩
 ·rw [insL_nil];refine Tab.start n ?_;exact blk 3 (by decide)
 ·have hi' : i < n := by simpa using hi
  rw [show (List.replicate n nilS).getD i nilS = nilS by simp [List.getD_eq_getElem?_getD, List.getElem?_replicate, hi']] at hk;simp [nilS, Value.ownBlock] at hk
 ·have h := GM.made Try.prog 167 ptL ptOk (W.alloc (.cells (sgZ n g v1 v2).tc.toArray 90));rwa [a0] at h
 ·rw [cl, if_neg (by omega), if_neg (by omega), if_neg (by omega), if_neg (by omega), if_neg (by omega), if_neg (by omega), if_neg (by omega)]
theorem BegI.t3 {base T gI mA : Nat} {w : World} {cls : Nat → Cl} {n : Nat} {g : Nat → Nat} {v1 v2 : Value} {vs : List Value} {xss : List (List Ed)} {f : Int × Int → Option Value} {c : Nat} (h : BegI base T gI mA w cls (sgZ n g v1 v2) vs xss f c) : w.cell? ⟨T, 3, none⟩ = some (.slice (some ⟨g 3, 0, none⟩) n n) := (blk_cell h.tt.1 3).trans rfl
def pZ (n : Nat) : PSt := ⟨List.replicate n 0, [(List.range n).map fun k : Nat => (k : Int)], [0], [[0]]⟩
theorem gi_zero (n : Nat) (x : Int) : gi (List.replicate n 0) x = 0 := by
 unfold gi
 rw [List.getD_eq_getElem?_getD]
 simp only [List.getElem?_replicate]
 split <;> rfl
theorem nd1 {x : Int} (h : Nd 1 x) : x = 0 := by have := h.1; have := h.2; omega
theorem nd10 : Nd 1 0 := by unfold Nd; omega
theorem PW.start {n : Nat} (hn : 0 < n) : PW n (pZ n) where
 bl := by simp [pZ]
 hl := by simp [pZ]
 br := fun x hx => by show Nd 1 (gi (List.replicate n 0) x); rw [gi_zero]; exact nd10
 bn := fun b hb => by
  have hb : b = 0 := nd1 hb
  subst hb
  show ((List.range n).map fun k : Nat => (k : Int)).Nodup
  exact List.pairwise_map.2 (List.Pairwise.imp (fun h e => absurd h (by omega)) List.pairwise_lt_range)
 bm := fun b hb x => by
  have hb : b = 0 := nd1 hb
  subst hb
  show x ∈ (List.range n).map (fun k : Nat => (k : Int)) ↔ Nd n x ∧ gi (List.replicate n 0) x = 0
  rw [gi_zero]
  constructor
  ·intro h
   obtain ⟨k, hk, rfl⟩ := List.mem_map.1 h
   exact ⟨nd_iff.2 (List.mem_range.1 hk), rfl⟩
  ·rintro ⟨h, _⟩
   obtain ⟨k, rfl, hk⟩ := h.nat
   exact List.mem_map.2 ⟨k, List.mem_range.2 hk, rfl⟩
 be := fun b hb => by
  have hb : b = 0 := nd1 hb
  subst hb
  show (List.range n).map (fun k : Nat => (k : Int)) ≠ []
  intro h
  have := congrArg List.length h
  simp at this
  omega
 hr := fun b hb => by
  have hb : b = 0 := nd1 hb
  subst hb
  exact nd_iff.2 (by simp [pZ])
 hn := fun b hb => by
  have hb : b = 0 := nd1 hb
  subst hb
  show [(0 : Int)].Nodup
  simp
 hm := fun b hb x => by
  have hb : b = 0 := nd1 hb
  subst hb
  show x ∈ [(0 : Int)] ↔ Nd 1 x ∧ gi [0] x = 0
  rw [List.mem_singleton]
  constructor
  ·rintro rfl
   exact ⟨nd10, rfl⟩
  ·rintro ⟨h, _⟩
   exact nd1 h
 he := fun b hb => by
  have hb : b = 0 := nd1 hb
  subst hb
  show [(0 : Int)] ≠ []
  simp
theorem Wt.start (n : Nat) : Wt (pZ n) fun _ => false := fun h => by
 constructor
 ·intro h; cases h
 ·rintro ⟨h1, h2⟩
  have hb : h = 0 := nd1 h1
  subst hb
  have : 2 ≤ [(0 : Int)].length := h2
  simp at this
theorem wpList_ginsV {α : Type} [DecidableEq α] {P : Program} {k : TypeId} {mk : α → Value} {lt : α → Lit} {ok : α → Prop} (w : World) {ops : Array Oper} {rest : List Oper} {o : Oper} {a : Act} {Q : Exit → Act → World → Prop} (B : KB P k mk lt ok) (hg : o.guard = none) (x y z : Operand) (t : TypeId) (hop : o.op = Op.insert t x y z) (e : TypeId) (ht : P.underlying t = some (.map k e)) (m c : Nat) (f : α → Option Value) (hm : a.eval x = .map (some m)) (h : GM P k lt ok w m f c) (hn : c < maxLen) (b : α) (hb : ok b) (v : Value) (hy : a.eval y = mk b) (hz : a.eval z = v)
  (hK : ∀ w', GM P k lt ok w' m (putM f b v) (if (f b).isSome then c else c + 1) → w.grownBy w' (some m) → w'.heap.size = w.heap.size → wpList P ops Q rest (a.put o.dst undef) w') :
  wpList P ops Q (o :: rest) a w := by
 refine wpList_plain hg fun K' hK' => ?_
 obtain ⟨w', hrun, r1, r2, r3⟩ := h.put B hb (v := v) hn ht
 unfold Oper.wp
 simp [execOp, hop, hm, hy, hz, hrun, Result.andThen]
 exact hK' _ _ (hK w' r1 r2 r3)
theorem sizeMM : (Try.prog.info? 87).map (·.size) = some 1 := by kernel_rfl
theorem cntE_all (es : List Ed) {P : Int → Bool} (hP : ∀ x, P x = true) (q : Int × Int) : cntE es P q.1 q.2 = cntL es q := by
 unfold cntE cntL
 simp [hP]
theorem BegI.end_ {base T mA n : Nat} {wo wr w14 : World} {cls : Nat → Cl} {g : Nat → Nat} {v1 v2 : Value} {vs : List Value} {es : List Ed} {f : Int × Int → Option Value} {c gN cN mC gQ : Nat} (h : BegI base T (g 3) mA wo cls (sgZ n g v1 v2) vs (insL n es) f c)
  (hF : ∀ q, ptOk q → f q = encZ (cntL es q)) (hb0 : base ≤ g 3) (hmb : base ≤ mA) (hwb : base ≤ wo.heap.size) (hn0 : 0 < n) (hn1 : n ≤ 2048) (hBx : Below wo.heap.size wo wr)
  (hN : Kd.R (Kd.int .i64) 3 wr wo.heap.size (fun _ => True) (.slice (some ⟨gN, 0, none⟩) n cN) ((List.range n).map fun j : Nat => (j : Int))) (hQ : gQ = wr.heap.size) {w12 : World} (h12 : w12 = (wr.alloc (.cells #[.slice (some ⟨gN, 0, none⟩) n cN] 28)).setCell ⟨T, 5, none⟩ (.slice (some ⟨gQ, 0, none⟩) 1 1)) (hmC : mC = w12.heap.size)
  (hgm : G1 w14 mC (putM (fun _ => none) 0 (.map (some mA))) 1) (hgg : (w12.alloc (.map #[] 0)).grownBy w14 (some mC)) {V0 : World} (hV : Below base V0 wo) :
  ∃ cl' sE, SP base T (w14.setCell ⟨T, 8, none⟩ (.map (some mC))) cl' sE ∧ Std n v1 v2 sE (pZ n) ∧ StdW sE (fun _ => false) ∧ StdI n es sE ∧ StdC es sE 1 (fun _ => 0) ∧ sE.cm = [mA] ∧ sE.fc 0 = f ∧ Below base V0 (w14.setCell ⟨T, 8, none⟩ (.map (some mC))) := by
 have hTl : T < wo.heap.size := blk_lt h.tt.1;have hvl : vs.length = n := by rw [h.tab.len, insL_len]
 have hgl : gN < wr.heap.size := Kd.R_lt hN gN rfl;have hgb : wo.heap.size ≤ gN := Kd.R_base hN gN rfl;have s1 : (wr.alloc (Obj.cells #[.slice (some ⟨gN, 0, none⟩) n cN] 28)).heap.size = wr.heap.size + 1 := by simp
 have a1 : w12.heap.size = wr.heap.size + 1 := by rw [h12]; simp [World.setCell]
 have a0 : Below wr.heap.size wr (wr.alloc (Obj.cells #[.slice (some ⟨gN, 0, none⟩) n cN] 28)) := below_alloc (Below.refl _ _) _
 have k1 : ∀ k, k < wr.heap.size + 1 → k ≠ T → (w14.setCell ⟨T, 8, none⟩ (.map (some mC))).heap[k]? = (wr.alloc (Obj.cells #[.slice (some ⟨gN, 0, none⟩) n cN] 28)).heap[k]? := fun k hk hne => by
  rw [Below.heap_setCell _ _ _ _ hne, hgg.block k (by simp [a1]; omega) (by intro e; cases e; omega), (below_alloc (Below.refl w12.heap.size w12) (.map #[] 0)).block k (by omega), h12, Below.heap_setCell _ _ _ _ hne]
 have a2 : w12.heap[T]? = some (.cells ((sgZ n g v1 v2).tc.set 5 (.slice (some ⟨gQ, 0, none⟩) 1 1)).toArray 90 (0, 0)) := by
  rw [h12];exact set_at (blk_below (blk_below h.tt.1 hBx) a0)
 have hTm : T ≠ mC := by omega
 have a3 : w14.heap[T]? = some (.cells ((sgZ n g v1 v2).tc.set 5 (.slice (some ⟨gQ, 0, none⟩) 1 1)).toArray 90 (0, 0)) := by
  rw [hgg.block T (by simp [a1]; omega) (by intro e; cases e; exact hTm rfl), (below_alloc (Below.refl w12.heap.size w12) (.map #[] 0)).block T (by omega)];exact a2
 have hK : Kept wo (w14.setCell ⟨T, 8, none⟩ (.map (some mC))) fun k => k = T := ⟨by
  have h1 := hBx.size;have h2 := hgg.size;simp [a1] at h2;simp [World.setCell];omega, fun k hk hne => by
  rw [k1 k (by have := hBx.size; omega) hne, a0.block k (by have := hBx.size; omega)];exact hBx.block k hk⟩
 have hN' : Kd.R (Kd.int .i64) 3 (w14.setCell ⟨T, 8, none⟩ (.map (some mC))) base (fun k => k = gN) (.slice (some ⟨gN, 0, none⟩) ((List.range n).map fun j : Nat => (j : Int)).length cN) ((List.range n).map fun j : Nat => (j : Int)) := by
  have h1 := Kd.R_lower (Kd.R_tight (e := 3) (d := Kd.int .i64) rfl hN) hwb;rw [List.length_map, List.length_range]
  refine Kd.R_mono (Kd.R_move h1 fun k hk => ?_) fun k hk => by
   have : gN = k := by simpa [Value.ownBlock] using hk.symm
   exact this.symm
  have : gN = k := by simpa [Value.ownBlock] using hk.symm
  subst this;rw [k1 gN (by omega) (by omega), a0.block gN hgl]
 have hQ' : (w14.setCell ⟨T, 8, none⟩ (.map (some mC))).heap[gQ]? = some (.cells #[.slice (some ⟨gN, 0, none⟩) ((List.range n).map fun j : Nat => (j : Int)).length cN] 28 (0, 0)) := by
  rw [k1 gQ (by omega) (by have := hBx.size; omega), List.length_map, List.length_range, hQ];exact blk_new wr _
 have hC' : G1 (w14.setCell ⟨T, 8, none⟩ (.map (some mC))) mC (putM (fun _ => none) 0 (.map (some mA))) 1 := hgm.same (Below.heap_setCell _ _ _ _ (Ne.symm hTm));have hfin := h.fin hb0 hmb hwb (by omega) hK h.tt.2.1 (set_at a3) h.tt.2.2 hN' hgb hQ' (by have := hBx.size; omega) hC' (by have := hBx.size; omega) (by omega) (by omega) (by omega) rfl rfl;refine ⟨_, _, hfin, ⟨?_, rfl, rfl, rfl, rfl, rfl, rfl, rfl, rfl⟩, fun h _ => rfl, ⟨?_, fun i hi => ?_⟩, ⟨rfl, fun h hh => ?_, fun i hi q hq => ?_, fun i hi => ?_⟩, rfl, rfl, ?_⟩
 ·show _ = _;rw [hvl];rfl
 ·show (vs.map toSl).length = n;rw [List.length_map, hvl]
 ·exact insL_at es hi
 ·show putM (fun _ => none) 0 (.map (some mA)) h = if _ then some (.map (some ([mA].getD h.toNat 0))) else none
  unfold putM;by_cases e : h = 0
  ·subst e;rfl
  ·rw [if_neg e, if_neg];simp;omega
 ·show f q = _;rw [hF q hq];refine congrArg encZ (cntE_all es (fun x => ?_) q).symm;have : i = 0 := by omega
  subst this;rfl
 ·exact cnt_le2 h.all hF
 ·refine Below.setCell (Below.grown (Below.alloc ?_ ?_ _) hgg ?_ fun k e => ?_) h.tt.2.2 _
  ·rw [h12];exact Below.setCell (Below.alloc (hV.trans (hBx.mono hwb)) (Nat.le_trans hwb hBx.size) _) h.tt.2.2 _
  ·have := hBx.size; omega
  ·have := hBx.size; simp; omega
  ·cases e; have := hBx.size; omega
end Go.Proofs.Ytmcbkmfpmcbdpaa.H
namespace Go.Proofs.Ytmcbkmfpmcbdpaa.H
open Go.RowKit Go.Proofs.Ytmcbkmfpmcbdpaa.Pr Go.Proofs.YtmcbkmfpmcbdpaaW.PrintWords Go.Proofs.Ytmcbkmfpmcbdpaa.Sem Go.Proofs.YtmcbkmfpmcbdpaaW.PrintLast
def slLen : Option Value → Nat
 | some (.slice _ l _) => l
 | _ => 0
structure RunS (base T n : Nat) (es : List Ed) (v1 v2 : Value) (w : World) (cls : Nat → Cl) (s : Sg) (p : PSt) (wt : Int → Bool) : Prop where
  sp : SP base T w cls s
  std : Std n v1 v2 s p
  pw : PW n p
  stdW : StdW s wt
  wt_ : Wt p wt
  ins : StdI n es s
  cnt : StdC es s p.heaps.length (HP p)
  ref : RefI n es (gi p.block) (HP p)
section
variable {base T n : Nat} {es : List Ed} {v1 v2 : Value} {w : World} {cls : Nat → Cl} {s : Sg} {p : PSt} {wt : Int → Bool}
theorem RunS.below {w1 : World} (h : RunS base T n es v1 v2 w cls s p wt) (hb : Below w.heap.size w w1) : RunS base T n es v1 v2 w1 cls s p wt := ⟨h.sp.below hb, h.std, h.pw, h.stdW, h.wt_, h.ins, h.cnt, h.ref⟩
theorem len7 (sp : SP base T w cls s) (std : Std n v1 v2 s p) (pw : PW n p) (hn0 : 0 < n) : slLen (w.cell? ⟨T, 7, none⟩) = p.heaps.length := by
 have hhs : s.hs.length = p.heaps.length := by rw [std.hs, std.hl]
 have h0 : 0 < p.heaps.length := by
  have h1 := (pw.br 0 (nd_iff.2 hn0))
  have h2 := pw.hr _ h1
  have := h2.1
  have := h2.2
  omega
 obtain ⟨gS, cS, hvS, _⟩ := sp.slice (sp .hs) (by rw [hhs]; exact h0)
 rw [sp.cell 7 s.vHs (by rw [std.tc]; rfl), hvS, hhs]
 rfl
theorem RunS.some_ (h : RunS base T n es v1 v2 w cls s p wt) (hn : n ≤ 2048) : s.cW = 0 ↔ ∀ x, wt x = false := by
 have hE := GM.empty intKB ((h.sp .mw).2.1)
 rw [hE]
 have hb := h.pw.nb_le
 have hh := h.pw.nh_le
 constructor
 ·intro ha x
  cases hx : wt x with
  | false => rfl
  | true =>
   have h1 := ((h.wt_ x).1 hx).1
   have hi : i64in x := by unfold i64in; have := h1.1; have := h1.2; omega
   have h2 := h.stdW x hi
   rw [hx, ha x hi] at h2
   cases h2
 ·intro ha x hx
  rw [h.stdW x hx, ha x]
  rfl
theorem RunS.none_ (h : RunS base T n es v1 v2 w cls s p wt) (hw : ∀ x, wt x = false) : ∀ c, Nd p.heaps.length c → (gl p.heaps c).length < 2 := fun c hc => by
 by_cases h2 : (gl p.heaps c).length < 2
 ·exact h2
 ·have := (h.wt_ c).2 ⟨hc, by omega⟩
  rw [hw c] at this
  cases this
theorem StdC.congr {es : List Ed} {s s' : Sg} {N : Nat} {H H' : Int → Int} (h : StdC es s N H) (m5 : s'.fC = s.fC) (m7 : s'.cm = s.cm) (m8 : s'.fc = s.fc) (m9 : s'.cc = s.cc) (hH : ∀ e ∈ es, H' e.f2 = H e.f2) : StdC es s' N H' :=
 ⟨by rw [m7]; exact h.ln, fun x hx => by rw [m5, m7]; exact h.fC x hx, fun i hi q hq => by rw [m8, h.fc i hi q hq]; exact congrArg encZ (cntE_congr (fun e he => by rw [hH e he]) _ _), fun i hi => by rw [m9]; exact h.cc i hi⟩
end
end Go.Proofs.Ytmcbkmfpmcbdpaa.H
namespace Go.Proofs.Ytmcbkmfpmcbdpaa.H
open Go.RowKit Go.Proofs.Ytmcbkmfpmcbdpaa.Pr Go.Proofs.YtmcbkmfpmcbdpaaW.PrintWords Go.Proofs.Ytmcbkmfpmcbdpaa.Sem Go.Proofs.YtmcbkmfpmcbdpaaW.PrintLast
theorem ls_le {n : Int} {ls : List ByteArray} {es : List Ed} (h : mayR n ls es = true) : ls.length ≤ 64 := by
 unfold mayR at h
 simp only [Bool.and_eq_true, decide_eq_true_eq] at h
 omega
theorem es_nd {n : Nat} {ls : List ByteArray} {es : List Ed} (h : mayR n ls es = true) : ∀ e ∈ es, Nd n e.f0 ∧ (0 ≤ e.f1 ∧ e.f1 < (ls.length : Int)) ∧ Nd n e.f2 := by
 intro e he
 obtain ⟨k, hk, rfl⟩ := List.getElem_of_mem he
 unfold mayR at h
 simp only [Bool.and_eq_true, decide_eq_true_eq] at h
 have := List.all_eq_true.1 h.2.2.2.2.2 k (List.mem_range.2 hk)
 unfold okAt' at this
 simp only [Bool.and_eq_true, decide_eq_true_eq] at this
 rw [show es.getD k z80 = es[k] by simp [List.getD_eq_getElem?_getD, List.getElem?_eq_getElem hk]] at this
 unfold Nd
 omega
theorem lt0_false (a : Int) : (decide (0 ≤ a) && decide (a < ((0 : Nat) : Int))) = false := by
 by_cases h : 0 ≤ a
 ·rw [decide_eq_false (show ¬ a < ((0 : Nat) : Int) by omega), Bool.and_false]
 ·rw [decide_eq_false h, Bool.false_and]
set_option maxHeartbeats 16000000 in
set_option maxRecDepth 100000 in
theorem begin_any (n : Nat) (ls : List ByteArray) (es : List Ed) (A1 A2 : Option Addr) (c1 c2 : Nat) (w0 w : World) (hr1 : Kd.C Kd.string w A1 ls.length ls) (hr2 : Kd.C k80 w A2 es.length es) (hm : mayR n ls es = true) (hB : Below w0.heap.size w0 w) :
    Calls Try.prog 116 #[.agg #[.int .i64 n, .slice A1 ls.length c1, .slice A2 es.length c2]] w fun e w' => ∃ T s cls p wt, e = .returned (.pointer (some ⟨T, 0, none⟩)) ∧ RunS w0.heap.size T n es (.slice A1 ls.length c1) (.slice A2 es.length c2) w' cls s p wt ∧ Below w0.heap.size w0 w' := by
  have hn := n_le hm;have d8 : 0 < n := by omega
  have h7 : n ≤ 2048 := by omega
  have hel := es_le hm;have hll := ls_le hm;have HEs := Aside0.mk (es_nd hm);have n3 := Aside0.mk hr2;have HB := Aside0.mk hB;obtain ⟨v1, b3⟩ : ∃ v1 : Value, v1 = .slice A1 ls.length c1 := ⟨_, rfl⟩
  obtain ⟨v2, b4⟩ : ∃ v2 : Value, v2 = .slice A2 es.length c2 := ⟨_, rfl⟩
  rw [← b3, ← b4];have HVv := Aside0.mk (And.intro b3 b4);clear hr1 hr2 hm hn hB b3 b4;have h5 := print_make_of (P := Try.prog) 86 23 (.slice none 0 0) 24 Try.underlying86 (by kernel_rfl) rfl (by omega) n (by omega);have h6 := print_make_of (P := Try.prog) 28 3 (.int .i64 0) 8 Try.underlying28 (by kernel_rfl) rfl (by omega) n (by omega);have hmm := @run_makeMap Try.prog;go_enter Try.func116, Try.ntmps116
  go_wp2_with fail
  have hX := blk_new w (Obj.cells #[Value.int IntKind.i64 n, v1, v2] 25);have b0 := (blk_cell hX 0).trans rfl;have b1 := (blk_cell hX 1).trans rfl;have b2 := (blk_cell hX 2).trans rfl;have a1 := Aside0.mk (below_drew1 (below_then HB.out HB.out.size (below_alloc (Below.refl w.heap.size w) (Obj.cells #[Value.int IntKind.i64 n, v1, v2] 25))));have HBw := Aside0.mk (below_drew1 (below_alloc (Below.refl w.heap.size w) (Obj.cells #[Value.int IntKind.i64 n, v1, v2] 25)));have HX := Aside0.mk hX;obtain ⟨b, hb⟩ : ∃ b, b = w.heap.size := ⟨_, rfl⟩
  rw [← hb] at b0 b1 b2 HX ⊢;have Hb := Aside0.mk hb;clear hX hb;refine start_ (n := 14) (S := fun w' => w'.cell? ⟨b, 0, none⟩ = some (.int .i64 n) ∧ w'.cell? ⟨b, 1, none⟩ = some v1 ∧ w'.cell? ⟨b, 2, none⟩ = some v2) (ds := []) (bqz 14 0) (by kernel_rfl) rfl rfl ⟨b0, b1, b2⟩ (fun hHeld => ?_);clear b0 b1 b2;generalize (w.alloc (Obj.cells #[Value.int IntKind.i64 n, v1, v2] 25)).drew = V at a1 HBw hHeld ⊢;have HVb := Aside0.mk hHeld;refine pqz 1 (some 13) (bqz 14 2) rfl rfl (by kernel_rfl) ?_ ?_ (fun _ _ _ h => h) (by rfl) ?_ ?_ ?_;rotate_left 2;intro w';go_simp;(with_reducible rfl);simp only [Act.put, qz1, qz2, qz3, i64_w, i32_w];rfl
  refine pqz 4 (some 16) (bqz 14 18) rfl rfl (by kernel_rfl) ?_ ?_ (fun _ _ _ h => h) (by rfl) ?_ ?_ ?_;rotate_left 2;intro w';go_simp;(with_reducible rfl);simp only [Act.put, qz1, qz2, qz3, i64_w, i32_w];rfl
  refine tqz 0 (some 12) (bqz 14 19) rfl rfl (by kernel_rfl) ?_ ?_ (fun _ _ _ h => h) (by rfl) ?_ hHeld ?_ ?_;rotate_left 2;rintro w' ⟨s0, s1, s2⟩;go_simp;(with_reducible rfl);simp only [Act.put, qz1, qz2, qz3, i64_w, i32_w];rfl
  refine tqz 2 (some 14) (bqz 14 23) rfl rfl (by kernel_rfl) ?_ ?_ (fun _ _ _ h => h) (by rfl) ?_ hHeld ?_ ?_;rotate_left 2;rintro w' ⟨s0, s1, s2⟩;go_simp;(with_reducible rfl);simp only [Act.put, qz1, qz2, qz3, i64_w, i32_w];rfl
  refine tqz 5 (some 17) (bqz 14 55) rfl rfl (by kernel_rfl) ?_ ?_ (fun _ _ _ h => h) (by rfl) ?_ hHeld ?_ ?_;rotate_left 2;rintro w' ⟨s0, s1, s2⟩;go_simp;(with_reducible rfl);simp only [Act.put, qz1, qz2, qz3, i64_w, i32_w];rfl
  refine alloc_region (C := [3, 6, 7, 8, 9, 10]) (slot := slotZ) (val := valZ n) (obj := litO n) (needs := needZ) (l1 := (bqz 14 2047)) (fuel := 3) rfl (by kernel_rfl) (by decide) (fun i hi => Nat.lt_of_le_of_lt (slotZ_le i) (by show (22 : Nat) < 109; decide)) (valZ_up n) (litO_up n) (by decide)
    (fun _ _ hS => ⟨later (below_alloc (Below.refl _ _) _) hS.1, later (below_alloc (Below.refl _ _) _) hS.2.1, later (below_alloc (Below.refl _ _) _) hS.2.2⟩) hHeld ?run ?cont
  case run =>
    clear hHeld;intro i hi p s a W hA hN;simp only [List.mem_cons, List.not_mem_nil, or_false] at hi;have n8 : a.eval (.tmp 14) = .int .i64 n := (hA.eval 14 (by decide)).trans rfl;have n9 : a.eval (.tmp 17) = .int .i64 n := (hA.eval 17 (by decide)).trans rfl;rcases hi with rfl | rfl | rfl | rfl | rfl | rfl
    · exact ⟨_, rfl, rfl, rfl, run_mkS rfl n8 (h5 W)⟩
    · exact ⟨_, rfl, rfl, rfl, run_mkS rfl n9 (h6 W)⟩
    · refine ⟨_, rfl, rfl, rfl, ?_⟩
      show Sem.run _ (execOp a.eval { dst := some 19, op := .buildSlice 28 1 #[(0, .const (.int .i64 0))], type := 28, pos := "refine.go:31", after := #[], guard := none }) W = _;go_simp;exact ⟨rfl, rfl⟩
    · refine ⟨_, rfl, rfl, rfl, ?_⟩
      show Sem.run _ (execOp a.eval { dst := some 20, op := .buildSlice 28 1 #[(0, .const (.int .i64 0))], type := 28, pos := "refine.go:31", after := #[], guard := none }) W = _;go_simp;exact ⟨rfl, rfl⟩
    · have o6 : a.eval (.tmp 20) = .slice (some ⟨s 8, 0, none⟩) 1 1 := hA.evalN (i := 8) (by decide) (hN 8 (by decide))
      have o7 : a.tmps[20]? = some (.slice (some ⟨s 8, 0, none⟩) 1 1) := hA.new 8 (by decide) (hN 8 (by decide));refine ⟨_, rfl, rfl, rfl, ?_⟩;show Sem.run _ (execOp a.eval { dst := some 21, op := .buildSlice 40 1 #[(0, .tmp 20)], type := 40, pos := "refine.go:31", after := #[{ on := 8, ground := Ground.data }], guard := none }) W = _;go_simp;exact ⟨rfl, rfl⟩
    · exact ⟨_, rfl, rfl, rfl, run_mkM rfl (hmm _ W)⟩
  intro s W hL hHeld;rw [show (List.map (fun i => (slotZ i, valZ n s i)) [3, 6, 7, 8, 9, 10]) = [(15, .slice (some ⟨s 3, 0, none⟩) n n), (18, .slice (some ⟨s 6, 0, none⟩) n n), (19, .slice (some ⟨s 7, 0, none⟩) 1 1), (20, .slice (some ⟨s 8, 0, none⟩) 1 1), (21, .slice (some ⟨s 9, 0, none⟩) 1 1), (22, .map (some (s 10)))] from rfl];refine norm_ (a' := ?_) ?_ ?_;rotate_left
  · simp only [putAll, Act.put, qz1, qz2, qz3]
    rfl
  refine pqz 11 (some 23) (bqz 14 4095) rfl rfl (by kernel_rfl) ?_ ?_ (fun _ _ _ h => h) (by rfl) ?_ ?_ ?_;rotate_left 2;intro w';go_simp;(with_reducible rfl);simp only [Act.put, qz1, qz2, qz3, i64_w, i32_w];rfl
  refine one_ (i := 12) (N := some 24) (bqz 14 8191) rfl rfl (by kernel_rfl) (by decide) (fun K hK => ?_);refine value_ (w1 := ?_) (v := ?_) (by rfl) rfl ?_ ?_;rotate_left 2
  · go_simp
    constructor
    · rfl
    · rfl
  refine hK.out _ _ ⟨later (below_alloc (Below.refl _ _) _) hHeld.1, later (below_alloc (Below.refl _ _) _) hHeld.2.1, later (below_alloc (Below.refl _ _) _) hHeld.2.2⟩ (fun hHeld => ?_);clear hK K;refine norm_ (a' := ?_) ?_ ?_;rotate_left
  · show Act.put _ (some 24) _ = _
    simp only [Act.put, qz1, qz2, qz3, i64_w, i32_w];rfl
  refine pqz 13 (some 3) (bqz 14 16383) rfl rfl (by kernel_rfl) ?_ ?_ (fun _ _ _ h => h) (by rfl) ?_ ?_ ?_;rotate_left 2;intro w';go_simp;(with_reducible rfl);simp only [Act.put, qz1, qz2, qz3, i64_w, i32_w];rfl
  refine done_ (by kernel_rfl) ?_;obtain ⟨b3, b4⟩ := HVv.out;subst b3;subst b4;clear HVv h5 h6 HX;obtain ⟨U, hU⟩ : ∃ U, U = W.alloc (Obj.cells #[.int .i64 n, .slice A1 ls.length c1, .slice A2 es.length c2, .slice (some ⟨s 3, 0, none⟩) n n, .slice (some ⟨s 6, 0, none⟩) n n, .slice none 0 0, .slice (some ⟨s 7, 0, none⟩) 1 1, .slice (some ⟨s 9, 0, none⟩) 1 1, .map none, .map (some (s 10)), .int .i64 0] 90) := ⟨_, rfl⟩
  have a8 : BegI V.heap.size W.heap.size (s 3) (W.heap.size + 1) (U.alloc (.map #[] 0)) (clZ s W.heap.size) (sgZ n s (.slice A1 ls.length c1) (.slice A2 es.length c2)) (List.replicate n nilS) (insL n []) (fun _ => none) 0 := by rw [hU]; exact BegI.start hL (Nat.le_refl _) h7
  rw [← hU] at hHeld ⊢;have hsz : U.heap.size = W.heap.size + 1 := by rw [hU]; simp
  rw [← hsz] at a8;have hBU : Below V.heap.size V U := by rw [hU]; exact below_then hL.1 hL.1.size (below_alloc (Below.refl _ _) _)
  have g5 := below_then hBU hBU.size (below_alloc (Below.refl U.heap.size U) (Obj.map #[] 0));obtain ⟨T, hT⟩ : ∃ T, T = W.heap.size := ⟨_, rfl⟩
  rw [← hT] at a8 ⊢;obtain ⟨mA, hmA⟩ : ∃ mA, mA = U.heap.size := ⟨_, rfl⟩
  rw [← hmA] at a8;have b2 := later (below_alloc (Below.refl U.heap.size U) (Obj.map #[] 0)) hHeld.2.2;have d5 := Aside0.mk (show V.heap.size ≤ s 3 ∧ V.heap.size ≤ mA from ⟨(hL.2 3 (by decide)).1, by rw [hmA]; exact hBU.size⟩);have a3 := Aside0.mk a8;have f2 := Aside0.mk g5;clear a8 hBU g5 hL hHeld hU hsz hT;go_wp2
  rw [← hmA];clear b2 hmA;generalize (U.alloc (Obj.map #[] 0)) = U1 at a3 f2 ⊢;go_loopw [29] (fun i wr => ∃ (k : Nat) (cls : Nat → Cl) (vs : List Value) (f : Int × Int → Option Value) (c : Nat), k ≤ es.length ∧ i = .int .i64 k ∧ Aside0 (BegI V.heap.size T (s 3) mA wr cls (sgZ n s (.slice A1 ls.length c1) (.slice A2 es.length c2)) vs (insL n (es.take k)) f c) ∧ Aside0 (∀ q, ptOk q → f q = encZ (cntL (es.take k) q)) ∧ Aside0 (Below V.heap.size V wr)) (fun i _ => es.length - (intOf i).toNat)
  case atStart => exact ⟨0, _, _, _, _, Nat.zero_le _, rfl, a3, ⟨fun q hq => rfl⟩, f2⟩
  case round =>
    clear a3 f2;obtain ⟨k, cls, vs, f, c, hk, rfl, HI, HF, HBr⟩ := hrel;by_cases hlt : k < es.length
    · obtain ⟨ad, hA, g0, g1, g2⟩ := atE (Kd.C_below n3.out HBw.out) k hlt
      subst hA;replace g0 := later HBr.out g0;replace g1 := later HBr.out g1;replace g2 := later HBr.out g2;obtain ⟨x, hx⟩ : ∃ x, x = es.getD k z80 := ⟨_, rfl⟩
      have hxm : x ∈ es := by rw [hx, List.getD_eq_getElem?_getD, List.getElem?_eq_getElem hlt]; exact List.getElem_mem hlt
      have i8 := Aside0.mk (show es.take (k + 1) = es.take k ++ [x] by rw [take_snoc z80 hlt, ← hx]);rw [← hx] at g0 g1 g2;have hxe := HEs.out x hxm;obtain ⟨i, hi, i2⟩ := hxe.2.2.nat;have i0 : (0 : Int) ≤ (i : Int) := by omega
      have i1 : (i : Int) < (n : Int) := by omega
      rw [hi] at g2;have HXi := Aside0.mk hi;have HXe := Aside0.mk hxe;clear hx hxm hi hxe;go_wp2_with fail
      clear g0 g1 g2;obtain ⟨E, hE⟩ : ∃ E, E = wr.heap.size := ⟨_, rfl⟩
      rw [← hE];have g4 := below_drew1 (below_alloc (Below.refl wr.heap.size wr) (Obj.cells #[Value.int IntKind.i64 x.f0, Value.int IntKind.i64 x.f1, Value.int IntKind.i64 (i : Int)] 80));have e0 := (blk_cell (blk_new wr (Obj.cells #[Value.int IntKind.i64 x.f0, Value.int IntKind.i64 x.f1, Value.int IntKind.i64 (i : Int)] 80)) 0).trans rfl;have e1 := (blk_cell (blk_new wr (Obj.cells #[Value.int IntKind.i64 x.f0, Value.int IntKind.i64 x.f1, Value.int IntKind.i64 (i : Int)] 80)) 1).trans rfl;have e2 := (blk_cell (blk_new wr (Obj.cells #[Value.int IntKind.i64 x.f0, Value.int IntKind.i64 x.f1, Value.int IntKind.i64 (i : Int)] 80)) 2).trans rfl;rw [← hE] at e0 e1 e2;have hlen := insL_len n (es.take k);have hnE : some E ≠ (vs.getD i nilS).ownBlock := fun h => absurd (Kd.R_lt (HI.out.tab.row i (by rw [HI.out.tab.len, hlen]; exact i2)) E h.symm) (by rw [hE]; exact Nat.lt_irrefl _)
      have HEg := Aside0.mk (show s 3 < E ∧ mA < E from by rw [hE]; exact ⟨HI.out.tab.lt, HI.out.all.lt_⟩);have a0 := Aside0.mk (HI.out.below g4);have a1 := Aside0.mk (below_then HBr.out HBr.out.size g4);obtain ⟨Ar, cr, hv, a9, _⟩ := a0.out.tab.read i (by rw [hlen]; exact i2);obtain ⟨zs, hzs⟩ : ∃ zs, zs = (insL n (es.take k)).getD i [] := ⟨_, rfl⟩
      have hzl : zs.length ≤ 1000000 := by
        rw [hzs, insL_at _ i2];exact Nat.le_trans (List.length_filter_le _ _) (by rw [List.length_take]; omega)
      rw [← hzs] at hv a9;have HN := Aside0.mk hnE;have HZ := Aside0.mk hzs;have HV := Aside0.mk hv;clear hnE hE hzs hv HI HBr g4;generalize (wr.alloc (Obj.cells #[Value.int IntKind.i64 x.f0, Value.int IntKind.i64 x.f1, Value.int IntKind.i64 (i : Int)] 80)) = X at a0 a1 a9 e0 e1 e2 ⊢;refine start_ (n := 19) (S := fun w' => w'.cell? ⟨T, 3, none⟩ = some (.slice (some ⟨s 3, 0, none⟩) n n) ∧ w'.cell? ⟨E, 0, none⟩ = some (.int .i64 x.f0) ∧ w'.cell? ⟨E, 1, none⟩ = some (.int .i64 x.f1) ∧ w'.cell? ⟨E, 2, none⟩ = some (.int .i64 (i : Int)) ∧ w'.cell? ⟨s 3, i, none⟩ = some (.slice Ar zs.length cr)) (ds := [18]) (bqz 19 0) (by kernel_rfl) rfl rfl ⟨a0.out.t3, e0, e1, e2, a9⟩ (fun hHeld => ?_);generalize X.drew = Y at a0 a1 hHeld a9 ⊢; clear e0 e1 e2 a9; have a2 := Aside0.mk hHeld
      refine pqz 0 (some 33) (bqz 19 1) rfl rfl (by kernel_rfl) ?_ ?_ (fun _ _ _ h => h) (by rfl) ?_ ?_ ?_;rotate_left 2;intro w';go_simp;(with_reducible rfl);simp only [Act.put, qz1, qz2, qz3, i64_w, i32_w];rfl
      refine pqz 1 (some 34) (bqz 19 3) rfl rfl (by kernel_rfl) ?_ ?_ (fun _ _ _ h => h) (by rfl) ?_ ?_ ?_;rotate_left 2;intro w';go_simp;(with_reducible rfl);simp only [Act.put, qz1, qz2, qz3, i64_w, i32_w];rfl
      refine pqz 2 (some 35) (bqz 19 7) rfl rfl (by kernel_rfl) ?_ ?_ (fun _ _ _ h => h) (by rfl) ?_ ?_ ?_;rotate_left 2;intro w';go_simp;(with_reducible rfl);simp only [Act.put, qz1, qz2, qz3, i64_w, i32_w];rfl
      refine pqz 4 (some 37) (bqz 19 23) rfl rfl (by kernel_rfl) ?_ ?_ (fun _ _ _ h => h) (by rfl) ?_ ?_ ?_;rotate_left 2;intro w';go_simp;(with_reducible rfl);simp only [Act.put, qz1, qz2, qz3, i64_w, i32_w];rfl
      refine pqz 6 (some 39) (bqz 19 87) rfl rfl (by kernel_rfl) ?_ ?_ (fun _ _ _ h => h) (by rfl) ?_ ?_ ?_;rotate_left 2;intro w';go_simp;(with_reducible rfl);simp only [Act.put, qz1, qz2, qz3, i64_w, i32_w];rfl
      refine pqz 7 (some 40) (bqz 19 215) rfl rfl (by kernel_rfl) ?_ ?_ (fun _ _ _ h => h) (by rfl) ?_ ?_ ?_;rotate_left 2;intro w';go_simp;(with_reducible rfl);simp only [Act.put, qz1, qz2, qz3, i64_w, i32_w];rfl
      refine pqz 8 (some 41) (bqz 19 471) rfl rfl (by kernel_rfl) ?_ ?_ (fun _ _ _ h => h) (by rfl) ?_ ?_ ?_;rotate_left 2;intro w';go_simp;(with_reducible rfl);simp only [Act.put, qz1, qz2, qz3, i64_w, i32_w];rfl
      refine pqz 10 (some 43) (bqz 19 1495) rfl rfl (by kernel_rfl) ?_ ?_ (fun _ _ _ h => h) (by rfl) ?_ ?_ ?_;rotate_left 2;intro w';go_simp;(with_reducible rfl);simp only [Act.put, qz1, qz2, qz3, i64_w, i32_w];rfl
      refine tqz 3 (some 36) (bqz 19 1503) rfl rfl (by kernel_rfl) ?_ ?_ (fun _ _ _ h => h) (by rfl) ?_ hHeld ?_ ?_;rotate_left 2;rintro w' ⟨s0, s1, s2, s3, s4⟩;go_simp;(with_reducible rfl);simp only [Act.put, qz1, qz2, qz3, i64_w, i32_w];rfl
      refine tqz 5 (some 38) (bqz 19 1535) rfl rfl (by kernel_rfl) ?_ ?_ (fun _ _ _ h => h) (by rfl) ?_ hHeld ?_ ?_;rotate_left 2;rintro w' ⟨s0, s1, s2, s3, s4⟩;go_simp;(with_reducible rfl);simp only [Act.put, qz1, qz2, qz3, i64_w, i32_w];rfl
      refine tqz 9 (some 42) (bqz 19 2047) rfl rfl (by kernel_rfl) ?_ ?_ (fun _ _ _ h => h) (by rfl) ?_ hHeld ?_ ?_;rotate_left 2;rintro w' ⟨s0, s1, s2, s3, s4⟩;go_simp;(with_reducible rfl);simp only [Act.put, qz1, qz2, qz3, i64_w, i32_w];rfl
      refine tqz 11 (some 44) (bqz 19 4095) rfl rfl (by kernel_rfl) ?_ ?_ (fun _ _ _ h => h) (by rfl) ?_ hHeld ?_ ?_;rotate_left 2;rintro w' ⟨s0, s1, s2, s3, s4⟩;go_simp;(with_reducible rfl);simp only [Act.put, qz1, qz2, qz3, i64_w, i32_w];rfl
      refine pqz 12 (some 45) (bqz 19 8191) rfl rfl (by kernel_rfl) ?_ ?_ (fun _ _ _ h => h) (by rfl) ?_ ?_ ?_;rotate_left 2;intro w';go_simp;(with_reducible rfl);simp only [Act.put, qz1, qz2, qz3, i64_w, i32_w];rfl
      refine tqz 13 (some 46) (bqz 19 16383) rfl rfl (by kernel_rfl) ?_ ?_ (fun _ _ _ h => h) (by rfl) ?_ hHeld ?_ ?_;rotate_left 2;rintro w' ⟨s0, s1, s2, s3, s4⟩;go_simp;(with_reducible rfl);simp only [Act.put, qz1, qz2, qz3, i64_w, i32_w];rfl
      refine tqz 14 (some 47) (bqz 19 32767) rfl rfl (by kernel_rfl) ?_ ?_ (fun _ _ _ h => h) (by rfl) ?_ hHeld ?_ ?_;rotate_left 2;rintro w' ⟨s0, s1, s2, s3, s4⟩;go_simp;(with_reducible rfl);simp only [Act.put, qz1, qz2, qz3, i64_w, i32_w];rfl
      refine one_ (i := 15) (N := some 48) (bqz 19 65535) rfl rfl (by kernel_rfl) (by decide) (fun K hK => ?_);refine value_ (w1 := ?_) (v := ?_) (by rfl) rfl ?_ ?_;rotate_left 2
      · go_simp
        constructor
        · rfl
        · rfl
      refine hK.out _ _ ⟨later (below_alloc (Below.refl _ _) _) hHeld.1, later (below_alloc (Below.refl _ _) _) hHeld.2.1, later (below_alloc (Below.refl _ _) _) hHeld.2.2.1, later (below_alloc (Below.refl _ _) _) hHeld.2.2.2.1, later (below_alloc (Below.refl _ _) _) hHeld.2.2.2.2⟩ (fun hHeld => ?_);clear hK K;refine norm_ (a' := ?_) ?_ ?_;rotate_left
      · show Act.put _ (some 48) _ = _
        simp only [Act.put, qz1, qz2, qz3, i64_w, i32_w];rfl
      refine one_ (i := 16) (N := some 49) (bqz 19 131071) rfl rfl (by kernel_rfl) (by decide) (fun K hK => ?_);refine Kd.R_append_step k80 (w0 := V) V.heap.size (by rfl) (.tmp 46) (.tmp 48) 23 80 (.agg #[(.int .i64 0), (.int .i64 0), (.int .i64 0)]) 24 rfl Try.underlying23 info80 rfl (by decide) (by omega) (.slice Ar zs.length cr) zs x [.int .i64 x.f0, .int .i64 x.f1, .int .i64 (i : Int)] (fun _ => True) (fun _ => False) rfl rfl ?aP (fun _ hk => hk.elim) ?aF ?aO ?aB ?aS ?aL ?_
      (case aP => rw [← HXi.out]; exact k80_mkM _ _ _ x)
      (case aF => exact fun _ _ => trivial)
      (case aO => rw [← HV.out, HZ.out]; exact a0.out.tab.row i (by rw [a0.out.tab.len, hlen]; exact i2))
      (case aB => exact a1.out)
      (case aS => exact a1.out.size)
      (case aL => omega)
      intro v1 w3 ho hb hg hat;obtain ⟨A4, c4, o2⟩ := Kd.R_slice ho;subst o2;have HO := Aside0.mk ho;have HG := Aside0.mk hg;have HAt := Aside0.mk hat;have f4 := Aside0.mk hb;have hneT : some T ≠ (Value.slice Ar zs.length cr).ownBlock := by rw [← HV.out]; exact Kd.R_ne (a0.out.tab.row i (by rw [a0.out.tab.len, hlen]; exact i2)) a0.out.tt.1 (by decide)
      have hneH : some (s 3) ≠ (Value.slice Ar zs.length cr).ownBlock := by rw [← HV.out]; exact Kd.R_ne (a0.out.tab.row i (by rw [a0.out.tab.len, hlen]; exact i2)) a0.out.tab.blk (by decide)
      have hneE : some E ≠ (Value.slice Ar zs.length cr).ownBlock := by rw [← HV.out]; exact HN.out
      have fz := Tab.frozen a0.out.tab i hg hneH;rw [List.length_append, List.length_singleton];clear ho hb hg hat;refine hK.out _ _ ⟨Go.Proofs.YtmcbkmfpmcbdpaaW.PrintWords.cell_grown HG.out a2.out.1 hneT, Go.Proofs.YtmcbkmfpmcbdpaaW.PrintWords.cell_grown HG.out a2.out.2.1 hneE, Go.Proofs.YtmcbkmfpmcbdpaaW.PrintWords.cell_grown HG.out a2.out.2.2.1 hneE, Go.Proofs.YtmcbkmfpmcbdpaaW.PrintWords.cell_grown HG.out a2.out.2.2.2.1 hneE, Go.Proofs.YtmcbkmfpmcbdpaaW.PrintWords.cell_grown HG.out a2.out.2.2.2.2 hneH⟩ (fun hHeld => ?_);clear hK K;refine norm_ (a' := ?_) ?_ ?_;rotate_left
      · show Act.put _ (some 49) _ = _
        simp only [Act.put, qz1, qz2, qz3, i64_w, i32_w];rfl
      refine pqz 17 (some 50) (bqz 19 262143) rfl rfl (by kernel_rfl) ?_ ?_ (fun _ _ _ h => h) (by rfl) ?_ ?_ ?_;rotate_left 2;intro w';go_simp;(with_reducible rfl);simp only [Act.put, qz1, qz2, qz3, i64_w, i32_w];rfl
      refine last_ (i := 18) (N := none) (bqz 19 524287) rfl rfl (by kernel_rfl) (by decide) (fun K hK => ?_);refine skip_ (w1 := ?_) (by rfl) rfl ?_ ?_;rotate_left
      · go_simp
        rfl
      refine hK.out _ _ ?_;clear hK K;refine done_ (by kernel_rfl) ?_;have g6 := a0.out.app (i := i) (by rw [insL_len]; exact i2) (x := x) (v1 := .slice A4 (zs.length + 1) c4) (w3 := w3) (by rw [← HZ.out]; simpa using HO.out) (by rw [HV.out]; exact HG.out) (by rw [HV.out]; simpa using HAt.out);rw [← insL_snoc _ x i2 HXi.out, ← i8.out] at g6;have d6 := Aside0.mk g6;have d0 := Aside0.mk (below_set (g := s 3) (j := i) (v := .slice A4 (zs.length + 1) c4) f4.out d5.out.1);have e0 := (World.cell?_of_block (w := w3) (w' := w3.setCell ⟨s 3, i, none⟩ (.slice A4 (zs.length + 1) c4)) (a := ⟨E, 0, none⟩) (Below.heap_setCell _ _ _ _ (by have := HEg.out.1; show E ≠ s 3; omega))).trans hHeld.2.1;have e1 := (World.cell?_of_block (w := w3) (w' := w3.setCell ⟨s 3, i, none⟩ (.slice A4 (zs.length + 1) c4)) (a := ⟨E, 1, none⟩) (Below.heap_setCell _ _ _ _ (by have := HEg.out.1; show E ≠ s 3; omega))).trans hHeld.2.2.1;clear g6 a0 a1 hHeld a2 HO HG HAt f4 hneT hneH hneE fz HN HZ HV;generalize w3.setCell ⟨s 3, i, none⟩ (.slice A4 (zs.length + 1) c4) = Z at d6 d0 e0 e1 ⊢;go_wp2_with fail
      have hok : ptOk (x.f0, x.f1) := by
        obtain ⟨h1, h2, h3⟩ := HXe.out;have := h1.1;have := h1.2;exact ⟨by show i64in x.f0; unfold i64in; omega, by show i64in x.f1; unfold i64in; omega⟩
      obtain ⟨z, hz⟩ : ∃ z, z = cntL (es.take k) (x.f0, x.f1) := ⟨_, rfl⟩
      have o3 := cntL_nn (es.take k) (x.f0, x.f1);have k9 : (es.take k).length ≤ es.length := by rw [List.length_take]; omega
      rw [← hz] at o3;have hcn : c < maxLen := by have := cnt_le2 d6.out.all HF.out; unfold maxLen; omega
      have a7 := below_drew1 (Below.refl Z.heap.size Z);have e0d := later a7 e0;have e1d := later a7 e1;have a6 := Aside0.mk (d6.out.below a7);have d2 := Aside0.mk (below_then d0.out d0.out.size a7);have HOk := Aside0.mk hok;have HZ := Aside0.mk hz;have HCn := Aside0.mk hcn;have hwz : wrap64 (z + 1) = z + 1 := by unfold wrap64; omega
      have hlook := a6.out.all.get ptKB hok Try.underlying165 (zeroI _);rw [HF.out _ hok, encZ_get, ← hz] at hlook;have k1 : (Instr.lookup 165 (.map (some mA)) (.agg #[.int .i64 x.f0, .int .i64 x.f1]) false).run Try.prog Z.drew = .ok (.int .i64 z) Z.drew := hlook;have HME := Aside0.mk (show E ≠ mA from by have := HEg.out.2; omega);clear hlook hok hz hcn a7 e0 e1 d6 d0 k9;refine start_ (n := 11) (S := fun w' => w'.cell? ⟨E, 0, none⟩ = some (.int .i64 x.f0) ∧ w'.cell? ⟨E, 1, none⟩ = some (.int .i64 x.f1) ∧ (Instr.lookup 165 (.map (some mA)) (.agg #[.int .i64 x.f0, .int .i64 x.f1]) false).run Try.prog w' = .ok (.int .i64 z) w') (ds := [10]) (bqz 11 0) (by kernel_rfl) rfl rfl ⟨e0d, e1d, k1⟩ (fun hHeld => ?_);clear e0d e1d k1;generalize Z.drew = Y2 at a6 d2 hHeld ⊢;obtain ⟨v0, st, w5, hrun, j9, k7, h4, h8⟩ := a6.out.all.entry ptKB pt_law HOk.out Try.underlying165 zeroI HCn.out;have HRun := Aside0.mk hrun;have a5 := Aside0.mk j9;have HLk := Aside0.mk h4;have HSt := Aside0.mk h8;have HH := Aside0.mk hHeld;clear hrun j9 k7 h4 h8;refine pqz 0 (some 51) (bqz 11 1) rfl rfl (by kernel_rfl) ?_ ?_ (fun _ _ _ h => h) (by rfl) ?_ ?_ ?_;rotate_left 2;intro w';go_simp;(with_reducible rfl);simp only [Act.put, qz1, qz2, qz3, i64_w, i32_w];rfl
      refine pqz 1 (some 52) (bqz 11 3) rfl rfl (by kernel_rfl) ?_ ?_ (fun _ _ _ h => h) (by rfl) ?_ ?_ ?_;rotate_left 2;intro w';go_simp;(with_reducible rfl);simp only [Act.put, qz1, qz2, qz3, i64_w, i32_w];rfl
      refine pqz 3 (some 54) (bqz 11 11) rfl rfl (by kernel_rfl) ?_ ?_ (fun _ _ _ h => h) (by rfl) ?_ ?_ ?_;rotate_left 2;intro w';go_simp;(with_reducible rfl);simp only [Act.put, qz1, qz2, qz3, i64_w, i32_w];rfl
      refine tqz 2 (some 53) (bqz 11 15) rfl rfl (by kernel_rfl) ?_ ?_ (fun _ _ _ h => h) (by rfl) ?_ hHeld ?_ ?_;rotate_left 2;rintro w' ⟨s0, s1, s2⟩;go_simp;(with_reducible rfl);simp only [Act.put, qz1, qz2, qz3, i64_w, i32_w];rfl
      refine tqz 4 (some 55) (bqz 11 31) rfl rfl (by kernel_rfl) ?_ ?_ (fun _ _ _ h => h) (by rfl) ?_ hHeld ?_ ?_;rotate_left 2;rintro w' ⟨s0, s1, s2⟩;go_simp;(with_reducible rfl);simp only [Act.put, qz1, qz2, qz3, i64_w, i32_w];rfl
      refine pqz 5 (some 56) (bqz 11 63) rfl rfl (by kernel_rfl) ?_ ?_ (fun _ _ _ h => h) (by rfl) ?_ ?_ ?_;rotate_left 2;intro w';go_simp;(with_reducible rfl);simp only [Act.put, qz1, qz2, qz3, i64_w, i32_w];rfl
      refine tqz 6 (some 57) (bqz 11 127) rfl rfl (by kernel_rfl) ?_ ?_ (fun _ _ _ h => h) (by rfl) ?_ hHeld ?_ ?_;rotate_left 2;rintro w' ⟨s0, s1, s2⟩;go_simp;(with_reducible rfl);simp only [Act.put, qz1, qz2, qz3, i64_w, i32_w];rfl
      refine pqz 7 (some 58) (bqz 11 255) rfl rfl (by kernel_rfl) ?_ ?_ (fun _ _ _ h => h) (by rfl) ?_ ?_ ?_;rotate_left 2;intro w';go_simp;(with_reducible rfl);simp only [Act.put, qz1, qz2, qz3, i64_w, i32_w];rfl
      refine one_ (i := 8) (N := some 59) (bqz 11 511) rfl rfl (by kernel_rfl) (by decide) (fun K hK => ?_);refine value_ (w1 := w5) (v := .tuple #[v0, goInt st]) (by rfl) rfl (run_gentry rfl rfl rfl HRun.out) ?_;refine hK.out _ _ ⟨cell_keep2 a5.out HME.out HH.out.1, cell_keep2 a5.out HME.out HH.out.2.1, (by have h := HLk.out; rw [HF.out _ HOk.out, encZ_get, ← HZ.out] at h; exact h)⟩ (fun hHeld => ?_);clear hK K;refine norm_ (a' := ?_) ?_ ?_;rotate_left
      · show Act.put _ (some 59) _ = _
        simp only [Act.put, qz1, qz2, qz3, i64_w, i32_w];rfl
      refine pqz 9 (some 60) (bqz 11 1023) rfl rfl (by kernel_rfl) ?_ ?_ (fun _ _ _ h => h) (by rfl) ?_ ?_ ?_;rotate_left 2;intro w';go_simp;(with_reducible rfl);simp only [Act.put, qz1, qz2, qz3, i64_w, i32_w];rfl
      refine last_ (i := 10) (N := none) (bqz 11 2047) rfl rfl (by kernel_rfl) (by decide) (fun K hK => ?_);obtain ⟨w6, e9, g9, g8, k8⟩ := HSt.out w5 (.int .i64 (z + 1)) rfl;refine skip_ (w1 := w6) (by rfl) rfl (run_gstore rfl rfl rfl ?hv e9) ?_
      (case hv => go_simp)
      have i5 := Aside0.mk g9;have HGG := Aside0.mk g8;clear e9 g9 g8 k8;refine hK.out _ _ ?_;clear hK K;refine done_ (by kernel_rfl) ?_;have m0 := Aside0.mk (a6.out.count i5.out (a5.out.trans HGG.out));have l2 := Aside0.mk (d2.out.grown (a5.out.trans HGG.out) d2.out.size (fun q e => by cases e; exact d5.out.2));clear a6 d2 a5 i5 HGG HRun HLk HSt HH hHeld;go_wp2
      go_roundw
      case rel =>
        refine ⟨k + 1, _, _, _, _, by omega, by go_num, m0, ⟨fun q hq => ?_⟩, l2⟩;rw [i8.out, cntL_snoc];unfold putM;by_cases hqe : q = (x.f0, x.f1)
        · rw [if_pos hqe, if_pos hqe, hqe, ← HZ.out]
          unfold encZ;rw [if_neg (by omega)]
        · rw [if_neg hqe, if_neg hqe]
          exact HF.out q hq
      case measure => simp [intOf]; omega
    · have ek : es.take k = es := List.take_of_length_le (by omega)
      rw [ek] at HI HF;have b0 := later HBr.out HVb.out.1;obtain ⟨wo, hwo⟩ : ∃ wo, wo = wr := ⟨_, rfl⟩
      subst hwo;go_wp2
      clear b0 ek hk hlt;go_loopw [5, 64] (fun v i wr => ∃ (k : Nat), k ≤ n ∧ i = .int .i64 k ∧ Aside0 (Kd.R (Kd.int .i64) 3 wr wo.heap.size (fun _ => True) v ((List.range k).map fun j : Nat => (j : Int))) ∧ Aside0 (Below wo.heap.size wo wr)) (fun _ i _ => n - (intOf i).toNat)
      case atStart => exact ⟨0, Nat.zero_le _, rfl, ⟨Kd.R_nil _ _ _ _ _⟩, ⟨Below.refl _ _⟩⟩
      case round =>
        obtain ⟨k2, k0, rfl, HR, HBx⟩ := hrel;by_cases hlt2 : k2 < n
        · obtain ⟨zs, hzs⟩ : ∃ zs, zs = (List.range k2).map fun j : Nat => (j : Int) := ⟨_, rfl⟩
          have HZl := Aside0.mk (show zs.length = k2 by rw [hzs]; simp);rw [← hzs] at HR;have HZs := Aside0.mk hzs;clear hzs;go_wp2_with (at_builtin; refine Kd.R_append (Kd.int .i64) (w0 := wo) wo.heap.size rfl (.tmp 67) (.tmp 69) 28 3 (.int .i64 0) 8 rfl Try.underlying28 infoI rfl (by decide) (by omega) _ zs (k2 : Int) [.int .i64 (k2 : Int)] (fun _ => True) (fun _ => False) rfl rfl rfl (fun _ hk => hk.elim) (fun _ _ => trivial) HR.out HBx.out HBx.out.size (by rw [HZl.out]; omega) ?_; intro v9 w9 ho hb hg hat; have n1 := Aside0.mk ho; have l5 := Aside0.mk hb; clear ho hb hg hat)
          go_roundw
          case rel =>
            refine ⟨k2 + 1, by omega, by go_num, ⟨?_⟩, l5⟩;have h := n1.out;rw [HZs.out] at h;rw [List.range_succ, List.map_append];exact h
          case measure => simp [intOf]; omega
        · have g3 : n = k2 := by omega
          subst g3;obtain ⟨gN, cN, hvN, hgb, hgl, _⟩ := Kd.R_form HR.out (by simpa using d8);rw [List.length_map, List.length_range] at hvN;have hN := HR.out;rw [hvN] at hN;subst hvN;have HN := Aside0.mk hN;have HTw := Aside0.mk (blk_lt HI.out.tt.1);clear k0 hlt2 hN HR hgb;have hbT := blk_below (blk_below HI.out.tt.1 HBx.out) (below_alloc (Below.refl wr.heap.size wr) (Obj.cells #[.slice (some ⟨gN, 0, none⟩) n cN] 28));have t5 := (blk_cell hbT 5).trans (show _ = some (.slice none 0 0) from rfl);have f5 := blk_frozen (i := 5) hbT;have HbT := Aside0.mk hbT;have d9 : i64in (0 : Int) := by unfold i64in; omega
          have i7 := Aside0.mk d9;clear hbT d9;obtain ⟨gQ, hgQ⟩ : ∃ gQ, gQ = wr.heap.size := ⟨_, rfl⟩
          have HGQ := Aside0.mk hgQ;clear hgQ
          go_wp2_with (first
            | (refine wpList_st1 rfl _ _ _ rfl T 5 (.slice (some ⟨wr.heap.size, 0, none⟩) 1 1) rfl rfl rfl ⟨_, t5⟩ f5 sizeSSI ?_
               intro b5 b9;have i3 := Aside0.mk b9;have f6 := Aside0.mk (GM.made Try.prog 3 ik i64in b5);have a4 := set_at (i := 5) (v := .slice (some ⟨wr.heap.size, 0, none⟩) 1 1) HbT.out;rw [← b9] at a4;have f9 := Aside0.mk (blk_below a4 (below_alloc (Below.refl b5.heap.size b5) (Obj.map #[] 0)));have b6 := Aside0.mk (blk_lt a4);clear b9 t5 f5 a4)
            | (refine wpList_ginsV _ intKB rfl _ _ _ 87 rfl 165 Try.underlying87 b5.heap.size 0 (fun _ => none) rfl f6.out (by unfold maxLen; omega) 0 i7.out (.map (some mA)) rfl rfl ?_
               intro o8 hgm hgg hsz;have HGM := Aside0.mk hgm;have HGG := Aside0.mk hgg;have b7 := (hgg.block T (by have := b6.out; simp; omega) (by intro e; cases e; exact absurd b6.out (Nat.lt_irrefl _))).trans f9.out;have t8 := (blk_cell b7 8).trans (show _ = some (.map none) from rfl);have f8 := blk_frozen (i := 8) b7;clear hgm hgg hsz b7)
            | (refine wpList_st1 rfl _ _ _ rfl T 8 (.map (some b5.heap.size)) rfl rfl rfl ⟨_, t8⟩ f8 sizeMM ?_
               intro o9 h9;have hend := HI.out.end_ HF.out d5.out.1 d5.out.2 HBr.out.size d8 h7 HBx.out HN.out rfl i3.out rfl HGM.out HGG.out HBr.out;rw [← h9] at hend;obtain ⟨n6, s0, e1, e2, e3, e4, e5, e6, e7, e8⟩ := hend;have HS0 := Aside0.mk e1;have i4 := Aside0.mk e2;have i9 := Aside0.mk e3;have a3 := Aside0.mk e4;have l6 := Aside0.mk e5;have HCm := Aside0.mk (And.intro e6 e7);have f3 := Aside0.mk e8;have b1 := later e8 HVb.out.2.1;clear h9 e1 e2 e3 e4 e5 e6 e7 e8 t8 f8))
          clear b1 HGM HGG i3 f6 f9 b6 HI HBr HBx HN HTw HGQ HbT i7
          go_loopw [86] (fun i wr => ∃ (k : Nat) (s' : Sg) (cl' : Nat → Cl) (p' : PSt) (wt' : Int → Bool), k ≤ ls.length ∧ i = .int .i64 k ∧ Aside0 (SP V.heap.size T wr cl' s') ∧ Aside0 (Std n (.slice A1 ls.length c1) (.slice A2 es.length c2) s' p') ∧ Aside0 (PW n p') ∧ Aside0 (StdW s' wt') ∧ Aside0 (Wt p' wt') ∧ Aside0 (Same0 s0 s') ∧
            Aside0 (RefB n es (gi p'.block) k) ∧ Aside0 ((∀ x, Nd n x → HP p' x = 0) ∧ p'.heaps.length = 1) ∧ Aside0 (Below V.heap.size V wr)) (fun i _ => ls.length - (intOf i).toNat)
          case atStart =>
            refine ⟨0, s0, n6, pZ n, fun _ => false, Nat.zero_le _, rfl, HS0, i4, ⟨PW.start d8⟩, i9, ⟨Wt.start n⟩, ⟨Same0.refl _⟩, ⟨?_⟩, ⟨fun x _ => ?_, rfl⟩, f3⟩
            · have e : gi (pZ n).block = fun _ => 0 := funext (gi_zero n)
              rw [e];exact RefB.start
            · show gi [0] (gi (List.replicate n 0) x) = 0
              rw [gi_zero];rfl
          case round =>
            clear HS0 i4 i9 f3;obtain ⟨k, s', cl', p', wt', hk, rfl, HS, HD, HPw, HW, HWt, HSm, HRb, HPh, HBx⟩ := hrel;by_cases hlt : k < ls.length
            · have b0 := later (below_then HBx.out HBx.out.size (below_alloc (Below.refl wr.heap.size wr) (Obj.map #[] 0))) HVb.out.1
              have HGz := Aside0.mk (GM.made Try.prog 3 ik i64in wr);have HBz := Aside0.mk (below_alloc (Below.refl wr.heap.size wr) (Obj.map #[] 0));obtain ⟨m, hm⟩ : ∃ m, m = wr.heap.size := ⟨_, rfl⟩
              go_wp2
              clear b0;rw [← hm] at HGz ⊢;have HMm := Aside0.mk hm;clear hm;obtain ⟨wb, hwb⟩ : ∃ wb, wb = wr := ⟨_, rfl⟩
              subst hwb;have hki : i64in (k : Int) := by unfold i64in; omega
              have HKi := Aside0.mk hki;obtain ⟨m1, m2, m3, m4, m5, m6, m7, m8, m9, k5⟩ := HSm.out;have f7 := Aside0.mk (show s'.cm.getD 0 0 = mA ∧ 0 < s'.cm.length ∧ s'.fc 0 = f from by rw [m7, m8, HCm.out.1, HCm.out.2]; exact ⟨rfl, by simp, rfl⟩);clear hki m1 m2 m3 m4 m5 m6 m7 m8 m9 k5;go_loopw [92] (fun i wr => ∃ (k2 : Nat) (f1 : Int → Option Value) (d1 : Nat), k2 ≤ n ∧ i = .int .i64 k2 ∧ Aside0 (G1 wr m f1 d1) ∧ Aside0 (∀ a, i64in a → (f1 a).isSome = (decide (0 ≤ a) && decide (a < (k2 : Int)) && decide (cntL es (a, (k : Int)) ≠ 0))) ∧ Aside0 (d1 ≤ k2) ∧ Aside0 (Below wb.heap.size wb wr)) (fun i _ => n - (intOf i).toNat)
              case atStart => exact ⟨0, _, _, Nat.zero_le _, rfl, HGz, ⟨fun a ha => by rw [lt0_false a]; rfl⟩, ⟨Nat.le_refl _⟩, HBz⟩
              case round =>
                clear HGz HBz;obtain ⟨k2, f1, d1, k0, rfl, HG, d4, d3, HBy⟩ := hrel;by_cases hlt2 : k2 < n
                · have hk2i : i64in (k2 : Int) := by unfold i64in; omega
                  have n0 := Aside0.mk hk2i;obtain ⟨z, hz⟩ : ∃ z, z = cntL es ((k2 : Int), (k : Int)) := ⟨_, rfl⟩
                  have HZ := Aside0.mk hz;have hSy := HS.out.below HBy.out;have hga : G2 wr mA f (s'.cc 0) := by have h := (hSy (.cmp 0) f7.out.2.1).2.1; rw [f7.out.1, f7.out.2.2] at h; exact h
                  have l1 : (Instr.lookup 165 (.map (some mA)) (.agg #[.int .i64 (k2 : Int), .int .i64 (k : Int)]) false).run Try.prog wr = .ok (.int .i64 z) wr := look_eq ptKB (a := ((k2 : Int), (k : Int))) hga ⟨hk2i, HKi.out⟩ Try.underlying165 (zeroI _) (by rw [HF.out _ ⟨hk2i, HKi.out⟩, ← hz]; exact encZ_get _);have hznn : 0 ≤ z := by rw [hz]; exact (cntL_nn _ _).1
                  clear hz hSy hga hk2i;by_cases hz0 : z = 0
                  · have d9 : decide ((0 : Int) < z) = false := by simp; omega
                    have o1 : ¬ (0 : Int) < z := by omega
                    go_wp2
                    go_roundw
                    case rel =>
                      refine ⟨k2 + 1, f1, d1, by omega, by go_num, HG, ⟨fun a ha => ?_⟩, ⟨Nat.le_succ_of_le d3.out⟩, HBy⟩;rw [d4.out a ha];by_cases e : a = (k2 : Int)
                      · rw [e, ← HZ.out, hz0]; simp
                      · have : decide (a < (k2 : Int)) = decide (a < ((k2 + 1 : Nat) : Int)) := by
                          rw [decide_eq_decide]; omega
                        rw [this]
                    case measure => simp [intOf]; omega
                  · have d9 : decide ((0 : Int) < z) = true := by simp; omega
                    have o1 : (0 : Int) < z := by omega
                    go_wp2_with (refine wpList_gput _ intKB rfl _ _ _ 88 rfl 3 Try.underlying88 m d1 f1 rfl HG.out (by have := d3.out; unfold maxLen; omega) (k2 : Int) n0.out (.int .i64 1) rfl rfl ?_; intro w8 hgm hgg hsz; have l8 := Aside0.mk hgm; have HGg := Aside0.mk hgg; clear hgm hgg hsz)
                    have l4 := Aside0.mk (HBy.out.grown HGg.out HBy.out.size (fun q e => by cases e; rw [HMm.out]; exact Nat.le_refl _));go_roundw
                    case rel =>
                      refine ⟨k2 + 1, _, _, by omega, by go_num, l8, ⟨fun a ha => ?_⟩, ⟨?_⟩, l4⟩
                      · unfold putM
                        by_cases e : a = (k2 : Int)
                        · rw [if_pos e, e, ← HZ.out]
                          simp [hz0];omega
                        · rw [if_neg e, d4.out a ha]
                          have : decide (a < (k2 : Int)) = decide (a < ((k2 + 1 : Nat) : Int)) := by
                            rw [decide_eq_decide]; omega
                          rw [this]
                      · have := d3.out
                        split <;> omega
                    case measure => simp [intOf]; omega
                · have g3 : n = k2 := by omega
                  subst g3
                  have hX : ∀ a, (decide (0 ≤ a) && decide (a < (n : Int)) && decide (cntL es (a, (k : Int)) ≠ 0)) = true ↔ Nd n a ∧ ∃ e ∈ es, e.f0 = a ∧ e.f1 = (k : Int) := fun a => by
                    simp only [Bool.and_eq_true, decide_eq_true_eq];rw [← cntE_all es (P := fun _ => true) (fun _ => rfl) (a, (k : Int)), cntE_pos];unfold Nd;simp
                  obtain ⟨XA, hXA⟩ : ∃ XA : Int → Bool, XA = fun a => (decide (0 ≤ a) && decide (a < (n : Int)) && decide (cntL es (a, (k : Int)) ≠ 0)) := ⟨_, rfl⟩
                  have HX := Aside0.mk (show ∀ a, XA a = true ↔ Nd n a ∧ ∃ e ∈ es, e.f0 = a ∧ e.f1 = (k : Int) from fun a => by rw [hXA]; exact hX a);have HFx := Aside0.mk (show ∀ a, i64in a → (f1 a).isSome = XA a from fun a ha => by rw [hXA]; exact d4.out a ha);have HNx := Aside0.mk (show ∀ a, XA a = true → Nd n a from fun a ha => ((HX.out a).1 ha).1);obtain ⟨d7, b8⟩ : ∃ d7 : Nat → Cl, d7 = fun q => if q = m then .far 200 else cl' q := ⟨_, rfl⟩
                  have hcA : d7 m = .far 200 := by rw [b8]; show (if m = m then _ else _) = _; rw [if_pos rfl]
                  have HCa := Aside0.mk hcA;have HS6 := Aside0.mk (HS.out.stay (cls' := d7) (Kept.of_below HBy.out _) fun q hq _ => by rw [b8]; show (if q = m then _ else _) = _; rw [if_neg (by have := HMm.out; omega)]);have HBw := Aside0.mk (below_then HBx.out HBx.out.size HBy.out);clear hX hXA b8 hcA d4 d3 HBy HS
                  go_wp2_with (go_at_call 148
                               refine (split_any (X := XA) V wr HS6.out HD.out HPw.out HW.out HWt.out HG.out HCa.out HFx.out HNx.out d8 h7 HBw.out).mono ?_;rintro e w6 ⟨rfl, s6, n7, p6, o4, j6, j3, j5, j7, g7, j8, j4, k3, k4, o0, j2⟩;have HS7 := Aside0.mk j6;have l7 := Aside0.mk j3;have n2 := Aside0.mk j5;have n5 := Aside0.mk j7;have k6 := Aside0.mk g7;have l3 := Aside0.mk j2;have HM7' := Aside0.mk (HSm.out.trans k4)
                               have n4 := Aside0.mk (HRb.out.label (B' := gi p6.block) fun x y hx hy => by
                                 rw [j8 x y hx hy];refine and_congr_right fun _ => iff_congr ?_ ?_
                                 · rw [HX.out x]; exact ⟨fun h => h.2, fun h => ⟨hx, h⟩⟩
                                 · rw [HX.out y]; exact ⟨fun h => h.2, fun h => ⟨hy, h⟩⟩)
                               have l9 := Aside0.mk (show (∀ x, Nd n x → HP p6 x = 0) ∧ p6.heaps.length = 1 from ⟨fun x hx => by rw [j4 x hx]; exact HPh.out.1 x hx, by rw [k3]; exact HPh.out.2⟩);clear j6 j3 j5 j7 g7 j2 o0 k4 j4 k3 j8 HS6 HBw HG HFx HNx HCa)
                  go_roundw
                  case rel => exact ⟨k + 1, s6, n7, p6, o4, by omega, by go_num, HS7, l7, n2, n5, k6, HM7', n4, l9, l3⟩
                  case measure => simp [intOf]; omega
            · have ek : ls.length = k := by omega
              subst ek;go_wp2
              go_ret
              have o5 := HSm.out;obtain ⟨m1, m2, m3, m4, m5, m6, m7, m8, m9, k5⟩ := HSm.out;refine ⟨T, s', cl', p', wt', rfl, ⟨HS.out.lower a1.out.size, HD.out, HPw.out, HW.out, HWt.out, ⟨by rw [m2]; exact a3.out.len, fun i hi => by rw [m3]; exact a3.out.ins i hi⟩, ?_, ?_⟩, below_then a1.out a1.out.size HBx.out⟩
              · rw [HPh.out.2]
                exact l6.out.congr m5 m7 m8 m9 fun e he => HPh.out.1 _ (HEs.out e he).2.2
              · exact RefB.end_ HRb.out (h0 := 0) HPh.out.1 HEs.out
end Go.Proofs.Ytmcbkmfpmcbdpaa.H
