/-
  The walk of bisim.open: a system's table.
-/
import Derived.Test.YtmpiokdomjchiaaHc
import Derived.Test.YtmpiokdomjchiaaHt
import Derived.Test.YtmpiokdomjchiaaHm
import Derived.Test.YtmpiokdomjchiaaWLast
import Derived.Test.YtmpiokdomjchiaaPb
set_option linter.unusedVariables false
set_option linter.unusedSimpArgs false
namespace Go.Proofs.Ytmpiokdomjchiaa.H
open Go.RowKit Go.Proofs.Ytmpiokdomjchiaa.Pr Go.Proofs.YtmpiokdomjchiaaW.PrintWords Go.Proofs.Ytmpiokdomjchiaa.Sem Go.Proofs.YtmpiokdomjchiaaW.PrintLast

abbrev Pair := S31
/-- Node i's edges. -/
def outs (n : Nat) (es : List Ed) : List (List Ed) := (List.range n).map fun i : Nat => es.filter fun e => decide (e.f0 = (i : Int))
theorem outs_length (n : Nat) (es : List Ed) : (outs n es).length = n := by simp [outs]
theorem outs_at {n : Nat} (es : List Ed) {i : Nat} (hi : i < n) : (outs n es).getD i [] = es.filter fun e => decide (e.f0 = (i : Int)) := by
  simp [outs, List.getD_eq_getElem?_getD, hi]
theorem outs_snoc {n : Nat} (es : List Ed) (e : Ed) {i : Nat} (hi : i < n) (he : e.f0 = (i : Int)) : (outs n es).set i ((outs n es).getD i [] ++ [e]) = outs n (es ++ [e]) := by
  apply List.ext_getElem
  · simp [outs]
  · intro j h1 h2
    have hj : j < n := by simpa [outs] using h2
    rw [List.getElem_set]
    by_cases h : i = j
    · subst h
      rw [if_pos rfl, outs_at es hi]
      simp [outs, he]
    · rw [if_neg h]
      have : ¬ e.f0 = (j : Int) := by omega
      simp [outs, this]

/-- Pair k of a row that is read. -/
theorem atP {w : World} {A : Option Addr} {n : Nat} {xs : List Pair} (h : Kd.C k31 w A n xs) (k : Nat) (hk : k < n) : ∃ ad, A = some ad ∧ w.cell? (ad.add (k * 2)) = some (.int .i64 (xs.getD k z31).f0) ∧ w.cell? ⟨(ad.add (k * 2)).block, (ad.add (k * 2)).off + 1, none⟩ = some (.int .i64 (xs.getD k z31).f1) :=
  at_T31 h (k : Int) (by omega) (by omega)
theorem take_snoc {α : Type} (d : α) {xs : List α} {k : Nat} (hk : k < xs.length) : xs.take (k + 1) = xs.take k ++ [xs.getD k d] := by
  rw [List.take_add_one, List.getElem?_eq_getElem hk, List.getD_eq_getElem?_getD, List.getElem?_eq_getElem hk]
  rfl

/-- The pairs of a list. -/
def relS (rel : List Pair) : Int → Int → Bool := fun a b => rel.any fun p => decide (p.f0 = a) && decide (p.f1 = b)
theorem relS_snoc (rel : List Pair) (x : Pair) : relS (rel ++ [x]) = withP (relS rel) x.f0 x.f1 := by
  funext a b
  simp only [relS, withP, List.any_append, List.any_cons, List.any_nil, Bool.or_false]
  congr 1
  rw [show decide (x.f0 = a) = decide (a = x.f0) from decide_eq_decide.2 eq_comm, show decide (x.f1 = b) = decide (b = x.f1) from decide_eq_decide.2 eq_comm]
theorem relS_nil : relS [] = fun _ _ => false := by funext a b; simp [relS]
/-- Is a pair one of nodes? -/
def inP (n : Int) (p : Pair) : Bool := decide (0 ≤ p.f0) && (decide (0 ≤ p.f1) && (decide (p.f0 < n) && decide (p.f1 < n)))

/-- The variables of bisim.open in memory. -/
structure OpenSt (w wr : World) (H n : Nat) (v1 v2 : Value) (es : List Ed) (cnt : Nat) (S : Int → Int → Bool) : Prop where
  box : BoxL wr w.heap.size n v1 v2
  tb : wr.heap[H + 1 + 1]? = some (.cells #[.slice (some ⟨H, 0, none⟩) n n, .map (some (H + 1))] 93 (0, 0))
  tab : ∃ vs, Tab k81 81 23 wr w.heap.size H vs (outs n es)
  pm : PM wr (H + 1) cnt S
  below : Below w.heap.size w wr
  base : w.heap.size ≤ H
theorem OpenSt.t0 {w wr : World} {H n : Nat} {v1 v2 : Value} {es : List Ed} {cnt : Nat} {S : Int → Int → Bool} (h : OpenSt w wr H n v1 v2 es cnt S) : wr.cell? ⟨H + 1 + 1, 0, none⟩ = some (.slice (some ⟨H, 0, none⟩) n n) := (blk_cell h.tb 0).trans rfl
theorem OpenSt.t1 {w wr : World} {H n : Nat} {v1 v2 : Value} {es : List Ed} {cnt : Nat} {S : Int → Int → Bool} (h : OpenSt w wr H n v1 v2 es cnt S) : wr.cell? ⟨H + 1 + 1, 1, none⟩ = some (.map (some (H + 1))) := (blk_cell h.tb 1).trans rfl
theorem OpenSt.on {w wr wr' : World} {H n : Nat} {v1 v2 : Value} {es : List Ed} {cnt : Nat} {S : Int → Int → Bool} (h : OpenSt w wr H n v1 v2 es cnt S) (hb : Below wr.heap.size wr wr') : OpenSt w wr' H n v1 v2 es cnt S :=
  ⟨h.box.below hb, blk_below h.tb hb, by obtain ⟨vs, ht⟩ := h.tab; exact ⟨vs, ht.below hb⟩, h.pm.below hb, below_then h.below h.below.size hb, h.base⟩

theorem OpenSt.put {w V w3 : World} {H n : Nat} {a b : Value} {es : List Ed} {cnt : Nat} {S : Int → Int → Bool} {vs : List Value} (h : OpenSt w V H n a b es cnt S) (hT : Tab k81 81 23 V w.heap.size H vs (outs n es)) {i : Nat} (hi : i < n) {x : Ed} (hx : x.f0 = (i : Int)) {v1 : Value}
    (ho : Kd.R k81 81 w3 w.heap.size (fun _ => True) v1 ((outs n es).getD i [] ++ [x])) (hb : Below w.heap.size w w3) (hg : V.grownBy w3 (vs.getD i nilS).ownBlock) (hat : v1.ownBlock = (vs.getD i nilS).ownBlock ∨ ∃ b, v1.ownBlock = some b ∧ V.heap.size ≤ b) :
    OpenSt w (w3.setCell ⟨H, i, none⟩ v1) H n a b (es ++ [x]) cnt S := by
  have hlen := outs_length n es
  have hrow := hT.row i (by rw [hT.len, hlen]; exact hi)
  have cellsNe : ∀ {g t : Nat} {cs : Array Value}, V.heap[g]? = some (.cells cs t (0, 0)) → t ≠ 81 → t ≠ 23 → (w3.setCell ⟨H, i, none⟩ v1).heap[g]? = some (.cells cs t (0, 0)) := by
    intro g t cs hgb h1 h2
    have hne : some g ≠ (vs.getD i nilS).ownBlock := Kd.R_ne hrow hgb (Ne.symm h1)
    have hgH : g ≠ H := by
      intro e
      subst e
      rw [hT.blk] at hgb
      cases hgb
      exact h2 rfl
    rw [Below.heap_setCell _ _ _ _ hgH]
    exact (hg.block g (Array.getElem?_eq_some_iff.1 hgb).1 hne).trans hgb
  refine ⟨cellsNe h.box (by decide) (by decide), cellsNe h.tb (by decide) (by decide), ⟨_, by rw [← outs_snoc es x hi hx]; exact hT.put rfl (by decide) i (by rw [hlen]; exact hi) ho hg hat⟩, ?_, below_set hb h.base, h.base⟩
  refine (h.pm.grown ?_ hg).same ?_
  · intro k hk
    obtain ⟨cells, hc⟩ := Kd.R_typed hrow k hk
    exact ⟨_, _, _, hc⟩
  · rw [Below.heap_setCell _ _ _ _ (by simp)]
/-- The pairs' map has turned. -/
theorem OpenSt.mapped {w V w3 : World} {H n : Nat} {a b : Value} {es : List Ed} {cnt cnt' : Nat} {S S' : Int → Int → Bool} (h : OpenSt w V H n a b es cnt S) (hp : PM w3 (H + 1) cnt' S') (hg : V.grownBy w3 (some (H + 1))) : OpenSt w w3 H n a b es cnt' S' := by
  obtain ⟨es', c', hm⟩ := h.pm.blk
  have cellsNe : ∀ {g t : Nat} {cs : Array Value}, V.heap[g]? = some (.cells cs t (0, 0)) → w3.heap[g]? = some (.cells cs t (0, 0)) := by
    intro g t cs hgb
    refine (hg.block g (Array.getElem?_eq_some_iff.1 hgb).1 ?_).trans hgb
    intro e
    cases e
    rw [hm] at hgb
    cases hgb
  obtain ⟨vs, hT⟩ := h.tab
  refine ⟨cellsNe h.box, cellsNe h.tb, ⟨vs, hT.grown rfl hm (by intro c t fr e; cases e) hg⟩, hp, ?_, h.base⟩
  exact h.below.grown hg h.below.size (by intro k hk; cases hk; exact Nat.le_trans h.base (Nat.le_succ _))
/-- A table in memory (made behind the first 'base' blocks): its block is H + 2. -/
structure TableAt (base : Nat) (w : World) (H n : Nat) (es : List Ed) (cnt : Nat) (S : Int → Int → Bool) : Prop where
  tb : w.heap[H + 1 + 1]? = some (.cells #[.slice (some ⟨H, 0, none⟩) n n, .map (some (H + 1))] 93 (0, 0))
  tab : ∃ vs, Tab k81 81 23 w base H vs (outs n es)
  pm : PM w (H + 1) cnt S
  base : base ≤ H
/-- What bisim.open answers: a table, if all pairs are nodes. -/
def OpenPost (w : World) (n : Nat) (es : List Ed) (rel : List Pair) (ok : Bool) (e : Ending) (w' : World) : Prop :=
  (if ok then ∃ H, e = .returned (.tuple #[.pointer (some ⟨H + 1 + 1, 0, none⟩), .bool true]) ∧ TableAt w.heap.size w' H n es rel.length (relS rel) else e = .returned (.tuple #[.pointer none, .bool false])) ∧ Below w.heap.size w w'
theorem n_le {n : Int} {ls : List ByteArray} {es : List Ed} (h : mayR n ls es = true) : 1 ≤ n ∧ n ≤ 2048 := by
  unfold mayR at h
  simp only [Bool.and_eq_true, decide_eq_true_eq] at h
  exact ⟨h.1, h.2.1⟩
theorem es_le {n : Int} {ls : List ByteArray} {es : List Ed} (h : mayR n ls es = true) : es.length ≤ 1000000 := by
  unfold mayR at h
  simp only [Bool.and_eq_true, decide_eq_true_eq] at h
  exact h.2.2.2.1
theorem es_at {n : Int} {ls : List ByteArray} {es : List Ed} (h : mayR n ls es = true) {k : Nat} (hk : k < es.length) : (0 ≤ (es.getD k z81).f0 ∧ (es.getD k z81).f0 < n) ∧ (0 ≤ (es.getD k z81).f2 ∧ (es.getD k z81).f2 < n) := by
  unfold mayR at h
  simp only [Bool.and_eq_true, decide_eq_true_eq] at h
  have := List.all_eq_true.1 h.2.2.2.2.2 k (List.mem_range.2 hk)
  unfold okAt' at this
  simp only [Bool.and_eq_true, decide_eq_true_eq] at this
  exact ⟨this.1, this.2.1⟩

set_option maxHeartbeats 8000000 in
set_option maxRecDepth 100000 in
theorem open_main (n : Nat) (ls : List ByteArray) (es : List Ed) (rel : List Pair) (A1 A2 A3 : Option Addr) (c1 c2 c3 : Nat) (w : World) (hr1 : Kd.C Kd.string w A1 ls.length ls) (hr2 : Kd.C k81 w A2 es.length es) (hr3 : Kd.C k31 w A3 rel.length rel)
    (hm : mayR n ls es = true) :
    Calls Try.prog 60 #[.agg #[.int .i64 n, .slice A1 ls.length c1, .slice A2 es.length c2], .slice A3 rel.length c3] w (OpenPost w n es rel (rel.all (inP n))) := by
  have HB := Aside0.mk (Below.refl w.heap.size w)
  have HC : ∀ W, Below w.heap.size w W → Calls Try.prog 66 #[.agg #[.int .i64 n, .slice A1 ls.length c1, .slice A2 es.length c2]] W fun e w' => e = .returned (.int .i64 0) ∧ Below W.heap.size W w' := fun W hW =>
    check_yes n ls es A1 A2 c1 c2 W (Kd.C_below hr1 hW) (Kd.C_below hr2 hW) (by rw [may_same]; exact hm)
  have HC' := Lib.hid HC
  have HR1 := Aside0.mk hr1
  have HR2 := Aside0.mk hr2
  have HR3 := Aside0.mk hr3
  have HM := Aside0.mk hm
  have hmk := print_make_of (P := Try.prog) 90 23 (.slice none 0 0) 24 Try.underlying90 (by kernel_rfl) rfl (by omega) n (by have := n_le hm; omega)
  have hmm := @run_makeMap Try.prog
  have hel := es_le hm
  clear HC hr1 hr2 hr3 hm
  go_enter Try.func60, Try.ntmps60
  go_wp2_with fail
  refine (HC'.out _ (below_alloc HB.out _)).mono ?_
  rintro e w1 ⟨rfl, hB⟩
  have hX : BoxL w1 w.heap.size n (.slice A1 ls.length c1) (.slice A2 es.length c2) := blk_below (blk_new w _) hB
  have HX := Aside0.mk hX
  have HB1 := Aside0.mk (below_then (below_alloc HB.out _) (by simp) hB)
  have b0 := hX.c0
  have b2 : ∀ o1 o2 o3, (((w1.alloc o1).alloc o2).alloc o3).cell? ⟨w.heap.size, 2, none⟩ = some (.slice A2 es.length c2) := fun o1 o2 o3 => later (below_alloc (below_alloc (below_alloc (Below.refl _ _) _) _) _) hX.c2
  clear hB hX
  go_wp2
  obtain ⟨H, hH⟩ : ∃ H, H = w1.heap.size := ⟨_, rfl⟩
  have hst : OpenSt w (((w1.alloc (Obj.cells (madeCells #[Value.slice none 0 0] n) 23)).alloc (Obj.map #[] 0)).alloc (Obj.cells #[Value.slice (some ⟨w1.heap.size, 0, none⟩) n n, Value.map (some (w1.heap.size + 1))] 93)) H n (.slice A1 ls.length c1) (.slice A2 es.length c2) [] 0 (fun _ _ => false) := by
    subst hH
    refine ⟨HX.out.below (below_alloc (below_alloc (below_alloc (Below.refl _ _) _) _) _), ?_, ⟨List.replicate n nilS, ?_⟩, ?_, by repeat (first | exact HB1.out | apply below_alloc), HB1.out.size⟩
    · have := blk_new ((w1.alloc (Obj.cells (madeCells #[Value.slice none 0 0] n) 23)).alloc (Obj.map #[] 0)) (Obj.cells #[Value.slice (some ⟨w1.heap.size, 0, none⟩) n n, Value.map (some (w1.heap.size + 1))] 93)
      simpa using this
    · have h0 := Tab.start (d := k81) (e := 81) (base := w.heap.size) n (blk_new w1 (Obj.cells (madeCells #[nilS] n) 23))
      have h1 := h0.below (below_alloc (below_alloc (Below.refl _ _) (Obj.map #[] 0)) (Obj.cells #[Value.slice (some ⟨w1.heap.size, 0, none⟩) n n, Value.map (some (w1.heap.size + 1))] 93))
      have e1 : outs n [] = List.replicate n [] := by
        apply List.ext_getElem
        · simp [outs]
        · intro i h1 h2; simp [outs]
      rw [e1]
      exact h1
    · have := (PM.made (w1.alloc (Obj.cells (madeCells #[Value.slice none 0 0] n) 23))).below (below_alloc (Below.refl _ _) (Obj.cells #[Value.slice (some ⟨w1.heap.size, 0, none⟩) n n, Value.map (some (w1.heap.size + 1))] 93))
      simpa using this
  rw [← hH] at hst ⊢
  have HST := Aside0.mk hst
  clear hst b0 b2 HX hH
  generalize (((w1.alloc (Obj.cells (madeCells #[Value.slice none 0 0] n) 23)).alloc (Obj.map #[] 0)).alloc (Obj.cells #[Value.slice (some ⟨H, 0, none⟩) n n, Value.map (some (H + 1))] 93)) = w2 at HST ⊢
  go_loopw [23] (fun i wr => ∃ k : Nat, k ≤ es.length ∧ i = .int .i64 k ∧ Aside0 (OpenSt w wr H n (.slice A1 ls.length c1) (.slice A2 es.length c2) (es.take k) 0 (fun _ _ => false))) (fun i _ => es.length - (intOf i).toNat)
  case atStart => exact ⟨0, Nat.zero_le _, rfl, HST⟩
  case round =>
    obtain ⟨k, hk, rfl, HS⟩ := hrel
    clear HST
    by_cases hlt : k < es.length
    · obtain ⟨ad, hA, g0, g1, g2⟩ := atE HR2.out k hlt
      subst hA
      replace g0 := later HS.out.below g0
      replace g1 := later HS.out.below g1
      replace g2 := later HS.out.below g2
      have hin := es_at HM.out hlt
      obtain ⟨x, hx⟩ : ∃ x, x = es.getD k z81 := ⟨_, rfl⟩
      rw [← hx] at g0 g1 g2 hin
      have hx' := Aside0.mk hx; clear hx
      obtain ⟨i, hi⟩ : ∃ i : Nat, x.f0 = (i : Int) := ⟨x.f0.toNat, by omega⟩
      have i0 : (0 : Int) ≤ (i : Int) := by omega
      have i1 : (i : Int) < (n : Int) := by omega
      have i2 : i < n := by omega
      rw [hi] at g0
      go_wp2_with fail
      obtain ⟨E, hE⟩ : ∃ E, E = wr.heap.size := ⟨_, rfl⟩
      obtain ⟨vs, hTab⟩ := HS.out.tab
      have hlen := outs_length n (es.take k)
      obtain ⟨Ar, cr, hv, hcell, _⟩ := hTab.read i (by rw [hlen]; exact i2)
      have hlt0 := fun b (hb : (vs.getD i nilS).ownBlock = some b) => Kd.R_lt (hTab.row i (by rw [hTab.len, hlen]; exact i2)) b hb
      have hnE : some E ≠ (vs.getD i nilS).ownBlock := fun h => absurd (hlt0 E h.symm) (by rw [hE]; exact Nat.lt_irrefl _)
      obtain ⟨zs, hzs⟩ : ∃ zs, zs = (outs n (es.take k)).getD i [] := ⟨_, rfl⟩
      have hzl : zs.length ≤ 1000000 := by
        rw [hzs, outs_at _ i2]
        exact Nat.le_trans (List.length_filter_le _ _) (by rw [List.length_take]; omega)
      rw [← hzs] at hv hcell
      rw [← hE]
      have e0 := (blk_cell (blk_new wr (Obj.cells #[Value.int IntKind.i64 (i : Int), Value.int IntKind.i64 x.f1, Value.int IntKind.i64 x.f2] 81)) 0).trans rfl
      have e1 := (blk_cell (blk_new wr (Obj.cells #[Value.int IntKind.i64 (i : Int), Value.int IntKind.i64 x.f1, Value.int IntKind.i64 x.f2] 81)) 1).trans rfl
      have e2 := (blk_cell (blk_new wr (Obj.cells #[Value.int IntKind.i64 (i : Int), Value.int IntKind.i64 x.f1, Value.int IntKind.i64 x.f2] 81)) 2).trans rfl
      rw [← hE] at e0 e1 e2
      have HS1 := Aside0.mk (HS.out.on (below_drew1 (below_alloc (Below.refl _ _) (Obj.cells #[Value.int IntKind.i64 (i : Int), Value.int IntKind.i64 x.f1, Value.int IntKind.i64 x.f2] 81))))
      have HT1 := Aside0.mk (hTab.below (below_drew1 (below_alloc (Below.refl _ _) (Obj.cells #[Value.int IntKind.i64 (i : Int), Value.int IntKind.i64 x.f1, Value.int IntKind.i64 x.f2] 81))))
      have hc1 := HT1.out.cell i (by rw [hlen]; exact i2)
      rw [hv] at hc1
      have HF := Aside0.mk hi
      have HN := Aside0.mk hnE
      have HZ := Aside0.mk hzs
      have HV := Aside0.mk hv
      clear hTab hcell hlt0 hnE hE hi hzs hv hin
      generalize (wr.alloc (Obj.cells #[Value.int IntKind.i64 (i : Int), Value.int IntKind.i64 x.f1, Value.int IntKind.i64 x.f2] 81)) = W at HS1 HT1 hc1 e0 e1 e2 ⊢
      refine start_ (n := 19) (S := fun w' => w'.cell? ⟨H + 1 + 1, 0, none⟩ = some (.slice (some ⟨H, 0, none⟩) n n) ∧ w'.cell? ⟨E, 0, none⟩ = some (.int .i64 (i : Int)) ∧ w'.cell? ⟨E, 1, none⟩ = some (.int .i64 x.f1) ∧ w'.cell? ⟨E, 2, none⟩ = some (.int .i64 x.f2) ∧ w'.cell? ⟨H, i, none⟩ = some (.slice Ar zs.length cr)) (ds := [18]) #[false, false, false, false, false, false, false, false, false, false, false, false, false, false, false, false, false, false, false] (by kernel_rfl) rfl rfl ⟨HS1.out.t0, e0, e1, e2, hc1⟩ (fun hHeld => ?_)
      generalize W.drew = V at HS1 HT1 hHeld hc1 ⊢; clear e0 e1 e2 hc1; have HH0 := Aside0.mk hHeld
      refine pure_ (i := 0) (N := some 27) (v := ?_) (a' := ?_) #[true, false, false, false, false, false, false, false, false, false, false, false, false, false, false, false, false, false, false] rfl rfl (by kernel_rfl) (fun _ _ _ h => h) (Or.inl ⟨by rfl, ?_⟩) ?_ ?_
      rotate_left
      · intro w'
        go_simp
        with_reducible rfl
      rotate_left
      · simp only [Act.put, List.setIfInBounds_toArray, List.set_cons_zero, List.set_cons_succ, i64_w, i32_w]
        rfl
      refine pure_ (i := 1) (N := some 28) (v := ?_) (a' := ?_) #[true, true, false, false, false, false, false, false, false, false, false, false, false, false, false, false, false, false, false] rfl rfl (by kernel_rfl) (fun _ _ _ h => h) (Or.inl ⟨by rfl, ?_⟩) ?_ ?_
      rotate_left
      · intro w'
        go_simp
        with_reducible rfl
      rotate_left
      · simp only [Act.put, List.setIfInBounds_toArray, List.set_cons_zero, List.set_cons_succ, i64_w, i32_w]
        rfl
      refine pure_ (i := 2) (N := some 29) (v := ?_) (a' := ?_) #[true, true, true, false, false, false, false, false, false, false, false, false, false, false, false, false, false, false, false] rfl rfl (by kernel_rfl) (fun _ _ _ h => h) (Or.inl ⟨by rfl, ?_⟩) ?_ ?_
      rotate_left
      · intro w'
        go_simp
        with_reducible rfl
      rotate_left
      · simp only [Act.put, List.setIfInBounds_toArray, List.set_cons_zero, List.set_cons_succ, i64_w, i32_w]
        rfl
      refine pure_ (i := 4) (N := some 31) (v := ?_) (a' := ?_) #[true, true, true, false, true, false, false, false, false, false, false, false, false, false, false, false, false, false, false] rfl rfl (by kernel_rfl) (fun _ _ _ h => h) (Or.inl ⟨by rfl, ?_⟩) ?_ ?_
      rotate_left
      · intro w'
        go_simp
        with_reducible rfl
      rotate_left
      · simp only [Act.put, List.setIfInBounds_toArray, List.set_cons_zero, List.set_cons_succ, i64_w, i32_w]
        rfl
      refine pure_ (i := 6) (N := some 33) (v := ?_) (a' := ?_) #[true, true, true, false, true, false, true, false, false, false, false, false, false, false, false, false, false, false, false] rfl rfl (by kernel_rfl) (fun _ _ _ h => h) (Or.inl ⟨by rfl, ?_⟩) ?_ ?_
      rotate_left
      · intro w'
        go_simp
        with_reducible rfl
      rotate_left
      · simp only [Act.put, List.setIfInBounds_toArray, List.set_cons_zero, List.set_cons_succ, i64_w, i32_w]
        rfl
      refine pure_ (i := 7) (N := some 34) (v := ?_) (a' := ?_) #[true, true, true, false, true, false, true, true, false, false, false, false, false, false, false, false, false, false, false] rfl rfl (by kernel_rfl) (fun _ _ _ h => h) (Or.inl ⟨by rfl, ?_⟩) ?_ ?_
      rotate_left
      · intro w'
        go_simp
        with_reducible rfl
      rotate_left
      · simp only [Act.put, List.setIfInBounds_toArray, List.set_cons_zero, List.set_cons_succ, i64_w, i32_w]
        rfl
      refine pure_ (i := 8) (N := some 35) (v := ?_) (a' := ?_) #[true, true, true, false, true, false, true, true, true, false, false, false, false, false, false, false, false, false, false] rfl rfl (by kernel_rfl) (fun _ _ _ h => h) (Or.inl ⟨by rfl, ?_⟩) ?_ ?_
      rotate_left
      · intro w'
        go_simp
        with_reducible rfl
      rotate_left
      · simp only [Act.put, List.setIfInBounds_toArray, List.set_cons_zero, List.set_cons_succ, i64_w, i32_w]
        rfl
      refine pure_ (i := 10) (N := some 37) (v := ?_) (a' := ?_) #[true, true, true, false, true, false, true, true, true, false, true, false, false, false, false, false, false, false, false] rfl rfl (by kernel_rfl) (fun _ _ _ h => h) (Or.inl ⟨by rfl, ?_⟩) ?_ ?_
      rotate_left
      · intro w'
        go_simp
        with_reducible rfl
      rotate_left
      · simp only [Act.put, List.setIfInBounds_toArray, List.set_cons_zero, List.set_cons_succ, i64_w, i32_w]
        rfl
      refine take_ (i := 3) (N := some 30) (v := ?_) (a' := ?_) #[true, true, true, true, true, false, true, true, true, false, true, false, false, false, false, false, false, false, false] rfl rfl (by kernel_rfl) (fun _ _ _ h => h) (Or.inl ⟨by rfl, ?_⟩) hHeld ?_ ?_
      rotate_left
      · rintro w' ⟨s0, s1, s2, s3, s4⟩
        go_simp
        with_reducible rfl
      rotate_left
      · simp only [Act.put, List.setIfInBounds_toArray, List.set_cons_zero, List.set_cons_succ, i64_w, i32_w]
        rfl
      refine take_ (i := 5) (N := some 32) (v := ?_) (a' := ?_) #[true, true, true, true, true, true, true, true, true, false, true, false, false, false, false, false, false, false, false] rfl rfl (by kernel_rfl) (fun _ _ _ h => h) (Or.inl ⟨by rfl, ?_⟩) hHeld ?_ ?_
      rotate_left
      · rintro w' ⟨s0, s1, s2, s3, s4⟩
        go_simp
        with_reducible rfl
      rotate_left
      · simp only [Act.put, List.setIfInBounds_toArray, List.set_cons_zero, List.set_cons_succ, i64_w, i32_w]
        rfl
      refine take_ (i := 9) (N := some 36) (v := ?_) (a' := ?_) #[true, true, true, true, true, true, true, true, true, true, true, false, false, false, false, false, false, false, false] rfl rfl (by kernel_rfl) (fun _ _ _ h => h) (Or.inl ⟨by rfl, ?_⟩) hHeld ?_ ?_
      rotate_left
      · rintro w' ⟨s0, s1, s2, s3, s4⟩
        go_simp
        with_reducible rfl
      rotate_left
      · simp only [Act.put, List.setIfInBounds_toArray, List.set_cons_zero, List.set_cons_succ, i64_w, i32_w]
        rfl
      refine take_ (i := 11) (N := some 38) (v := ?_) (a' := ?_) #[true, true, true, true, true, true, true, true, true, true, true, true, false, false, false, false, false, false, false] rfl rfl (by kernel_rfl) (fun _ _ _ h => h) (Or.inl ⟨by rfl, ?_⟩) hHeld ?_ ?_
      rotate_left
      · rintro w' ⟨s0, s1, s2, s3, s4⟩
        go_simp
        with_reducible rfl
      rotate_left
      · simp only [Act.put, List.setIfInBounds_toArray, List.set_cons_zero, List.set_cons_succ, i64_w, i32_w]
        rfl
      refine pure_ (i := 12) (N := some 39) (v := ?_) (a' := ?_) #[true, true, true, true, true, true, true, true, true, true, true, true, true, false, false, false, false, false, false] rfl rfl (by kernel_rfl) (fun _ _ _ h => h) (Or.inl ⟨by rfl, ?_⟩) ?_ ?_
      rotate_left
      · intro w'
        go_simp
        with_reducible rfl
      rotate_left
      · simp only [Act.put, List.setIfInBounds_toArray, List.set_cons_zero, List.set_cons_succ, i64_w, i32_w]
        rfl
      refine take_ (i := 13) (N := some 40) (v := ?_) (a' := ?_) #[true, true, true, true, true, true, true, true, true, true, true, true, true, true, false, false, false, false, false] rfl rfl (by kernel_rfl) (fun _ _ _ h => h) (Or.inl ⟨by rfl, ?_⟩) hHeld ?_ ?_
      rotate_left
      · rintro w' ⟨s0, s1, s2, s3, s4⟩
        go_simp
        with_reducible rfl
      rotate_left
      · simp only [Act.put, List.setIfInBounds_toArray, List.set_cons_zero, List.set_cons_succ, i64_w, i32_w]
        rfl
      refine take_ (i := 14) (N := some 41) (v := ?_) (a' := ?_) #[true, true, true, true, true, true, true, true, true, true, true, true, true, true, true, false, false, false, false] rfl rfl (by kernel_rfl) (fun _ _ _ h => h) (Or.inl ⟨by rfl, ?_⟩) hHeld ?_ ?_
      rotate_left
      · rintro w' ⟨s0, s1, s2, s3, s4⟩
        go_simp
        with_reducible rfl
      rotate_left
      · simp only [Act.put, List.setIfInBounds_toArray, List.set_cons_zero, List.set_cons_succ, i64_w, i32_w]
        rfl
      refine one_ (i := 15) (N := some 42) #[true, true, true, true, true, true, true, true, true, true, true, true, true, true, true, true, false, false, false] rfl rfl (by kernel_rfl) (by decide) (fun K hK => ?_)
      refine value_ (w1 := ?_) (v := ?_) (by rfl) rfl ?_ ?_
      rotate_left 2
      · go_simp
        constructor
        · rfl
        · rfl
      refine hK.out _ _ ⟨later (below_alloc (Below.refl _ _) _) hHeld.1, later (below_alloc (Below.refl _ _) _) hHeld.2.1, later (below_alloc (Below.refl _ _) _) hHeld.2.2.1, later (below_alloc (Below.refl _ _) _) hHeld.2.2.2.1, later (below_alloc (Below.refl _ _) _) hHeld.2.2.2.2⟩ (fun hHeld => ?_)
      clear hK K
      refine norm_ (a' := ?_) ?_ ?_
      rotate_left
      · show Act.put _ (some 42) _ = _
        simp only [Act.put, List.setIfInBounds_toArray, List.set_cons_zero, List.set_cons_succ, i64_w, i32_w]
        rfl
      refine one_ (i := 16) (N := some 43) #[true, true, true, true, true, true, true, true, true, true, true, true, true, true, true, true, true, false, false] rfl rfl (by kernel_rfl) (by decide) (fun K hK => ?_)
      refine Kd.R_append_step k81 (w0 := w) w.heap.size (by rfl) (.tmp 40) (.tmp 42) 23 81 (.agg #[(.int .i64 0), (.int .i64 0), (.int .i64 0)]) 24 rfl Try.underlying23 info81 rfl (by decide) (by omega) (.slice Ar zs.length cr) zs x [.int .i64 (i : Int), .int .i64 x.f1, .int .i64 x.f2] (fun _ => True) (fun _ => False) rfl rfl ?aP (fun _ hk => hk.elim) ?aF ?aO ?aB ?aS ?aL ?_
      (case aP => rw [← HF.out]; exact k81_mkM _ _ _ x)
      (case aF => exact fun _ _ => trivial)
      (case aO => rw [← HV.out, HZ.out]; exact HT1.out.row i (by rw [HT1.out.len, hlen]; exact i2))
      (case aB => exact HS1.out.below)
      (case aS => exact HS1.out.below.size)
      (case aL => omega)
      intro v1 w3 ho hb hg hat
      obtain ⟨A4, c4, hv4⟩ := Kd.R_slice ho
      subst hv4
      have HO := Aside0.mk ho
      have HG := Aside0.mk hg
      have HAt := Aside0.mk hat
      have HBw := Aside0.mk hb
      have hneT : some (H + 1 + 1) ≠ (Value.slice Ar zs.length cr).ownBlock := by rw [← HV.out]; exact Kd.R_ne (HT1.out.row i (by rw [HT1.out.len, hlen]; exact i2)) HS1.out.tb (by decide)
      have hneH : some H ≠ (Value.slice Ar zs.length cr).ownBlock := by rw [← HV.out]; exact Kd.R_ne (HT1.out.row i (by rw [HT1.out.len, hlen]; exact i2)) HT1.out.blk (by decide)
      have hneE : some E ≠ (Value.slice Ar zs.length cr).ownBlock := by rw [← HV.out]; exact HN.out
      have fz := Tab.frozen HT1.out i hg hneH
      rw [List.length_append, List.length_singleton]
      clear ho hb hg hat
      refine hK.out _ _ ⟨cell_grown HG.out HH0.out.1 hneT, cell_grown HG.out HH0.out.2.1 hneE, cell_grown HG.out HH0.out.2.2.1 hneE, cell_grown HG.out HH0.out.2.2.2.1 hneE, cell_grown HG.out HH0.out.2.2.2.2 hneH⟩ (fun hHeld => ?_)
      clear hK K
      refine norm_ (a' := ?_) ?_ ?_
      rotate_left
      · show Act.put _ (some 43) _ = _
        simp only [Act.put, List.setIfInBounds_toArray, List.set_cons_zero, List.set_cons_succ, i64_w, i32_w]
        rfl
      refine pure_ (i := 17) (N := some 44) (v := ?_) (a' := ?_) #[true, true, true, true, true, true, true, true, true, true, true, true, true, true, true, true, true, true, false] rfl rfl (by kernel_rfl) (fun _ _ _ h => h) (Or.inl ⟨by rfl, ?_⟩) ?_ ?_
      rotate_left
      · intro w'
        go_simp
        with_reducible rfl
      rotate_left
      · simp only [Act.put, List.setIfInBounds_toArray, List.set_cons_zero, List.set_cons_succ, i64_w, i32_w]
        rfl
      refine last_ (i := 18) (N := none) #[true, true, true, true, true, true, true, true, true, true, true, true, true, true, true, true, true, true, true] rfl rfl (by kernel_rfl) (by decide) (fun K hK => ?_)
      refine skip_ (w1 := ?_) (by rfl) rfl ?_ ?_
      rotate_left
      · go_simp
        rfl
      refine hK.out _ _ ?_
      clear hK K
      refine done_ (by kernel_rfl) ?_
      go_wp2
      go_roundw
      case rel =>
        refine ⟨k + 1, by omega, by go_num, ⟨?_⟩⟩
        have e1 : es.take (k + 1) = es.take k ++ [x] := by rw [hx'.out]; exact take_snoc z81 hlt
        rw [e1]
        refine HS1.out.put HT1.out i2 HF.out ?_ HBw.out ?_ ?_
        · rw [← HZ.out]; simpa using HO.out
        · rw [HV.out]; exact HG.out
        · rw [HV.out]; simpa using HAt.out
      case measure => simp [intOf]; omega
    · have ek : es.take k = es := List.take_of_length_le (by omega)
      rw [ek] at HS
      clear ek
      go_wp2
      clear hk hlt
      go_loopw [48] (fun i wr2 => ∃ k : Nat, k ≤ rel.length ∧ i = .int .i64 k ∧ Aside0 (∀ j, j < k → inP n (rel.getD j z31) = true) ∧ Aside0 (OpenSt w wr2 H n (.slice A1 ls.length c1) (.slice A2 es.length c2) es k (relS (rel.take k)))) (fun i _ => rel.length - (intOf i).toNat)
      case atStart => exact ⟨0, Nat.zero_le _, rfl, ⟨fun j hj => by omega⟩, ⟨by rw [List.take_zero, relS_nil]; exact HS.out⟩⟩
      case round =>
        clear HS
        obtain ⟨k, hk, rfl, hz, HS⟩ := hrel
        by_cases hlt : k < rel.length
        · obtain ⟨ad, hA, g0, g1⟩ := atP HR3.out k hlt
          subst hA
          replace g0 := later HS.out.below g0
          replace g1 := later HS.out.below g1
          obtain ⟨x, hx⟩ : ∃ x, x = rel.getD k z31 := ⟨_, rfl⟩
          rw [← hx] at g0 g1
          have hx' := Aside0.mk hx; clear hx
          have b0 : ∀ o, (wr.alloc o).cell? ⟨w.heap.size, 0, none⟩ = some (.int .i64 n) := fun o => later (below_alloc (Below.refl _ _) o) HS.out.box.c0
          obtain ⟨a, ha⟩ : ∃ a, a = x.f0 := ⟨_, rfl⟩
          obtain ⟨b, hb⟩ : ∃ b, b = x.f1 := ⟨_, rfl⟩
          rw [← ha] at g0
          rw [← hb] at g1
          have HA := Aside0.mk ha
          have HBb := Aside0.mk hb
          clear ha hb
          have bad : (min a b < 0 ∨ (n : Int) ≤ max a b) → rel.all (inP n) = false := by
            intro h
            rw [Bool.eq_false_iff]
            intro he
            have := List.all_eq_true.1 he x (by rw [hx'.out, List.getD_eq_getElem?_getD, List.getElem?_eq_getElem hlt]; exact List.getElem_mem hlt)
            unfold inP at this
            rw [← HA.out, ← HBb.out] at this
            simp only [Bool.and_eq_true, decide_eq_true_eq] at this
            omega
          by_cases h0 : min a b < 0
          · have HBad := Aside0.mk (bad (.inl h0))
            clear bad
            go_wp2
            go_ret2
            refine ⟨by rw [HBad.out]; rfl, ?_⟩
            repeat (first | exact HS.out.below | apply below_alloc)
          · by_cases h1 : (n : Int) ≤ max a b
            · have HBad := Aside0.mk (bad (.inr h1))
              clear bad
              go_wp2
              go_ret2
              refine ⟨by rw [HBad.out]; rfl, ?_⟩
              repeat (first | exact HS.out.below | apply below_alloc)
            · clear bad
              have hin : inP n x = true := by
                unfold inP
                rw [← HA.out, ← HBb.out]
                simp only [Bool.and_eq_true, decide_eq_true_eq]
                omega
              have hok : i64ok a ∧ i64ok b := by
                have := n_le HM.out
                unfold i64ok
                omega
              have hrl := C_len HR3.out
              have HIn := Aside0.mk hin
              have HOk := Aside0.mk hok
              clear hin hok
              go_wp2_with fail
              clear h0 h1 b0 g0 g1
              obtain ⟨E, hE⟩ : ∃ E, E = wr.heap.size := ⟨_, rfl⟩
              rw [← hE]
              have e0 := (blk_cell (blk_new wr (Obj.cells #[Value.int IntKind.i64 a, Value.int IntKind.i64 b] 31)) 0).trans rfl
              have e1 := (blk_cell (blk_new wr (Obj.cells #[Value.int IntKind.i64 a, Value.int IntKind.i64 b] 31)) 1).trans rfl
              rw [← hE] at e0 e1
              have HS1 := Aside0.mk (HS.out.on (below_drew1 (below_alloc (Below.refl _ _) (Obj.cells #[Value.int IntKind.i64 a, Value.int IntKind.i64 b] 31))))
              clear hE
              generalize (wr.alloc (Obj.cells #[Value.int IntKind.i64 a, Value.int IntKind.i64 b] 31)) = W at HS1 e0 e1 ⊢
              refine start_ (n := 6) (S := fun w' => w'.cell? ⟨H + 1 + 1, 1, none⟩ = some (.map (some (H + 1))) ∧ w'.cell? ⟨E, 0, none⟩ = some (.int .i64 a) ∧ w'.cell? ⟨E, 1, none⟩ = some (.int .i64 b)) (ds := [5]) #[false, false, false, false, false, false] (by kernel_rfl) rfl rfl ⟨HS1.out.t1, e0, e1⟩ (fun hHeld => ?_)
              generalize W.drew = V at HS1 hHeld ⊢; clear e0 e1
              refine pure_ (i := 0) (N := some 68) (v := ?_) (a' := ?_) #[true, false, false, false, false, false] rfl rfl (by kernel_rfl) (fun _ _ _ h => h) (Or.inl ⟨by rfl, ?_⟩) ?_ ?_
              rotate_left
              · intro w'
                go_simp
                with_reducible rfl
              rotate_left
              · simp only [Act.put, List.setIfInBounds_toArray, List.set_cons_zero, List.set_cons_succ, i64_w, i32_w]
                rfl
              refine pure_ (i := 1) (N := some 69) (v := ?_) (a' := ?_) #[true, true, false, false, false, false] rfl rfl (by kernel_rfl) (fun _ _ _ h => h) (Or.inl ⟨by rfl, ?_⟩) ?_ ?_
              rotate_left
              · intro w'
                go_simp
                with_reducible rfl
              rotate_left
              · simp only [Act.put, List.setIfInBounds_toArray, List.set_cons_zero, List.set_cons_succ, i64_w, i32_w]
                rfl
              refine pure_ (i := 2) (N := some 70) (v := ?_) (a' := ?_) #[true, true, true, false, false, false] rfl rfl (by kernel_rfl) (fun _ _ _ h => h) (Or.inl ⟨by rfl, ?_⟩) ?_ ?_
              rotate_left
              · intro w'
                go_simp
                with_reducible rfl
              rotate_left
              · simp only [Act.put, List.setIfInBounds_toArray, List.set_cons_zero, List.set_cons_succ, i64_w, i32_w]
                rfl
              refine take_ (i := 3) (N := some 71) (v := ?_) (a' := ?_) #[true, true, true, true, false, false] rfl rfl (by kernel_rfl) (fun _ _ _ h => h) (Or.inl ⟨by rfl, ?_⟩) hHeld ?_ ?_
              rotate_left
              · rintro w' ⟨s0, s1, s2⟩
                go_simp
                with_reducible rfl
              rotate_left
              · simp only [Act.put, List.setIfInBounds_toArray, List.set_cons_zero, List.set_cons_succ, i64_w, i32_w]
                rfl
              refine take_ (i := 4) (N := some 72) (v := ?_) (a' := ?_) #[true, true, true, true, true, false] rfl rfl (by kernel_rfl) (fun _ _ _ h => h) (Or.inl ⟨by rfl, ?_⟩) hHeld ?_ ?_
              rotate_left
              · rintro w' ⟨s0, s1, s2⟩
                go_simp
                with_reducible rfl
              rotate_left
              · simp only [Act.put, List.setIfInBounds_toArray, List.set_cons_zero, List.set_cons_succ, i64_w, i32_w]
                rfl
              refine last_ (i := 5) (N := none) #[true, true, true, true, true, true] rfl rfl (by kernel_rfl) (by decide) (fun K hK => ?_)
              obtain ⟨w4, hput, hpm, hg⟩ := HS1.out.pm.put HOk.out.1 HOk.out.2 (by unfold maxLen; omega)
              have HPM := Aside0.mk hpm
              have HG := Aside0.mk hg
              clear hpm hg
              refine skip_ (w1 := ?_) (by rfl) rfl ?_ ?_
              rotate_left
              · go_simp
                rfl
              refine hK.out _ _ ?_
              clear hK K
              refine done_ (by kernel_rfl) ?_
              go_wp2
              go_roundw
              case rel =>
                refine ⟨k + 1, by omega, by go_num, ⟨fun j hj => ?_⟩, ⟨?_⟩⟩
                · rcases Nat.lt_succ_iff_lt_or_eq.1 hj with h | rfl
                  · exact hz.out j h
                  · rw [← hx'.out]; exact HIn.out
                · have e1 : relS (rel.take (k + 1)) = withP (relS (rel.take k)) a b := by
                    rw [take_snoc z31 hlt, ← hx'.out, relS_snoc, HA.out, HBb.out]
                  rw [e1]
                  exact HS1.out.mapped HPM.out HG.out
              case measure => simp [intOf]; omega
        · have ek : rel.take k = rel := List.take_of_length_le (by omega)
          rw [ek] at HS
          have hall : rel.all (inP n) = true := by
            rw [List.all_eq_true]
            intro p hp
            obtain ⟨j, hj, rfl⟩ := List.getElem_of_mem hp
            have := hz.out j (by omega)
            rw [List.getD_eq_getElem?_getD, List.getElem?_eq_getElem hj] at this
            exact this
          have HAll := Aside0.mk hall
          clear ek hall hz
          go_wp2
          go_ret2
          unfold OpenPost
          rw [HAll.out]
          have ek : k = rel.length := by omega
          subst ek
          exact ⟨⟨H, rfl, HS.out.tb, HS.out.tab, HS.out.pm, HS.out.base⟩, HS.out.below⟩

theorem open_no (n : Int) (ls : List ByteArray) (es : List Ed) (rel : List Pair) (A1 A2 A3 : Option Addr) (c1 c2 c3 : Nat) (w : World) (hr1 : Kd.C Kd.string w A1 ls.length ls) (hr2 : Kd.C k81 w A2 es.length es) (hm : mayR n ls es = false) :
    Calls Try.prog 60 #[.agg #[.int .i64 n, .slice A1 ls.length c1, .slice A2 es.length c2], .slice A3 rel.length c3] w fun e w' => e = .returned (.tuple #[.pointer none, .bool false]) ∧ Below w.heap.size w w' := by
  have HB := Aside0.mk (Below.refl w.heap.size w)
  have HC : ∀ W, Below w.heap.size w W → Calls Try.prog 66 #[.agg #[.int .i64 n, .slice A1 ls.length c1, .slice A2 es.length c2]] W fun e w' => e = .returned (.int .i64 1) ∧ Below W.heap.size W w' := fun W hW =>
    check_no n ls es A1 A2 c1 c2 W (Kd.C_below hr1 hW) (Kd.C_below hr2 hW) (by rw [may_same]; exact hm)
  have HC' := Lib.hid HC
  clear HC hr1 hr2 hm
  go_enter Try.func60, Try.ntmps60
  go_wp2_with fail
  refine (HC'.out _ (below_alloc HB.out _)).mono ?_
  rintro e w1 ⟨rfl, hB⟩
  have HB1 := Aside0.mk (below_then (below_alloc HB.out _) (by simp) hB)
  clear hB
  go_wp2
  go_ret2
  exact ⟨rfl, HB1.out⟩

theorem TableAt.on {base : Nat} {w w1 : World} {H n : Nat} {es : List Ed} {cnt : Nat} {S : Int → Int → Bool} (h : TableAt base w H n es cnt S) (hb : Below w.heap.size w w1) : TableAt base w1 H n es cnt S :=
  ⟨blk_below h.tb hb, by obtain ⟨vs, ht⟩ := h.tab; exact ⟨vs, ht.below hb⟩, h.pm.below hb, h.base⟩
theorem TableAt.t0 {base : Nat} {w : World} {H n : Nat} {es : List Ed} {cnt : Nat} {S : Int → Int → Bool} (h : TableAt base w H n es cnt S) : w.cell? ⟨H + 1 + 1, 0, none⟩ = some (.slice (some ⟨H, 0, none⟩) n n) := (blk_cell h.tb 0).trans rfl
theorem TableAt.t1 {base : Nat} {w : World} {H n : Nat} {es : List Ed} {cnt : Nat} {S : Int → Int → Bool} (h : TableAt base w H n es cnt S) : w.cell? ⟨H + 1 + 1, 1, none⟩ = some (.map (some (H + 1))) := (blk_cell h.tb 1).trans rfl
/-- Node i's edges, in memory. -/
theorem TableAt.row {base : Nat} {w : World} {H n : Nat} {es : List Ed} {cnt : Nat} {S : Int → Int → Bool} (h : TableAt base w H n es cnt S) {i : Nat} (hi : i < n) : ∃ A c, w.cell? ⟨H, i, none⟩ = some (.slice A (es.filter fun e => decide (e.f0 = (i : Int))).length c) ∧ Kd.C k81 w A (es.filter fun e => decide (e.f0 = (i : Int))).length (es.filter fun e => decide (e.f0 = (i : Int))) := by
  obtain ⟨vs, ht⟩ := h.tab
  obtain ⟨A, c, _, h1, h2⟩ := ht.read i (by rw [outs_length]; exact hi)
  rw [outs_at es hi] at h1 h2
  exact ⟨A, c, h1, h2⟩

end Go.Proofs.Ytmpiokdomjchiaa.H
