/-
  Plain words: where edges lead from lists of nodes; the search for a word that just one of two nodes has. No program in sight.
  A map of pairs of sets of nodes, of the call's own: which pairs it holds a 1 at.
  Walks: places of texts, whether there is an edge, whether lists are the same, whether a word is short.
-/
import Derived.Test.YtmpiokdomjchiaaK1
import Derived.Test.YtmpiokdomjchiaaPb
import Derived.Test.YtmpiokdomjchiaaHm
import Derived.Test.YtmpiokdomjchiaaHi
import Derived.Lib.SlicesS
set_option linter.unusedVariables false
set_option linter.unusedSimpArgs false
namespace Go.Proofs.Ytmpiokdomjchiaa.Sem
open Go.Proofs.Ytmpiokdomjchiaa.Pr Go.Proofs.Ytmpiokdomjchiaa.H

/-- The nodes below n of a set, rising. -/
def elems (n : Nat) (S : Nat → Bool) : List Int := ((List.range n).filter S).map Int.ofNat
/-- The set of a list. -/
def memS (a : List Int) : Nat → Bool := fun x => decide ((x : Int) ∈ a)
theorem mem_elems {n : Nat} {S : Nat → Bool} {x : Int} : x ∈ elems n S ↔ ∃ i : Nat, i < n ∧ S i = true ∧ x = (i : Int) := by
  unfold elems
  simp only [List.mem_map, List.mem_filter, List.mem_range]
  constructor
  · rintro ⟨i, ⟨h1, h2⟩, rfl⟩; exact ⟨i, h1, h2, rfl⟩
  · rintro ⟨i, h1, h2, rfl⟩; exact ⟨i, ⟨h1, h2⟩, rfl⟩
instance : DecidableEq Ed := fun x y => decidable_of_iff (x.f0 = y.f0 ∧ x.f1 = y.f1 ∧ x.f2 = y.f2) (by cases x; cases y; simp)
theorem memS_elems {n : Nat} {S : Nat → Bool} (h : ∀ i, S i = true → i < n) : memS (elems n S) = S := by
  funext x
  unfold memS
  cases hS : S x with
  | true => exact decide_eq_true (mem_elems.2 ⟨x, h x hS, hS, rfl⟩)
  | false =>
    apply decide_eq_false
    intro hm
    obtain ⟨i, _, h2, e⟩ := mem_elems.1 hm
    rw [show x = i by omega, h2] at hS
    cases hS
theorem elems_congr {n : Nat} {S T : Nat → Bool} (h : ∀ i, i < n → S i = T i) : elems n S = elems n T := by
  unfold elems
  congr 1
  apply List.filter_congr
  intro i hi
  exact h i (List.mem_range.1 hi)
theorem elems_nil {n : Nat} {S : Nat → Bool} (h : ∀ i, i < n → S i = false) : elems n S = [] := by
  unfold elems
  rw [List.filter_eq_nil_iff.2 (fun i hi => by rw [h i (List.mem_range.1 hi)]; simp)]
  rfl
/-- A list that is a rising list of nodes below n. -/
def GoodL (n : Nat) (a : List Int) : Prop := elems n (memS a) = a
theorem good_elems (n : Nat) (S : Nat → Bool) : GoodL n (elems n S) := by
  unfold GoodL
  apply elems_congr
  intro i hi
  cases hS : S i with
  | true => exact decide_eq_true (mem_elems.2 ⟨i, hi, hS, rfl⟩)
  | false =>
    apply decide_eq_false
    intro hm
    obtain ⟨j, _, h2, e⟩ := mem_elems.1 hm
    rw [show i = j by omega, h2] at hS
    cases hS
theorem elems_succ (n : Nat) (S : Nat → Bool) : elems (n + 1) S = elems n S ++ if S n then [(n : Int)] else [] := by
  unfold elems
  rw [List.range_succ, List.filter_append, List.map_append]
  congr 1
  cases h : S n <;> simp [h]
theorem good_one {n i : Nat} (h : i < n) : GoodL n [(i : Int)] := by
  unfold GoodL
  induction n with
  | zero => omega
  | succ n ih =>
    rw [elems_succ]
    by_cases e : i = n
    · subst e
      have h1 : elems i (memS [(i : Int)]) = [] := elems_nil (fun j hj => decide_eq_false (by simp; omega))
      rw [h1]
      simp [memS]
    · rw [ih (by omega)]
      have : memS [(i : Int)] n = false := decide_eq_false (by simp; omega)
      rw [this]
      simp
theorem good_range {n : Nat} {a : List Int} (h : GoodL n a) {x : Int} (hx : x ∈ a) : 0 ≤ x ∧ x < n := by
  rw [← h] at hx
  obtain ⟨i, h1, _, rfl⟩ := mem_elems.1 hx
  omega
theorem memS_one (i : Nat) : memS [(i : Int)] = withN (fun _ => false) i := by
  funext x
  unfold memS withN
  rw [Bool.false_or]
  exact decide_eq_decide.2 (by simp; omega)
/-- Where edges of a label lead from some nodes, rising. -/
def nextL (n : Nat) (es : List Ed) (a : List Int) (l : Int) : List Int := elems n (leads es (memS a) l)
theorem good_next (n : Nat) (es : List Ed) (a : List Int) (l : Int) : GoodL n (nextL n es a l) := good_elems n _
/-- Is there an edge? -/
def hasE (es : List Ed) (f l t : Int) : Bool := es.any fun e => decide (e = ⟨f, l, t⟩)
/-- Some edge of a label leads to i from some of the first k. -/
def leadsTo (es : List Ed) (a : List Int) (l : Int) (i : Nat) : Bool := a.any fun f => hasE es f l i
theorem leadsTo_is {es : List Ed} {a : List Int} {l : Int} (i : Nat) (h0 : ∀ e ∈ es, 0 ≤ e.f0) : leadsTo es a l i = leads es (memS a) l i := by
  unfold leadsTo leads hasE memS
  rw [Bool.eq_iff_iff]
  simp only [List.any_eq_true, Bool.and_eq_true, decide_eq_true_eq, beq_iff_eq]
  constructor
  · rintro ⟨f, hf, e, he, rfl⟩
    refine ⟨_, he, rfl, ?_, rfl⟩
    have := h0 _ he
    simp only at this
    rw [Int.toNat_of_nonneg this]
    exact hf
  · rintro ⟨e, he, h1, h2, h3⟩
    refine ⟨e.f0, ?_, e, he, ?_⟩
    · have := h0 _ he
      rw [Int.toNat_of_nonneg this] at h2
      exact h2
    · rw [← h1, ← h3]
theorem leads_in {es : List Ed} {S : Nat → Bool} {l : Int} {n : Nat} (h2 : ∀ e ∈ es, e.f2 < n) (i : Nat) (h : leads es S l i = true) : i < n := by
  unfold leads at h
  simp only [List.any_eq_true, Bool.and_eq_true, decide_eq_true_eq] at h
  obtain ⟨e, he, _, _, h3⟩ := h
  have := h2 e he
  omega
theorem memS_next {n : Nat} {es : List Ed} (h2 : ∀ e ∈ es, e.f2 < n) (a : List Int) (l : Int) : memS (nextL n es a l) = leads es (memS a) l := memS_elems (leads_in h2)
/-- Are two texts the same? -/
def teq (x s : ByteArray) : Bool := x.toList == s.toList
/-- The place of a text; -1: none. -/
def placeS (ls : List ByteArray) (s : ByteArray) : Int := idxP (fun x => teq x s) ls
/-- The nodes behind a word. -/
def behindW (n : Nat) (ls : List ByteArray) (es : List Ed) : List Int → List ByteArray → List Int
  | a, [] => a
  | a, s :: r => behindW n ls es (nextL n es a (placeS ls s)) r
theorem behindW_snoc (n : Nat) (ls : List ByteArray) (es : List Ed) : ∀ (a : List Int) (w : List ByteArray) (s : ByteArray), behindW n ls es a (w ++ [s]) = nextL n es (behindW n ls es a w) (placeS ls s)
  | a, [], s => rfl
  | a, x :: r, s => behindW_snoc n ls es _ r s
theorem good_behind {n : Nat} {ls : List ByteArray} {es : List Ed} : ∀ (w : List ByteArray) {a : List Int}, GoodL n a → GoodL n (behindW n ls es a w)
  | [], a, h => h
  | x :: r, a, h => good_behind r (good_next _ _ _ _)

/-- What a search found: two sets of nodes, the word that led there, from which pair, by which label. -/
structure Fnd where
  a : List Int
  b : List Int
  word : List ByteArray
  frm : Nat
  lab : Nat
/-- A word: its kind, its labels. -/
abbrev Wd := Int × List ByteArray
/-- Were two sets found? -/
def metF (all : List Fnd) (a b : List Int) : Bool := all.any fun f => decide (f.a = a) && decide (f.b = b)
/-- The word of a step. -/
def wordF (ls : List ByteArray) (all : List Fnd) (at_ k : Nat) : List ByteArray := (all.getD at_ ⟨[], [], [], 0, 0⟩).word ++ [ls.getD k ByteArray.empty]
/-- A step of the search: over, or more that is found. -/
def stepF (n : Nat) (ls : List ByteArray) (es : List Ed) (budget : Int) (all : List Fnd) (at_ k : Nat) : Wd ⊕ List Fnd :=
  let p := all.getD at_ ⟨[], [], [], 0, 0⟩
  let a := nextL n es p.a k
  let b := nextL n es p.b k
  if a = [] ∧ b = [] then (if budget < all.length then .inl (4, []) else .inr all)
  else if b = [] then .inl (1, wordF ls all at_ k)
  else if a = [] then .inl (2, wordF ls all at_ k)
  else
    let all' := if metF all a b then all else all ++ [⟨a, b, wordF ls all at_ k, at_, k⟩]
    if budget < all'.length then .inl (4, []) else .inr all'
/-- The labels from k on (m of them). -/
def labsF (n : Nat) (ls : List ByteArray) (es : List Ed) (budget : Int) : Nat → List Fnd → Nat → Nat → Wd ⊕ List Fnd
  | 0, all, _, _ => .inr all
  | m + 1, all, at_, k => match stepF n ls es budget all at_ k with
    | .inl w => .inl w
    | .inr all' => labsF n ls es budget m all' at_ (k + 1)
/-- The pairs from one on. -/
def goF (n : Nat) (ls : List ByteArray) (es : List Ed) (budget : Int) : Nat → List Fnd → Nat → Wd
  | 0, _, _ => (3, [])
  | f + 1, all, at_ =>
    if at_ < all.length then
      match labsF n ls es budget ls.length all at_ 0 with
      | .inl w => w
      | .inr all' => goF n ls es budget f all' (at_ + 1)
    else (3, [])
/-- A word that just one of two nodes has. -/
def ofF (n : Nat) (ls : List ByteArray) (es : List Ed) (s t : Nat) (budget : Int) : Wd :=
  goF n ls es budget (budget.toNat + 1) [⟨[(s : Int)], [(t : Int)], [], 0, 0⟩] 0

end Go.Proofs.Ytmpiokdomjchiaa.Sem

set_option linter.unusedVariables false
set_option linter.unusedSimpArgs false
namespace Go.Proofs.Ytmpiokdomjchiaa.H
open Go.RowKit Go.Proofs.Ytmpiokdomjchiaa.Pr Go.Proofs.YtmpiokdomjchiaaW.PrintWords Go.Proofs.Ytmpiokdomjchiaa.Sem
open Go.Maps (Keyed)

theorem mapM_all {α β : Type} {f : α → Option β} {g : α → β} : ∀ (L : List α), (∀ x ∈ L, f x = some (g x)) → L.mapM f = some (L.map g)
  | [], _ => rfl
  | x :: r, h => by
    rw [List.mapM_cons, h x (by simp), mapM_all r (fun y hy => h y (by simp [hy]))]
    rfl
/-- The literals of a set. -/
def litsS (S : Nat → Bool) : List Lit := (List.range 32).map fun j => Lit.int .u64 (wordOf S j : Int)
theorem under_set : Try.prog.underlying 107 = some (.array 32 100) := by kernel_rfl
theorem under_u64 : Try.prog.underlying 100 = some (.int .u64) := by kernel_rfl
theorem cells_set : Try.prog.cellsOf 107 = 32 := by kernel_rfl
theorem cells_u64 : Try.prog.cellsOf 100 = 1 := by kernel_rfl
theorem wf_word (S : Nat → Bool) (j : Nat) : (Lit.int .u64 (wordOf S j : Int)).wf = true := by
  have := wordOf_lt S j
  generalize wordOf S j = x at this
  have h1 : IntKind.u64.min = 0 := by kernel_rfl
  have h2 : IntKind.u64.max = 18446744073709551615 := by kernel_rfl
  simp [Lit.wf, h1, h2]
  omega
theorem lits_set (d : Nat) (S : Nat → Bool) : Try.prog.keyLits (d + 2) 107 (encSet S) = some (litsS S) := by
  unfold Program.keyLits
  simp only [under_set]
  rw [if_pos (by rw [cells_set]; simp [encSet]), cells_u64]
  rw [mapM_all (g := fun j => [Lit.int .u64 (wordOf S j : Int)])]
  · simp only [Option.map_some, litsS]
    generalize List.range 32 = L
    congr 1
    induction L with
    | nil => rfl
    | cons x r ih => simp only [List.map_cons, List.flatten_cons, ih]; rfl
  · intro j hj
    have hj' : j < 32 := List.mem_range.1 hj
    have e1 : ((encSet S).drop (j * 1)).take 1 = [Value.int .u64 (wordOf S j : Int)] := by
      rw [Nat.mul_one, List.drop_eq_getElem_cons (by simpa [encSet] using hj')]
      simp [encSet]
    rw [e1]
    unfold Program.keyLits
    simp only [under_u64]
    rw [if_pos ⟨trivial, wf_word S j⟩]
/-- The cells of a pair of sets. -/
def encP (A B : Nat → Bool) : List Value := encSet A ++ encSet B
theorem encP_len (A B : Nat → Bool) : (encP A B).length = 64 := by simp [encP, encSet]
/-- The key of a pair of sets. -/
def sk (A B : Nat → Bool) : Lit := .string (keyBytes (litsS A ++ litsS B))
theorem set_keyed : Keyed Try.prog 118 := Keyed.of_law (deep_law_laid laid_out (m := 3) (by omega) (of_decide_eq_true (by kernel_rfl)) (by kernel_rfl) (by kernel_rfl))
theorem pair_key_type : Try.prog.keyType 118 = true := by kernel_rfl
theorem cells_pair : Try.prog.cellsOf 118 = 64 := by kernel_rfl
theorem under_pair : ∃ fs, Try.prog.underlying 118 = some (.struct fs) ∧ (fs.toList.map fun f => (f.type, f.offset)) = [(107, 0), (107, 32)] ∧ fs.all (fun f => f.name != "_") = true := ⟨_, Try.underlying118, by kernel_rfl, by kernel_rfl⟩
theorem size_types : ∃ m, Try.prog.types.size = m + 3 := ⟨Try.prog.types.size - 3, by have : 3 ≤ Try.prog.types.size := of_decide_eq_true (by kernel_rfl); omega⟩
theorem sk_key (A B : Nat → Bool) : keyOf Try.prog 118 (.agg (encP A B).toArray) = some (sk A B) := by
  obtain ⟨fs, hu, hf, hn⟩ := under_pair
  obtain ⟨m, hm⟩ := size_types
  unfold keyOf
  simp only [hu]
  rw [if_pos (by rw [pair_key_type]; simp [Value.formed, hu, cells_pair, encP_len])]
  rw [hm]
  unfold Program.keyLits
  simp only [hu, Value.cells]
  rw [if_pos ⟨by rw [cells_pair]; simp [encP_len], by exact hn⟩]
  have e : (fs.toList.mapM fun f => Try.prog.keyLits (m + 2 + 1) f.type (((encP A B).drop f.offset).take (Try.prog.cellsOf f.type))) = (fs.toList.map fun f => (f.type, f.offset)).mapM fun p => Try.prog.keyLits (m + 2 + 1) p.1 (((encP A B).drop p.2).take (Try.prog.cellsOf p.1)) := by
    generalize fs.toList = L
    induction L with
    | nil => rfl
    | cons x r ih => simp only [List.mapM_cons, List.map_cons, ih]
  rw [e, hf]
  have d1 : ((encP A B).drop 0).take 32 = encSet A := by simp [encP, encSet]
  have d2 : ((encP A B).drop 32).take 32 = encSet B := by
    rw [encP, List.drop_append_of_le_length (by simp [encSet]), List.drop_eq_nil_of_le (by simp [encSet]), List.nil_append, List.take_of_length_le (by simp [encSet])]
  simp only [List.mapM_cons, List.mapM_nil, cells_set, d1, d2, lits_set (m + 1)]
  simp [sk]
theorem encP_inj {A B A' B' : Nat → Bool} (h : encP A B = encP A' B') : encSet A = encSet A' ∧ encSet B = encSet B' := List.append_inj h (by simp [encSet])
theorem sk_enc {A B A' B' : Nat → Bool} : sk A B = sk A' B' ↔ encP A B = encP A' B' := by
  constructor
  · intro e
    have h1 := sk_key A B
    rw [e] at h1
    have := set_keyed.inj h1 (sk_key A' B')
    simpa using this
  · intro e
    have h1 := sk_key A B
    rw [e, sk_key A' B'] at h1
    exact (Option.some.inj h1).symm
/-- The words of two sets. -/
def kw (A B : Nat → Bool) : List Nat := (List.range 32).map (wordOf A) ++ (List.range 32).map (wordOf B)
theorem encP_kw (A B : Nat → Bool) : encP A B = (kw A B).map fun (x : Nat) => Value.int .u64 (x : Int) := by
  unfold encP encSet kw
  rw [List.map_append, List.map_map, List.map_map]
  rfl
theorem sk_kw {A B A' B' : Nat → Bool} : sk A B = sk A' B' ↔ kw A B = kw A' B' := by
  rw [sk_enc, encP_kw, encP_kw]
  constructor
  · intro h
    exact (List.map_inj_right (f := fun (x : Nat) => Value.int .u64 (x : Int)) (fun x y e => by injection e with _ e; exact Int.ofNat_inj.1 e)).1 h
  · intro h
    rw [h]
theorem enc_inj {A B : Nat → Bool} (h : encSet A = encSet B) {i : Nat} (hi : i < 2048) : A i = B i := by
  have h1 : wordOf A (i / 64) = wordOf B (i / 64) := by
    have h2 : (encSet A)[i / 64]? = (encSet B)[i / 64]? := by rw [h]
    rw [encSet_at A _ (by omega), encSet_at B _ (by omega)] at h2
    simp only [Option.some.injEq, Value.int.injEq, true_and] at h2
    exact Int.ofNat_inj.1 h2
  have h3 := wordOf_bit A (i / 64) (i % 64) (Nat.mod_lt _ (by omega))
  rw [h1, wordOf_bit B (i / 64) (i % 64) (Nat.mod_lt _ (by omega)), Nat.div_add_mod] at h3
  exact h3.symm
theorem good_enc {n : Nat} {a b : List Int} (hn : n ≤ 2048) (ha : GoodL n a) (hb : GoodL n b) (h : encSet (memS a) = encSet (memS b)) : a = b := by
  rw [← ha, ← hb]
  exact elems_congr (fun i hi => enc_inj h (by omega))
theorem good_sk {n : Nat} {a b a' b' : List Int} (hn : n ≤ 2048) (ha : GoodL n a) (hb : GoodL n b) (ha' : GoodL n a') (hb' : GoodL n b') : sk (memS a) (memS b) = sk (memS a') (memS b') ↔ a = a' ∧ b = b' := by
  rw [sk_enc]
  constructor
  · intro h
    obtain ⟨h1, h2⟩ := encP_inj h
    exact ⟨good_enc hn ha ha' h1, good_enc hn hb hb' h2⟩
  · rintro ⟨rfl, rfl⟩
    rfl
theorem good_set {n : Nat} {a : List Int} (hn : n ≤ 2048) (ha : GoodL n a) : encSet (memS a) = encSet (fun _ => false) ↔ a = [] := by
  constructor
  · intro h
    rw [← ha]
    exact elems_nil (fun i hi => enc_inj h (by omega))
  · rintro rfl
    congr 1
/-- Block m is a map of pairs of sets (at most n of them): at a pair of which S is so stands a 1, else nothing. -/
def SM (w : World) (m n : Nat) (S : List Nat → Bool) : Prop :=
  ∃ D : DataW Unit, w.ownsMap Try.prog 118 (plainElem Try.prog 3) m n D ∧ ∀ a b, D.atKey (sk a b) (.lit (.int .i64 0)) = .lit (.int .i64 (bit (S (kw a b))))
section
variable {w w1 : World} {m n : Nat} {S : List Nat → Bool}
theorem SM.lt (h : SM w m n S) : m < w.heap.size := by obtain ⟨D, h, _⟩ := h; exact h.lt
theorem SM.blk (h : SM w m n S) : ∃ es c, w.heap[m]? = some (.map es c) := by obtain ⟨D, ⟨es, c, hb, _⟩, _⟩ := h; exact ⟨es, c, hb⟩
theorem SM.same (h : SM w m n S) (hb : w1.heap[m]? = w.heap[m]?) : SM w1 m n S := by
  obtain ⟨D, ⟨es, c, hbl, r⟩, h2⟩ := h
  exact ⟨D, ⟨es, c, hb.trans hbl, r⟩, h2⟩
theorem SM.below (h : SM w m n S) (hb : Below w.heap.size w w1) : SM w1 m n S := h.same (hb.block m h.lt)
theorem SM.made (w : World) : SM (w.alloc (.map #[] 0)) w.heap.size 0 (fun _ => false) :=
  ⟨.map [], World.ownsMap_made _ _ _ _, fun a b => rfl⟩
theorem SM.look (h : SM w m n S) (a b : Nat → Bool) : (Instr.lookup 112 (.map (some m)) (.agg (encP a b).toArray) false).run Try.prog w = .ok (.int .i64 (bit (S (kw a b)))) w := by
  obtain ⟨D, h1, h2⟩ := h
  obtain ⟨c, hrun, hat, _⟩ := h1.lookup_int set_keyed Try.underlying112 Try.underlying3 (by kernel_rfl) (sk_key a b)
  rw [h2 a b] at hat
  cases hat
  exact hrun
theorem SM.put (h : SM w m n S) (a b : Nat → Bool) (hn : n < maxLen) : ∃ w1, (Instr.mapUpdate 112 (.map (some m)) (.agg (encP a b).toArray) (.int .i64 1)).run Try.prog w = .ok () w1 ∧ SM w1 m (n + 1) (fun k => S k || decide (k = kw a b)) ∧ w.grownBy w1 (some m) := by
  obtain ⟨D, h1, h2⟩ := h
  obtain ⟨w1, hrun, ho, hg⟩ := h1.update set_keyed Try.underlying112 hn (sk_key a b) (plainElem_int (a := 1) Try.underlying3 (by decide))
  refine ⟨w1, hrun, ⟨_, ho, fun x y => ?_⟩, hg⟩
  by_cases e : sk x y = sk a b
  · rw [e, Maps.atKey_put_same h1.isMap (set_keyed.key (sk_key a b)), sk_kw.1 e]
    show _ = DataW.lit (Lit.int IntKind.i64 (bit (S (kw a b) || decide (kw a b = kw a b))))
    rw [decide_eq_true rfl, Bool.or_true]
    rfl
  · rw [Maps.atKey_put_other e, h2 x y]
    show _ = DataW.lit (Lit.int IntKind.i64 (bit (S (kw x y) || decide (kw x y = kw a b))))
    rw [decide_eq_false (fun h => e (sk_kw.2 h)), Bool.or_false]
end

end Go.Proofs.Ytmpiokdomjchiaa.H

set_option linter.unusedVariables false
set_option linter.unusedSimpArgs false
namespace Go.Proofs.Ytmpiokdomjchiaa.H
open Go.RowKit Go.Proofs.Ytmpiokdomjchiaa.Pr Go.Proofs.YtmpiokdomjchiaaW.PrintWords Go.Proofs.Ytmpiokdomjchiaa.Sem Go.Proofs.YtmpiokdomjchiaaW.PrintLast

theorem teq_comm (x s : ByteArray) : (s.toList == x.toList) = teq x s := by
  unfold teq
  rw [Bool.eq_iff_iff]
  simp only [beq_iff_eq]
  exact eq_comm
set_option maxRecDepth 100000 in
theorem index_any (ls : List ByteArray) (s : ByteArray) (A : Option Addr) (c : Nat) (w : World) (hr : Kd.C Kd.string w A ls.length ls) :
    Calls Try.prog 108 #[.slice A ls.length c, .string s] w fun e w' => e = .returned (.int .i64 (placeS ls s)) ∧ w = w' := by
  have hl := C_len hr
  have HR := Lib.hid hr; clear hr
  go_enter Try.func108, Try.ntmps108
  go_wp2
  go_loop [8] (fun i => ∃ k : Nat, k ≤ ls.length ∧ i = .int .i64 k ∧ Aside0 (∀ j, j < k → teq (ls.getD j ByteArray.empty) s = false)) (fun i => ls.length - (intOf i).toNat)
  case atStart => exact ⟨0, Nat.zero_le _, rfl, ⟨fun j hj => by omega⟩⟩
  case round =>
    obtain ⟨k, hk, rfl, hz⟩ := hrel
    by_cases hlt : k < ls.length
    · obtain ⟨ad, hA, g0⟩ := atS HR.out k hlt
      subst hA
      have i0 : (k : Int) < (ls.length : Int) := by omega
      obtain ⟨x, hx⟩ : ∃ x, x = ls.getD k ByteArray.empty := ⟨_, rfl⟩
      rw [← hx] at g0
      have HS := Aside0.mk hx; clear hx
      cases q : teq x s with
      | true =>
        have HF := Aside0.mk (show placeS ls s = k from idxP_at _ ByteArray.empty ls k (fun j hj => hz.out j hj) hlt (by rw [← HS.out]; exact q))
        have p0 : (s.toList == x.toList) = true := (teq_comm x s).trans q
        clear q
        go_wp2
        go_ret
        exact ⟨ret_int HF.out.symm, rfl⟩
      | false =>
        have HQ := Aside0.mk q
        have p0 : (s.toList == x.toList) = false := (teq_comm x s).trans q
        clear q
        go_wp2
        go_round
        case rel => exact ⟨k + 1, by omega, by go_num, ⟨fun j hj => by rcases Nat.lt_succ_iff_lt_or_eq.1 hj with h | rfl; exact hz.out j h; rw [← HS.out]; exact HQ.out⟩⟩
        case measure => simp [intOf]; omega
    · have i0 : ¬ (k : Int) < (ls.length : Int) := by omega
      have HF := Aside0.mk (show placeS ls s = -1 from idxP_none _ ByteArray.empty ls (fun j hj => hz.out j (by omega)))
      go_wp2
      go_ret
      exact ⟨ret_int HF.out.symm, rfl⟩
theorem place_any (ls : List ByteArray) (s : ByteArray) (A : Option Addr) (c : Nat) (w : World) (hr : Kd.C Kd.string w A ls.length ls) :
    Calls Try.prog 78 #[.slice A ls.length c, .string s] w fun e w' => e = .returned (.int .i64 (placeS ls s)) ∧ w = w' := by
  have HC := Aside0.mk (index_any ls s A c w hr)
  clear hr
  go_enter Try.func78, Try.ntmps78
  go_wp2_with fail
  refine HC.out.mono ?_
  rintro e w1 ⟨rfl, rfl⟩
  go_wp2
  go_ret
  exact ⟨rfl, rfl⟩
set_option maxRecDepth 100000 in
theorem place02_any (ls : List ByteArray) (s : ByteArray) (A : Option Addr) (c : Nat) (w : World) (hr : Kd.C Kd.string w A ls.length ls) :
    Calls Try.prog 75 #[.slice A ls.length c, .string s] w fun e w' => e = .returned (.int .i64 (placeS ls s)) ∧ w = w' := by
  have hl := C_len hr
  have HR := Lib.hid hr; clear hr
  go_enter Try.func75, Try.ntmps75
  go_wp2
  go_loop [5] (fun i => ∃ k : Nat, k ≤ ls.length ∧ i = .int .i64 k ∧ Aside0 (∀ j, j < k → teq (ls.getD j ByteArray.empty) s = false)) (fun i => ls.length - (intOf i).toNat)
  case atStart => exact ⟨0, Nat.zero_le _, rfl, ⟨fun j hj => by omega⟩⟩
  case round =>
    obtain ⟨k, hk, rfl, hz⟩ := hrel
    by_cases hlt : k < ls.length
    · obtain ⟨ad, hA, g0⟩ := atS HR.out k hlt
      subst hA
      have i0 : (k : Int) < (ls.length : Int) := by omega
      obtain ⟨x, hx⟩ : ∃ x, x = ls.getD k ByteArray.empty := ⟨_, rfl⟩
      rw [← hx] at g0
      have HS := Aside0.mk hx; clear hx
      cases q : teq x s with
      | true =>
        have HF := Aside0.mk (show placeS ls s = k from idxP_at _ ByteArray.empty ls k (fun j hj => hz.out j hj) hlt (by rw [← HS.out]; exact q))
        have p0 : (x.toList == s.toList) = true := q
        clear q
        go_wp2
        go_ret
        exact ⟨ret_int HF.out.symm, rfl⟩
      | false =>
        have HQ := Aside0.mk q
        have p0 : (x.toList == s.toList) = false := q
        clear q
        go_wp2
        go_round
        case rel => exact ⟨k + 1, by omega, by go_num, ⟨fun j hj => by rcases Nat.lt_succ_iff_lt_or_eq.1 hj with h | rfl; exact hz.out j h; rw [← HS.out]; exact HQ.out⟩⟩
        case measure => simp [intOf]; omega
    · have i0 : ¬ (k : Int) < (ls.length : Int) := by omega
      have HF := Aside0.mk (show placeS ls s = -1 from idxP_none _ ByteArray.empty ls (fun j hj => hz.out j (by omega)))
      go_wp2
      go_ret
      exact ⟨ret_int HF.out.symm, rfl⟩

theorem eqEdge' (d : Nat) (a b : Ed) (w : World) : (Op.equalIn (d + 1 + 1) 81 (.agg #[.int .i64 a.f0, .int .i64 a.f1, .int .i64 a.f2]) (.agg #[.int .i64 b.f0, .int .i64 b.f1, .int .i64 b.f2])).run Try.prog w = .ok (a.f0 == b.f0 && (a.f1 == b.f1 && a.f2 == b.f2)) w := by
  have hu : (underlying 3).run Try.prog w = .ok (.int .i64) w := by kernel_rfl
  have p0 : ∀ x y z : Int, (part 3 #[.int .i64 x, .int .i64 y, .int .i64 z] 0).run Try.prog w = .ok (.int .i64 x) w := fun x y z => by kernel_rfl
  have p1 : ∀ x y z : Int, (part 3 #[.int .i64 x, .int .i64 y, .int .i64 z] 1).run Try.prog w = .ok (.int .i64 y) w := fun x y z => by kernel_rfl
  have p2 : ∀ x y z : Int, (part 3 #[.int .i64 x, .int .i64 y, .int .i64 z] 2).run Try.prog w = .ok (.int .i64 z) w := fun x y z => by kernel_rfl
  have e3 : ∀ x y : Int, (Op.equalIn (d + 1) 3 (.int .i64 x) (.int .i64 y)).run Try.prog w = .ok (x == y) w := by
    intro x y
    unfold Op.equalIn
    simp [hu, Result.andThen]
  exact eqA_of (P := Try.prog) (d := d + 1) (t := 81) (w := w) Try.underlying81 (by kernel_rfl)
    (eqf_cons rfl (p0 a.f0 a.f1 a.f2) (p0 b.f0 b.f1 b.f2) (e3 _ _) (eqf_cons rfl (p1 a.f0 a.f1 a.f2) (p1 b.f0 b.f1 b.f2) (e3 _ _) (eqf_last rfl (p2 a.f0 a.f1 a.f2) (p2 b.f0 b.f1 b.f2) (e3 _ _))))
theorem ed_beq (a b : Ed) : (a.f0 == b.f0 && (a.f1 == b.f1 && a.f2 == b.f2)) = decide (a = b) := by
  obtain ⟨a0, a1, a2⟩ := a
  obtain ⟨b0, b1, b2⟩ := b
  rw [Bool.eq_iff_iff]
  simp [and_assoc]
/-- Edges, held side by side. -/
theorem eqEdge (a b : Ed) (w : World) : (Op.equalIn 10000 81 (.agg #[.int .i64 a.f0, .int .i64 a.f1, .int .i64 a.f2]) (.agg #[.int .i64 b.f0, .int .i64 b.f1, .int .i64 b.f2])).run Try.prog w = .ok (decide (a = b)) w := by
  have h := eqEdge' 9998 a b w
  rw [ed_beq] at h
  exact h
set_option maxRecDepth 100000 in
theorem hasE_any (n : Int) (es : List Ed) (f l t : Int) (v1 : Value) (A2 : Option Addr) (c2 : Nat) (w : World) (hr : Kd.C k81 w A2 es.length es) :
    Calls Try.prog 109 #[.agg #[.int .i64 n, v1, .slice A2 es.length c2], .int .i64 f, .int .i64 l, .int .i64 t] w fun e w' => e = .returned (.bool (hasE es f l t)) ∧ Below w.heap.size w w' := by
  have hl := C_len hr
  have HR := Lib.hid hr; clear hr
  obtain ⟨r, hr⟩ : ∃ r, r = hasE es f l t := ⟨_, rfl⟩
  rw [← hr]
  have H0 := Aside0.mk hr; clear hr
  have HB0 := Aside0.mk (Below.refl w.heap.size w)
  go_enter Try.func109, Try.ntmps109
  go_wp2
  have HX := Aside0.mk (show BoxL (w.alloc (Obj.cells #[Value.int IntKind.i64 n, v1, Value.slice A2 es.length c2] 25)) w.heap.size n v1 (.slice A2 es.length c2) from blk_new w _)
  have HB := Aside0.mk (below_alloc HB0.out (Obj.cells #[Value.int IntKind.i64 n, v1, Value.slice A2 es.length c2] 25))
  generalize (w.alloc (Obj.cells #[Value.int IntKind.i64 n, v1, Value.slice A2 es.length c2] 25)) = W at HX HB ⊢
  have b2 := HX.out.c2
  go_loop [9] (fun i => ∃ k : Nat, k ≤ es.length ∧ i = .int .i64 k ∧ Aside0 (∀ j, j < k → decide (es.getD j z81 = ⟨f, l, t⟩) = false)) (fun i => es.length - (intOf i).toNat)
  case atStart => exact ⟨0, Nat.zero_le _, rfl, ⟨fun j hj => by omega⟩⟩
  case round =>
    obtain ⟨k, hk, rfl, hz⟩ := hrel
    by_cases hlt : k < es.length
    · obtain ⟨ad, hA, g0, g1, g2⟩ := atE HR.out k hlt
      subst hA
      replace g0 := later HB.out g0
      replace g1 := later HB.out g1
      replace g2 := later HB.out g2
      have i0 : (k : Int) < (es.length : Int) := by omega
      obtain ⟨x, hx⟩ : ∃ x, x = es.getD k z81 := ⟨_, rfl⟩
      rw [← hx] at g0 g1 g2
      have HS := Aside0.mk hx; clear hx
      cases q : decide (x = (⟨f, l, t⟩ : Ed)) with
      | true =>
        have HF := Aside0.mk (show r = true by rw [H0.out]; exact any_yes z81 hlt (by rw [← HS.out]; exact q))
        have hE : ∀ W : World, (Op.equalIn 10000 81 (.agg #[.int .i64 x.f0, .int .i64 x.f1, .int .i64 x.f2]) (.agg #[.int .i64 f, .int .i64 l, .int .i64 t])).run Try.prog W = .ok true W := fun W => (eqEdge x ⟨f, l, t⟩ W).trans (by rw [q])
        clear q
        go_wp2
        go_ret
        exact ⟨ret_bool HF.out.symm, HB.out⟩
      | false =>
        have HQ := Aside0.mk q
        have hE : ∀ W : World, (Op.equalIn 10000 81 (.agg #[.int .i64 x.f0, .int .i64 x.f1, .int .i64 x.f2]) (.agg #[.int .i64 f, .int .i64 l, .int .i64 t])).run Try.prog W = .ok false W := fun W => (eqEdge x ⟨f, l, t⟩ W).trans (by rw [q])
        clear q
        go_wp2
        go_round
        case rel => exact ⟨k + 1, by omega, by go_num, ⟨fun j hj => by rcases Nat.lt_succ_iff_lt_or_eq.1 hj with h | rfl; exact hz.out j h; rw [← HS.out]; exact HQ.out⟩⟩
        case measure => simp [intOf]; omega
    · have i0 : ¬ (k : Int) < (es.length : Int) := by omega
      have HF := Aside0.mk (show r = false by rw [H0.out]; exact any_no z81 hlt hz.out)
      go_wp2
      go_ret
      exact ⟨ret_bool HF.out.symm, HB.out⟩

set_option maxRecDepth 100000 in
/-- semblanceref01.Same. -/
theorem same01_any (xs ys : List Int) (A1 A2 : Option Addr) (c1 c2 : Nat) (w : World) (hx : Kd.C (Kd.int .i64) w A1 xs.length xs) (hy : Kd.C (Kd.int .i64) w A2 ys.length ys) :
    Calls Try.prog 33 #[.slice A1 xs.length c1, .slice A2 ys.length c2] w fun e w' => e = .returned (.bool (decide (xs = ys))) ∧ Drawn0 w w' := by
  by_cases hl : xs.length = ys.length
  · have hm := C_len hx
    have hq : ((xs.length : Int) != (ys.length : Int)) = false := by rw [hl]; simp
    have HX := Lib.hid hx; clear hx
    have HY := Lib.hid hy; clear hy
    have HLn := Aside0.mk hl; clear hl
    go_enter Try.func33, Try.ntmps33
    go_wp2
    go_loopw [5] (fun i wr => ∃ k : Nat, k ≤ xs.length ∧ i = .int .i64 k ∧ Aside0 (∀ j, j < k → xs.getD j 0 = ys.getD j 0) ∧ Drawn0 w wr) (fun i _ => xs.length - (intOf i).toNat)
    case atStart => exact ⟨0, Nat.zero_le _, rfl, ⟨fun j hj => by omega⟩, Drawn0.refl _⟩
    case round =>
      obtain ⟨k, hk, rfl, hz, hD⟩ := hrel
      by_cases hlt : k < xs.length
      · have hlt2 : k < ys.length := by rw [← HLn.out]; exact hlt
        obtain ⟨a1, hA1, h1⟩ := atI HX.out k hlt
        obtain ⟨a2, hA2, h3⟩ := atI HY.out k hlt2
        subst hA1 hA2
        have g1 := later hD.below h1
        have g3 := later hD.below h3
        clear h1 h3
        obtain ⟨x, hx⟩ : ∃ x, x = xs.getD k 0 := ⟨_, rfl⟩
        obtain ⟨y, hy⟩ : ∃ y, y = ys.getD k 0 := ⟨_, rfl⟩
        rw [← hx] at g1
        rw [← hy] at g3
        have HS := Aside0.mk hx; clear hx
        have HT := Aside0.mk hy; clear hy
        have i1 : (k : Int) < (xs.length : Int) := by omega
        have i2 : (k : Int) < (ys.length : Int) := by omega
        have i0 : (0 : Int) ≤ (k : Int) := by omega
        by_cases q : x = y
        · have p0 : (x != y) = false := by simp [q]
          have HQ := Aside0.mk q
          clear q
          go_wp2_with fail
          go_quiet (fail)
          go_wp2
          go_roundw
          case rel => exact ⟨k + 1, by omega, by go_num, ⟨fun j hj => by
            rcases Nat.lt_succ_iff_lt_or_eq.1 hj with h | rfl
            · exact hz.out j h
            · rw [← HS.out, ← HT.out]; exact HQ.out⟩, hD.step _⟩
          case measure => simp [intOf]; omega
        · have p0 : (x != y) = true := by simp [q]
          have HQ := Aside0.mk q
          clear q
          go_wp2_with fail
          go_quiet (fail)
          go_wp2
          go_ret
          refine ⟨ret_bool (decide_eq_false fun he => ?_).symm, hD.step _⟩
          exact HQ.out (by rw [HS.out, HT.out, he])
      · go_wp2
        go_ret
        exact ⟨ret_bool (decide_eq_true (list_ext_getD 0 HLn.out (fun j hj => hz.out j (by omega)))).symm, hD⟩
  · have hq : ((xs.length : Int) != (ys.length : Int)) = true := by simp; omega
    have hn : decide (xs = ys) = false := decide_eq_false fun h => hl (by rw [h])
    rw [hn]
    clear hx hy hl hn
    go_enter Try.func33, Try.ntmps33
    go_wp2
    go_ret
    exact ⟨rfl, Drawn0.refl _⟩
set_option maxRecDepth 100000 in
/-- semblanceref01.Texts. -/
theorem texts_any (xs ys : List ByteArray) (A1 A2 : Option Addr) (c1 c2 : Nat) (w : World) (hx : Kd.C Kd.string w A1 xs.length xs) (hy : Kd.C Kd.string w A2 ys.length ys) :
    Calls Try.prog 58 #[.slice A1 xs.length c1, .slice A2 ys.length c2] w fun e w' => e = .returned (.bool (decide (xs = ys))) ∧ Drawn0 w w' := by
  by_cases hl : xs.length = ys.length
  · have hm := C_len hx
    have hq : ((xs.length : Int) != (ys.length : Int)) = false := by rw [hl]; simp
    have HX := Lib.hid hx; clear hx
    have HY := Lib.hid hy; clear hy
    have HLn := Aside0.mk hl; clear hl
    go_enter Try.func58, Try.ntmps58
    go_wp2
    go_loopw [5] (fun i wr => ∃ k : Nat, k ≤ xs.length ∧ i = .int .i64 k ∧ Aside0 (∀ j, j < k → xs.getD j ByteArray.empty = ys.getD j ByteArray.empty) ∧ Drawn0 w wr) (fun i _ => xs.length - (intOf i).toNat)
    case atStart => exact ⟨0, Nat.zero_le _, rfl, ⟨fun j hj => by omega⟩, Drawn0.refl _⟩
    case round =>
      obtain ⟨k, hk, rfl, hz, hD⟩ := hrel
      by_cases hlt : k < xs.length
      · have hlt2 : k < ys.length := by rw [← HLn.out]; exact hlt
        obtain ⟨a1, hA1, h1⟩ := atS HX.out k hlt
        obtain ⟨a2, hA2, h3⟩ := atS HY.out k hlt2
        subst hA1 hA2
        have g1 := later hD.below h1
        have g3 := later hD.below h3
        clear h1 h3
        obtain ⟨x, hx⟩ : ∃ x, x = xs.getD k ByteArray.empty := ⟨_, rfl⟩
        obtain ⟨y, hy⟩ : ∃ y, y = ys.getD k ByteArray.empty := ⟨_, rfl⟩
        rw [← hx] at g1
        rw [← hy] at g3
        have HS := Aside0.mk hx; clear hx
        have HT := Aside0.mk hy; clear hy
        have i1 : (k : Int) < (xs.length : Int) := by omega
        have i2 : (k : Int) < (ys.length : Int) := by omega
        have i0 : (0 : Int) ≤ (k : Int) := by omega
        cases q : (x.toList == y.toList) with
        | true =>
          have HQ := Aside0.mk ((Lib.bytes_beq_iff x y).1 q)
          have p0 : (x.toList != y.toList) = false := by unfold bne; rw [q]; rfl
          go_wp2_with fail
          go_quiet (fail)
          go_wp2
          go_roundw
          case rel => exact ⟨k + 1, by omega, by go_num, ⟨fun j hj => by
            rcases Nat.lt_succ_iff_lt_or_eq.1 hj with h | rfl
            · exact hz.out j h
            · rw [← HS.out, ← HT.out]; exact HQ.out⟩, hD.step _⟩
          case measure => simp [intOf]; omega
        | false =>
          have HQ := Aside0.mk ((Lib.bytes_beq_false_iff x y).1 q)
          have p0 : (x.toList != y.toList) = true := by unfold bne; rw [q]; rfl
          go_wp2_with fail
          go_quiet (fail)
          go_wp2
          go_ret
          refine ⟨ret_bool (decide_eq_false fun he => ?_).symm, hD.step _⟩
          exact HQ.out (by rw [HS.out, HT.out, he])
      · go_wp2
        go_ret
        exact ⟨ret_bool (decide_eq_true (list_ext_getD ByteArray.empty HLn.out (fun j hj => hz.out j (by omega)))).symm, hD⟩
  · have hq : ((xs.length : Int) != (ys.length : Int)) = true := by simp; omega
    have hn : decide (xs = ys) = false := decide_eq_false fun h => hl (by rw [h])
    rw [hn]
    clear hx hy hl hn
    go_enter Try.func58, Try.ntmps58
    go_wp2
    go_ret
    exact ⟨rfl, Drawn0.refl _⟩
/-- semblancelaw40.short. -/
def shortB (ws : List ByteArray) : Bool := (ws.take 30).all (fun s => decide (s.size ≤ 300)) && decide (ws.length < 30)
set_option maxRecDepth 100000 in
theorem short_any (ws : List ByteArray) (A : Option Addr) (c : Nat) (w : World) (hr : Kd.C Kd.string w A ws.length ws) :
    Calls Try.prog 34 #[.slice A ws.length c] w fun e w' => e = .returned (.bool (shortB ws)) ∧ w = w' := by
  have hl := C_len hr
  have HR := Lib.hid hr; clear hr
  go_enter Try.func34, Try.ntmps34
  go_wp2
  go_loop [3] (fun i => ∃ k : Nat, k ≤ ws.length ∧ k ≤ 30 ∧ i = .int .i64 k ∧ Aside0 (∀ j, j < k → decide ((ws.getD j ByteArray.empty).size ≤ 300) = true)) (fun i => ws.length - (intOf i).toNat)
  case atStart => exact ⟨0, Nat.zero_le _, by omega, rfl, ⟨fun j hj => by omega⟩⟩
  case round =>
    obtain ⟨k, hk, hk3, rfl, hz⟩ := hrel
    by_cases hlt : k < ws.length ∧ k < 30
    · obtain ⟨hlt1, hlt2⟩ := hlt
      obtain ⟨ad, hA, g0⟩ := atS HR.out k hlt1
      subst hA
      obtain ⟨s, hs⟩ : ∃ s, s = ws.getD k ByteArray.empty := ⟨_, rfl⟩
      rw [← hs] at g0
      have hs' := Aside0.mk hs; clear hs
      by_cases hL : (300 : Int) < (s.size : Int)
      · have HBad := Aside0.mk (show shortB ws = false by
          unfold shortB
          rw [all_no ByteArray.empty (k := k) (by rw [List.length_take]; omega) (by rw [take_getD _ hlt2, ← hs'.out]; exact decide_eq_false (by omega))]
          rfl)
        go_wp2
        go_ret
        exact ⟨ret_bool HBad.out.symm, rfl⟩
      · have HOk := Aside0.mk (show decide (s.size ≤ 300) = true from decide_eq_true (by omega))
        go_wp2
        go_round
        case rel => exact ⟨k + 1, by omega, by omega, by go_num, ⟨fun j hj => by
          rcases Nat.lt_succ_iff_lt_or_eq.1 hj with h | rfl
          · exact hz.out j h
          · rw [← hs'.out]; exact HOk.out⟩⟩
        case measure => simp [intOf]; omega
    · have HF := Aside0.mk (show shortB ws = decide ((ws.length : Int) < 30) by
        unfold shortB
        rw [all_yes ByteArray.empty (k := k) (by rw [List.length_take]; omega) (fun j hj => by rw [take_getD _ (by omega)]; exact hz.out j hj), Bool.true_and]
        apply decide_eq_decide.2
        omega)
      by_cases q0 : (k : Int) < (ws.length : Int)
      · have q1 : ¬ (k : Int) < 30 := by omega
        go_wp2
        go_ret
        exact ⟨ret_bool HF.out.symm, rfl⟩
      · go_wp2
        go_ret
        exact ⟨ret_bool HF.out.symm, rfl⟩

end Go.Proofs.Ytmpiokdomjchiaa.H
