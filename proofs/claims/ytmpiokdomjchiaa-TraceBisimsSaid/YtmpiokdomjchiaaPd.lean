/-
  Plain law: the greatest bisimulation.
-/
import Derived.Test.YtmpiokdomjchiaaHq
import Derived.Test.YtmpiokdomjchiaaPc
set_option linter.unusedVariables false
set_option linter.unusedSimpArgs false
namespace Go.Proofs.Ytmpiokdomjchiaa.H
open Go.RowKit Go.Proofs.Ytmpiokdomjchiaa.Pr Go.Proofs.YtmpiokdomjchiaaW.PrintWords Go.Proofs.Ytmpiokdomjchiaa.Sem

/-- Does a relation answer itself, both ways? -/
def Post (es : List Ed) (S : Int → Int → Bool) : Prop := ∀ a b, S a b = true → followsB es S false a b = true ∧ followsB es S true a b = true
theorem fol_iff (es : List Ed) (S : Int → Int → Bool) (a b : Int) : followsB es S false a b = true ↔ ∀ e ∈ es, e.f0 = a → ∃ f ∈ es, f.f0 = b ∧ e.f1 = f.f1 ∧ S e.f2 f.f2 = true := by
  unfold followsB outE answers
  simp only [Bool.false_eq_true, if_false, List.all_eq_true, List.any_eq_true, List.mem_filter, decide_eq_true_eq, Bool.and_eq_true, beq_iff_eq]
  constructor
  · intro h e he hea
    obtain ⟨f, ⟨h1, h2⟩, h3, h4⟩ := h e ⟨he, hea⟩
    exact ⟨f, h1, h2, h3, h4⟩
  · rintro h e ⟨he, hea⟩
    obtain ⟨f, h1, h2, h3, h4⟩ := h e he hea
    exact ⟨f, ⟨h1, h2⟩, h3, h4⟩
theorem folT_iff (es : List Ed) (S : Int → Int → Bool) (a b : Int) : followsB es S true a b = true ↔ ∀ e ∈ es, e.f0 = b → ∃ f ∈ es, f.f0 = a ∧ e.f1 = f.f1 ∧ S f.f2 e.f2 = true := by
  unfold followsB outE answers
  simp only [if_true, List.all_eq_true, List.any_eq_true, List.mem_filter, decide_eq_true_eq, Bool.and_eq_true, beq_iff_eq]
  constructor
  · intro h e he hea
    obtain ⟨f, ⟨h1, h2⟩, h3, h4⟩ := h e ⟨he, hea⟩
    exact ⟨f, h1, h2, h3, h4⟩
  · rintro h e ⟨he, hea⟩
    obtain ⟨f, h1, h2, h3, h4⟩ := h e he hea
    exact ⟨f, ⟨h1, h2⟩, h3, h4⟩
theorem fol_mono {es : List Ed} {S S' : Int → Int → Bool} (h : ∀ x y, S x y = true → S' x y = true) (t : Bool) (a b : Int) (hf : followsB es S t a b = true) : followsB es S' t a b = true := by
  cases t with
  | false =>
    rw [fol_iff] at hf ⊢
    intro e he hea
    obtain ⟨f, h1, h2, h3, h4⟩ := hf e he hea
    exact ⟨f, h1, h2, h3, h _ _ h4⟩
  | true =>
    rw [folT_iff] at hf ⊢
    intro e he hea
    obtain ⟨f, h1, h2, h3, h4⟩ := hf e he hea
    exact ⟨f, h1, h2, h3, h _ _ h4⟩
theorem both_iff (es : List Ed) (S : Int → Int → Bool) (p : Pair) : bothB es S p = true ↔ followsB es S false p.f0 p.f1 = true ∧ followsB es S true p.f0 p.f1 = true := by
  unfold bothB
  rw [Bool.and_eq_true]
theorem relS_iff (rel : List Pair) (a b : Int) : relS rel a b = true ↔ (⟨a, b⟩ : Pair) ∈ rel := by
  unfold relS
  rw [List.any_eq_true]
  constructor
  · rintro ⟨p, hp, h⟩
    simp only [Bool.and_eq_true, decide_eq_true_eq] at h
    have : p = ⟨a, b⟩ := pair_eq.2 h
    rwa [← this]
  · intro h
    exact ⟨_, h, by simp⟩

theorem pass_keep {es : List Ed} {R : Int → Int → Bool} (hR : Post es R) : ∀ (rel : List Pair) (S : Int → Int → Bool), (∀ x y, R x y = true → S x y = true) → ∀ x y, R x y = true → passS es rel S x y = true
  | [], S, h => h
  | p :: r, S, h => by
    cases hb : bothB es S p with
    | false =>
      have hnp : R p.f0 p.f1 = false := by
        rw [Bool.eq_false_iff]
        intro hp
        have := hR _ _ hp
        have h2 := (both_iff es S p).2 ⟨fol_mono h false _ _ this.1, fol_mono h true _ _ this.2⟩
        rw [hb] at h2
        cases h2
      have h' : ∀ x y, R x y = true → lessP S p.f0 p.f1 x y = true := by
        intro x y hxy
        unfold lessP
        rw [h x y hxy]
        have : ¬ (x = p.f0 ∧ y = p.f1) := by
          rintro ⟨rfl, rfl⟩
          rw [hnp] at hxy
          cases hxy
        have e : (decide (x = p.f0) && decide (y = p.f1)) = false := by simpa using this
        rw [e]
        rfl
      have := pass_keep hR r _ h'
      simpa [passS, hb] using this
    | true =>
      have := pass_keep hR r S h
      simpa [passS, hb] using this
theorem pass_stable (es : List Ed) : ∀ (rel : List Pair) (S : Int → Int → Bool), (passK es rel S).length = rel.length → passK es rel S = rel ∧ ∀ p ∈ rel, bothB es S p = true
  | [], S, _ => ⟨rfl, by simp⟩
  | p :: r, S, h => by
    cases hb : bothB es S p with
    | false =>
      simp [passK, hb] at h
      have := (passK_sub es r (lessP S p.f0 p.f1)).length_le
      omega
    | true =>
      simp [passK, hb] at h
      obtain ⟨a, c⟩ := pass_stable es r S h
      refine ⟨by simp [passK, hb, a], fun q hq => ?_⟩
      rcases List.mem_cons.1 hq with rfl | hq
      · exact hb
      · exact c q hq
theorem relS_less {pre r : List Pair} {p : Pair} (h : (pre ++ p :: r).Nodup) : lessP (relS (pre ++ p :: r)) p.f0 p.f1 = relS (pre ++ r) := by
  have hp1 : p ∉ pre := fun hm => by
    have := (List.nodup_append.1 h).2.2 p hm p (List.mem_cons_self ..)
    exact this rfl
  have hp2 : p ∉ r := (List.nodup_cons.1 (List.nodup_append.1 h).2.1).1
  funext a b
  rw [Bool.eq_iff_iff]
  unfold lessP
  rw [Bool.and_eq_true, relS_iff, relS_iff]
  simp only [List.mem_append, List.mem_cons, Bool.not_eq_true', Bool.and_eq_false_iff, decide_eq_false_iff_not]
  constructor
  · rintro ⟨h1 | h1 | h1, h2⟩
    · exact .inl h1
    · rcases pair_eq.1 h1 with ⟨h3, h4⟩
      simp only at h3 h4
      rcases h2 with h2 | h2
      · exact absurd h3 h2
      · exact absurd h4 h2
    · exact .inr h1
  · intro h1
    refine ⟨?_, ?_⟩
    · rcases h1 with h1 | h1
      · exact .inl h1
      · exact .inr (.inr h1)
    · by_cases h2 : a = p.f0
      · by_cases h3 : b = p.f1
        · have e : (⟨a, b⟩ : Pair) = p := pair_eq.2 ⟨h2, h3⟩
          rw [e] at h1
          rcases h1 with h1 | h1
          · exact absurd h1 hp1
          · exact absurd h1 hp2
        · exact .inr h3
      · exact .inl h2
theorem pass_rel (es : List Ed) : ∀ (rel pre : List Pair), (pre ++ rel).Nodup → passS es rel (relS (pre ++ rel)) = relS (pre ++ passK es rel (relS (pre ++ rel)))
  | [], pre, _ => by simp [passS, passK]
  | p :: r, pre, h => by
    cases hb : bothB es (relS (pre ++ p :: r)) p with
    | false =>
      have e := relS_less h
      have h2 : (pre ++ r).Nodup := by
        refine h.sublist ?_
        exact List.Sublist.append (List.Sublist.refl _) (List.sublist_cons_self _ _)
      have := pass_rel es r pre h2
      simpa [passS, passK, hb, e] using this
    | true =>
      have := pass_rel es r (pre ++ [p]) (by simpa using h)
      simpa [passS, passK, hb] using this
theorem rounds_spec (es : List Ed) : ∀ (f : Nat) (rel : List Pair), rel.length < f → rel.Nodup → List.Sublist (rounds es f rel (relS rel)) rel ∧ (∀ p ∈ rounds es f rel (relS rel), bothB es (relS (rounds es f rel (relS rel))) p = true) ∧
    ∀ R, Post es R → (∀ x y, R x y = true → relS rel x y = true) → ∀ x y, R x y = true → relS (rounds es f rel (relS rel)) x y = true
  | 0, rel, h, _ => by omega
  | f + 1, rel, h, hn => by
    unfold rounds
    by_cases hl : (passK es rel (relS rel)).length = rel.length
    · rw [if_pos hl]
      obtain ⟨a, c⟩ := pass_stable es rel (relS rel) hl
      rw [a]
      exact ⟨List.Sublist.refl _, c, fun R _ h => h⟩
    · rw [if_neg hl]
      have hsub := passK_sub es rel (relS rel)
      have hS : passS es rel (relS rel) = relS (passK es rel (relS rel)) := by
        have := pass_rel es rel [] (by simpa using hn)
        simpa using this
      have hlt := hsub.length_le
      obtain ⟨g1, g2, g3⟩ := rounds_spec es f (passK es rel (relS rel)) (by omega) (hn.sublist hsub)
      rw [hS]
      refine ⟨g1.trans hsub, g2, fun R hR h2 => g3 R hR fun x y hxy => ?_⟩
      have := pass_keep hR rel (relS rel) h2 x y hxy
      rwa [hS] at this

theorem pairsTo_map (n : Nat) : ∀ k, pairsTo n k = (List.range (k * n)).map fun i : Nat => (⟨((i / n : Nat) : Int), ((i % n : Nat) : Int)⟩ : Pair)
  | 0 => by simp [pairsTo]
  | k + 1 => by
    rw [pairsTo_succ, pairsTo_map n k, Nat.succ_mul, List.range_add, List.map_append, List.map_map]
    congr 1
    refine List.map_congr_left fun j hj => ?_
    have hj' := List.mem_range.1 hj
    have e1 : (k * n + j) / n = k := by
      rw [Nat.mul_comm, Nat.mul_add_div (by omega), Nat.div_eq_of_lt hj']
      rfl
    have e2 : (k * n + j) % n = j := by rw [Nat.mul_comm, Nat.mul_add_mod, Nat.mod_eq_of_lt hj']
    simp only [Function.comp, e1, e2]
theorem pairsTo_mem {n : Nat} {p : Pair} : p ∈ pairsTo n n ↔ (0 ≤ p.f0 ∧ p.f0 < n) ∧ (0 ≤ p.f1 ∧ p.f1 < n) := by
  unfold pairsTo
  constructor
  · intro h
    obtain ⟨s, hs, hp⟩ := List.mem_flatMap.1 h
    obtain ⟨t, ht, rfl⟩ := List.mem_map.1 hp
    have h1 := List.mem_range.1 hs
    have h2 := List.mem_range.1 ht
    simp only
    omega
  · rintro ⟨⟨h0, h1⟩, h2, h3⟩
    obtain ⟨a, b⟩ := p
    simp only at h0 h1 h2 h3
    obtain ⟨i, rfl⟩ := Int.eq_ofNat_of_zero_le h0
    obtain ⟨j, rfl⟩ := Int.eq_ofNat_of_zero_le h2
    exact List.mem_flatMap.2 ⟨i, List.mem_range.2 (by omega), List.mem_map.2 ⟨j, List.mem_range.2 (by omega), rfl⟩⟩
theorem pairsTo_nodup (n : Nat) : (pairsTo n n).Nodup := by
  rw [pairsTo_map]
  unfold List.Nodup
  rw [List.pairwise_map]
  refine List.Pairwise.imp_of_mem ?_ (List.nodup_range (n := n * n))
  intro a b ha hb hab e
  rcases pair_eq.1 e with ⟨h1, h2⟩
  simp only at h1 h2
  have e1 : a / n = b / n := by omega
  have e2 : a % n = b % n := by omega
  apply hab
  rw [← Nat.div_add_mod a n, ← Nat.div_add_mod b n, e1, e2]

theorem great_spec (n : Nat) (es : List Ed) : List.Sublist (greatL n es) (pairsTo n n) ∧ Post es (relS (greatL n es)) ∧ ∀ R, Post es R → (∀ x y, R x y = true → (0 ≤ x ∧ x < n) ∧ (0 ≤ y ∧ y < n)) → ∀ x y, R x y = true → relS (greatL n es) x y = true := by
  obtain ⟨g1, g2, g3⟩ := rounds_spec es (n * n + 1) (pairsTo n n) (by rw [pairsTo_length]; omega) (pairsTo_nodup n)
  refine ⟨g1, fun a b hab => ?_, fun R hR hr => g3 R hR fun x y hxy => (relS_iff _ _ _).2 (pairsTo_mem.2 (hr x y hxy))⟩
  exact (both_iff es _ ⟨a, b⟩).1 (g2 _ ((relS_iff _ _ _).1 hab))

/-- Which relations are bisimulations. -/
theorem isB_iff (n : Nat) (ls : List ByteArray) (es : List Ed) (rel : List Pair) (hm : mayR n ls es = true) : isB n ls es rel = true ↔ (∀ p ∈ rel, inP n p = true) ∧ Post es (relS rel) := by
  unfold isB
  rw [hm, Bool.true_and, Bool.and_eq_true, List.all_eq_true, not_any, List.all_eq_true]
  refine and_congr Iff.rfl ?_
  constructor
  · intro h a b hab
    have := h _ ((relS_iff _ _ _).1 hab)
    unfold isNo at this
    simpa using this
  · intro h p hp
    have := h p.f0 p.f1 ((relS_iff _ _ _).2 hp)
    unfold isNo
    simp [this.1, this.2]
theorem great_isB (n : Nat) (ls : List ByteArray) (es : List Ed) (hm : mayR n ls es = true) : isB n ls es (greatL n es) = true := by
  obtain ⟨g1, g2, _⟩ := great_spec n es
  exact (isB_iff n ls es _ hm).2 ⟨fun p hp => List.all_eq_true.1 (pairsTo_in n n (Nat.le_refl _)) p (g1.subset hp), g2⟩
theorem great_has (n : Nat) (ls : List ByteArray) (es : List Ed) (rel : List Pair) (hm : mayR n ls es = true) (h : isB n ls es rel = true) : ∀ p ∈ rel, relS (greatL n es) p.f0 p.f1 = true := by
  obtain ⟨h1, h2⟩ := (isB_iff n ls es rel hm).1 h
  intro p hp
  refine (great_spec n es).2.2 _ h2 (fun x y hxy => ?_) _ _ ((relS_iff _ _ _).2 hp)
  exact inP_nodes (h1 _ ((relS_iff _ _ _).1 hxy))

end Go.Proofs.Ytmpiokdomjchiaa.H
