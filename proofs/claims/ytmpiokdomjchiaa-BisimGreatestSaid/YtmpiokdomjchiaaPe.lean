/-
  Plain law: the document's pairs are those of the greatest bisimulation.
-/
import Derived.Test.YtmpiokdomjchiaaPd
set_option linter.unusedVariables false
set_option linter.unusedSimpArgs false
namespace Go.Proofs.Ytmpiokdomjchiaa.H
open Go.RowKit Go.Proofs.Ytmpiokdomjchiaa.Pr Go.Proofs.YtmpiokdomjchiaaW.PrintWords Go.Proofs.Ytmpiokdomjchiaa.Sem

/-- Each edge of one node is answered by the other, the one's target first. -/
def Half (es : List Ed) (X : Int → Int → Bool) (a b : Int) : Prop := ∀ e ∈ es, e.f0 = a → ∃ f ∈ es, f.f0 = b ∧ e.f1 = f.f1 ∧ X e.f2 f.f2 = true
/-- The document's own condition, both ways. -/
def PostR (es : List Ed) (X : Int → Int → Bool) : Prop := ∀ a b, X a b = true → Half es X a b ∧ Half es X b a
theorem succ_mem (es : List Ed) (a l q : Int) : q ∈ succL es a l ↔ ∃ f ∈ es, f.f0 = a ∧ f.f1 = l ∧ f.f2 = q := by
  unfold succL
  simp only [List.mem_map, List.mem_filter, Bool.and_eq_true, decide_eq_true_eq]
  constructor
  · rintro ⟨f, ⟨h1, h2, h3⟩, h4⟩; exact ⟨f, h1, h2, h3, h4⟩
  · rintro ⟨f, h1, h2, h3, h4⟩; exact ⟨f, ⟨h1, h2, h3⟩, h4⟩
theorem folR_iff (n : Nat) (es : List Ed) (P : List Bool) (s t : Int) : folR n es P s t = true ↔ ∀ e ∈ es, e.f0 = s → ∃ f ∈ es, f.f0 = t ∧ e.f1 = f.f1 ∧ P.getD (e.f2 * n + f.f2).toNat false = true := by
  unfold folR
  rw [List.all_eq_true]
  constructor
  · intro h e he hes
    have := h e he
    rw [hes] at this
    simp only [beq_self_eq_true, Bool.not_true, Bool.false_or, List.any_eq_true] at this
    obtain ⟨q, hq, hP⟩ := this
    obtain ⟨f, h1, h2, h3, h4⟩ := (succ_mem es t e.f1 q).1 hq
    exact ⟨f, h1, h2, h3.symm, by rw [h4]; exact hP⟩
  · intro h e he
    by_cases hes : e.f0 = s
    · obtain ⟨f, h1, h2, h3, h4⟩ := h e he hes
      simp only [Bool.or_eq_true, List.any_eq_true]
      exact .inr ⟨f.f2, (succ_mem es t e.f1 f.f2).2 ⟨f, h1, h2, h3.symm, rfl⟩, h4⟩
    · have : (e.f0 == s) = false := by simpa using hes
      rw [this]; rfl
/-- X lies within the pairs that are told. -/
def Within (n : Nat) (X : Int → Int → Bool) (P : List Bool) : Prop := ∀ a b, X a b = true → P.getD (a * n + b).toNat false = true
def InNodes (n : Nat) (X : Int → Int → Bool) : Prop := ∀ a b, X a b = true → (0 ≤ a ∧ a < n) ∧ (0 ≤ b ∧ b < n)
theorem half_fol {n : Nat} {es : List Ed} {X : Int → Int → Bool} {P : List Bool} (hW : Within n X P) {a b : Int} (h : Half es X a b) : folR n es P a b = true := by
  rw [folR_iff]
  intro e he hea
  obtain ⟨f, h1, h2, h3, h4⟩ := h e he hea
  exact ⟨f, h1, h2, h3, hW _ _ h4⟩
theorem idx_split {n : Nat} {a b : Int} (ha : 0 ≤ a ∧ a < n) (hb : 0 ≤ b ∧ b < n) : (a * n + b).toNat / n = a.toNat ∧ (a * n + b).toNat % n = b.toNat ∧ (a * n + b).toNat < n * n := by
  obtain ⟨i, rfl⟩ := Int.eq_ofNat_of_zero_le ha.1
  obtain ⟨j, rfl⟩ := Int.eq_ofNat_of_zero_le hb.1
  have hi : i < n := by omega
  have hj : j < n := by omega
  have e0 : ((i : Int) * (n : Int) + (j : Int)).toNat = i * n + j := by
    have : ((i : Int) * (n : Int)) = ((i * n : Nat) : Int) := by simp
    rw [this]; omega
  rw [e0]
  have h1 : i * n + j < n * n := by
    have : (i + 1) * n ≤ n * n := Nat.mul_le_mul_right n hi
    rw [Nat.succ_mul] at this
    omega
  refine ⟨?_, ?_, h1⟩
  · rw [Nat.mul_comm, Nat.mul_add_div (by omega), Nat.div_eq_of_lt hj]; rfl
  · rw [Nat.mul_comm, Nat.mul_add_mod, Nat.mod_eq_of_lt hj]; rfl
theorem step_keep {n : Nat} {es : List Ed} {X : Int → Int → Bool} (hX : PostR es X) (hN : InNodes n X) {P : List Bool} (hW : Within n X P) (i : Nat) : Within n X (stepP n es P i) := by
  unfold stepP
  split
  · rename_i h
    simp only [Bool.and_eq_true, Bool.or_eq_true, Bool.not_eq_true'] at h
    intro a b hab
    obtain ⟨ha, hb⟩ := hN a b hab
    obtain ⟨s1, s2, s3⟩ := idx_split ha hb
    have hne : i ≠ (a * n + b).toNat := by
      intro e
      rw [e, s1, s2] at h
      have ea : ((a.toNat : Nat) : Int) = a := Int.toNat_of_nonneg ha.1
      have eb : ((b.toNat : Nat) : Int) = b := Int.toNat_of_nonneg hb.1
      rw [ea, eb, half_fol hW (hX a b hab).1, half_fol hW (hX a b hab).2] at h
      rcases h.2 with h | h <;> cases h
    have := hW a b hab
    rw [List.getD_eq_getElem?_getD] at this ⊢
    rw [List.getElem?_set_ne hne]
    exact this
  · exact hW
theorem sweep_keep {n : Nat} {es : List Ed} {X : Int → Int → Bool} (hX : PostR es X) (hN : InNodes n X) {P : List Bool} (hW : Within n X P) : ∀ k, Within n X (sweepTo n es P k)
  | 0 => hW
  | k + 1 => step_keep hX hN (sweep_keep hX hN hW k) k
theorem iter_spec (n : Nat) (es : List Ed) : ∀ (f : Nat) (P : List Bool), P.length = n * n → P.count true < f → (iterP n es f P).length = n * n ∧ sweepTo n es (iterP n es f P) (n * n) = iterP n es f P ∧
    ∀ X, PostR es X → InNodes n X → Within n X P → Within n X (iterP n es f P)
  | 0, P, _, h => by omega
  | f + 1, P, hl, h => by
    unfold iterP
    by_cases hs : sweepTo n es P (n * n) = P
    · rw [if_pos hs]
      exact ⟨hl, hs, fun X _ _ h => h⟩
    · rw [if_neg hs]
      have hc : (sweepTo n es P (n * n)).count true < P.count true := by
        rcases sweepTo_count n es P (n * n) with h' | h'
        · exact absurd h' hs
        · exact h'
      obtain ⟨g1, g2, g3⟩ := iter_spec n es f (sweepTo n es P (n * n)) (by rw [sweepTo_length]; exact hl) (by omega)
      exact ⟨g1, g2, fun X hX hN hW => g3 X hX hN (sweep_keep hX hN hW _)⟩
theorem sweep_down (n : Nat) (es : List Ed) (P : List Bool) (k : Nat) : ∀ d, (sweepTo n es P (k + d)).count true ≤ (sweepTo n es P k).count true
  | 0 => Nat.le_refl _
  | d + 1 => by
    rw [← Nat.add_assoc, sweepTo]
    rcases stepP_count n es (sweepTo n es P (k + d)) (k + d) with h | h
    · rw [h]; exact sweep_down n es P k d
    · exact Nat.le_trans (Nat.le_of_lt h) (sweep_down n es P k d)
theorem sweep_fixed {n : Nat} {es : List Ed} {P : List Bool} {m : Nat} (h : sweepTo n es P m = P) {k : Nat} (hk : k ≤ m) : sweepTo n es P k = P := by
  rcases sweepTo_count n es P k with h' | h'
  · exact h'
  · have := sweep_down n es P k (m - k)
    rw [show k + (m - k) = m by omega, h] at this
    omega
theorem stable_fol {n : Nat} {es : List Ed} {P : List Bool} (h : sweepTo n es P (n * n) = P) {i : Nat} (hi : i < n * n) (hP : P.getD i false = true) : folR n es P ((i / n : Nat) : Int) ((i % n : Nat) : Int) = true ∧ folR n es P ((i % n : Nat) : Int) ((i / n : Nat) : Int) = true := by
  have h1 := sweep_fixed h (show i ≤ n * n by omega)
  have h2 := sweep_fixed h (show i + 1 ≤ n * n by omega)
  rw [sweepTo, h1] at h2
  unfold stepP at h2
  split at h2
  · have := count_set_lt hP
    rw [h2] at this
    omega
  · rename_i hc
    rw [hP] at hc
    simpa using hc

/-- The pairs that are told, as a relation. -/
def relP (n : Nat) (P : List Bool) : Int → Int → Bool := fun a b => decide ((0 ≤ a ∧ a < n) ∧ (0 ≤ b ∧ b < n)) && P.getD (a * n + b).toNat false
theorem relP_iff (n : Nat) (P : List Bool) (a b : Int) : relP n P a b = true ↔ ((0 ≤ a ∧ a < n) ∧ (0 ≤ b ∧ b < n)) ∧ P.getD (a * n + b).toNat false = true := by
  unfold relP
  rw [Bool.and_eq_true, decide_eq_true_eq]
theorem relP_post {n : Nat} {ls : List ByteArray} {es : List Ed} (hm : mayR n ls es = true) {P : List Bool} (h : sweepTo n es P (n * n) = P) : PostR es (relP n P) := by
  intro a b hab
  obtain ⟨⟨ha, hb⟩, hP⟩ := (relP_iff n P a b).1 hab
  obtain ⟨s1, s2, s3⟩ := idx_split ha hb
  have hf := stable_fol h s3 hP
  rw [s1, s2, Int.toNat_of_nonneg ha.1, Int.toNat_of_nonneg hb.1] at hf
  have node : ∀ e ∈ es, 0 ≤ e.f2 ∧ e.f2 < (n : Int) := by
    intro e he
    obtain ⟨j, hj, rfl⟩ := List.getElem_of_mem he
    have := (es_at hm hj).2
    rw [List.getD_eq_getElem?_getD, List.getElem?_eq_getElem hj] at this
    exact this
  have half : ∀ s t, folR n es P s t = true → Half es (relP n P) s t := by
    intro s t hst e he hes
    obtain ⟨f, h1, h2, h3, h4⟩ := (folR_iff n es P s t).1 hst e he hes
    exact ⟨f, h1, h2, h3, (relP_iff n P _ _).2 ⟨⟨node e he, node f h1⟩, h4⟩⟩
  exact ⟨half a b hf.1, half b a hf.2⟩
/-- The two greatest relations are one. -/
theorem great_rel (n : Nat) (ls : List ByteArray) (es : List Ed) (hm : mayR n ls es = true) (a b : Int) : relS (greatL n es) a b = relP n (pairsR n es) a b := by
  obtain ⟨g1, g2, g3⟩ := great_spec n es
  obtain ⟨i1, i2, i3⟩ := iter_spec n es (n * n + 1) (List.replicate (n * n) true) (by simp) (by simp)
  have hin : ∀ x y, relS (greatL n es) x y = true → (0 ≤ x ∧ x < n) ∧ (0 ≤ y ∧ y < n) := fun x y h => pairsTo_mem.1 (g1.subset ((relS_iff _ _ _).1 h))
  rw [Bool.eq_iff_iff]
  constructor
  · intro h
    refine (relP_iff _ _ _ _).2 ⟨hin a b h, ?_⟩
    have hX : PostR es (fun x y => relS (greatL n es) x y || relS (greatL n es) y x) := by
      have key : ∀ x y, relS (greatL n es) x y = true → Half es (fun x y => relS (greatL n es) x y || relS (greatL n es) y x) x y ∧ Half es (fun x y => relS (greatL n es) x y || relS (greatL n es) y x) y x := by
        intro x y hxy
        obtain ⟨k1, k2⟩ := g2 x y hxy
        rw [fol_iff] at k1
        rw [folT_iff] at k2
        refine ⟨fun e he hex => ?_, fun e he hey => ?_⟩
        · obtain ⟨f, h1, h2, h3, h4⟩ := k1 e he hex
          exact ⟨f, h1, h2, h3, by simp [h4]⟩
        · obtain ⟨f, h1, h2, h3, h4⟩ := k2 e he hey
          exact ⟨f, h1, h2, h3, by simp [h4]⟩
      intro x y hxy
      simp only [Bool.or_eq_true] at hxy
      rcases hxy with hxy | hxy
      · exact key x y hxy
      · exact (key y x hxy).symm
    refine i3 _ hX (fun x y hxy => ?_) (fun x y hxy => ?_) a b (by simp [h])
    · simp only [Bool.or_eq_true] at hxy
      rcases hxy with hxy | hxy
      · exact hin x y hxy
      · exact (hin y x hxy).symm
    · simp only [Bool.or_eq_true] at hxy
      have hxn : (0 ≤ x ∧ x < n) ∧ (0 ≤ y ∧ y < n) := by
        rcases hxy with hxy | hxy
        · exact hin x y hxy
        · exact (hin y x hxy).symm
      have := (idx_split hxn.1 hxn.2).2.2
      rw [List.getD_eq_getElem?_getD, List.getElem?_replicate, if_pos this]
      rfl
  · intro h
    have hP := relP_post hm i2
    have hX : Post es (fun x y => relP n (pairsR n es) x y || relP n (pairsR n es) y x) := by
      have key : ∀ x y, relP n (pairsR n es) x y = true → (followsB es (fun x y => relP n (pairsR n es) x y || relP n (pairsR n es) y x) false x y = true ∧ followsB es (fun x y => relP n (pairsR n es) x y || relP n (pairsR n es) y x) true x y = true) ∧ (followsB es (fun x y => relP n (pairsR n es) x y || relP n (pairsR n es) y x) false y x = true ∧ followsB es (fun x y => relP n (pairsR n es) x y || relP n (pairsR n es) y x) true y x = true) := by
        intro x y hxy
        obtain ⟨k1, k2⟩ := hP x y hxy
        rw [fol_iff, folT_iff, fol_iff, folT_iff]
        refine ⟨⟨fun e he hex => ?_, fun e he hey => ?_⟩, fun e he hey => ?_, fun e he hex => ?_⟩
        · obtain ⟨f, h1, h2, h3, h4⟩ := k1 e he hex
          exact ⟨f, h1, h2, h3, by unfold pairsR; simp [h4]⟩
        · obtain ⟨f, h1, h2, h3, h4⟩ := k2 e he hey
          exact ⟨f, h1, h2, h3, by unfold pairsR; simp [h4]⟩
        · obtain ⟨f, h1, h2, h3, h4⟩ := k2 e he hey
          exact ⟨f, h1, h2, h3, by unfold pairsR; simp [h4]⟩
        · obtain ⟨f, h1, h2, h3, h4⟩ := k1 e he hex
          exact ⟨f, h1, h2, h3, by unfold pairsR; simp [h4]⟩
      intro x y hxy
      simp only [Bool.or_eq_true] at hxy
      rcases hxy with hxy | hxy
      · exact (key x y hxy).1
      · exact (key y x hxy).2
    refine g3 _ hX (fun x y hxy => ?_) a b (by simp [h])
    simp only [Bool.or_eq_true] at hxy
    rcases hxy with hxy | hxy
    · exact ((relP_iff _ _ _ _).1 hxy).1
    · exact ((relP_iff _ _ _ _).1 hxy).1.symm

/-- The pairs that are told, as a list. -/
def toldL (n : Nat) (P : List Bool) : List Pair := ((List.range P.length).filter fun i => P.getD i false).map fun i : Nat => (⟨((i / n : Nat) : Int), ((i % n : Nat) : Int)⟩ : Pair)
theorem sub_filter {α : Type} [DecidableEq α] {l L : List α} (h : List.Sublist l L) : L.Nodup → l = L.filter fun x => decide (x ∈ l) := by
  induction h with
  | slnil => intro _; rfl
  | @cons l1 l2 a h ih =>
    intro hn
    obtain ⟨h1, h2⟩ := List.nodup_cons.1 hn
    have ha : a ∉ l1 := fun hm => h1 (h.subset hm)
    rw [List.filter_cons_of_neg (by simpa using ha)]
    exact ih h2
  | @cons_cons l1 l2 a h ih =>
    intro hn
    obtain ⟨h1, h2⟩ := List.nodup_cons.1 hn
    rw [List.filter_cons_of_pos (by simp)]
    congr 1
    refine (ih h2).trans ?_
    refine List.filter_congr fun x hx => ?_
    have : x ≠ a := fun e => h1 (e ▸ hx)
    simp [this]
theorem great_list (n : Nat) (ls : List ByteArray) (es : List Ed) (hm : mayR n ls es = true) : greatL n es = toldL n (pairsR n es) := by
  obtain ⟨g1, _, _⟩ := great_spec n es
  obtain ⟨i1, _, _⟩ := iter_spec n es (n * n + 1) (List.replicate (n * n) true) (by simp) (by simp)
  have hl : (pairsR n es).length = n * n := i1
  rw [sub_filter g1 (pairsTo_nodup n)]
  unfold toldL
  rw [hl, pairsTo_map, List.filter_map]
  congr 1
  refine List.filter_congr fun i hi => ?_
  have hi' := List.mem_range.1 hi
  have hr := great_rel n ls es hm ((i / n : Nat) : Int) ((i % n : Nat) : Int)
  obtain ⟨d1, d2⟩ := div_lt_node hi'
  have e0 : (((i / n : Nat) : Int) * (n : Int) + ((i % n : Nat) : Int)).toNat = i := by
    have h1 : (((i / n : Nat) : Int) * (n : Int) + ((i % n : Nat) : Int)) = ((i / n * n + i % n : Nat) : Int) := by simp
    rw [h1, Int.toNat_natCast, Nat.mul_comm]
    exact Nat.div_add_mod i n
  unfold relP at hr
  rw [e0, decide_eq_true ⟨⟨Int.natCast_nonneg _, Int.ofNat_lt.2 d1⟩, Int.natCast_nonneg _, Int.ofNat_lt.2 d2⟩, Bool.true_and] at hr
  simp only [Function.comp]
  rw [← hr, Bool.eq_iff_iff, relS_iff, decide_eq_true_eq]

end Go.Proofs.Ytmpiokdomjchiaa.H
