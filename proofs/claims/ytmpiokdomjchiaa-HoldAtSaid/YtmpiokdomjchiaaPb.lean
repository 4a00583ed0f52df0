/-
  The program's own test of a system and the document's say the same: mayB is mayR.
-/
import Derived.Test.YtmpiokdomjchiaaHd
set_option linter.unusedVariables false
set_option linter.unusedSimpArgs false
namespace Go.Proofs.Ytmpiokdomjchiaa.H
open Go.RowKit Go.Proofs.Ytmpiokdomjchiaa.Pr Go.Proofs.YtmpiokdomjchiaaW.PrintWords Go.Proofs.Ytmpiokdomjchiaa.Sem

/-- The model's order of texts is that of the bytes' lists. -/
theorem bytesLess_lt : ∀ (x y : List UInt8), Op.bytesLess x y = decide (x < y)
  | [], [] => by simp [Op.bytesLess]
  | _ :: _, [] => by simp [Op.bytesLess]
  | [], _ :: _ => by simp [Op.bytesLess]
  | a :: x, b :: y => by
    rw [Op.bytesLess, bytesLess_lt x y]
    simp only [List.cons_lt_cons_iff]
    by_cases h1 : a < b <;> by_cases h2 : a = b <;> by_cases h3 : x < y <;> simp [h1, h2, h3]
theorem okAt_same (n nl : Int) (es : List Ed) (k : Nat) : okAt n nl es k = okAt' n nl es k := by
  unfold okAt okAt'
  rw [decide_eq_decide.2 (cmpE_neg _ _)]

theorem compact_sub (zs : List (List UInt8)) : List.Sublist (Lib.compact zs) zs := by
  unfold Lib.compact Lib.compactUpTo
  have h := (List.filter_sublist (p := Lib.keeps zs.toArray) (l := List.range zs.length)).map (zs.toArray[·]!)
  have e := Lib.range_map_get zs.toArray
  simp only [List.size_toArray] at e
  rw [e] at h
  simpa using h

theorem back_inj {xs ys : List (List UInt8)} (h : (xs.map fun l => (⟨l.toArray⟩ : ByteArray)) = ys.map fun l => ⟨l.toArray⟩) : xs = ys := by
  have := congrArg (List.map fun s : ByteArray => s.data.toList) h
  simpa [List.map_map, Function.comp_def] using this
theorem back_fwd (ls : List ByteArray) : ((ls.map fun s => s.data.toList).map fun l => (⟨l.toArray⟩ : ByteArray)) = ls := by
  rw [List.map_map]
  simp [Function.comp_def]

theorem union_nil (ls : List ByteArray) : unionS ls [] = (Lib.compact ((ls.map fun s => s.data.toList).mergeSort fun x y => decide (x ≤ y))).map fun l => ⟨l.toArray⟩ := by
  unfold unionS cmpt srt
  rw [List.append_nil]
  congr 2
  rw [List.map_map]
  simp [Function.comp_def]

theorem le_of_not_lt' {a b : List UInt8} (h : ¬ b < a) : a ≤ b := h

/-- Is the list strictly rising? -/
theorem rising_iff (L : List (List UInt8)) : L = Lib.compact (L.mergeSort fun x y => decide (x ≤ y)) ↔ ∀ k, 0 < k → k < L.length → L.getD (k - 1) [] < L.getD k [] := by
  have tr : ∀ a b c : List UInt8, decide (a ≤ b) = true → decide (b ≤ c) = true → decide (a ≤ c) = true := by
    intro a b c h1 h2
    simp only [decide_eq_true_eq] at h1 h2 ⊢
    exact List.le_trans h1 h2
  have tot : ∀ a b : List UInt8, (decide (a ≤ b) || decide (b ≤ a)) = true := by
    intro a b
    simp only [Bool.or_eq_true, decide_eq_true_eq]
    exact List.le_total a b
  constructor
  · intro h
    have hlen : (L.mergeSort fun x y => decide (x ≤ y)).length ≤ (Lib.compact (L.mergeSort fun x y => decide (x ≤ y))).length := by
      rw [← h, List.length_mergeSort]
      exact Nat.le_refl _
    have he := (compact_sub (L.mergeSort fun x y => decide (x ≤ y))).eq_of_length_le hlen
    have hs : L = L.mergeSort fun x y => decide (x ≤ y) := h.trans he
    have hp : L.Pairwise fun x y => x ≤ y := by
      have := List.pairwise_mergeSort (le := fun x y : List UInt8 => decide (x ≤ y)) tr tot L
      rw [← hs] at this
      exact this.imp (by intro a b h; simpa using h)
    intro k h0 hk
    have hle : L.getD (k - 1) [] ≤ L.getD k [] := by
      rw [List.getD_eq_getElem?_getD, List.getD_eq_getElem?_getD, List.getElem?_eq_getElem hk, List.getElem?_eq_getElem (show k - 1 < L.length by omega)]
      exact List.pairwise_iff_getElem.1 hp (k - 1) k (by omega) hk (by omega)
    have hne : L.getD k [] ≠ L.getD (k - 1) [] := by
      intro e
      have hkeep : Lib.keeps L.toArray k = false := by
        apply Lib.keeps_neg h0
        rw [getElem!_pos _ _ (by simpa using hk), getElem!_pos _ _ (by simp; omega)]
        rw [List.getD_eq_getElem?_getD, List.getD_eq_getElem?_getD, List.getElem?_eq_getElem hk, List.getElem?_eq_getElem (show k - 1 < L.length by omega)] at e
        simpa using e
      have hl2 : (Lib.compact L).length < L.length := by
        unfold Lib.compact Lib.compactUpTo
        rw [List.length_map]
        have := List.length_filter_lt_length_iff_exists (p := Lib.keeps L.toArray) (l := List.range L.length)
        have h2 := this.2 ⟨k, List.mem_range.2 hk, by simp [hkeep]⟩
        simpa using h2
      rw [hs] at hl2
      rw [he] at hl2
      exact Nat.lt_irrefl _ hl2
    exact Std.lt_of_le_of_ne hle (fun e => hne e.symm)
  · intro h
    have hp : L.Pairwise fun x y => x < y := by
      rw [List.pairwise_iff_getElem]
      intro i j hi hj hij
      induction j with
      | zero => omega
      | succ j ih =>
        have hs := h (j + 1) (by omega) hj
        rw [List.getD_eq_getElem?_getD, List.getD_eq_getElem?_getD, List.getElem?_eq_getElem hj, List.getElem?_eq_getElem (show j + 1 - 1 < L.length by omega)] at hs
        simp only [Nat.add_sub_cancel, Option.getD_some] at hs
        by_cases e : i = j
        · subst e; exact hs
        · exact List.lt_trans (ih (by omega) (by omega)) hs
    have hm : (L.mergeSort fun x y => decide (x ≤ y)) = L := by
      apply List.mergeSort_of_pairwise
      exact hp.imp (by intro a b h; simpa using List.le_of_lt h)
    rw [hm]
    refine (Lib.compact_all L fun j hj => ?_).symm
    by_cases h0 : j = 0
    · subst h0; simp [Lib.keeps]
    · apply Lib.keeps_pos
      rw [getElem!_pos _ _ (by simpa using hj), getElem!_pos _ _ (by simp; omega)]
      have := List.pairwise_iff_getElem.1 hp (j - 1) j (by omega) hj (by omega)
      intro e
      simp only [List.getElem_toArray] at e
      rw [← e] at this
      exact List.lt_irrefl _ this

theorem named_same (ls : List ByteArray) : namedB ls = (decide (ls.length ≤ 64) && (List.range ls.length).all (labAt ls)) := by
  unfold namedB
  congr 1
  rw [Bool.eq_iff_iff]
  simp only [Bool.and_eq_true, Bool.not_eq_true', decide_eq_true_eq, List.all_eq_true, List.mem_range, labAt, Bool.or_eq_true]
  have hu : ls = unionS ls [] ↔ ∀ k, 0 < k → k < ls.length → (ls.getD (k - 1) ByteArray.empty).data.toList < (ls.getD k ByteArray.empty).data.toList := by
    have hr := rising_iff (ls.map fun s => s.data.toList)
    rw [union_nil]
    have e1 : (ls = (Lib.compact ((ls.map fun s => s.data.toList).mergeSort fun x y => decide (x ≤ y))).map fun l => ⟨l.toArray⟩) ↔ ((ls.map fun s => s.data.toList) = Lib.compact ((ls.map fun s => s.data.toList).mergeSort fun x y => decide (x ≤ y))) := by
      constructor
      · intro h
        apply back_inj
        rw [back_fwd]
        exact h
      · intro h
        rw [← h, back_fwd]
    rw [e1, hr]
    have g : ∀ k, k < ls.length → (ls.map fun s => s.data.toList).getD k [] = (ls.getD k ByteArray.empty).data.toList := by
      intro k hk
      simp [List.getD_eq_getElem?_getD, List.getElem?_map, List.getElem?_eq_getElem hk]
    constructor
    · intro h k h0 hk
      have := h k h0 (by simpa using hk)
      rwa [g k hk, g (k - 1) (by omega)] at this
    · intro h k h0 hk
      rw [List.length_map] at hk
      rw [g k hk, g (k - 1) (by omega)]
      exact h k h0 hk
  rw [hu]
  constructor
  · rintro ⟨h1, h2⟩ k hk
    refine ⟨?_, ?_⟩
    · have : ls.getD k ByteArray.empty ∈ ls := by
        rw [List.getD_eq_getElem?_getD, List.getElem?_eq_getElem hk]
        exact List.getElem_mem hk
      rw [Bool.eq_false_iff]
      intro e
      have h3 : ls.any tooLong = true := List.any_eq_true.2 ⟨_, this, e⟩
      rw [h1] at h3
      cases h3
    · by_cases h0 : k = 0
      · exact Or.inl h0
      · right
        rw [bytesLess_lt]
        simp only [ByteArray.toList_eq, decide_eq_true_eq]
        exact h2 k (by omega) hk
  · intro h
    refine ⟨?_, ?_⟩
    · rw [List.any_eq_false]
      intro s hs
      obtain ⟨k, hk, rfl⟩ := List.getElem_of_mem hs
      have := (h k hk).1
      rw [List.getD_eq_getElem?_getD, List.getElem?_eq_getElem hk] at this
      simpa using this
    · intro k h0 hk
      rcases (h k hk).2 with h2 | h2
      · omega
      · rw [bytesLess_lt] at h2
        simp only [ByteArray.toList_eq, decide_eq_true_eq] at h2
        exact h2

/-- The two tests are one. -/
theorem may_same (n : Int) (ls : List ByteArray) (es : List Ed) : mayB n ls es = mayR n ls es := by
  unfold mayB mayR
  rw [named_same, show (okAt n (ls.length : Int) es) = okAt' n (ls.length : Int) es from funext fun k => okAt_same n _ es k]
  cases decide (1 ≤ n) <;> cases decide (n ≤ 2048) <;> cases decide (ls.length ≤ 64) <;> cases (List.range ls.length).all (labAt ls) <;> simp

end Go.Proofs.Ytmpiokdomjchiaa.H
