/-
  Plain law: of nodes that some bisimulation has no word is told.
-/
import Derived.Test.YtmpiokdomjchiaaSl
import Derived.Test.YtmpiokdomjchiaaPd
import Derived.Test.YtmpiokdomjchiaaHn
set_option linter.unusedVariables false
set_option linter.unusedSimpArgs false
namespace Go.Proofs.Ytmpiokdomjchiaa.H
open Go.Proofs.Ytmpiokdomjchiaa.Pr Go.Proofs.Ytmpiokdomjchiaa.Sem

theorem mem_next {n : Nat} {es : List Ed} (h0 : ∀ e ∈ es, 0 ≤ e.f0) (h2 : ∀ e ∈ es, 0 ≤ e.f2 ∧ e.f2 < n) (A : List Int) (l x : Int) : x ∈ nextL n es A l ↔ ∃ e ∈ es, e.f1 = l ∧ e.f0 ∈ A ∧ e.f2 = x := by
  unfold nextL
  rw [mem_elems]
  unfold leads memS
  simp only [List.any_eq_true, Bool.and_eq_true, decide_eq_true_eq, beq_iff_eq]
  constructor
  · rintro ⟨i, hi, ⟨e, he, h1, h3, h4⟩, rfl⟩
    exact ⟨e, he, h1, by rwa [Int.toNat_of_nonneg (h0 e he)] at h3, h4⟩
  · rintro ⟨e, he, h1, h3, rfl⟩
    have h5 := h2 e he
    exact ⟨e.f2.toNat, by omega, ⟨e, he, h1, by rwa [Int.toNat_of_nonneg (h0 e he)], by rw [Int.toNat_of_nonneg h5.1]⟩, by rw [Int.toNat_of_nonneg h5.1]⟩
/-- Each of one set has a partner in the other. -/
def Rel2 (X : Int → Int → Bool) (A B : List Int) : Prop := (∀ a ∈ A, ∃ b ∈ B, X a b = true) ∧ ∀ b ∈ B, ∃ a ∈ A, X a b = true
section
variable {n : Nat} {ls : List ByteArray} {es : List Ed} {X : Int → Int → Bool}
theorem rel_next (h0 : ∀ e ∈ es, 0 ≤ e.f0) (h2 : ∀ e ∈ es, 0 ≤ e.f2 ∧ e.f2 < n) (hX : Post es X) {A B : List Int} (h : Rel2 X A B) (l : Int) : Rel2 X (nextL n es A l) (nextL n es B l) := by
  constructor
  · intro x hx
    obtain ⟨e, he, h1, h3, rfl⟩ := (mem_next h0 h2 A l x).1 hx
    obtain ⟨b, hb, hab⟩ := h.1 e.f0 h3
    obtain ⟨f, hf, g1, g2, g3⟩ := (fol_iff es X e.f0 b).1 (hX _ _ hab).1 e he rfl
    exact ⟨f.f2, (mem_next h0 h2 B l _).2 ⟨f, hf, by rw [← g2]; exact h1, by rw [g1]; exact hb, rfl⟩, g3⟩
  · intro x hx
    obtain ⟨e, he, h1, h3, rfl⟩ := (mem_next h0 h2 B l x).1 hx
    obtain ⟨a, ha, hab⟩ := h.2 e.f0 h3
    obtain ⟨f, hf, g1, g2, g3⟩ := (folT_iff es X a e.f0).1 (hX _ _ hab).2 e he rfl
    exact ⟨f.f2, (mem_next h0 h2 A l _).2 ⟨f, hf, by rw [← g2]; exact h1, by rw [g1]; exact ha, rfl⟩, g3⟩
theorem rel_nil {A B : List Int} (h : Rel2 X A B) : A = [] ↔ B = [] := by
  constructor
  · rintro rfl
    cases B with
    | nil => rfl
    | cons b r => obtain ⟨a, ha, _⟩ := h.2 b (by simp); cases ha
  · rintro rfl
    cases A with
    | nil => rfl
    | cons b r => obtain ⟨a, ha, _⟩ := h.1 b (by simp); cases ha
def RelF (X : Int → Int → Bool) (all : List Fnd) : Prop := ∀ f ∈ all, Rel2 X f.a f.b
theorem relF_at {all : List Fnd} (h : RelF X all) (i : Nat) : Rel2 X (all.getD i dF).a (all.getD i dF).b := by
  by_cases hi : i < all.length
  · apply h
    rw [List.getD_eq_getElem?_getD, List.getElem?_eq_getElem hi]
    exact List.getElem_mem hi
  · rw [List.getD_eq_getElem?_getD, List.getElem?_eq_none (by omega)]
    show Rel2 X [] []
    exact ⟨fun a ha => (List.not_mem_nil ha).elim, fun a ha => (List.not_mem_nil ha).elim⟩
theorem rel_step (h0 : ∀ e ∈ es, 0 ≤ e.f0) (h2 : ∀ e ∈ es, 0 ≤ e.f2 ∧ e.f2 < n) (hX : Post es X) {all : List Fnd} (h : RelF X all) (at_ k : Nat) : ∃ all', stepW n ls es all at_ k = (none, all') ∧ RelF X all' := by
  have hr := rel_next h0 h2 hX (relF_at h at_) (k : Int)
  have hn := rel_nil hr
  unfold stepW
  simp only
  by_cases ha : nextL n es (all.getD at_ dF).a k = []
  · rw [if_pos ⟨ha, hn.1 ha⟩]
    exact ⟨all, rfl, h⟩
  · have hb : ¬ nextL n es (all.getD at_ dF).b k = [] := fun e => ha (hn.2 e)
    rw [if_neg (fun e => ha e.1), if_neg hb, if_neg ha]
    refine ⟨_, rfl, ?_⟩
    split
    · exact h
    · intro f hf
      rcases List.mem_append.1 hf with hf | hf
      · exact h f hf
      · rw [List.mem_singleton.1 hf]
        exact hr
theorem rel_labs (h0 : ∀ e ∈ es, 0 ≤ e.f0) (h2 : ∀ e ∈ es, 0 ≤ e.f2 ∧ e.f2 < n) (hX : Post es X) (budget : Int) : ∀ (m : Nat) {all : List Fnd} (at_ k : Nat), RelF X all → labsF n ls es budget m all at_ k = .inl (4, []) ∨ ∃ all', labsF n ls es budget m all at_ k = .inr all' ∧ RelF X all'
  | 0, all, _, _, h => .inr ⟨all, rfl, h⟩
  | m + 1, all, at_, k, h => by
    obtain ⟨a', hs, ha⟩ := rel_step (ls := ls) h0 h2 hX h at_ k
    by_cases hb : budget < a'.length
    · exact .inl (labsF_full hs hb)
    · rw [labsF_on hs hb]
      exact rel_labs h0 h2 hX budget m at_ (k + 1) ha
theorem rel_go (h0 : ∀ e ∈ es, 0 ≤ e.f0) (h2 : ∀ e ∈ es, 0 ≤ e.f2 ∧ e.f2 < n) (hX : Post es X) (budget : Int) : ∀ (f : Nat) {all : List Fnd} (k : Nat), RelF X all → goF n ls es budget f all k = (3, []) ∨ goF n ls es budget f all k = (4, [])
  | 0, _, _, _ => .inl rfl
  | f + 1, all, k, h => by
    by_cases hk : k < all.length
    · rw [goF_go hk]
      rcases rel_labs (ls := ls) h0 h2 hX budget ls.length k 0 h with e | ⟨a', e, ha⟩
      · rw [e]
        exact .inr rfl
      · rw [e]
        exact rel_go h0 h2 hX budget f (k + 1) ha
    · exact .inl (goF_end _ hk)
end
/-- Nodes that some bisimulation has: no word is told of them. -/
theorem bisims_of (n : Int) (ls : List ByteArray) (es : List Ed) (s t : Int) (h : hasB n ls es s t = true) : ∃ k : Int, (k = 3 ∨ k = 4) ∧ ofR n ls es s t 4000 = ((k, []), 0) := by
  unfold hasB at h
  cases hm : mayR n ls es with
  | false =>
    rw [hm] at h
    simp [relS] at h
  | true =>
    rw [hm, if_pos rfl] at h
    have hn := n_le hm
    obtain ⟨N, rfl⟩ := Int.eq_ofNat_of_zero_le (show 0 ≤ n by omega)
    rw [show ((N : Int)).toNat = N from Int.toNat_natCast N] at h
    obtain ⟨hsub, hpost, _⟩ := great_spec N es
    have hin := pairsTo_mem.1 (hsub.subset ((relS_iff _ _ _).1 h))
    simp only at hin
    unfold ofR
    rw [if_pos ⟨hm, hin.1, hin.2, by omega, by omega⟩]
    obtain ⟨S, rfl⟩ := Int.eq_ofNat_of_zero_le hin.1.1
    obtain ⟨T, rfl⟩ := Int.eq_ofNat_of_zero_le hin.2.1
    have h0 : ∀ e ∈ es, 0 ≤ e.f0 := fun e he => (es_mem hm he).1.1
    have h2 : ∀ e ∈ es, 0 ≤ e.f2 ∧ e.f2 < N := fun e he => (es_mem hm he).2
    have hr : RelF (relS (greatL N es)) [⟨[(S : Int)], [(T : Int)], [], 0, 0⟩] := by
      intro f hf
      rw [List.mem_singleton.1 hf]
      exact ⟨fun a ha => ⟨T, by simp, by rw [List.mem_singleton.1 ha]; exact h⟩, fun b hb => ⟨S, by simp, by rw [List.mem_singleton.1 hb]; exact h⟩⟩
    have := rel_go (ls := ls) h0 h2 hpost 4000 ((4000 : Int).toNat + 1) 0 hr
    unfold ofF
    simp only [Int.toNat_natCast]
    rcases this with e | e
    · exact ⟨3, .inl rfl, by rw [e]⟩
    · exact ⟨4, .inr rfl, by rw [e]⟩

end Go.Proofs.Ytmpiokdomjchiaa.H
