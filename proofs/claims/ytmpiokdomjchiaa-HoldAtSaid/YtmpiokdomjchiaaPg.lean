/-
  Plain law: the word that is told is the least of those that just one of two nodes has.
-/
import Derived.Test.YtmpiokdomjchiaaSl
set_option linter.unusedVariables false
set_option linter.unusedSimpArgs false
namespace Go.Proofs.Ytmpiokdomjchiaa.H
open Go.Proofs.Ytmpiokdomjchiaa.Pr Go.Proofs.Ytmpiokdomjchiaa.Sem

/-- The first place that is not the same decides. -/
def lexB : List Int → List Int → Bool
  | x :: xs, y :: ys => if x = y then lexB xs ys else decide (x < y)
  | _, _ => false
/-- Shorter, or of the same length and ahead. -/
def slt (a b : List Int) : Bool := if a.length = b.length then lexB a b else decide (a.length < b.length)
theorem lex_trans : ∀ {a b c : List Int}, a.length = b.length → b.length = c.length → lexB a b = true → lexB b c = true → lexB a c = true
  | [], [], _, _, _, h, _ => by simp [lexB] at h
  | x :: xs, y :: ys, [], _, h2, _, _ => by simp at h2
  | x :: xs, y :: ys, z :: zs, h1, h2, h, k => by
    simp only [lexB] at h k ⊢
    simp only [List.length_cons, Nat.add_right_cancel_iff] at h1 h2
    by_cases e1 : x = y
    · rw [if_pos e1] at h
      by_cases e2 : y = z
      · rw [if_pos e2] at k
        rw [if_pos (e1.trans e2)]
        exact lex_trans h1 h2 h k
      · rw [if_neg e2] at k
        rw [e1, if_neg e2]
        exact k
    · rw [if_neg e1] at h
      have h3 : x < y := by simpa using h
      by_cases e2 : y = z
      · rw [if_pos e2] at k
        rw [← e2, if_neg e1]
        exact h
      · rw [if_neg e2] at k
        have h4 : y < z := by simpa using k
        rw [if_neg (by omega)]
        simp
        omega
theorem lex_irrefl : ∀ a : List Int, lexB a a = false
  | [] => rfl
  | x :: xs => by simp only [lexB, if_true]; exact lex_irrefl xs
theorem lex_snoc : ∀ {a b : List Int} (x y : Int), a.length = b.length → lexB a b = true → lexB (a ++ [x]) (b ++ [y]) = true
  | [], [], _, _, _, h => by simp [lexB] at h
  | p :: ps, q :: qs, x, y, h1, h => by
    simp only [lexB, List.cons_append] at h ⊢
    by_cases e : p = q
    · rw [if_pos e] at h ⊢
      exact lex_snoc x y (by simpa using h1) h
    · rw [if_neg e] at h ⊢
      exact h
theorem lex_last : ∀ (a : List Int) {x y : Int}, x < y → lexB (a ++ [x]) (a ++ [y]) = true
  | [], x, y, h => by
    simp only [List.nil_append, lexB]
    rw [if_neg (by omega)]
    simpa using h
  | p :: ps, x, y, h => by
    simp only [List.cons_append, lexB, if_true]
    exact lex_last ps h
theorem slt_trans {a b c : List Int} (h : slt a b = true) (k : slt b c = true) : slt a c = true := by
  unfold slt at h k ⊢
  by_cases e1 : a.length = b.length
  · rw [if_pos e1] at h
    by_cases e2 : b.length = c.length
    · rw [if_pos e2] at k
      rw [if_pos (e1.trans e2)]
      exact lex_trans e1 e2 h k
    · rw [if_neg e2] at k
      rw [if_neg (by omega), e1]
      exact k
  · rw [if_neg e1] at h
    have h3 : a.length < b.length := by simpa using h
    by_cases e2 : b.length = c.length
    · rw [if_neg (by omega), ← e2]
      exact h
    · rw [if_neg e2] at k
      have h4 : b.length < c.length := by simpa using k
      rw [if_neg (by omega)]
      simp
      omega
theorem slt_irrefl (a : List Int) : slt a a = false := by
  unfold slt
  rw [if_pos rfl]
  exact lex_irrefl a
theorem slt_snoc {a b : List Int} (x y : Int) (h : slt a b = true) : slt (a ++ [x]) (b ++ [y]) = true := by
  unfold slt at h ⊢
  by_cases e : a.length = b.length
  · rw [if_pos e] at h
    rw [if_pos (by simp [e])]
    exact lex_snoc x y e h
  · rw [if_neg e] at h
    rw [if_neg (by simpa using e)]
    simpa using h
theorem slt_last (a : List Int) {x y : Int} (h : x < y) : slt (a ++ [x]) (a ++ [y]) = true := by
  unfold slt
  rw [if_pos (by simp)]
  exact lex_last a h
theorem slt_len {a b : List Int} (h : a.length < b.length) : slt a b = true := by
  unfold slt
  rw [if_neg (by omega)]
  simpa using h
def sle (a b : List Int) : Prop := a = b ∨ slt a b = true
theorem sle_trans {a b c : List Int} (h : sle a b) (k : sle b c) : sle a c := by
  rcases h with rfl | h
  · exact k
  · rcases k with rfl | k
    · exact .inr h
    · exact .inr (slt_trans h k)
theorem sle_snoc {a b : List Int} (x : Int) (h : sle a b) : sle (a ++ [x]) (b ++ [x]) := by
  rcases h with rfl | h
  · exact .inl rfl
  · exact .inr (slt_snoc x x h)
theorem sle_not {a b : List Int} (h : sle a b) : slt b a = false := by
  cases k : slt b a with
  | false => rfl
  | true =>
    rcases h with rfl | h
    · rw [slt_irrefl] at k; cases k
    · have := slt_trans h k
      rw [slt_irrefl] at this
      cases this

/-- The places of a word's labels. -/
def keyW (ls : List ByteArray) (w : List ByteArray) : List Int := w.map (placeS ls)
theorem keyW_snoc (ls w : List ByteArray) (x : ByteArray) : keyW ls (w ++ [x]) = keyW ls w ++ [placeS ls x] := by simp [keyW]
section
variable (n : Nat) (ls : List ByteArray) (es : List Ed) (s t : Int)
/-- The sets behind a word. -/
abbrev DA (w : List ByteArray) : List Int := behindW n ls es [s] w
/-- Just one of both nodes has a word. -/
def OneW (w : List ByteArray) : Prop := (DA n ls es s w ≠ [] ∧ DA n ls es t w = []) ∨ (DA n ls es s w = [] ∧ DA n ls es t w ≠ [])
/-- The step (i, l) is done ahead of (at, q). -/
def Done (at_ q i l : Nat) : Prop := i < at_ ∨ (i = at_ ∧ l < q)
/-- What a search knows, ahead of the step (at, q). -/
structure InvT (all : List Fnd) (at_ q : Nat) : Prop where
  pos : 0 < all.length
  zero : (all.getD 0 dF).word = []
  set : ∀ i, i < all.length → (all.getD i dF).a = DA n ls es s (all.getD i dF).word ∧ (all.getD i dF).b = DA n ls es t (all.getD i dF).word ∧ (all.getD i dF).a ≠ [] ∧ (all.getD i dF).b ≠ []
  rise : ∀ i j, i < j → j < all.length → slt (keyW ls (all.getD i dF).word) (keyW ls (all.getD j dF).word) = true
  done : ∀ i l, i < all.length → l < ls.length → Done at_ q i l → (nextL n es (all.getD i dF).a l = [] ∧ nextL n es (all.getD i dF).b l = []) ∨ ∃ j, j < all.length ∧ (all.getD j dF).a = nextL n es (all.getD i dF).a l ∧ (all.getD j dF).b = nextL n es (all.getD i dF).b l ∧ sle (keyW ls (all.getD j dF).word) (keyW ls (all.getD i dF).word ++ [(l : Int)])
  under : at_ < all.length → ∀ j, j < all.length → slt (keyW ls (all.getD j dF).word) (keyW ls (all.getD at_ dF).word ++ [(q : Int)]) = true
end
section
variable {n : Nat} {ls : List ByteArray} {es : List Ed} {s t : Int}
theorem next_nil (l : Int) : nextL n es [] l = [] := by
  unfold nextL
  apply elems_nil
  intro i _
  unfold leads memS
  rw [List.any_eq_false]
  intro e _
  simp
theorem next_bad (h1 : ∀ e ∈ es, 0 ≤ e.f1) (a : List Int) {l : Int} (hl : l < 0) : nextL n es a l = [] := by
  unfold nextL
  apply elems_nil
  intro i _
  unfold leads
  rw [List.any_eq_false]
  intro e he
  have := h1 e he
  have h2 : (e.f1 == l) = false := by simp; omega
  rw [h2]
  simp
theorem place_range (ls : List ByteArray) (x : ByteArray) : placeS ls x < 0 ∨ (0 ≤ placeS ls x ∧ placeS ls x < ls.length) := by
  unfold placeS
  induction ls with
  | nil => left; simp [idxP]
  | cons y r ih =>
    unfold idxP
    split
    · right; simp
    · split
      · left; omega
      · right
        rcases ih with ih | ih
        · omega
        · simp only [List.length_cons]; omega
/-- What is behind a longer word. -/
theorem DA_snoc (w : List ByteArray) (x : ByteArray) : DA n ls es s (w ++ [x]) = nextL n es (DA n ls es s w) (placeS ls x) := behindW_snoc n ls es [s] w x

/-- All words that both have are found, or are not ahead of the step. -/
theorem found_or (h1 : ∀ e ∈ es, 0 ≤ e.f1) {all : List Fnd} {at_ q : Nat} (h : InvT n ls es s t all at_ q) (h0 : (all.getD 0 dF).a = [s] ∧ (all.getD 0 dF).b = [t]) (v : List Int) (hv : ∀ i l, i < all.length → l < ls.length → ¬ Done at_ q i l → sle v (keyW ls (all.getD i dF).word ++ [(l : Int)])) :
    ∀ (m : Nat) (u : List ByteArray), u.length = m → DA n ls es s u ≠ [] → DA n ls es t u ≠ [] → sle v (keyW ls u) ∨ ∃ i, i < all.length ∧ (all.getD i dF).a = DA n ls es s u ∧ (all.getD i dF).b = DA n ls es t u ∧ sle (keyW ls (all.getD i dF).word) (keyW ls u)
  | 0, u, hu, _, _ => by
    have : u = [] := List.eq_nil_of_length_eq_zero hu
    subst this
    exact .inr ⟨0, h.pos, h0.1, h0.2, by rw [h.zero]; exact .inl rfl⟩
  | m + 1, u, hu, ha, hb => by
    rcases List.eq_nil_or_concat u with rfl | ⟨u', x, rfl⟩
    · simp at hu
    · rw [List.concat_eq_append] at hu ha hb ⊢
      rw [DA_snoc] at ha hb
      rw [DA_snoc, DA_snoc, keyW_snoc]
      have ha' : DA n ls es s u' ≠ [] := fun e => ha (by rw [e, next_nil])
      have hb' : DA n ls es t u' ≠ [] := fun e => hb (by rw [e, next_nil])
      rcases place_range ls x with hx | ⟨hx0, hx1⟩
      · exact absurd (next_bad h1 _ hx) ha
      · obtain ⟨l, hl⟩ := Int.eq_ofNat_of_zero_le hx0
        have hl1 : l < ls.length := by omega
        have hlen : u'.length = m := by simpa using hu
        rcases found_or h1 h h0 v hv m u' hlen ha' hb' with hle | ⟨i, hi, e1, e2, hle⟩
        · refine .inl (sle_trans hle (.inr (slt_len (by simp))))
        · rw [hl] at ha hb ⊢
          by_cases hd : Done at_ q i l
          · rcases h.done i l hi hl1 hd with ⟨z1, _⟩ | ⟨j, hj, z1, z2, z3⟩
            · rw [e1] at z1
              exact absurd z1 ha
            · exact .inr ⟨j, hj, by rw [z1, e1], by rw [z2, e2], sle_trans z3 (sle_snoc _ hle)⟩
          · exact .inl (sle_trans (hv i l hi hl1 hd) (sle_snoc _ hle))
/-- No word that just one has is ahead of the step. -/
theorem one_after (h1 : ∀ e ∈ es, 0 ≤ e.f1) {all : List Fnd} {at_ q : Nat} (h : InvT n ls es s t all at_ q) (h0 : (all.getD 0 dF).a = [s] ∧ (all.getD 0 dF).b = [t]) (v : List Int) (hv : ∀ i l, i < all.length → l < ls.length → ¬ Done at_ q i l → sle v (keyW ls (all.getD i dF).word ++ [(l : Int)])) :
    ∀ (m : Nat) (u : List ByteArray), u.length = m → OneW n ls es s t u → sle v (keyW ls u)
  | 0, u, hu, ho => by
    have : u = [] := List.eq_nil_of_length_eq_zero hu
    subst this
    rcases ho with ⟨_, e⟩ | ⟨e, _⟩ <;> (simp [DA, behindW] at e)
  | m + 1, u, hu, ho => by
    rcases List.eq_nil_or_concat u with rfl | ⟨u', x, rfl⟩
    · simp at hu
    · rw [List.concat_eq_append] at hu ho ⊢
      have hlen : u'.length = m := by simpa using hu
      rw [keyW_snoc]
      by_cases ha : DA n ls es s u' = []
      · by_cases hb : DA n ls es t u' = []
        · rcases ho with ⟨e, _⟩ | ⟨_, e⟩
          · rw [DA_snoc, ha, next_nil] at e; exact absurd rfl e
          · rw [DA_snoc, hb, next_nil] at e; exact absurd rfl e
        · exact sle_trans (one_after h1 h h0 v hv m u' hlen (.inr ⟨ha, hb⟩)) (.inr (slt_len (by simp)))
      · by_cases hb : DA n ls es t u' = []
        · exact sle_trans (one_after h1 h h0 v hv m u' hlen (.inl ⟨ha, hb⟩)) (.inr (slt_len (by simp)))
        · unfold OneW at ho
          rw [DA_snoc, DA_snoc] at ho
          rcases place_range ls x with hx | ⟨hx0, hx1⟩
          · rw [next_bad h1 _ hx, next_bad h1 _ hx] at ho
            rcases ho with ⟨e, _⟩ | ⟨_, e⟩ <;> exact absurd rfl e
          · obtain ⟨l, hl⟩ := Int.eq_ofNat_of_zero_le hx0
            have hl1 : l < ls.length := by omega
            rcases found_or h1 h h0 v hv m u' hlen ha hb with hle | ⟨i, hi, e1, e2, hle⟩
            · exact sle_trans hle (.inr (slt_len (by simp)))
            · rw [hl] at ho ⊢
              by_cases hd : Done at_ q i l
              · exfalso
                rcases h.done i l hi hl1 hd with ⟨z1, z2⟩ | ⟨j, hj, z1, z2, _⟩
                · rw [e1] at z1
                  rw [e2] at z2
                  rw [z1, z2] at ho
                  rcases ho with ⟨e, _⟩ | ⟨_, e⟩ <;> exact absurd rfl e
                · obtain ⟨_, _, y1, y2⟩ := h.set j hj
                  rw [z1, e1] at y1
                  rw [z2, e2] at y2
                  rcases ho with ⟨_, e⟩ | ⟨e, _⟩
                  · exact y2 e
                  · exact y1 e
              · exact sle_trans (hv i l hi hl1 hd) (sle_snoc _ hle)
end

end Go.Proofs.Ytmpiokdomjchiaa.H
