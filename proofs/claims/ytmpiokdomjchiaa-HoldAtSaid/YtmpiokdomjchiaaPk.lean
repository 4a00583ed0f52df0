/-
  Plain law: the search's steps, and what it tells.
-/
import Derived.Test.YtmpiokdomjchiaaPg
import Derived.Test.YtmpiokdomjchiaaPb
set_option linter.unusedVariables false
set_option linter.unusedSimpArgs false
namespace Go.Proofs.Ytmpiokdomjchiaa.H
open Go.Proofs.Ytmpiokdomjchiaa.Pr Go.Proofs.Ytmpiokdomjchiaa.Sem

theorem labs_rise {n : Int} {ls : List ByteArray} {es : List Ed} (hm : mayR n ls es = true) {k : Nat} (h0 : 0 < k) (hk : k < ls.length) : (ls.getD (k - 1) ByteArray.empty).data.toList < (ls.getD k ByteArray.empty).data.toList := by
  unfold mayR at hm
  simp only [Bool.and_eq_true] at hm
  have h := List.all_eq_true.1 hm.2.2.2.2.1 k (List.mem_range.2 hk)
  unfold labAt at h
  rw [bytesLess_lt] at h
  simp only [ByteArray.toList_eq, Bool.and_eq_true, Bool.or_eq_true, decide_eq_true_eq] at h
  rcases h.2 with h | h
  · omega
  · exact h
theorem labs_lt {n : Int} {ls : List ByteArray} {es : List Ed} (hm : mayR n ls es = true) : ∀ j, j < ls.length → ∀ i, i < j → (ls.getD i ByteArray.empty).data.toList < (ls.getD j ByteArray.empty).data.toList
  | 0, _, i, hi => by omega
  | j + 1, hj, i, hi => by
    have h := labs_rise hm (Nat.succ_pos j) hj
    rw [Nat.succ_sub_one] at h
    by_cases e : i = j
    · subst e; exact h
    · exact List.lt_trans (labs_lt hm j (by omega) i (by omega)) h
theorem place_lab {n : Int} {ls : List ByteArray} {es : List Ed} (hm : mayR n ls es = true) {q : Nat} (hq : q < ls.length) : placeS ls (ls.getD q ByteArray.empty) = q := by
  unfold placeS
  refine idxP_at _ ByteArray.empty ls q (fun j hj => ?_) hq ?_
  · unfold teq
    have h := labs_lt hm q hq j hj
    rw [← ByteArray.toList_eq, ← ByteArray.toList_eq] at h
    rw [beq_eq_false_iff_ne]
    intro e
    rw [e] at h
    exact List.lt_irrefl _ h
  · unfold teq
    exact beq_self_eq_true _
theorem lab_pos {n : Int} {ls : List ByteArray} {es : List Ed} (hm : mayR n ls es = true) : ∀ e ∈ es, 0 ≤ e.f1 := by
  intro e he
  obtain ⟨k, hk, rfl⟩ := getD_mem z81 he
  unfold mayR at hm
  simp only [Bool.and_eq_true] at hm
  have h := List.all_eq_true.1 hm.2.2.2.2.2 k (List.mem_range.2 hk)
  unfold okAt' at h
  simp only [Bool.and_eq_true, decide_eq_true_eq] at h
  exact h.2.2.1
section
variable {n : Nat} {ls : List ByteArray} {es : List Ed} {s t : Int}
theorem not_done {all : List Fnd} {at_ q : Nat} (h : InvT n ls es s t all at_ q) (i l : Nat) (hi : i < all.length) (hl : l < ls.length) (hat : at_ < all.length) (hd : ¬ Done at_ q i l) : sle (keyW ls (all.getD at_ dF).word ++ [(q : Int)]) (keyW ls (all.getD i dF).word ++ [(l : Int)]) := by
  unfold Done at hd
  by_cases e : i = at_
  · subst e
    by_cases e2 : l = q
    · subst e2; exact .inl rfl
    · exact .inr (slt_last _ (by omega))
  · exact .inr (slt_snoc _ _ (h.rise at_ i (by omega) hi))
/-- What a word that is told is. -/
def Told (n : Nat) (ls : List ByteArray) (es : List Ed) (s t : Int) (w : Wd) : Prop :=
  ((w.1 = 1 ∧ DA n ls es s w.2 ≠ [] ∧ DA n ls es t w.2 = []) ∨ (w.1 = 2 ∧ DA n ls es s w.2 = [] ∧ DA n ls es t w.2 ≠ [])) ∧ ∀ u, OneW n ls es s t u → sle (keyW ls w.2) (keyW ls u)
/-- What a search holds, and that it begins with both nodes. -/
structure InvA (n : Nat) (ls : List ByteArray) (es : List Ed) (s t : Int) (all : List Fnd) (at_ q : Nat) : Prop where
  inv : InvT n ls es s t all at_ q
  start : (all.getD 0 dF).a = [s] ∧ (all.getD 0 dF).b = [t]
theorem step_told (hm : mayR n ls es = true) {all all' : List Fnd} {at_ q : Nat} {w : Wd} (h : InvA n ls es s t all at_ q) (hat : at_ < all.length) (hq : q < ls.length) (hs : stepW n ls es all at_ q = (some w, all')) : Told n ls es s t w := by
  obtain ⟨e1, e2, _, _⟩ := h.inv.set at_ hat
  have hp := place_lab hm hq
  have hA : nextL n es (all.getD at_ dF).a q = DA n ls es s (wordF ls all at_ q) := by unfold wordF; rw [DA_snoc, hp, e1]
  have hB : nextL n es (all.getD at_ dF).b q = DA n ls es t (wordF ls all at_ q) := by unfold wordF; rw [DA_snoc, hp, e2]
  have hK : keyW ls (wordF ls all at_ q) = keyW ls (all.getD at_ dF).word ++ [(q : Int)] := by unfold wordF; rw [keyW_snoc, hp]
  have hone : ∀ u, OneW n ls es s t u → sle (keyW ls (wordF ls all at_ q)) (keyW ls u) := fun u hu => one_after (lab_pos hm) h.inv h.start _ (fun i l hi hl hd => by rw [hK]; exact not_done h.inv i l hi hl hat hd) _ u rfl hu
  unfold stepW at hs
  simp only at hs
  rw [hA, hB] at hs
  by_cases ha : DA n ls es s (wordF ls all at_ q) = []
  · by_cases hb : DA n ls es t (wordF ls all at_ q) = []
    · rw [if_pos ⟨ha, hb⟩] at hs
      simp at hs
    · rw [if_neg (fun e => hb e.2), if_neg hb, if_pos ha] at hs
      simp only [Prod.mk.injEq, Option.some.injEq] at hs
      rw [← hs.1]
      exact ⟨.inr ⟨rfl, ha, hb⟩, hone⟩
  · by_cases hb : DA n ls es t (wordF ls all at_ q) = []
    · rw [if_neg (fun e => ha e.1), if_pos hb] at hs
      simp only [Prod.mk.injEq, Option.some.injEq] at hs
      rw [← hs.1]
      exact ⟨.inl ⟨rfl, ha, hb⟩, hone⟩
    · rw [if_neg (fun e => ha e.1), if_neg hb, if_neg ha] at hs
      simp at hs
theorem step_inv (hm : mayR n ls es = true) {all all' : List Fnd} {at_ q : Nat} (h : InvA n ls es s t all at_ q) (hat : at_ < all.length) (hq : q < ls.length) (hs : stepW n ls es all at_ q = (none, all')) : InvA n ls es s t all' at_ (q + 1) ∧ at_ < all'.length := by
  obtain ⟨e1, e2, _, _⟩ := h.inv.set at_ hat
  have hp := place_lab hm hq
  have hA : nextL n es (all.getD at_ dF).a q = DA n ls es s (wordF ls all at_ q) := by unfold wordF; rw [DA_snoc, hp, e1]
  have hB : nextL n es (all.getD at_ dF).b q = DA n ls es t (wordF ls all at_ q) := by unfold wordF; rw [DA_snoc, hp, e2]
  have hK : keyW ls (wordF ls all at_ q) = keyW ls (all.getD at_ dF).word ++ [(q : Int)] := by unfold wordF; rw [keyW_snoc, hp]
  have hlt : slt (keyW ls (all.getD at_ dF).word ++ [(q : Int)]) (keyW ls (all.getD at_ dF).word ++ [((q + 1 : Nat) : Int)]) = true := slt_last _ (by omega)
  have done1 : ∀ {i l : Nat}, Done at_ (q + 1) i l → Done at_ q i l ∨ (i = at_ ∧ l = q) := by
    intro i l hd
    unfold Done at hd ⊢
    omega
  have keep : (∀ i l, i < all.length → l < ls.length → (i = at_ ∧ l = q) → (nextL n es (all.getD i dF).a l = [] ∧ nextL n es (all.getD i dF).b l = []) ∨ ∃ j, j < all.length ∧ (all.getD j dF).a = nextL n es (all.getD i dF).a l ∧ (all.getD j dF).b = nextL n es (all.getD i dF).b l ∧ sle (keyW ls (all.getD j dF).word) (keyW ls (all.getD i dF).word ++ [(l : Int)])) → InvA n ls es s t all at_ (q + 1) := by
    intro hk
    refine ⟨⟨h.inv.pos, h.inv.zero, h.inv.set, h.inv.rise, fun i l hi hl hd => ?_, fun _ j hj => slt_trans (h.inv.under hat j hj) hlt⟩, h.start⟩
    rcases done1 hd with hd | hd
    · exact h.inv.done i l hi hl hd
    · exact hk i l hi hl hd
  unfold stepW at hs
  simp only at hs
  by_cases ha : nextL n es (all.getD at_ dF).a q = []
  · by_cases hb : nextL n es (all.getD at_ dF).b q = []
    · rw [if_pos ⟨ha, hb⟩] at hs
      simp only [Prod.mk.injEq, true_and] at hs
      subst hs
      refine ⟨keep ?_, hat⟩
      rintro i l _ _ ⟨rfl, rfl⟩
      exact .inl ⟨ha, hb⟩
    · rw [if_neg (fun e => hb e.2), if_neg hb, if_pos ha] at hs
      simp at hs
  · by_cases hb : nextL n es (all.getD at_ dF).b q = []
    · rw [if_neg (fun e => ha e.1), if_pos hb] at hs
      simp at hs
    · rw [if_neg (fun e => ha e.1), if_neg hb, if_neg ha] at hs
      simp only [Prod.mk.injEq, true_and] at hs
      cases hmt : metF all (nextL n es (all.getD at_ dF).a q) (nextL n es (all.getD at_ dF).b q) with
      | true =>
        rw [hmt, if_pos rfl] at hs
        subst hs
        refine ⟨keep ?_, hat⟩
        rintro i l _ _ ⟨rfl, rfl⟩
        unfold metF at hmt
        rw [List.any_eq_true] at hmt
        obtain ⟨f, hf, hf2⟩ := hmt
        obtain ⟨j, hj, rfl⟩ := getD_mem dF hf
        simp only [Bool.and_eq_true, decide_eq_true_eq] at hf2
        exact .inr ⟨j, hj, hf2.1, hf2.2, .inr (h.inv.under hat j hj)⟩
      | false =>
        rw [hmt] at hs
        simp only [Bool.false_eq_true, if_false] at hs
        have hlen : all'.length = all.length + 1 := by rw [← hs]; simp
        have old : ∀ i, i < all.length → all'.getD i dF = all.getD i dF := by
          intro i hi
          rw [← hs, getD_snoc, if_pos hi]
        have new : all'.getD all.length dF = ⟨nextL n es (all.getD at_ dF).a q, nextL n es (all.getD at_ dF).b q, wordF ls all at_ q, at_, q⟩ := by
          rw [← hs, getD_snoc, if_neg (Nat.lt_irrefl _), if_pos rfl]
        refine ⟨⟨⟨by omega, ?_, ?_, ?_, ?_, ?_⟩, ?_⟩, by omega⟩
        · rw [old 0 h.inv.pos]; exact h.inv.zero
        · intro i hi
          by_cases e : i < all.length
          · rw [old i e]; exact h.inv.set i e
          · obtain rfl : i = all.length := by omega
            rw [new]
            exact ⟨hA, hB, ha, hb⟩
        · intro i j hij hj
          by_cases e : j < all.length
          · rw [old i (by omega), old j e]; exact h.inv.rise i j hij e
          · obtain rfl : j = all.length := by omega
            rw [old i hij, new]
            show slt _ (keyW ls (wordF ls all at_ q)) = true
            rw [hK]
            exact h.inv.under hat i hij
        · intro i l hi hl hd
          have hi' : i < all.length := by
            rcases done1 hd with hd | hd
            · unfold Done at hd; omega
            · omega
          rw [old i hi']
          rcases done1 hd with hd | ⟨rfl, rfl⟩
          · rcases h.inv.done i l hi' hl hd with z | ⟨j, hj, z1, z2, z3⟩
            · exact .inl z
            · exact .inr ⟨j, by omega, by rw [old j hj]; exact z1, by rw [old j hj]; exact z2, by rw [old j hj]; exact z3⟩
          · refine .inr ⟨all.length, by omega, ?_⟩
            rw [new]
            exact ⟨rfl, rfl, .inl hK⟩
        · intro _ j hj
          rw [old at_ hat]
          by_cases e : j < all.length
          · rw [old j e]
            exact slt_trans (h.inv.under hat j e) hlt
          · obtain rfl : j = all.length := by omega
            rw [new]
            show slt (keyW ls (wordF ls all at_ q)) _ = true
            rw [hK]
            exact hlt
        · rw [old 0 h.inv.pos]; exact h.start
theorem labs_told (hm : mayR n ls es = true) (budget : Int) : ∀ (m : Nat) (all : List Fnd) (at_ q : Nat), q + m = ls.length → InvA n ls es s t all at_ q → at_ < all.length → all.length ≤ budget →
    (∃ w, labsF n ls es budget m all at_ q = .inl w ∧ (w = (4, []) ∨ Told n ls es s t w)) ∨ ∃ all', labsF n ls es budget m all at_ q = .inr all' ∧ InvA n ls es s t all' at_ ls.length ∧ at_ < all'.length ∧ all'.length ≤ budget
  | 0, all, at_, q, hq, h, hat, hb => by
    have : q = ls.length := by omega
    subst this
    exact .inr ⟨all, rfl, h, hat, hb⟩
  | m + 1, all, at_, q, hq, h, hat, hb => by
    obtain ⟨o, a', hs⟩ : ∃ o a', stepW n ls es all at_ q = (o, a') := ⟨_, _, rfl⟩
    cases o with
    | some w => exact .inl ⟨w, labsF_some hs, .inr (step_told hm h hat (by omega) hs)⟩
    | none =>
      obtain ⟨h', hat'⟩ := step_inv hm h hat (by omega) hs
      by_cases hf : budget < a'.length
      · exact .inl ⟨_, labsF_full hs hf, .inl rfl⟩
      · rw [labsF_on hs hf]
        exact labs_told hm budget m a' at_ (q + 1) (by omega) h' hat' (by omega)
theorem turn_inv {all : List Fnd} {at_ : Nat} (h : InvA n ls es s t all at_ ls.length) (hat : at_ < all.length) : InvA n ls es s t all (at_ + 1) 0 := by
  refine ⟨⟨h.inv.pos, h.inv.zero, h.inv.set, h.inv.rise, fun i l hi hl hd => h.inv.done i l hi hl (by unfold Done at hd ⊢; omega), fun hat2 j hj => ?_⟩, h.start⟩
  exact slt_trans (h.inv.under hat j hj) (slt_snoc _ _ (h.inv.rise at_ (at_ + 1) (by omega) hat2))
theorem go_told (hm : mayR n ls es = true) (budget : Nat) : ∀ (f : Nat) (all : List Fnd) (at_ : Nat), InvA n ls es s t all at_ 0 → all.length ≤ budget → budget + 1 ≤ f + at_ →
    goF n ls es budget f all at_ = (4, []) ∨ (goF n ls es budget f all at_ = (3, []) ∧ ∀ u, ¬ OneW n ls es s t u) ∨ Told n ls es s t (goF n ls es budget f all at_)
  | f, all, at_, h, hb, hf => by
    by_cases hat : at_ < all.length
    · cases f with
      | zero => omega
      | succ f =>
        rw [goF_go hat]
        rcases labs_told hm (budget : Int) ls.length all at_ 0 (by omega) h hat (by omega) with ⟨w, e, hw⟩ | ⟨a', e, h', hat', hb'⟩
        · rw [e]
          rcases hw with rfl | hw
          · exact .inl rfl
          · exact .inr (.inr hw)
        · rw [e]
          exact go_told hm budget f a' (at_ + 1) (turn_inv h' hat') (by omega) (by omega)
    · refine .inr (.inl ⟨goF_end f hat, fun u hu => ?_⟩)
      have := one_after (lab_pos hm) h.inv h.start (keyW ls u ++ [0]) (fun i l hi hl hd => by unfold Done at hd; omega) _ u rfl hu
      have h2 := sle_not this
      rw [slt_len (by simp)] at h2
      cases h2
theorem of_told (hm : mayR n ls es = true) (S T : Nat) (budget : Nat) (hb : 1 ≤ budget) : ofF n ls es S T budget = (4, []) ∨ (ofF n ls es S T budget = (3, []) ∧ ∀ u, ¬ OneW n ls es S T u) ∨ Told n ls es S T (ofF n ls es S T budget) := by
  unfold ofF
  refine go_told hm budget _ _ 0 ⟨⟨by simp, rfl, ?_, ?_, ?_, ?_⟩, rfl, rfl⟩ (by simpa using hb) (by omega)
  · intro i hi
    have : i = 0 := by simpa using hi
    subst this
    exact ⟨rfl, rfl, by simp, by simp⟩
  · intro i j hij hj
    simp at hj
    omega
  · intro i l hi hl hd
    unfold Done at hd
    omega
  · intro _ j hj
    have : j = 0 := by simpa using hj
    subst this
    exact slt_len (by simp [keyW])
end
/-- Has a node a word? -/
theorem hasW_iff {n : Nat} {ls : List ByteArray} {es : List Ed} (hm : mayR n ls es = true) (S : Nat) (hS : S < n) (w : List ByteArray) : hasW n ls es S w = true ↔ DA n ls es S w ≠ [] := by
  unfold hasW behindL
  rw [if_pos ⟨hm, by omega, by omega⟩, Int.toNat_natCast]
  simp only [decide_eq_true_eq]
  exact List.length_pos_iff

end Go.Proofs.Ytmpiokdomjchiaa.H
