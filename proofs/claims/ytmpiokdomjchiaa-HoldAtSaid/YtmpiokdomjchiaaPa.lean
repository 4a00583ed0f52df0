/-
  Plain words of labelled transition systems: edges, their order, which systems may be. No program in sight.
-/
import Derived.Test.YtmpiokdomjchiaaPr0
set_option linter.unusedVariables false
set_option linter.unusedSimpArgs false
namespace Go.Proofs.Ytmpiokdomjchiaa.Sem
open Go.Proofs.Ytmpiokdomjchiaa.Pr

/-- An edge: from, label, to. -/
abbrev Ed := S81

/-- How two numbers stand: -1, 0, 1. -/
def cmpI (x y : Int) : Int := if x < y then -1 else if y < x then 1 else 0
theorem cmpI_zero (x y : Int) : (cmpI x y = 0) ↔ x = y := by unfold cmpI; split <;> (try split) <;> omega

/-- The first that is not 0. -/
def orL : List Int → Int
  | [] => 0
  | x :: r => if x != 0 then x else orL r
theorem orL_zero : ∀ (xs : List Int), (∀ j, j < xs.length → (xs.getD j 0 != 0) = false) → orL xs = 0
  | [], _ => rfl
  | x :: r, h => by
    have h0 := h 0 (by simp)
    simp only [List.getD_cons_zero] at h0
    simp only [orL, h0, Bool.false_eq_true, if_false]
    exact orL_zero r (fun j hj => by have := h (j + 1) (by simp; omega); simpa using this)
theorem orL_at : ∀ (xs : List Int) (k : Nat), (∀ j, j < k → (xs.getD j 0 != 0) = false) → k < xs.length → (xs.getD k 0 != 0) = true → orL xs = xs.getD k 0
  | [], k, _, h, _ => by simp at h
  | x :: r, 0, _, _, h => by simp only [List.getD_cons_zero] at h; simp [orL, h]
  | x :: r, k + 1, h, hl, hk => by
    have h0 := h 0 (by omega)
    simp only [List.getD_cons_zero] at h0
    simp only [orL, h0, Bool.false_eq_true, if_false]
    rw [orL_at r k (fun j hj => by have := h (j + 1) (by omega); simpa using this) (by simpa using hl) (by simpa using hk)]
    simp

/-- How two edges stand. -/
def cmpE (a b : Ed) : Int := orL [cmpI a.f0 b.f0, cmpI a.f1 b.f1, cmpI a.f2 b.f2]
/-- Does an edge stand ahead of another one? -/
def elt (a b : Ed) : Prop := a.f0 < b.f0 ∨ a.f0 = b.f0 ∧ (a.f1 < b.f1 ∨ a.f1 = b.f1 ∧ a.f2 < b.f2)
instance (a b : Ed) : Decidable (elt a b) := by unfold elt; infer_instance
theorem cmpE_neg (a b : Ed) : cmpE a b < 0 ↔ elt a b := by
  unfold cmpE orL orL orL orL cmpI elt
  repeat' split
  all_goals simp_all
  all_goals omega
theorem cmpE_zero (a b : Ed) : cmpE a b = 0 ↔ a = b := by
  obtain ⟨a0, a1, a2⟩ := a
  obtain ⟨b0, b1, b2⟩ := b
  unfold cmpE orL orL orL orL cmpI
  simp only [S81.mk.injEq]
  repeat' split
  all_goals simp_all
  all_goals omega

/-- The place of the first element of which p is so; -1: there is none. -/
def idxP {α : Type} (p : α → Bool) : List α → Int
  | [] => -1
  | x :: r => if p x then 0 else if idxP p r < 0 then -1 else idxP p r + 1
theorem idxP_none {α : Type} (p : α → Bool) (d : α) : ∀ (xs : List α), (∀ j, j < xs.length → p (xs.getD j d) = false) → idxP p xs = -1
  | [], _ => rfl
  | x :: r, h => by
    have h0 := h 0 (by simp)
    simp only [List.getD_cons_zero] at h0
    have ih := idxP_none p d r (fun j hj => by have := h (j + 1) (by simp; omega); simpa using this)
    simp [idxP, h0, ih]
theorem idxP_at {α : Type} (p : α → Bool) (d : α) : ∀ (xs : List α) (k : Nat), (∀ j, j < k → p (xs.getD j d) = false) → k < xs.length → p (xs.getD k d) = true → idxP p xs = (k : Int)
  | [], k, _, h, _ => by simp at h
  | x :: r, 0, _, _, h => by simp only [List.getD_cons_zero] at h; simp [idxP, h]
  | x :: r, k + 1, h, hl, hk => by
    have h0 := h 0 (by omega)
    simp only [List.getD_cons_zero] at h0
    have ih := idxP_at p d r k (fun j hj => by have := h (j + 1) (by omega); simpa using this) (by simpa using hl) (by simpa using hk)
    simp only [idxP, h0, ih]
    rw [if_neg (by simp), if_neg (by omega)]
    omega
theorem idxP_nonneg {α : Type} (p : α → Bool) : ∀ (xs : List α), decide (0 ≤ idxP p xs) = xs.any p
  | [] => rfl
  | x :: r => by
    have ih := idxP_nonneg p r
    cases hx : p x with
    | true => simp [idxP, hx]
    | false =>
      simp only [idxP, hx, List.any_cons, Bool.false_or]
      rw [← ih]
      simp only [Bool.false_eq_true, if_false]
      split
      · rename_i h; rw [decide_eq_false (by omega), decide_eq_false (by omega)]
      · rename_i h; rw [decide_eq_true (by omega), decide_eq_true (by omega)]

/-- Is a text longer than a label may be? -/
def tooLong (s : ByteArray) : Bool := decide (200 < s.size)

/-- Is edge k of a system one that may be, behind those ahead? -/
def okAt (n nl : Int) (es : List Ed) (k : Nat) : Bool :=
  decide (0 ≤ (es.getD k z81).f0 ∧ (es.getD k z81).f0 < n) && (decide (0 ≤ (es.getD k z81).f2 ∧ (es.getD k z81).f2 < n) &&
    (decide (0 ≤ (es.getD k z81).f1) && (decide ((es.getD k z81).f1 < nl) && (decide (k = 0) || decide (cmpE (es.getD (k - 1) z81) (es.getD k z81) < 0)))))

end Go.Proofs.Ytmpiokdomjchiaa.Sem
