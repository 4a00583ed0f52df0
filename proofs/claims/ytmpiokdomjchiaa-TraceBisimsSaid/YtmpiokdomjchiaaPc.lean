/-
  Plain law: which relations are simulations, and bisimulations: the program's test and the document's are one.
-/
import Derived.Test.YtmpiokdomjchiaaHk2
set_option linter.unusedVariables false
set_option linter.unusedSimpArgs false
namespace Go.Proofs.Ytmpiokdomjchiaa.H
open Go.RowKit Go.Proofs.Ytmpiokdomjchiaa.Pr Go.Proofs.YtmpiokdomjchiaaW.PrintWords Go.Proofs.Ytmpiokdomjchiaa.Sem

theorem all_and_not {α : Type} (p q : α → Bool) : ∀ xs : List α, (xs.all fun x => !(p x || q x)) = ((xs.all fun x => !p x) && (xs.all fun x => !q x))
  | [] => rfl
  | x :: r => by
    simp only [List.all_cons, all_and_not p q r]
    cases p x <;> cases q x <;> simp
theorem all_out (es : List Ed) (i : Int) (q : Ed → Bool) : (outE es i).all q = es.all fun x => !((x.f0 == i) && !q x) := by
  unfold outE
  rw [List.all_filter]
  congr 1
  funext x
  by_cases h : x.f0 = i <;> simp [h]
theorem any_succ (es : List Ed) (i l : Int) (q : Int → Bool) : (succL es i l).any q = (outE es i).any fun f => (l == f.f1) && q f.f2 := by
  unfold succL outE
  rw [List.any_map, List.any_filter, List.any_filter]
  congr 1
  funext x
  by_cases h : x.f0 = i <;> by_cases h2 : x.f1 = l
  · simp [h, h2]
  · simp [h, h2, Ne.symm h2]
  · simp [h]
  · simp [h]
theorem step_false (rel : List Pair) (es : List Ed) (s t : Int) : followsB es (relS rel) false s t = es.all fun x => !stepBad rel es false s t x := by
  unfold followsB stepBad
  simp only [Bool.false_eq_true, if_false, Bool.false_and, Bool.or_false]
  rw [all_out]
  congr 1
  funext x
  rw [any_succ]
  rfl
theorem step_true (rel : List Pair) (es : List Ed) (s t : Int) : (followsB es (relS rel) false s t && followsB es (relS rel) true s t) = es.all fun x => !stepBad rel es true s t x := by
  have h2 : followsB es (relS rel) true s t = es.all fun x => !((x.f0 == t) && !((succL es s x.f1).any fun q => relS rel q x.f2)) := by
    unfold followsB
    simp only [if_true]
    rw [all_out]
    congr 1
    funext x
    rw [any_succ]
    rfl
  have h1 : followsB es (relS rel) false s t = es.all fun x => !((x.f0 == s) && !((succL es t x.f1).any fun q => relS rel x.f2 q)) := by
    unfold followsB
    simp only [Bool.false_eq_true, if_false]
    rw [all_out]
    congr 1
    funext x
    rw [any_succ]
    rfl
  rw [h1, h2]
  unfold stepBad
  simp only [Bool.true_and]
  exact (all_and_not _ _ es).symm
theorem not_any {α : Type} (p : α → Bool) : ∀ xs : List α, (!xs.any p) = xs.all fun x => !p x
  | [] => rfl
  | x :: r => by simp only [List.any_cons, List.all_cons, Bool.not_or, not_any p r]
/-- Bi1, one way. -/
theorem sim_law (n : Int) (ls : List ByteArray) (es : List Ed) (rel : List Pair) : simulatesB n ls es rel = refIsB n ls es rel false := by
  unfold simulatesB refIsB
  rw [not_any]
  congr 3
  funext p
  unfold simNo
  rw [Bool.not_not, step_false]
/-- Bi1. -/
theorem is_law (n : Int) (ls : List ByteArray) (es : List Ed) (rel : List Pair) : isB n ls es rel = refIsB n ls es rel true := by
  unfold isB refIsB
  rw [not_any]
  congr 3
  funext p
  unfold isNo
  rw [← step_true]
  simp

end Go.Proofs.Ytmpiokdomjchiaa.H
