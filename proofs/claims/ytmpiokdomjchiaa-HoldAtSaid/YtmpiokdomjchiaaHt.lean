/-
  Tables: a row of rows of the call's own, no two of them in one block.
-/
import Derived.Test.YtmpiokdomjchiaaHk
import Derived.Test.YtmpiokdomjchiaaWMore
set_option linter.unusedVariables false
set_option linter.unusedSimpArgs false
namespace Go.Proofs.Ytmpiokdomjchiaa.H
open Go.RowKit Go.Proofs.Ytmpiokdomjchiaa.Pr Go.Proofs.YtmpiokdomjchiaaW.PrintWords Go.Proofs.Ytmpiokdomjchiaa.Sem

theorem info81 : (Try.prog.info? 81).map (fun i => (i.zero, i.size, i.bytes)) = some (some (.agg #[(.int .i64 0), (.int .i64 0), (.int .i64 0)]), 3, 24) := by kernel_rfl
abbrev nilS : Value := .slice none 0 0
/-- Block g holds slices (of type T), each a row of the call's own (elements of type e), apart from each other. -/
structure Tab {α : Type} (d : Kd α) (e T : Nat) (w : World) (base g : Nat) (vs : List Value) (xss : List (List α)) : Prop where
  len : vs.length = xss.length
  blk : w.heap[g]? = some (.cells vs.toArray T (0, 0))
  row : ∀ i, i < vs.length → d.R e w base (fun _ => True) (vs.getD i nilS) (xss.getD i [])
  apart : ∀ i j k, i < vs.length → j < vs.length → (vs.getD i nilS).ownBlock = some k → (vs.getD j nilS).ownBlock = some k → i = j

section
variable {α : Type} {d : Kd α} {e T : Nat} {w w1 : World} {base g : Nat} {vs : List Value} {xss : List (List α)}

theorem Tab.lt (h : Tab d e T w base g vs xss) : g < w.heap.size := (Array.getElem?_eq_some_iff.1 h.blk).1
theorem Tab.below (h : Tab d e T w base g vs xss) (hb : Below w.heap.size w w1) : Tab d e T w1 base g vs xss :=
  ⟨h.len, (hb.block g h.lt).trans h.blk, fun i hi => Kd.R_below (h.row i hi) hb, h.apart⟩
/-- What is written lies neither in the table nor in its rows. -/
theorem Tab.grown (hE : d.E = []) (h : Tab d e T w base g vs xss) {b : Nat} {o : Obj} (hb : w.heap[b]? = some o) (ho : ∀ c t fr, o = .cells c t fr → t ≠ T ∧ t ≠ e) (hg : w.grownBy w1 (some b)) : Tab d e T w1 base g vs xss := by
  have hbg : some g ≠ some b := by
    intro hh
    cases hh
    rw [h.blk] at hb
    cases hb
    exact (ho _ _ _ rfl).1 rfl
  refine ⟨h.len, (hg.block g h.lt hbg).trans h.blk, fun i hi => Kd.R_grown1 (h.row i hi) hE hg ?_, h.apart⟩
  intro hh
  obtain ⟨cells, hc⟩ := Kd.R_typed (h.row i hi) b hh.symm
  rw [hc] at hb
  cases hb
  exact (ho _ _ _ rfl).2 rfl
theorem Tab.start (n : Nat) (hblk : w.heap[g]? = some (.cells (madeCells #[nilS] n) T (0, 0))) : Tab d e T w base g (List.replicate n nilS) (List.replicate n []) where
  len := by simp
  blk := by
    rw [hblk, ← toList_madeCells_one]
  row := fun i hi => by
    have hi' : i < n := by simpa using hi
    rw [show (List.replicate n nilS).getD i nilS = nilS by simp [List.getD_eq_getElem?_getD, List.getElem?_replicate, hi'], show (List.replicate n ([] : List α)).getD i [] = [] by simp [List.getD_eq_getElem?_getD, List.getElem?_replicate, hi']]
    exact Kd.R_nil _ _ _ _ _
  apart := fun i j k hi hj hk => by
    have hi' : i < n := by simpa using hi
    rw [show (List.replicate n nilS).getD i nilS = nilS by simp [List.getD_eq_getElem?_getD, List.getElem?_replicate, hi']] at hk
    simp [nilS, Value.ownBlock] at hk
/-- The slice at place i. -/
theorem Tab.cell (h : Tab d e T w base g vs xss) (i : Nat) (hi : i < xss.length) : w.cell? ⟨g, i, none⟩ = some (vs.getD i nilS) := by
  have h1 := blk_cell h.blk i
  rw [h1]
  have : i < vs.length := by rw [h.len]; exact hi
  simp [List.getD_eq_getElem?_getD, List.getElem?_eq_getElem this]
theorem Tab.read (h : Tab d e T w base g vs xss) (i : Nat) (hi : i < xss.length) : ∃ A c, vs.getD i nilS = .slice A (xss.getD i []).length c ∧ w.cell? ⟨g, i, none⟩ = some (.slice A (xss.getD i []).length c) ∧ d.C w A (xss.getD i []).length (xss.getD i []) := by
  obtain ⟨A, c, hv, _, hC⟩ := Kd.R_reads (h.row i (by rw [h.len]; exact hi))
  exact ⟨A, c, hv, by rw [h.cell i hi, hv], hC⟩
theorem Tab.frozen {b? : Option Nat} (h : Tab d e T w base g vs xss) (i : Nat) (hg : w.grownBy w1 b?) (hne : some g ≠ b?) : w1.frozen? ⟨g, i, none⟩ = false := by
  unfold World.frozen?
  simp only [(hg.block g h.lt hne).trans h.blk]
  simp
/-- The table with another row at place i. -/
theorem Tab.put (hE : d.E = []) (hT : e ≠ T) (h : Tab d e T w base g vs xss) (i : Nat) (hi : i < xss.length) {v1 : Value} {ys : List α} (hR : d.R e w1 base (fun _ => True) v1 ys) (hg : w.grownBy w1 (vs.getD i nilS).ownBlock)
    (hat : v1.ownBlock = (vs.getD i nilS).ownBlock ∨ ∃ b, v1.ownBlock = some b ∧ w.heap.size ≤ b) : Tab d e T (w1.setCell ⟨g, i, none⟩ v1) base g (vs.set i v1) (xss.set i ys) := by
  have hi' : i < vs.length := by rw [h.len]; exact hi
  have hrow : ∀ j, j < vs.length → some g ≠ (vs.getD j nilS).ownBlock := fun j hj => Kd.R_ne (h.row j hj) h.blk hT
  have hgb : w1.heap[g]? = some (.cells vs.toArray T (0, 0)) := (hg.block g h.lt (hrow i hi')).trans h.blk
  have hset : (w1.setCell ⟨g, i, none⟩ v1).heap[g]? = some (.cells (vs.set i v1).toArray T (0, 0)) := by
    simp [World.setCell, Array.getElem?_modify, hgb]
  have hv1 : some g ≠ v1.ownBlock := Kd.R_ne hR hgb hT
  have gd : ∀ j, j < vs.length → (vs.set i v1).getD j nilS = if j = i then v1 else vs.getD j nilS := by
    intro j hj
    by_cases e0 : j = i
    · subst e0; simp [List.getD_eq_getElem?_getD, List.getElem?_set, hj]
    · rw [if_neg e0]; simp [List.getD_eq_getElem?_getD, List.getElem?_set, Ne.symm e0]
  have gx : ∀ j, j < vs.length → (xss.set i ys).getD j [] = if j = i then ys else xss.getD j [] := by
    intro j hj
    rw [h.len] at hj
    by_cases e0 : j = i
    · subst e0; simp [List.getD_eq_getElem?_getD, List.getElem?_set, hj]
    · rw [if_neg e0]; simp [List.getD_eq_getElem?_getD, List.getElem?_set, Ne.symm e0]
  refine ⟨by simp [h.len], hset, fun j hj => ?_, fun j k b hj hk hjb hkb => ?_⟩
  · have hj' : j < vs.length := by simpa using hj
    rw [gd j hj', gx j hj']
    by_cases e0 : j = i
    · rw [if_pos e0, if_pos e0]
      exact Kd.R_mono (Kd.R_far (Kd.R_far1 hR hE hv1) (fun k hk => hk.2) v1) (fun _ _ => trivial)
    · rw [if_neg e0, if_neg e0]
      have hne : (vs.getD i nilS).ownBlock ≠ (vs.getD j nilS).ownBlock ∨ (vs.getD i nilS).ownBlock = none := by
        cases hb : (vs.getD i nilS).ownBlock with
        | none => exact .inr rfl
        | some b =>
          left
          intro hh
          exact e0 (h.apart j i b hj' hi' hh.symm hb)
      have hR1 : d.R e w1 base (fun _ => True) (vs.getD j nilS) (xss.getD j []) :=
        Kd.R_grown2 (h.row j hj') hE hg (fun k hk hh => e0 (h.apart j i k hj' hi' hh.symm hk))
      exact Kd.R_mono (Kd.R_far (Kd.R_far1 hR1 hE (hrow j hj')) (fun k hk => hk.2) v1) (fun _ _ => trivial)
  · have hj' : j < vs.length := by simpa using hj
    have hk' : k < vs.length := by simpa using hk
    rw [gd j hj'] at hjb
    rw [gd k hk'] at hkb
    have key : ∀ m, m < vs.length → m ≠ i → (vs.getD m nilS).ownBlock = some b → v1.ownBlock = some b → False := by
      intro m hm hmi h1 h2
      rcases hat with hat | ⟨b', hb', hlt⟩
      · exact hmi (h.apart m i b hm hi' h1 (by rw [← hat]; exact h2))
      · rw [h2] at hb'
        cases hb'
        exact absurd (Kd.R_lt (h.row m hm) b h1) (Nat.not_lt.2 hlt)
    by_cases ej : j = i <;> by_cases ek : k = i
    · rw [ej, ek]
    · rw [if_pos ej] at hjb; rw [if_neg ek] at hkb
      exact (key k hk' ek hkb hjb).elim
    · rw [if_neg ej] at hjb; rw [if_pos ek] at hkb
      exact (key j hj' ej hjb hkb).elim
    · rw [if_neg ej] at hjb; rw [if_neg ek] at hkb
      exact h.apart j k b hj' hk' hjb hkb
end

end Go.Proofs.Ytmpiokdomjchiaa.H
