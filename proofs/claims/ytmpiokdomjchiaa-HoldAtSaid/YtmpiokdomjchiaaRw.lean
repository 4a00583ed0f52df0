/-
  Rows: a law's arguments, as they come in: systems, rows of pairs, of texts, of numbers.
-/
import Derived.Test.YtmpiokdomjchiaaHm
import Derived.Lib.SmallJoins
set_option linter.unusedVariables false
set_option linter.unusedSimpArgs false
set_option maxRecDepth 100000
namespace Go.Proofs.Ytmpiokdomjchiaa.H
open Go.RowKit Go.Proofs.Ytmpiokdomjchiaa.Pr Go.Proofs.YtmpiokdomjchiaaW.PrintWords Go.Proofs.Ytmpiokdomjchiaa.Sem
open Go.ChangeShapes Go.WideShapes Go.Deep Go.Joins

instance : Inhabited Ed := ⟨z81⟩
instance : Inhabited S31 := ⟨z31⟩
section
variable {H : Type} {enc : TypeId × Value → H} {w : World} {base : Nat} {spare : Nat → Bool} {held : Bool}

/-- A slice that came in reads as a row of its elements. -/
theorem C_of_trod {α : Type} [Inhabited α] {d : Kd α} {t e : TypeId} {fuel : Nat} {v : Value} {x : DataW H × List MemPlace} (ht : Try.prog.underlying t = some (.slice e)) (hc : Try.prog.cellsOf e = d.sz)
    (hel : ∀ n cs y, DataW.trod enc Try.prog w base spare held n e cs = some y → cs.length = d.sz → ∃ a : α, d.K w a cs) (h : DataW.trod enc Try.prog w base spare held fuel t [v] = some x) :
    ∃ A xs c, v = .slice A xs.length c ∧ d.C w A xs.length xs := by
  rcases open_slice ht h with ⟨hcs, _⟩ | ⟨a, len, cap, m, n, D, Pl, hcs, hb, hl, hm, hmm, _, hx⟩
  · have hv : v = .slice none 0 0 := by simpa using hcs
    exact ⟨none, [], 0, hv, Kd.C_nil _ _⟩
  · have hv : v = .slice (some a) len cap := by simpa using hcs
    have hlm : len ≤ m := by rw [hmm]; split <;> omega
    have each : ∀ i, i < len → ∃ y : α × List Value, y.2.length = d.sz ∧ d.K w y.1 y.2 ∧ ∀ j u, y.2[j]? = some u → w.cell? (a.add (i * d.sz + j)) = some u := by
      intro i hi
      obtain ⟨cs', h1, h2⟩ := hx i (by omega)
      obtain ⟨_, hlen, hcell⟩ := World.cells?_some h1
      rw [hc] at hlen hcell
      obtain ⟨z, hz⟩ := hel n cs' _ h2 hlen
      refine ⟨(z, cs'), hlen, hz, fun j u hj => ?_⟩
      have hjl := (List.getElem?_eq_some_iff.1 hj).1
      have := hcell j (by rw [← hlen]; exact hjl)
      rw [Go.Deep.add_add] at this
      rw [this]
      exact hj
    obtain ⟨q, hq⟩ := choose_lt each
    refine ⟨some a, (List.range len).map fun i => (q i).1, cap, by rw [hv]; simp, rfl, by simp; unfold maxLen at hm; omega, fun _ => ⟨a, rfl, fun j p hj => ?_⟩⟩
    have hjl : j < len := by simpa using (List.getElem?_eq_some_iff.1 hj).1
    have hp : p = (q j).1 := by simpa [hjl, eq_comm] using hj
    subst hp
    exact ⟨(q j).2, (hq j hjl).1, (hq j hjl).2.1, (hq j hjl).2.2⟩

theorem el_string : ∀ n cs y, DataW.trod enc Try.prog w base spare held n 9 cs = some y → cs.length = 1 → ∃ a : ByteArray, Kd.string.K w a cs := by
  intro n cs y h hl
  match cs, hl with
  | [c], _ =>
    obtain ⟨s, h1, _, _⟩ := DataW.trod_string Try.underlying9 h
    have : c = .string s := by simpa using h1
    subst this
    exact ⟨s, rfl⟩
theorem el_int : ∀ n cs y, DataW.trod enc Try.prog w base spare held n 3 cs = some y → cs.length = 1 → ∃ a : Int, (Kd.int .i64).K w a cs := by
  intro n cs y h hl
  match cs, hl with
  | [c], _ =>
    obtain ⟨s, h1, _, _⟩ := DataW.trod_int Try.underlying3 h
    have : c = .int .i64 s := by simpa using h1
    subst this
    exact ⟨s, rfl⟩
theorem el_edge : ∀ n cs y, DataW.trod enc Try.prog w base spare held n 81 cs = some y → cs.length = 3 → ∃ a : Ed, k81.K w a cs := by
  intro n cs y h hl
  obtain ⟨y0, y1, y2, m, _, _, h0, h1, h2⟩ := trod_struct3 Try.underlying81 h
  match cs, hl with
  | [c0, c1, c2], _ =>
    rw [show Try.prog.cellsOf 3 = 1 by kernel_rfl] at h0 h1 h2
    obtain ⟨a0, e0, _, _⟩ := DataW.trod_int Try.underlying3 h0
    obtain ⟨a1, e1, _, _⟩ := DataW.trod_int Try.underlying3 h1
    obtain ⟨a2, e2, _, _⟩ := DataW.trod_int Try.underlying3 h2
    have e0' : c0 = .int .i64 a0 := by simpa using e0
    have e1' : c1 = .int .i64 a1 := by simpa using e1
    have e2' : c2 = .int .i64 a2 := by simpa using e2
    subst e0' e1' e2'
    exact ⟨⟨a0, a1, a2⟩, k81_mk w ⟨a0, a1, a2⟩⟩
theorem el_pair : ∀ n cs y, DataW.trod enc Try.prog w base spare held n 31 cs = some y → cs.length = 2 → ∃ a : S31, k31.K w a cs := by
  intro n cs y h hl
  match cs, hl with
  | [c0, c1], _ =>
    cases n with
    | zero => simp [DataW.trod] at h
    | succ n =>
      rw [DataW.trod_step] at h
      unfold DataW.trodStep at h
      simp only [pair_arr.hu] at h
      rw [if_pos (by rw [pair_arr.size]; rfl)] at h
      simp only [Option.map_eq_some_iff] at h
      obtain ⟨xs, hx, e1⟩ := h
      rw [show List.range 2 = [0, 1] from rfl, List.mapM_cons, List.mapM_cons, List.mapM_nil] at hx
      simp only [bind, Option.bind_eq_some_iff, pure, Option.some.injEq, pair_arr.one] at hx
      obtain ⟨y0, h0, _, ⟨y1, h1, _, rfl, rfl⟩, rfl⟩ := hx
      obtain ⟨a, ea, rfl, wa⟩ := DataW.trod_int Try.underlying3 h0
      obtain ⟨b, eb, rfl, wb⟩ := DataW.trod_int Try.underlying3 h1
      have ea' : c0 = .int .i64 a := by simpa using ea
      have eb' : c1 = .int .i64 b := by simpa using eb
      subst ea' eb'
      exact ⟨⟨a, b⟩, k31_mk w ⟨a, b⟩⟩

/-- A system that came in. -/
theorem open_lts {r : Reach} {b0 : Nat} {v : Value} {d : DataW H} {p : List MemPlace} (hv : Value.okWide Try.prog w r b0 25 v) (h : DataW.Trod enc Try.prog w base spare held 25 v d p) :
    ∃ (n : Int) (ls : List ByteArray) (es : List Ed) (A1 A2 : Option Addr) (c1 c2 : Nat), v = .agg #[.int .i64 n, .slice A1 ls.length c1, .slice A2 es.length c2] ∧ (Lit.int .i64 n).wf = true ∧ Kd.C Kd.string w A1 ls.length ls ∧ Kd.C k81 w A2 es.length es := by
  obtain ⟨v0, v1, v2, y0, y1, y2, m, rfl, _, _, h0, h1, h2⟩ := open_agg3 Try.underlying25 (by kernel_rfl) (by kernel_rfl) hv h
  obtain ⟨n, e0, _, wn⟩ := DataW.trod_int Try.underlying3 h0
  have e0' : v0 = .int .i64 n := by simpa using e0
  subst e0'
  obtain ⟨A1, ls, c1, rfl, hC1⟩ := C_of_trod (d := Kd.string) Try.underlying22 (by kernel_rfl) el_string h1
  obtain ⟨A2, es, c2, rfl, hC2⟩ := C_of_trod (d := k81) Try.underlying23 (by kernel_rfl) el_edge h2
  exact ⟨n, ls, es, A1, A2, c1, c2, rfl, wn, hC1, hC2⟩
/-- A slice that came in, by its own kind. -/
theorem open_row {α : Type} [Inhabited α] {dk : Kd α} {t e : TypeId} {r : Reach} {b0 : Nat} {v : Value} {d : DataW H} {p : List MemPlace} (ht : Try.prog.underlying t = some (.slice e)) (hc : Try.prog.cellsOf e = dk.sz)
    (hel : ∀ n cs y, DataW.trod enc Try.prog w base spare held n e cs = some y → cs.length = dk.sz → ∃ a : α, dk.K w a cs) (hv : Value.okWide Try.prog w r b0 t v) (h : DataW.Trod enc Try.prog w base spare held t v d p) :
    ∃ A xs c, v = .slice A xs.length c ∧ dk.C w A xs.length xs := by
  obtain ⟨a, len, cap, rfl⟩ := okWide_slice ht hv
  obtain ⟨fuel, hf⟩ := h
  have hf' : DataW.trod enc Try.prog w base spare held fuel t [.slice a len cap] = some (d, p) := by simpa [Value.cells] using hf
  obtain ⟨A, xs, c, hv, hC⟩ := C_of_trod ht hc hel hf'
  exact ⟨A, xs, c, hv, hC⟩
end

end Go.Proofs.Ytmpiokdomjchiaa.H
