/-
  Walk: trace.Of.
-/
import Derived.Test.YtmpiokdomjchiaaSj
set_option linter.unusedVariables false
set_option linter.unusedSimpArgs false
namespace Go.Proofs.Ytmpiokdomjchiaa.H
open Go.RowKit Go.Proofs.Ytmpiokdomjchiaa.Pr Go.Proofs.YtmpiokdomjchiaaW.PrintWords Go.Proofs.Ytmpiokdomjchiaa.Sem Go.Proofs.YtmpiokdomjchiaaW.PrintLast

theorem getD_snoc {α : Type} (xs : List α) (y d : α) (i : Nat) : (xs ++ [y]).getD i d = if i < xs.length then xs.getD i d else if i = xs.length then y else d := by
  by_cases h : i < xs.length
  · rw [if_pos h]
    simp [List.getD_eq_getElem?_getD, List.getElem?_append_left h]
  · rw [if_neg h]
    by_cases e : i = xs.length
    · rw [if_pos e]
      subst e
      simp [List.getD_eq_getElem?_getD]
    · rw [if_neg e]
      rw [List.getD_eq_getElem?_getD, List.getElem?_eq_none (by simp; omega)]
      rfl
theorem wordF_snoc (ls : List ByteArray) (all : List Fnd) (y : Fnd) (i k : Nat) (h : i < all.length) : wordF ls (all ++ [y]) i k = wordF ls all i k := by
  unfold wordF
  rw [getD_snoc, if_pos h]
theorem step_wf {n : Nat} {ls : List ByteArray} {es : List Ed} {all all' : List Fnd} {at_ k : Nat} (hw : WfF ls all) (hg : GoodF n all) (hat : at_ < all.length) (hk : k < ls.length) (h : stepW n ls es all at_ k = (none, all')) : WfF ls all' ∧ GoodF n all' ∧ all.length ≤ all'.length ∧ all'.length ≤ all.length + 1 := by
  unfold stepW at h
  simp only at h
  have same : all = all' → WfF ls all' ∧ GoodF n all' ∧ all.length ≤ all'.length ∧ all'.length ≤ all.length + 1 := fun e => by subst e; exact ⟨hw, hg, Nat.le_refl _, by omega⟩
  split at h
  · exact same (by simpa using h)
  · split at h
    · simp at h
    · split at h
      · simp at h
      · simp only [Prod.mk.injEq, true_and] at h
        split at h
        · exact same h
        · subst h
          refine ⟨⟨?_, fun i h0 hi => ?_⟩, fun f hf => ?_, by simp, by simp⟩
          · rw [getD_snoc, if_pos (by omega)]
            exact hw.zero
          · rw [List.length_append, List.length_singleton] at hi
            rw [getD_snoc]
            by_cases hi2 : i < all.length
            · rw [if_pos hi2]
              obtain ⟨h1, h2, h3⟩ := hw.step i h0 hi2
              exact ⟨h1, h2, by rw [wordF_snoc _ _ _ _ _ (by omega)]; exact h3⟩
            · rw [if_neg hi2, if_pos (by omega)]
              exact ⟨by show at_ < i; omega, hk, by show wordF ls all at_ k = _; rw [wordF_snoc _ _ _ _ _ hat]⟩
          · rcases List.mem_append.1 hf with hf | hf
            · exact hg f hf
            · rw [List.mem_singleton.1 hf]
              exact ⟨good_next _ _ _ _, good_next _ _ _ _⟩
theorem goF_end {n : Nat} {ls : List ByteArray} {es : List Ed} {budget : Int} (f : Nat) {all : List Fnd} {k : Nat} (h : ¬ k < all.length) : goF n ls es budget f all k = (3, []) := by
  cases f with
  | zero => rfl
  | succ f => rw [goF, if_neg h]
/-- What comes behind the labels of a pair. -/
def afterL (n : Nat) (ls : List ByteArray) (es : List Ed) (budget : Int) (f k : Nat) : Wd ⊕ List Fnd → Wd
  | .inl w => w
  | .inr all' => goF n ls es budget f all' (k + 1)
theorem goF_go {n : Nat} {ls : List ByteArray} {es : List Ed} {budget : Int} {f k : Nat} {all : List Fnd} (h : k < all.length) : goF n ls es budget (f + 1) all k = afterL n ls es budget f k (labsF n ls es budget ls.length all k 0) := by
  rw [goF, if_pos h]
  cases labsF n ls es budget ls.length all k 0 <;> rfl
section
variable {n : Nat} {ls : List ByteArray} {es : List Ed} {budget : Int} {m k q : Nat} {all a' : List Fnd} {wd : Wd}
theorem labsF_some (h : stepW n ls es all k q = (some wd, a')) : labsF n ls es budget (m + 1) all k q = .inl wd := by
  rw [labsF, stepF_is, h]
theorem labsF_full (h : stepW n ls es all k q = (none, a')) (hb : budget < a'.length) : labsF n ls es budget (m + 1) all k q = .inl (4, []) := by
  rw [labsF, stepF_is, h]
  simp only
  rw [if_pos hb]
theorem labsF_on (h : stepW n ls es all k q = (none, a')) (hb : ¬ budget < a'.length) : labsF n ls es budget (m + 1) all k q = labsF n ls es budget m a' k (q + 1) := by
  rw [labsF, stepF_is, h]
  simp only
  rw [if_neg hb]
end
/-- trace.Of: the word, and the error. -/
def ofR (n : Int) (ls : List ByteArray) (es : List Ed) (s t budget : Int) : Wd × Int :=
  if mayR n ls es = true ∧ (0 ≤ s ∧ s < n) ∧ (0 ≤ t ∧ t < n) ∧ 1 ≤ budget ∧ budget ≤ 65536 then (ofF n.toNat ls es s.toNat t.toNat budget, 0) else ((0, []), 1)
/-- What trace.Of leaves. -/
def OfPost (w : World) (R : Wd × Int) (e : Ending) (w' : World) : Prop := ∃ vw, e = .returned (.tuple #[.agg #[.int .i64 R.1.1, vw], .int .i64 R.2]) ∧ Kd.R Kd.string 9 w' w.heap.size (fun _ => True) vw R.1.2 ∧ Below w.heap.size w w'
theorem run_alloc_word {op : Oper} {a : Act} {w : World} (ho : op.op = .alloc 54) : (execOp a.eval op).run Try.prog w = .ok (.value (.pointer (some ⟨w.heap.size, 0, none⟩))) (w.alloc (.cells #[.int .i64 0, .slice none 0 0] 54)) := by
  unfold execOp
  simp only [ho]
  kernel_rfl
theorem run_load_word {op : Oper} {a : Act} {w : World} {x : Operand} {b : Nat} {k v : Value} (ho : op.op = .load 54 x) (hx : a.eval x = .pointer (some ⟨b, 0, none⟩)) (hb : WordAt w b k v) : (execOp a.eval op).run Try.prog w = .ok (.value (.agg #[k, v])) w := by
  have hb' : w.heap[b]? = some (.cells #[k, v] 54 (0, 0)) := hb
  unfold execOp
  simp only [ho, hx, Instr.loadAt, Instr.sureAddr, Sem.run_bind, Sem.run_pure, Result.andThen_ok, run_loadVar_row w b 54 54 #[k, v] (0, 0) _ hb' Try.underlying54 rfl (by simpa using info_word)]

theorem run_make_map {op : Oper} {a : Act} {w : World} (ho : op.op = .makeMap 112 none) : (execOp a.eval op).run Try.prog w = .ok (.value (.map (some w.heap.size))) (w.alloc (.map #[] 0)) := by
  unfold execOp
  simp only [ho]
  kernel_rfl
set_option maxRecDepth 100000 in
theorem of_no (n : Int) (ls : List ByteArray) (es : List Ed) (s t budget : Int) (A1 A2 : Option Addr) (c1 c2 : Nat) (w : World) (hr1 : Kd.C Kd.string w A1 ls.length ls) (hr2 : Kd.C k81 w A2 es.length es) (hno : ¬ (mayR n ls es = true ∧ (0 ≤ s ∧ s < n) ∧ (0 ≤ t ∧ t < n) ∧ 1 ≤ budget ∧ budget ≤ 65536)) :
    Calls Try.prog 39 #[.agg #[.int .i64 n, .slice A1 ls.length c1, .slice A2 es.length c2], .int .i64 s, .int .i64 t, .int .i64 budget] w (OfPost w ((0, []), 1)) := by
  have HB := Aside0.mk (Below.refl w.heap.size w)
  have HC : ∀ W, Below w.heap.size w W → Calls Try.prog 66 #[.agg #[.int .i64 n, .slice A1 ls.length c1, .slice A2 es.length c2]] W fun e w' => e = .returned (.int .i64 (errB (mayR n ls es))) ∧ Below W.heap.size W w' := fun W hW => by
    have := check_any n ls es A1 A2 c1 c2 W (Kd.C_below hr1 hW) (Kd.C_below hr2 hW)
    rwa [may_same] at this
  have HC' := Lib.hid HC
  clear HC hr1 hr2
  have HB1 := Aside0.mk (below_alloc (below_alloc HB.out (Obj.cells #[Value.int IntKind.i64 n, Value.slice A1 ls.length c1, Value.slice A2 es.length c2] 25)) (Obj.cells #[Value.int IntKind.i64 0, Value.slice none 0 0] 54))
  have HW1 := Aside0.mk (show WordAt ((w.alloc (Obj.cells #[Value.int IntKind.i64 n, Value.slice A1 ls.length c1, Value.slice A2 es.length c2] 25)).alloc (Obj.cells #[Value.int IntKind.i64 0, Value.slice none 0 0] 54)) (w.heap.size + 1) (.int .i64 0) (.slice none 0 0) by have := blk_new (w.alloc (Obj.cells #[Value.int IntKind.i64 n, Value.slice A1 ls.length c1, Value.slice A2 es.length c2] 25)) (Obj.cells #[Value.int IntKind.i64 0, Value.slice none 0 0] 54); simpa [WordAt] using this)
  have HX1 := Aside0.mk (show BoxL ((w.alloc (Obj.cells #[Value.int IntKind.i64 n, Value.slice A1 ls.length c1, Value.slice A2 es.length c2] 25)).alloc (Obj.cells #[Value.int IntKind.i64 0, Value.slice none 0 0] 54)) w.heap.size n (.slice A1 ls.length c1) (.slice A2 es.length c2) from blk_below (blk_new w _) (below_alloc (Below.refl _ _) _))
  cases q : mayR n ls es with
  | false =>
    rw [q] at HC'
    clear hno q
    go_enter Try.func39, Try.ntmps39
    go_wp2_with fail
    refine (HC'.out _ HB1.out).mono ?_
    rintro e w1 ⟨rfl, hB⟩
    have HW2 := Aside0.mk (show WordAt w1 (w.heap.size + 1) (.int .i64 0) (.slice none 0 0) from blk_below HW1.out hB)
    have HB2 := Aside0.mk (below_then HB1.out HB1.out.size hB)
    have b0 := (HX1.out.below hB).c0
    clear hB
    go_wp2_with (first
      | (refine wpList_skip (by rfl) (by rfl) (run_store_word (x := .tmp 8) (y := .tmp 40) (b := w.heap.size + 1) (k := .int .i64 0) (v := .slice none 0 0) (by rfl) (by rfl) (by rfl) HW2.out.there rfl rfl) ?_))
    refine bodyPost_ret (results_word rfl _ _ (w.heap.size + 1) (.int .i64 0) (.slice none 0 0) rfl (HW2.out.store _ _)) rfl ?_
    exact ⟨_, rfl, Kd.R_nil _ _ _ _ _, below_setCells HB2.out 0 _ (Nat.le_succ _)⟩
  | true =>
    rw [q] at HC' hno
    clear q
    by_cases q0 : min s t < 0
    · clear hno
      go_enter Try.func39, Try.ntmps39
      go_wp2_with fail
      refine (HC'.out _ HB1.out).mono ?_
      rintro e w1 ⟨rfl, hB⟩
      have HW2 := Aside0.mk (show WordAt w1 (w.heap.size + 1) (.int .i64 0) (.slice none 0 0) from blk_below HW1.out hB)
      have HB2 := Aside0.mk (below_then HB1.out HB1.out.size hB)
      have b0 := (HX1.out.below hB).c0
      clear hB
      go_wp2_with (first
        | (refine wpList_skip (by rfl) (by rfl) (run_store_word (x := .tmp 8) (y := .tmp 40) (b := w.heap.size + 1) (k := .int .i64 0) (v := .slice none 0 0) (by rfl) (by rfl) (by rfl) HW2.out.there rfl rfl) ?_))
      refine bodyPost_ret (results_word rfl _ _ (w.heap.size + 1) (.int .i64 0) (.slice none 0 0) rfl (HW2.out.store _ _)) rfl ?_
      exact ⟨_, rfl, Kd.R_nil _ _ _ _ _, below_setCells HB2.out 0 _ (Nat.le_succ _)⟩
    · by_cases q1 : n ≤ max s t
      · clear hno
        go_enter Try.func39, Try.ntmps39
        go_wp2_with fail
        refine (HC'.out _ HB1.out).mono ?_
        rintro e w1 ⟨rfl, hB⟩
        have HW2 := Aside0.mk (show WordAt w1 (w.heap.size + 1) (.int .i64 0) (.slice none 0 0) from blk_below HW1.out hB)
        have HB2 := Aside0.mk (below_then HB1.out HB1.out.size hB)
        have b0 := (HX1.out.below hB).c0
        clear hB
        go_wp2_with (first
          | (refine wpList_skip (by rfl) (by rfl) (run_store_word (x := .tmp 8) (y := .tmp 40) (b := w.heap.size + 1) (k := .int .i64 0) (v := .slice none 0 0) (by rfl) (by rfl) (by rfl) HW2.out.there rfl rfl) ?_))
        refine bodyPost_ret (results_word rfl _ _ (w.heap.size + 1) (.int .i64 0) (.slice none 0 0) rfl (HW2.out.store _ _)) rfl ?_
        exact ⟨_, rfl, Kd.R_nil _ _ _ _ _, below_setCells HB2.out 0 _ (Nat.le_succ _)⟩
      · by_cases q2 : budget < 1
        · clear hno
          go_enter Try.func39, Try.ntmps39
          go_wp2_with fail
          refine (HC'.out _ HB1.out).mono ?_
          rintro e w1 ⟨rfl, hB⟩
          have HW2 := Aside0.mk (show WordAt w1 (w.heap.size + 1) (.int .i64 0) (.slice none 0 0) from blk_below HW1.out hB)
          have HB2 := Aside0.mk (below_then HB1.out HB1.out.size hB)
          have b0 := (HX1.out.below hB).c0
          clear hB
          go_wp2_with (first
            | (refine wpList_skip (by rfl) (by rfl) (run_store_word (x := .tmp 8) (y := .tmp 40) (b := w.heap.size + 1) (k := .int .i64 0) (v := .slice none 0 0) (by rfl) (by rfl) (by rfl) HW2.out.there rfl rfl) ?_))
          refine bodyPost_ret (results_word rfl _ _ (w.heap.size + 1) (.int .i64 0) (.slice none 0 0) rfl (HW2.out.store _ _)) rfl ?_
          exact ⟨_, rfl, Kd.R_nil _ _ _ _ _, below_setCells HB2.out 0 _ (Nat.le_succ _)⟩
        · have q3 : 65536 < budget := by
            by_cases h : 65536 < budget
            · exact h
            · refine absurd ⟨rfl, ?_, ?_, ?_, ?_⟩ hno <;> omega
          clear hno
          go_enter Try.func39, Try.ntmps39
          go_wp2_with fail
          refine (HC'.out _ HB1.out).mono ?_
          rintro e w1 ⟨rfl, hB⟩
          have HW2 := Aside0.mk (show WordAt w1 (w.heap.size + 1) (.int .i64 0) (.slice none 0 0) from blk_below HW1.out hB)
          have HB2 := Aside0.mk (below_then HB1.out HB1.out.size hB)
          have b0 := (HX1.out.below hB).c0
          clear hB
          go_wp2_with (first
            | (refine wpList_skip (by rfl) (by rfl) (run_store_word (x := .tmp 8) (y := .tmp 40) (b := w.heap.size + 1) (k := .int .i64 0) (v := .slice none 0 0) (by rfl) (by rfl) (by rfl) HW2.out.there rfl rfl) ?_))
          refine bodyPost_ret (results_word rfl _ _ (w.heap.size + 1) (.int .i64 0) (.slice none 0 0) rfl (HW2.out.store _ _)) rfl ?_
          exact ⟨_, rfl, Kd.R_nil _ _ _ _ _, below_setCells HB2.out 0 _ (Nat.le_succ _)⟩

/-- The variables of trace.Of. -/
structure OfSt (w W : World) (x m n : Nat) (ls : List ByteArray) (v1 v2 v : Value) (all : List Fnd) : Prop where
  sr : SrSt w.heap.size W x n v1 v2 m v all
  box : BoxL W w.heap.size n v1 v2
  word : WordAt W (w.heap.size + 1) (.int .i64 0) (.slice none 0 0)
  below : Below w.heap.size w W
  wf : WfF ls all
  good : GoodF n all
theorem OfSt.on {w W W1 : World} {x m n : Nat} {ls : List ByteArray} {v1 v2 v : Value} {all : List Fnd} (h : OfSt w W x m n ls v1 v2 v all) (hb : Below W.heap.size W W1) : OfSt w W1 x m n ls v1 v2 v all :=
  ⟨h.sr.on hb, h.box.below hb, blk_below h.word hb, below_then h.below h.below.size hb, h.wf, h.good⟩
theorem OfSt.next {w W W1 : World} {x m n : Nat} {ls : List ByteArray} {v1 v2 v v' : Value} {all all' : List Fnd} (h : OfSt w W x m n ls v1 v2 v all) (hk : Ks w.heap.size W W1) (hs : SrSt w.heap.size W1 x n v1 v2 m v' all') (hw : WfF ls all') (hg : GoodF n all') : OfSt w W1 x m n ls v1 v2 v' all' :=
  ⟨hs, hk.typ _ _ _ _ h.box (by decide) (by decide), hk.typ _ _ _ _ h.word (by decide) (by decide), h.below.trans hk.low, hw, hg⟩

set_option maxHeartbeats 8000000 in
set_option maxRecDepth 100000 in
theorem of_yes (n s t : Nat) (ls : List ByteArray) (es : List Ed) (budget : Nat) (A1 A2 : Option Addr) (c1 c2 : Nat) (w : World) (hr1 : Kd.C Kd.string w A1 ls.length ls) (hr2 : Kd.C k81 w A2 es.length es) (hm : mayR n ls es = true) (hs : s < n) (ht : t < n) (hb1 : 1 ≤ budget) (hb2 : budget ≤ 65536) :
    Calls Try.prog 39 #[.agg #[.int .i64 (n : Int), .slice A1 ls.length c1, .slice A2 es.length c2], .int .i64 (s : Int), .int .i64 (t : Int), .int .i64 (budget : Int)] w (OfPost w (ofF n ls es s t (budget : Int), 0)) := by
  have HB := Aside0.mk (Below.refl w.heap.size w)
  have hn := (n_le hm).2
  have hn' : n ≤ 2048 := by omega
  have hls := C_len hr1
  have HR1 := Aside0.mk hr1
  have HR2 := Aside0.mk hr2
  have HM := Aside0.mk hm
  have HC : ∀ W, Below w.heap.size w W → Calls Try.prog 66 #[.agg #[.int .i64 (n : Int), .slice A1 ls.length c1, .slice A2 es.length c2]] W fun e w' => e = .returned (.int .i64 0) ∧ Below W.heap.size W w' := fun W hW =>
    check_yes n ls es A1 A2 c1 c2 W (Kd.C_below hr1 hW) (Kd.C_below hr2 hW) (by rw [may_same]; exact hm)
  have HC' := Lib.hid HC
  obtain ⟨T, hT⟩ : ∃ T, T = ofF n ls es s t (budget : Int) := ⟨_, rfl⟩
  have HT := Aside0.mk hT
  rw [← hT]
  clear HC hr1 hr2 hm hT
  have HW1 := Aside0.mk (show WordAt ((w.alloc (Obj.cells #[Value.int IntKind.i64 n, Value.slice A1 ls.length c1, Value.slice A2 es.length c2] 25)).alloc (Obj.cells #[Value.int IntKind.i64 0, Value.slice none 0 0] 54)) (w.heap.size + 1) (.int .i64 0) (.slice none 0 0) by have := blk_new (w.alloc (Obj.cells #[Value.int IntKind.i64 n, Value.slice A1 ls.length c1, Value.slice A2 es.length c2] 25)) (Obj.cells #[Value.int IntKind.i64 0, Value.slice none 0 0] 54); simpa [WordAt] using this)
  have HX1 := Aside0.mk (show BoxL ((w.alloc (Obj.cells #[Value.int IntKind.i64 n, Value.slice A1 ls.length c1, Value.slice A2 es.length c2] 25)).alloc (Obj.cells #[Value.int IntKind.i64 0, Value.slice none 0 0] 54)) w.heap.size n (.slice A1 ls.length c1) (.slice A2 es.length c2) from blk_below (blk_new w _) (below_alloc (Below.refl _ _) _))
  have HB1 := Aside0.mk (below_alloc (below_alloc HB.out (Obj.cells #[Value.int IntKind.i64 n, Value.slice A1 ls.length c1, Value.slice A2 es.length c2] 25)) (Obj.cells #[Value.int IntKind.i64 0, Value.slice none 0 0] 54))
  have q0 : ¬ min (s : Int) (t : Int) < 0 := by omega
  have q1 : ¬ (n : Int) ≤ max (s : Int) (t : Int) := by omega
  have q2 : ¬ (budget : Int) < 1 := by omega
  have q3 : ¬ 65536 < (budget : Int) := by omega
  go_enter Try.func39, Try.ntmps39
  go_wp2_with fail
  refine (HC'.out _ HB1.out).mono ?_
  rintro e w1 ⟨rfl, hB⟩
  have HW2 := Aside0.mk (show WordAt w1 (w.heap.size + 1) (.int .i64 0) (.slice none 0 0) from blk_below HW1.out hB)
  have HX2 := Aside0.mk (HX1.out.below hB)
  have HB2 := Aside0.mk (below_then HB1.out HB1.out.size hB)
  have b0 := HX2.out.c0
  have b1 := HX2.out.c1
  have b2 := HX2.out.c2
  clear hB HC' HW1 HX1 HB1
  have HO0 := Aside0.mk (show OfSt w ((w1.alloc (Obj.map #[] 0)).alloc (Obj.cells #[Value.int IntKind.i64 n, Value.slice A1 ls.length c1, Value.slice A2 es.length c2, Value.slice none 0 0, Value.map (some w1.heap.size)] 115)) (w1.heap.size + 1) w1.heap.size n ls (.slice A1 ls.length c1) (.slice A2 es.length c2) (.slice none 0 0) [] by
    have h1 : Below w1.heap.size w1 ((w1.alloc (Obj.map #[] 0)).alloc (Obj.cells #[Value.int IntKind.i64 n, Value.slice A1 ls.length c1, Value.slice A2 es.length c2, Value.slice none 0 0, Value.map (some w1.heap.size)] 115)) := below_alloc (below_alloc (Below.refl _ _) _) _
    have hz := HB2.out.size
    refine ⟨⟨?_, Kd.R_nil _ _ _ _ _, ?_, by omega, by omega⟩, HX2.out.below h1, blk_below HW2.out h1, below_then HB2.out HB2.out.size h1, ⟨rfl, fun i h0 hi => by simp at hi⟩, fun f hf => by simp at hf⟩
    · have := blk_new (w1.alloc (Obj.map #[] 0)) (Obj.cells #[Value.int IntKind.i64 n, Value.slice A1 ls.length c1, Value.slice A2 es.length c2, Value.slice none 0 0, Value.map (some w1.heap.size)] 115)
      simpa using this
    · exact (SM.made w1).below (below_alloc (Below.refl _ _) _))
  clear HW2 HX2 HB2
  go_wp2_with (first
    | (refine wpList_value (by rfl) (run_make_map (by rfl)) ?_))
  clear b0 b1 b2
  generalize ((w1.alloc (Obj.map #[] 0)).alloc (Obj.cells #[Value.int IntKind.i64 n, Value.slice A1 ls.length c1, Value.slice A2 es.length c2, Value.slice none 0 0, Value.map (some w1.heap.size)] 115)) = W2 at HO0 ⊢
  obtain ⟨x, hx⟩ : ∃ x, x = w1.heap.size + 1 := ⟨_, rfl⟩
  obtain ⟨m, hm⟩ : ∃ m, m = w1.heap.size := ⟨_, rfl⟩
  rw [← hx, ← hm] at HO0
  rw [← hx]
  rw [← hm]
  clear hx hm
  refine (alone_any s W2 (by omega)).mono ?_
  rintro e w3 ⟨rfl, hB⟩
  have HO1 := Aside0.mk (HO0.out.on hB)
  clear hB HO0
  rw [← memS_one s]
  go_wp2_with fail
  refine (alone_any t w3 (by omega)).mono ?_
  rintro e w4 ⟨rfl, hB⟩
  have HO2 := Aside0.mk (HO1.out.on hB)
  clear hB HO1
  rw [← memS_one t]
  go_wp2_with (first
    | (refine wpList_value (by rfl) (run_built_pair (x := .tmp 47) (y := .tmp 49) (A := memS [(s : Int)]) (B := memS [(t : Int)]) (by rfl) (by rfl) (by rfl)) ?_))
  have hF := find_any w.heap.size x m n (.slice A1 ls.length c1) (.slice A2 es.length c2) _ [] [(s : Int)] [(t : Int)] [] 0 0 w4 HO2.out.sr (by simp)
  rw [show ((0 : Nat) : Int) = 0 from rfl] at hF
  refine hF.mono ?_
  clear hF
  rintro e w5 ⟨rfl, ⟨v5, hS5⟩, hK5⟩
  have HO5 := Aside0.mk (HO2.out.next hK5 (all' := [⟨[(s : Int)], [(t : Int)], [], 0, 0⟩]) (by simpa [metK] using hS5) ⟨rfl, fun i h0 hi => by simp at hi; omega⟩ (fun f hf => by rw [List.mem_singleton.1 hf]; exact ⟨good_one hs, good_one ht⟩))
  clear hS5 hK5 HO2
  go_wp2
  go_loopw [11] (fun i wr => ∃ (k fuel : Nat) (v : Value) (all : List Fnd), i = .int .i64 k ∧ all.length ≤ budget ∧ budget + 1 ≤ fuel + k ∧ Aside0 (goF n ls es (budget : Int) fuel all k = T) ∧ Aside0 (OfSt w wr x m n ls (.slice A1 ls.length c1) (.slice A2 es.length c2) v all)) (fun i _ => budget + 1 - (intOf i).toNat)
  case atStart =>
    refine ⟨0, budget + 1, v5, _, rfl, by simp; omega, by omega, ⟨?_⟩, HO5⟩
    rw [HT.out]
    unfold ofF
    rw [Int.toNat_natCast]
  case round =>
    clear HO5
    obtain ⟨k, fuel, v, all, rfl, hal, hfu, HG, HO⟩ := hrel
    obtain ⟨wo, hwo⟩ : ∃ wo, wo = wr := ⟨_, rfl⟩
    subst hwo
    have hx3 := HO.out.sr.c3
    obtain ⟨Av, cv, hv⟩ := Kd.R_slice HO.out.sr.row
    subst hv
    by_cases hlt : k < all.length
    · have i0 : (k : Int) < (all.length : Int) := by omega
      obtain ⟨f', rfl⟩ : ∃ f', fuel = f' + 1 := ⟨fuel - 1, by omega⟩
      have HG' := Aside0.mk (goF_go (n := n) (ls := ls) (es := es) (budget := (budget : Int)) (f := f') hlt ▸ HG.out)
      have hb1' := HO.out.box.c1
      go_wp2
      clear hx3 hb1'
      go_loopw [64] (fun j wr => ∃ (q : Nat) (v : Value) (all : List Fnd), j = .int .i64 q ∧ q ≤ ls.length ∧ k < all.length ∧ all.length ≤ budget ∧ Aside0 (afterL n ls es (budget : Int) f' k (labsF n ls es (budget : Int) (ls.length - q) all k q) = T) ∧ Aside0 (OfSt w wr x m n ls (.slice A1 ls.length c1) (.slice A2 es.length c2) v all)) (fun j _ => ls.length - (intOf j).toNat)
      case atStart => exact ⟨0, _, all, rfl, Nat.zero_le _, hlt, hal, HG', HO⟩
      case round =>
        clear HG' HO HG
        obtain ⟨q, v, all', rfl, hq, hk', hal', HG, HO⟩ := hrel
        obtain ⟨wi, hwi⟩ : ∃ wi, wi = wr := ⟨_, rfl⟩
        subst hwi
        by_cases hlt2 : q < ls.length
        · have j0 : (q : Int) < (ls.length : Int) := by omega
          obtain ⟨M, hM⟩ : ∃ M, ls.length - q = M + 1 := ⟨ls.length - q - 1, by omega⟩
          have HMM := Aside0.mk (show ls.length - (q + 1) = M by omega)
          rw [hM] at HG
          clear hM
          have hSt := step_any w.heap.size x m n ls es A1 A2 c1 c2 _ all' k q wi HO.out.sr (Kd.C_below HR1.out HO.out.below) (Kd.C_below HR2.out HO.out.below) HM.out HO.out.wf HO.out.good hk' hlt2 (by omega)
          obtain ⟨o, a', hR⟩ : ∃ o a', stepW n ls es all' k q = (o, a') := ⟨_, _, rfl⟩
          rw [hR] at hSt
          have HSt := Aside0.mk hSt
          have HRR := Aside0.mk hR
          clear hSt hR
          cases o with
          | some wd =>
            have HT' := Aside0.mk (show T = wd by rw [← HG.out, labsF_some HRR.out]; rfl)
            go_wp2_with fail
            refine HSt.out.mono ?_
            clear HSt
            rintro e w8 ⟨vw, rfl, hRw, hBw⟩
            obtain ⟨Aw, cw, rfl⟩ := Kd.R_slice hRw
            have HO8 := HO.out.on hBw
            have hw6 : WordAt (w8.alloc (Obj.cells #[Value.int IntKind.i64 0, Value.slice none 0 0] 54)) w8.heap.size (.int .i64 0) (.slice none 0 0) := blk_new _ _
            have HW6 := Aside0.mk hw6
            have HW7 := Aside0.mk (hw6.store (.int .i64 wd.1) (.slice Aw wd.2.length cw))
            have hB9 : Below w8.heap.size w8 ((w8.alloc (Obj.cells #[Value.int IntKind.i64 0, Value.slice none 0 0] 54)).setCells w8.heap.size 0 [.int .i64 wd.1, .slice Aw wd.2.length cw]) := below_setCells (below_alloc (Below.refl _ _) _) 0 _ (Nat.le_refl _)
            have HO9 := Aside0.mk (HO8.on hB9)
            have HR9 := Aside0.mk (Kd.R_lower (Kd.R_below hRw hB9) HO.out.below.size)
            clear hRw hBw hw6 hB9 HO8
            go_wp2_with (first
              | (refine wpList_value (by rfl) (run_alloc_word (by rfl)) ?_)
              | (refine wpList_skip (by rfl) (by rfl) (run_store_word (x := .tmp 13) (y := .tmp 72) (b := w8.heap.size) (k := .int .i64 wd.1) (v := .slice Aw wd.2.length cw) (by rfl) (by rfl) (by rfl) HW6.out.there rfl rfl) ?_)
              | (refine wpList_value (by rfl) (run_load_word (x := .tmp 13) (b := w8.heap.size) (k := .int .i64 wd.1) (v := .slice Aw wd.2.length cw) (by rfl) (by rfl) HW7.out) ?_)
              | (refine wpList_skip (by rfl) (by rfl) (run_store_word (x := .tmp 8) (y := .tmp 75) (b := w.heap.size + 1) (k := .int .i64 wd.1) (v := .slice Aw wd.2.length cw) (by rfl) (by rfl) (by rfl) HO9.out.word.there rfl rfl) ?_))
            refine bodyPost_ret (results_word rfl _ _ (w.heap.size + 1) (.int .i64 wd.1) (.slice Aw wd.2.length cw) rfl (HO9.out.word.store _ _)) rfl ?_
            rw [HT'.out]
            exact ⟨_, rfl, Kd.R_grown1 HR9.out rfl (grown_setCells _ _ _) (Kd.R_ne HR9.out HO9.out.word (by decide)), below_setCells HO9.out.below 0 _ (Nat.le_succ _)⟩
          | none =>
            have HWf := Aside0.mk (step_wf HO.out.wf HO.out.good hk' hlt2 HRR.out)
            go_wp2_with fail
            refine HSt.out.mono ?_
            clear HSt
            rintro e w8 ⟨rfl, ⟨v', hS8⟩, hK8⟩
            have HO8 := HO.out.next hK8 hS8 HWf.out.1 HWf.out.2.1
            have hw6 : WordAt (w8.alloc (Obj.cells #[Value.int IntKind.i64 0, Value.slice none 0 0] 54)) w8.heap.size (.int .i64 0) (.slice none 0 0) := blk_new _ _
            have HW6 := Aside0.mk hw6
            have hB9 : Below w8.heap.size w8 ((w8.alloc (Obj.cells #[Value.int IntKind.i64 0, Value.slice none 0 0] 54)).setCells w8.heap.size 0 [.int .i64 0, .slice none 0 0]) := below_setCells (below_alloc (Below.refl _ _) _) 0 _ (Nat.le_refl _)
            have HO9 := Aside0.mk (HO8.on hB9)
            obtain ⟨Av', cv', rfl⟩ := Kd.R_slice HO9.out.sr.row
            have hx9 := HO9.out.sr.c3
            have hlen := HWf.out.2.2
            clear hS8 hK8 hw6 hB9 HO8
            by_cases hfull : budget < a'.length
            · have j1 : (budget : Int) < (a'.length : Int) := by omega
              have HT' := Aside0.mk (show T = (4, []) by rw [← HG.out, labsF_full HRR.out j1]; rfl)
              go_wp2_with (first
                | (refine wpList_value (by rfl) (run_alloc_word (by rfl)) ?_)
                | (refine wpList_skip (by rfl) (by rfl) (run_store_word (x := .tmp 13) (y := .tmp 72) (b := w8.heap.size) (k := .int .i64 0) (v := .slice none 0 0) (by rfl) (by rfl) (by rfl) HW6.out.there rfl rfl) ?_)
                | (refine wpList_skip (by rfl) (by rfl) (run_store_word (x := .tmp 8) (y := .tmp 83) (b := w.heap.size + 1) (k := .int .i64 4) (v := .slice none 0 0) (by rfl) (by rfl) (by rfl) HO9.out.word.there rfl rfl) ?_))
              refine bodyPost_ret (results_word rfl _ _ (w.heap.size + 1) (.int .i64 4) (.slice none 0 0) rfl (HO9.out.word.store _ _)) rfl ?_
              rw [HT'.out]
              exact ⟨_, rfl, Kd.R_nil _ _ _ _ _, below_setCells HO9.out.below 0 _ (Nat.le_succ _)⟩
            · have j1 : ¬ (budget : Int) < (a'.length : Int) := by omega
              have HT' := Aside0.mk (show afterL n ls es (budget : Int) f' k (labsF n ls es (budget : Int) (ls.length - (q + 1)) a' k (q + 1)) = T by rw [← HG.out, labsF_on HRR.out j1, HMM.out])
              go_wp2_with (first
                | (refine wpList_value (by rfl) (run_alloc_word (by rfl)) ?_)
                | (refine wpList_skip (by rfl) (by rfl) (run_store_word (x := .tmp 13) (y := .tmp 72) (b := w8.heap.size) (k := .int .i64 0) (v := .slice none 0 0) (by rfl) (by rfl) (by rfl) HW6.out.there rfl rfl) ?_))
              go_roundw
              case rel => exact ⟨q + 1, _, a', by go_num, by omega, by omega, by omega, HT', HO9⟩
              case measure => simp [intOf]; omega
        · have j0 : ¬ (q : Int) < (ls.length : Int) := by omega
          have HG2 := Aside0.mk (show goF n ls es (budget : Int) f' all' (k + 1) = T by rw [← HG.out, show ls.length - q = 0 by omega]; rfl)
          go_wp2
          go_roundw
          case rel => exact ⟨k + 1, f', _, all', by go_num, by omega, by omega, HG2, HO⟩
          case measure => simp [intOf]; omega
    · have i0 : ¬ (k : Int) < (all.length : Int) := by omega
      have HE := Aside0.mk (show T = (3, []) by rw [← HG.out]; exact goF_end fuel hlt)
      go_wp2_with (first
        | (refine wpList_skip (by rfl) (by rfl) (run_store_word (x := .tmp 8) (y := .tmp 85) (b := w.heap.size + 1) (k := .int .i64 3) (v := .slice none 0 0) (by rfl) (by rfl) (by rfl) HO.out.word.there rfl rfl) ?_))
      refine bodyPost_ret (results_word rfl _ _ (w.heap.size + 1) (.int .i64 3) (.slice none 0 0) rfl (HO.out.word.store _ _)) rfl ?_
      rw [HE.out]
      exact ⟨_, rfl, Kd.R_nil _ _ _ _ _, below_setCells HO.out.below 0 _ (Nat.le_succ _)⟩

theorem of_any (n : Int) (ls : List ByteArray) (es : List Ed) (s t budget : Int) (A1 A2 : Option Addr) (c1 c2 : Nat) (w : World) (hr1 : Kd.C Kd.string w A1 ls.length ls) (hr2 : Kd.C k81 w A2 es.length es) :
    Calls Try.prog 39 #[.agg #[.int .i64 n, .slice A1 ls.length c1, .slice A2 es.length c2], .int .i64 s, .int .i64 t, .int .i64 budget] w (OfPost w (ofR n ls es s t budget)) := by
  unfold ofR
  by_cases h : mayR n ls es = true ∧ (0 ≤ s ∧ s < n) ∧ (0 ≤ t ∧ t < n) ∧ 1 ≤ budget ∧ budget ≤ 65536
  · rw [if_pos h]
    obtain ⟨hm, ⟨hs1, hs2⟩, ⟨ht1, ht2⟩, hb1, hb2⟩ := h
    obtain ⟨N, rfl⟩ := Int.eq_ofNat_of_zero_le (show 0 ≤ n by omega)
    obtain ⟨S, rfl⟩ := Int.eq_ofNat_of_zero_le hs1
    obtain ⟨U, rfl⟩ := Int.eq_ofNat_of_zero_le ht1
    obtain ⟨B, rfl⟩ := Int.eq_ofNat_of_zero_le (show 0 ≤ budget by omega)
    exact of_yes N S U ls es B A1 A2 c1 c2 w hr1 hr2 hm (Int.ofNat_lt.1 hs2) (Int.ofNat_lt.1 ht2) (by omega) (by omega)
  · rw [if_neg h]
    exact of_no n ls es s t budget A1 A2 c1 c2 w hr1 hr2 h

end Go.Proofs.Ytmpiokdomjchiaa.H
