/-
  Walk: (*trace.search).step.
-/
import Derived.Test.YtmpiokdomjchiaaK4
set_option linter.unusedVariables false
set_option linter.unusedSimpArgs false
namespace Go.Proofs.Ytmpiokdomjchiaa.H
open Go.RowKit Go.Proofs.Ytmpiokdomjchiaa.Pr Go.Proofs.YtmpiokdomjchiaaW.PrintWords Go.Proofs.Ytmpiokdomjchiaa.Sem Go.Proofs.YtmpiokdomjchiaaW.PrintLast

abbrev noS : Nat → Bool := fun _ => false
theorem run_alloc_pair {op : Oper} {a : Act} {w : World} (ho : op.op = .alloc 118) : (execOp a.eval op).run Try.prog w = .ok (.value (.pointer (some ⟨w.heap.size, 0, none⟩))) (w.alloc (.cells (encP noS noS).toArray 118)) := by
  unfold execOp
  simp only [ho]
  kernel_rfl
theorem run_load_at {op : Oper} {a : Act} {w : World} {x : Operand} {b o : Nat} {S : Nat → Bool} (ho : op.op = .load 107 x) (hx : a.eval x = .pointer (some ⟨b, o, none⟩)) (hc : w.rangeAt b o (encSet S)) : (execOp a.eval op).run Try.prog w = .ok (.value (.agg (encSet S).toArray)) w := by
  unfold execOp
  simp only [ho, hx, Instr.loadAt, Instr.sureAddr, Sem.run_bind, Sem.run_pure, Result.andThen_ok, run_loadVar_mid w b o 107 (encSet S) _ hc Try.underlying107 rfl (by rw [encSet_len]; exact info_set)]
theorem run_store_pair {op : Oper} {a : Act} {w : World} {x y : Operand} {b : Nat} {A B : Nat → Bool} (ho : op.op = .store 118 x y) (hx : a.eval x = .pointer (some ⟨b, 0, none⟩)) (hy : a.eval y = .agg (encP A B).toArray) (ht : w.there b 0 64) : (execOp a.eval op).run Try.prog w = .ok .skip (w.setCells b 0 (encP A B)) := by
  unfold execOp
  simp only [ho, hx, hy, Instr.storeAt, Instr.sureAddr, Sem.run_bind, Sem.run_pure, Result.andThen_ok, run_storeVar_mid w b 0 118 (encP A B).toArray (by simpa [encP_len] using ht) (by rw [List.size_toArray, encP_len]; exact info_pair) (all_oneCell_toArray (fun u hu => by
    unfold encP at hu
    rcases List.mem_append.1 hu with h | h
    · exact enc_one _ u h
    · exact enc_one _ u h))]
/-- Two sets in memory: block b. -/
def PairAt (w : World) (b : Nat) (A B : Nat → Bool) : Prop := w.heap[b]? = some (.cells (encP A B).toArray 118 (0, 0))
theorem PairAt.range {w : World} {b : Nat} {A B : Nat → Bool} (h : PairAt w b A B) : w.rangeAt b 0 (encP A B) := pair_range h
theorem PairAt.a {w : World} {b : Nat} {A B : Nat → Bool} (h : PairAt w b A B) : w.rangeAt b 0 (encSet A) := by
  intro j v hv
  refine h.range j v ?_
  unfold encP
  rw [List.getElem?_append_left (List.getElem?_eq_some_iff.1 hv).1]
  exact hv
theorem PairAt.b {w : World} {b : Nat} {A B : Nat → Bool} (h : PairAt w b A B) : w.rangeAt b 32 (encSet B) := by
  intro j v hv
  have h1 := h.range (32 + j) v (by
    unfold encP
    rw [List.getElem?_append_right (by rw [encSet_len]; omega), encSet_len, Nat.add_sub_cancel_left]
    exact hv)
  rwa [Nat.zero_add] at h1
theorem PairAt.there {w : World} {b : Nat} {A B : Nat → Bool} (h : PairAt w b A B) : w.there b 0 64 := by
  intro j hj
  rw [Nat.zero_add]
  constructor
  · rw [blk_cell h j]
    have : j < (encP A B).length := by rw [encP_len]; exact hj
    simp [List.getElem?_eq_getElem this]
  · unfold World.frozen?
    have h' : w.heap[b]? = some (.cells (encP A B).toArray 118 (0, 0)) := h
    simp only [h']
    simp
theorem PairAt.below {w w1 : World} {b : Nat} {A B : Nat → Bool} (h : PairAt w b A B) (hb : Below w.heap.size w w1) : PairAt w1 b A B := blk_below h hb
theorem PairAt.store {w : World} {b : Nat} {A B : Nat → Bool} (h : PairAt w b A B) (A' B' : Nat → Bool) : PairAt (w.setCells b 0 (encP A' B')) b A' B' := by
  obtain ⟨cs', g1, g2, _, g4⟩ := blk_setCells (encP A' B') 0 w _ h (by simp [encP_len])
  have e : cs' = (encP A' B').toArray := by
    apply Array.ext_getElem?
    intro j
    by_cases hj : j < 64
    · have := g4 j (by rw [encP_len]; exact hj)
      rw [Nat.zero_add] at this
      rw [this]
      simp
    · rw [Array.getElem?_eq_none (by rw [g2]; simp [encP_len]; omega), Array.getElem?_eq_none (by simp [encP_len]; omega)]
  unfold PairAt
  rw [g1, e]

open Go.Maps (Keyed) in
theorem set_keyed1 : Keyed Try.prog 107 := Keyed.of_law (deep_law_laid laid_out (m := 2) (by omega) (of_decide_eq_true (by kernel_rfl)) (by kernel_rfl) (by kernel_rfl))
/-- Sets, held side by side. -/
theorem set_key (A : Nat → Bool) : keyOf Try.prog 107 (.agg (encSet A).toArray) = some (.string (keyBytes (litsS A))) := by
  obtain ⟨m, hm⟩ := size_types
  unfold keyOf
  simp only [under_set]
  rw [if_pos (by rw [show Try.prog.keyType 107 = true by kernel_rfl]; simp [Value.formed, under_set, cells_set, encSet_len])]
  rw [hm]
  simp only [Value.cells]
  rw [show m + 3 + 1 = (m + 2) + 2 by omega, lits_set]
  rfl
theorem eqSet (A B : Nat → Bool) (w : World) (b : Bool) (hb : (encSet A = encSet B) ↔ b = true) : (Op.equalIn 10000 107 (.agg (encSet A).toArray) (.agg (encSet B).toArray)).run Try.prog w = .ok b w := by
  obtain ⟨r, h1, h2⟩ := run_equal_deep (P := Try.prog) w (m := 2) (by omega) (k := 107) (by kernel_rfl) (by kernel_rfl) (set_key A) (set_key B)
  have hk : (Lit.string (keyBytes (litsS A)) = .string (keyBytes (litsS B))) ↔ encSet A = encSet B := by
    constructor
    · intro e
      have h3 := set_key A
      rw [e] at h3
      simpa using set_keyed1.inj h3 (set_key B)
    · intro e
      have h3 := set_key A
      rw [e, set_key B] at h3
      exact (Option.some.inj h3).symm
  have e : r = b := by
    rw [Bool.eq_iff_iff, h2, hk, hb]
  subst e
  exact h1

/-- A step: what it tells (a word, or none), and what is found then. -/
def stepW (n : Nat) (ls : List ByteArray) (es : List Ed) (all : List Fnd) (at_ k : Nat) : Option Wd × List Fnd :=
  let p := all.getD at_ dF
  let a := nextL n es p.a k
  let b := nextL n es p.b k
  if a = [] ∧ b = [] then (none, all)
  else if b = [] then (some (1, wordF ls all at_ k), all)
  else if a = [] then (some (2, wordF ls all at_ k), all)
  else (none, if metF all a b then all else all ++ [⟨a, b, wordF ls all at_ k, at_, k⟩])
theorem stepF_is (n : Nat) (ls : List ByteArray) (es : List Ed) (budget : Int) (all : List Fnd) (at_ k : Nat) : stepF n ls es budget all at_ k = match stepW n ls es all at_ k with
    | (some w, _) => .inl w
    | (none, all') => if budget < all'.length then .inl (4, []) else .inr all' := by
  unfold stepF stepW
  simp only
  split
  · rfl
  · split
    · rfl
    · split
      · rfl
      · rfl
/-- Sets that were found are lists of nodes. -/
def GoodF (n : Nat) (all : List Fnd) : Prop := ∀ f ∈ all, GoodL n f.a ∧ GoodL n f.b
theorem metK_is {n : Nat} (hn : n ≤ 2048) {all : List Fnd} {a b : List Int} (ha : GoodL n a) (hb : GoodL n b) (hg : GoodF n all) : metK all a b = metF all a b := by
  unfold metK metF
  rw [Bool.eq_iff_iff]
  simp only [List.any_eq_true, Bool.and_eq_true, decide_eq_true_eq]
  constructor
  · rintro ⟨f, hf, h⟩
    obtain ⟨h1, h2⟩ := (good_sk hn ha hb (hg f hf).1 (hg f hf).2).1 (sk_kw.2 h)
    exact ⟨f, hf, h1.symm, h2.symm⟩
  · rintro ⟨f, hf, h1, h2⟩
    exact ⟨f, hf, by rw [h1, h2]⟩

theorem wpList_value {P : Program} {ops : Array Oper} {rest : List Oper} {op : Oper} {a : Act} {w w1 : World} {v : Value} {Q : Exit → Act → World → Prop} (hw : Region.wanted op (yielded ops a.tmps) = true) (hrun : (execOp a.eval op).run P w = .ok (.value v) w1) (h : wpList P ops Q rest (a.put op.dst v) w1) : wpList P ops Q (op :: rest) a w :=
  wpList_step fun K hK => value_ hw rfl hrun (hK _ _ h)
theorem wpList_skip {P : Program} {ops : Array Oper} {rest : List Oper} {op : Oper} {a : Act} {w w1 : World} {Q : Exit → Act → World → Prop} (hw : Region.wanted op (yielded ops a.tmps) = true) (hd : op.dst = none) (hrun : (execOp a.eval op).run P w = .ok .skip w1) (h : wpList P ops Q rest a w1) : wpList P ops Q (op :: rest) a w :=
  wpList_step fun K hK => by
    have h1 := skip_ (P := P) (ops := ops) (Q := Q) (K := K) hw hd hrun (hK _ _ h)
    rw [if_pos hw] at h1
    rw [if_pos hw]
    exact h1
theorem run_zero_set {op : Oper} {a : Act} {w : World} (ho : op.op = .build 107 #[]) : (execOp a.eval op).run Try.prog w = .ok (.value (.agg (encSet noS).toArray)) w := by
  have h := run_build (P := Try.prog) w 107 #[] (encSet noS).toArray (by kernel_rfl)
  unfold execOp
  simp only [ho, List.map_toArray, List.map_nil, Sem.run_bind, Sem.run_pure, h, Result.andThen_ok]
theorem run_alloc_set {op : Oper} {a : Act} {w : World} (ho : op.op = .alloc 107) : (execOp a.eval op).run Try.prog w = .ok (.value (.pointer (some ⟨w.heap.size, 0, none⟩))) (w.alloc (.cells (encSet noS).toArray 107)) := by
  unfold execOp
  simp only [ho]
  kernel_rfl
/-- A word in memory: block b. -/
def WordAt (w : World) (b : Nat) (k v : Value) : Prop := w.heap[b]? = some (.cells #[k, v] 54 (0, 0))
theorem WordAt.there {w : World} {b : Nat} {k v : Value} (h : WordAt w b k v) : w.there b 0 2 := by
  have h' : w.heap[b]? = some (.cells #[k, v] 54 (0, 0)) := h
  intro j hj
  rw [Nat.zero_add]
  constructor
  · rw [blk_cell h' j]
    have : j = 0 ∨ j = 1 := by omega
    rcases this with rfl | rfl <;> rfl
  · unfold World.frozen?
    simp only [h']
    simp
theorem WordAt.store {w : World} {b : Nat} {k v : Value} (h : WordAt w b k v) (k' v' : Value) : WordAt (w.setCells b 0 [k', v']) b k' v' := by
  have h' : w.heap[b]? = some (.cells #[k, v] 54 (0, 0)) := h
  unfold WordAt World.setCells World.setCells World.setCells
  simp [World.setCell, Array.getElem?_modify, h']
theorem info_word : (Try.prog.info? 54).map (·.size) = some 2 := by kernel_rfl
theorem run_store_word {op : Oper} {a : Act} {w : World} {x y : Operand} {b : Nat} {k v : Value} (ho : op.op = .store 54 x y) (hx : a.eval x = .pointer (some ⟨b, 0, none⟩)) (hy : a.eval y = .agg #[k, v]) (ht : w.there b 0 2) (h1 : k.oneCell' = true) (h2 : v.oneCell' = true) : (execOp a.eval op).run Try.prog w = .ok .skip (w.setCells b 0 [k, v]) := by
  unfold execOp
  simp only [ho, hx, hy, Instr.storeAt, Instr.sureAddr, Sem.run_bind, Sem.run_pure, Result.andThen_ok, run_storeVar_mid w b 0 54 #[k, v] (by simpa using ht) (by simpa using info_word) (by simp [h1, h2])]
theorem results_word {fn : Func} {p u : Tmp} (h : fn.results = #[.cell p 54, .tmp u]) (tmps : Array Value) (w : World) (r : Nat) (k v : Value) (hp : tmps.getD p undef = .pointer (some ⟨r, 0, none⟩)) (hb : WordAt w r k v) : (results fn tmps).run Try.prog w = .ok (.tuple #[.agg #[k, v], tmps.getD u undef]) w := by
  have hb' : w.heap[r]? = some (.cells #[k, v] 54 (0, 0)) := hb
  rw [results_cell_tmp h, hp]
  simp only [asAddr, Sem.run_pure, Result.andThen_ok, run_loadVar_row w r 54 54 #[k, v] (0, 0) _ hb' Try.underlying54 rfl (by simpa using info_word)]
theorem grown_setCells {b : Nat} : ∀ (vs : List Value) (o : Nat) (w : World), w.grownBy (w.setCells b o vs) (some b)
  | [], o, w => grown_of_below (Below.refl _ _) _
  | v :: r, o, w => (grown_set w b o v).trans (grown_setCells r (o + 1) _)
theorem Ks.fresh {base : Nat} {w W W1 : World} {r : Nat} (h : Ks base w W) (hr : w.heap.size ≤ r) (hb : base ≤ w.heap.size) (hg : W.grownBy W1 (some r)) : Ks base w W1 :=
  ⟨h.low.grown hg (Nat.le_trans hb h.low.size) (fun k hk => by cases hk; exact Nat.le_trans hb hr), fun k c t fr h0 h1 h2 => blk_grown (h.typ k c t fr h0 h1 h2) hg (by
    have := (Array.getElem?_eq_some_iff.1 h0).1
    simp
    omega)⟩
theorem SrSt.frame {base : Nat} {W W1 : World} {x : Nat} {n : Int} {v1 v2 : Value} {m : Nat} {v : Value} {all : List Fnd} (h : SrSt base W x n v1 v2 m v all) {r : Nat} (hg : W.grownBy W1 (some r)) (h1 : x ≠ r) (h2 : m ≠ r) (h3 : some r ≠ v.ownBlock) : SrSt base W1 x n v1 v2 m v all :=
  ⟨blk_grown h.blk hg (by simpa using h1), Kd.R_grown1 h.row rfl hg h3, h.map.same (hg.block m h.map.lt (by simpa using h2)), h.hx, h.hm⟩
theorem guard_type : Try.prog.eqGuardType Try.prog.depth 107 = false := by kernel_rfl
theorem guard_set (x y : Operand) (a b : Array Value) (w : World) : (eqGuard .eql 107 x y (.agg a) (.agg b)).run Try.prog w = .ok () w := by
  unfold eqGuard
  simp [guard_type, Sem.run_bind, Result.andThen]
theorem run_eq_set {op : Oper} {a : Act} {w : World} {x y : Operand} {A B : Nat → Bool} {r : Bool} {rt : TypeId} (ho : op.op = .binOp .eql 107 x y rt) (hx : a.eval x = .agg (encSet A).toArray) (hy : a.eval y = .agg (encSet B).toArray) (hE : (Op.equalIn 10000 107 (.agg (encSet A).toArray) (.agg (encSet B).toArray)).run Try.prog w = .ok r w) : (execOp a.eval op).run Try.prog w = .ok (.value (.bool r)) w := by
  have hE' : (Op.equal 107 (.agg (encSet A).toArray) (.agg (encSet B).toArray)).run Try.prog w = .ok r w := hE
  unfold execOp
  simp only [ho, hx, hy, Sem.run_bind, Sem.run_pure, guard_set, Result.andThen_ok, binOp, hE']
theorem range_later {w w1 : World} {b o : Nat} {cs : List Value} (hb : Below w.heap.size w w1) (h : w.rangeAt b o cs) : w1.rangeAt b o cs := fun j v hv => later hb (h j v hv)
theorem pair_new {V W : World} (h : Below V.heap.size V W) : PairAt (W.alloc (Obj.cells (encP noS noS).toArray 118)) W.heap.size noS noS ∧ V.heap.size ≤ W.heap.size := ⟨blk_new _ _, h.size⟩
theorem hold_later {w w1 : World} (hb : Below w.heap.size w w1) {a1 a2 a3 a4 : Addr} {u1 u2 u3 u4 : Value} {b1 o1 b2 o2 : Nat} {cs1 cs2 : List Value} (h : w.cell? a1 = some u1 ∧ w.cell? a2 = some u2 ∧ w.cell? a3 = some u3 ∧ w.cell? a4 = some u4 ∧ w.rangeAt b1 o1 cs1 ∧ w.rangeAt b2 o2 cs2) : w1.cell? a1 = some u1 ∧ w1.cell? a2 = some u2 ∧ w1.cell? a3 = some u3 ∧ w1.cell? a4 = some u4 ∧ w1.rangeAt b1 o1 cs1 ∧ w1.rangeAt b2 o2 cs2 :=
  ⟨later hb h.1, later hb h.2.1, later hb h.2.2.1, later hb h.2.2.2.1, range_later hb h.2.2.2.2.1, range_later hb h.2.2.2.2.2⟩

/-- What a step leaves. -/
def StepPost (base x m : Nat) (n : Int) (v1 v2 : Value) (w : World) (R : Option Wd × List Fnd) (e : Ending) (w' : World) : Prop := match R with
  | (some wd, _) => ∃ vw, e = .returned (.tuple #[.agg #[.int .i64 wd.1, vw], .bool true]) ∧ Kd.R Kd.string 9 w' w.heap.size (fun _ => True) vw wd.2 ∧ Below w.heap.size w w'
  | (none, all') => e = .returned (.tuple #[.agg #[.int .i64 0, .slice none 0 0], .bool false]) ∧ (∃ v', SrSt base w' x n v1 v2 m v' all') ∧ Ks base w w'
set_option maxHeartbeats 8000000 in
set_option maxRecDepth 100000 in
theorem step_any (base x m n : Nat) (ls : List ByteArray) (es : List Ed) (A1 A2 : Option Addr) (c1 c2 : Nat) (v : Value) (all : List Fnd) (at_ lab : Nat) (w : World) (h : SrSt base w x n (.slice A1 ls.length c1) (.slice A2 es.length c2) m v all) (hr1 : Kd.C Kd.string w A1 ls.length ls) (hr2 : Kd.C k81 w A2 es.length es) (hm : mayR n ls es = true) (hw : WfF ls all) (hg : GoodF n all) (hat : at_ < all.length) (hlab : lab < ls.length) (hl : all.length ≤ 1000000) :
    Calls Try.prog 82 #[.pointer (some ⟨x, 0, none⟩), .int .i64 (at_ : Int), .int .i64 (lab : Int)] w (StepPost base x m n (.slice A1 ls.length c1) (.slice A2 es.length c2) w (stepW n ls es all at_ lab)) := by
  have hn := (n_le hm).2
  have hn' : n ≤ 2048 := by omega
  have HR1 := Aside0.mk hr1
  have HR2 := Aside0.mk hr2
  have HM := Aside0.mk hm
  have HW := Aside0.mk hw
  have HG := Aside0.mk hg
  have HS0 := Aside0.mk h
  have HMS := Aside0.mk (fun a l => memS_next (n := n) (es := es) (fun e he => (es_mem hm he).2.2) a l)
  obtain ⟨R, hR⟩ : ∃ R, R = stepW n ls es all at_ lab := ⟨_, rfl⟩
  have HRd := Aside0.mk hR
  rw [← hR]
  clear hR hr1 hr2 hm hw hg h
  have HB0 := Aside0.mk (Below.refl w.heap.size w)
  go_enter Try.func82, Try.ntmps82
  obtain ⟨g, c, hv, hcell⟩ := atF HS0.out.row at_ hat
  obtain ⟨f, hf⟩ : ∃ f, f = all.getD at_ dF := ⟨_, rfl⟩
  rw [← hf] at hcell
  have HFd := Aside0.mk hf
  subst hv
  have hpa : w.rangeAt g (at_ * 66) (encSet (memS f.a)) := fun j u hu => hcell j u (encF_a f hu)
  have hpb : w.rangeAt g (at_ * 66 + 32) (encSet (memS f.b)) := fun j u hu => by rw [Nat.add_assoc]; exact hcell (32 + j) u (encF_b f hu)
  have HA0 := Aside0.mk (HMS.out f.a lab)
  have HB0' := Aside0.mk (HMS.out f.b lab)
  obtain ⟨P, hP⟩ : ∃ P, P = memS f.a := ⟨_, rfl⟩
  obtain ⟨Q, hQ⟩ : ∃ Q, Q = memS f.b := ⟨_, rfl⟩
  rw [← hP] at hpa HA0
  rw [← hQ] at hpb HB0'
  obtain ⟨A', hA'⟩ : ∃ A', A' = memS (nextL n es f.a lab) := ⟨_, rfl⟩
  obtain ⟨B', hB'⟩ : ∃ B', B' = memS (nextL n es f.b lab) := ⟨_, rfl⟩
  rw [← hA'] at HA0
  rw [← hB'] at HB0'
  have HA' := Aside0.mk HA0.out.symm
  have HB' := Aside0.mk HB0'.out.symm
  have HAm := Aside0.mk hA'
  have HBm := Aside0.mk hB'
  have HP0 := Aside0.mk (And.intro hpa hpb)
  have i1 : (at_ : Int) < (all.length : Int) := by omega
  clear hf hcell hP hQ hA' hB' HA0 HB0' hpa hpb
  go_wp2_with fail
  have HS1 := Aside0.mk (HS0.out.on (below_alloc (Below.refl _ _) (Obj.cells #[Value.int IntKind.i64 0, Value.slice none 0 0] 54)))
  have HB1 := Aside0.mk (below_alloc HB0.out (Obj.cells #[Value.int IntKind.i64 0, Value.slice none 0 0] 54))
  have HR1c := Aside0.mk (blk_new w (Obj.cells #[Value.int IntKind.i64 0, Value.slice none 0 0] 54))
  have HPa := Aside0.mk (range_later HB1.out HP0.out.1)
  have HPb := Aside0.mk (range_later HB1.out HP0.out.2)
  generalize (w.alloc (Obj.cells #[Value.int IntKind.i64 0, Value.slice none 0 0] 54)) = W at HS1 HB1 HR1c HPa HPb ⊢
  refine start_ (n := 33) (S := fun w' => w'.cell? ⟨x, 0, none⟩ = some (.int .i64 (n : Int)) ∧ w'.cell? ⟨x, 1, none⟩ = some (.slice A1 ls.length c1) ∧ w'.cell? ⟨x, 2, none⟩ = some (.slice A2 es.length c2) ∧ w'.cell? ⟨x, 3, none⟩ = some (.slice (some ⟨g, 0, none⟩) all.length c) ∧ w'.rangeAt g (at_ * 66) (encSet P) ∧ w'.rangeAt g (at_ * 66 + 32) (encSet Q)) (ds := [32]) #[false, false, false, false, false, false, false, false, false, false, false, false, false, false, false, false, false, false, false, false, false, false, false, false, false, false, false, false, false, false, false, false, false] (by kernel_rfl) rfl rfl ⟨HS1.out.c0, HS1.out.c1, HS1.out.c2, HS1.out.c3, HPa.out, HPb.out⟩ (fun hHeld => ?_)
  have hB0 := below_drew1 (Below.refl W.heap.size W)
  have HS2 := Aside0.mk (HS1.out.on hB0)
  have HR2c := Aside0.mk (blk_below HR1c.out hB0)
  have HB2 := Aside0.mk (below_then HB1.out HB1.out.size hB0)
  clear hB0
  generalize W.drew = V at HS2 HR2c HB2 hHeld ⊢
  have HV := Aside0.mk (Below.refl V.heap.size V)
  have HC1 : Aside0 (∀ W', Below V.heap.size V W' → Calls Try.prog 77 #[.agg #[.int .i64 (n : Int), .slice A1 ls.length c1, .slice A2 es.length c2], .agg (encSet P).toArray, .int .i64 (lab : Int)] W' fun e w' => e = .returned (.agg (encSet A').toArray) ∧ Below W'.heap.size W' w') := ⟨fun W' hW' => by rw [← HA'.out]; exact behind_any n ls es P lab _ A2 c2 _ (Kd.C_below HR2.out (below_then HB2.out HB2.out.size hW')) HM.out⟩
  have HC2 : Aside0 (∀ W', Below V.heap.size V W' → Calls Try.prog 77 #[.agg #[.int .i64 (n : Int), .slice A1 ls.length c1, .slice A2 es.length c2], .agg (encSet Q).toArray, .int .i64 (lab : Int)] W' fun e w' => e = .returned (.agg (encSet B').toArray) ∧ Below W'.heap.size W' w') := ⟨fun W' hW' => by rw [← HB'.out]; exact behind_any n ls es Q lab _ A2 c2 _ (Kd.C_below HR2.out (below_then HB2.out HB2.out.size hW')) HM.out⟩
  have HHold := Aside0.mk hHeld
  refine pure_ (i := 0) (N := some 10) (v := ?_) (a' := ?_) #[true, false, false, false, false, false, false, false, false, false, false, false, false, false, false, false, false, false, false, false, false, false, false, false, false, false, false, false, false, false, false, false, false] rfl rfl (by kernel_rfl) (fun _ _ _ h => h) (Or.inl ⟨by rfl, ?_⟩) ?_ ?_
  rotate_left
  · intro w'
    go_simp
    with_reducible rfl
  rotate_left
  · simp only [Act.put, List.setIfInBounds_toArray, List.set_cons_zero, List.set_cons_succ, i64_w, i32_w]
    rfl
  refine pure_ (i := 1) (N := some 11) (v := ?_) (a' := ?_) #[true, true, false, false, false, false, false, false, false, false, false, false, false, false, false, false, false, false, false, false, false, false, false, false, false, false, false, false, false, false, false, false, false] rfl rfl (by kernel_rfl) (fun _ _ _ h => h) (Or.inl ⟨by rfl, ?_⟩) ?_ ?_
  rotate_left
  · intro w'
    go_simp
    with_reducible rfl
  rotate_left
  · simp only [Act.put, List.setIfInBounds_toArray, List.set_cons_zero, List.set_cons_succ, i64_w, i32_w]
    rfl
  refine pure_ (i := 2) (N := some 12) (v := ?_) (a' := ?_) #[true, true, true, false, false, false, false, false, false, false, false, false, false, false, false, false, false, false, false, false, false, false, false, false, false, false, false, false, false, false, false, false, false] rfl rfl (by kernel_rfl) (fun _ _ _ h => h) (Or.inl ⟨by rfl, ?_⟩) ?_ ?_
  rotate_left
  · intro w'
    go_simp
    with_reducible rfl
  rotate_left
  · simp only [Act.put, List.setIfInBounds_toArray, List.set_cons_zero, List.set_cons_succ, i64_w, i32_w]
    rfl
  refine pure_ (i := 4) (N := some 14) (v := ?_) (a' := ?_) #[true, true, true, false, true, false, false, false, false, false, false, false, false, false, false, false, false, false, false, false, false, false, false, false, false, false, false, false, false, false, false, false, false] rfl rfl (by kernel_rfl) (fun _ _ _ h => h) (Or.inl ⟨by rfl, ?_⟩) ?_ ?_
  rotate_left
  · intro w'
    go_simp
    with_reducible rfl
  rotate_left
  · simp only [Act.put, List.setIfInBounds_toArray, List.set_cons_zero, List.set_cons_succ, i64_w, i32_w]
    rfl
  refine pure_ (i := 5) (N := some 15) (v := ?_) (a' := ?_) #[true, true, true, false, true, true, false, false, false, false, false, false, false, false, false, false, false, false, false, false, false, false, false, false, false, false, false, false, false, false, false, false, false] rfl rfl (by kernel_rfl) (fun _ _ _ h => h) (Or.inl ⟨by rfl, ?_⟩) ?_ ?_
  rotate_left
  · intro w'
    go_simp
    with_reducible rfl
  rotate_left
  · simp only [Act.put, List.setIfInBounds_toArray, List.set_cons_zero, List.set_cons_succ, i64_w, i32_w]
    rfl
  refine pure_ (i := 6) (N := some 16) (v := ?_) (a' := ?_) #[true, true, true, false, true, true, true, false, false, false, false, false, false, false, false, false, false, false, false, false, false, false, false, false, false, false, false, false, false, false, false, false, false] rfl rfl (by kernel_rfl) (fun _ _ _ h => h) (Or.inl ⟨by rfl, ?_⟩) ?_ ?_
  rotate_left
  · intro w'
    go_simp
    with_reducible rfl
  rotate_left
  · simp only [Act.put, List.setIfInBounds_toArray, List.set_cons_zero, List.set_cons_succ, i64_w, i32_w]
    rfl
  refine pure_ (i := 8) (N := some 18) (v := ?_) (a' := ?_) #[true, true, true, false, true, true, true, false, true, false, false, false, false, false, false, false, false, false, false, false, false, false, false, false, false, false, false, false, false, false, false, false, false] rfl rfl (by kernel_rfl) (fun _ _ _ h => h) (Or.inl ⟨by rfl, ?_⟩) ?_ ?_
  rotate_left
  · intro w'
    go_simp
    with_reducible rfl
  rotate_left
  · simp only [Act.put, List.setIfInBounds_toArray, List.set_cons_zero, List.set_cons_succ, i64_w, i32_w]
    rfl
  refine pure_ (i := 13) (N := some 23) (v := ?_) (a' := ?_) #[true, true, true, false, true, true, true, false, true, false, false, false, false, true, false, false, false, false, false, false, false, false, false, false, false, false, false, false, false, false, false, false, false] rfl rfl (by kernel_rfl) (fun _ _ _ h => h) (Or.inl ⟨by rfl, ?_⟩) ?_ ?_
  rotate_left
  · intro w'
    go_simp
    with_reducible rfl
  rotate_left
  · simp only [Act.put, List.setIfInBounds_toArray, List.set_cons_zero, List.set_cons_succ, i64_w, i32_w]
    rfl
  refine pure_ (i := 15) (N := some 25) (v := ?_) (a' := ?_) #[true, true, true, false, true, true, true, false, true, false, false, false, false, true, false, true, false, false, false, false, false, false, false, false, false, false, false, false, false, false, false, false, false] rfl rfl (by kernel_rfl) (fun _ _ _ h => h) (Or.inl ⟨by rfl, ?_⟩) ?_ ?_
  rotate_left
  · intro w'
    go_simp
    with_reducible rfl
  rotate_left
  · simp only [Act.put, List.setIfInBounds_toArray, List.set_cons_zero, List.set_cons_succ, i64_w, i32_w]
    rfl
  refine pure_ (i := 16) (N := some 26) (v := ?_) (a' := ?_) #[true, true, true, false, true, true, true, false, true, false, false, false, false, true, false, true, true, false, false, false, false, false, false, false, false, false, false, false, false, false, false, false, false] rfl rfl (by kernel_rfl) (fun _ _ _ h => h) (Or.inl ⟨by rfl, ?_⟩) ?_ ?_
  rotate_left
  · intro w'
    go_simp
    with_reducible rfl
  rotate_left
  · simp only [Act.put, List.setIfInBounds_toArray, List.set_cons_zero, List.set_cons_succ, i64_w, i32_w]
    rfl
  refine pure_ (i := 17) (N := some 27) (v := ?_) (a' := ?_) #[true, true, true, false, true, true, true, false, true, false, false, false, false, true, false, true, true, true, false, false, false, false, false, false, false, false, false, false, false, false, false, false, false] rfl rfl (by kernel_rfl) (fun _ _ _ h => h) (Or.inl ⟨by rfl, ?_⟩) ?_ ?_
  rotate_left
  · intro w'
    go_simp
    with_reducible rfl
  rotate_left
  · simp only [Act.put, List.setIfInBounds_toArray, List.set_cons_zero, List.set_cons_succ, i64_w, i32_w]
    rfl
  refine pure_ (i := 19) (N := some 29) (v := ?_) (a' := ?_) #[true, true, true, false, true, true, true, false, true, false, false, false, false, true, false, true, true, true, false, true, false, false, false, false, false, false, false, false, false, false, false, false, false] rfl rfl (by kernel_rfl) (fun _ _ _ h => h) (Or.inl ⟨by rfl, ?_⟩) ?_ ?_
  rotate_left
  · intro w'
    go_simp
    with_reducible rfl
  rotate_left
  · simp only [Act.put, List.setIfInBounds_toArray, List.set_cons_zero, List.set_cons_succ, i64_w, i32_w]
    rfl
  refine pure_ (i := 20) (N := some 30) (v := ?_) (a' := ?_) #[true, true, true, false, true, true, true, false, true, false, false, false, false, true, false, true, true, true, false, true, true, false, false, false, false, false, false, false, false, false, false, false, false] rfl rfl (by kernel_rfl) (fun _ _ _ h => h) (Or.inl ⟨by rfl, ?_⟩) ?_ ?_
  rotate_left
  · intro w'
    go_simp
    with_reducible rfl
  rotate_left
  · simp only [Act.put, List.setIfInBounds_toArray, List.set_cons_zero, List.set_cons_succ, i64_w, i32_w]
    rfl
  refine pure_ (i := 21) (N := some 31) (v := ?_) (a' := ?_) #[true, true, true, false, true, true, true, false, true, false, false, false, false, true, false, true, true, true, false, true, true, true, false, false, false, false, false, false, false, false, false, false, false] rfl rfl (by kernel_rfl) (fun _ _ _ h => h) (Or.inl ⟨by rfl, ?_⟩) ?_ ?_
  rotate_left
  · intro w'
    go_simp
    with_reducible rfl
  rotate_left
  · simp only [Act.put, List.setIfInBounds_toArray, List.set_cons_zero, List.set_cons_succ, i64_w, i32_w]
    rfl
  refine pure_ (i := 23) (N := some 33) (v := ?_) (a' := ?_) #[true, true, true, false, true, true, true, false, true, false, false, false, false, true, false, true, true, true, false, true, true, true, false, true, false, false, false, false, false, false, false, false, false] rfl rfl (by kernel_rfl) (fun _ _ _ h => h) (Or.inl ⟨by rfl, ?_⟩) ?_ ?_
  rotate_left
  · intro w'
    go_simp
    with_reducible rfl
  rotate_left
  · simp only [Act.put, List.setIfInBounds_toArray, List.set_cons_zero, List.set_cons_succ, i64_w, i32_w]
    rfl
  refine pure_ (i := 28) (N := some 38) (v := ?_) (a' := ?_) #[true, true, true, false, true, true, true, false, true, false, false, false, false, true, false, true, true, true, false, true, true, true, false, true, false, false, false, false, true, false, false, false, false] rfl rfl (by kernel_rfl) (fun _ _ _ h => h) (Or.inl ⟨by rfl, ?_⟩) ?_ ?_
  rotate_left
  · intro w'
    go_simp
    with_reducible rfl
  rotate_left
  · simp only [Act.put, List.setIfInBounds_toArray, List.set_cons_zero, List.set_cons_succ, i64_w, i32_w]
    rfl
  refine take_ (i := 3) (N := some 13) (v := ?_) (a' := ?_) #[true, true, true, true, true, true, true, false, true, false, false, false, false, true, false, true, true, true, false, true, true, true, false, true, false, false, false, false, true, false, false, false, false] rfl rfl (by kernel_rfl) (fun _ _ _ h => h) (Or.inl ⟨by rfl, ?_⟩) hHeld ?_ ?_
  rotate_left
  · rintro w' ⟨s0, s1, s2, s3, s4, s5⟩
    go_simp
    with_reducible rfl
  rotate_left
  · simp only [Act.put, List.setIfInBounds_toArray, List.set_cons_zero, List.set_cons_succ, i64_w, i32_w]
    rfl
  refine take_ (i := 7) (N := some 17) (v := ?_) (a' := ?_) #[true, true, true, true, true, true, true, true, true, false, false, false, false, true, false, true, true, true, false, true, true, true, false, true, false, false, false, false, true, false, false, false, false] rfl rfl (by kernel_rfl) (fun _ _ _ h => h) (Or.inl ⟨by rfl, ?_⟩) hHeld ?_ ?_
  rotate_left
  · rintro w' ⟨s0, s1, s2, s3, s4, s5⟩
    go_simp
    with_reducible rfl
  rotate_left
  · simp only [Act.put, List.setIfInBounds_toArray, List.set_cons_zero, List.set_cons_succ, i64_w, i32_w]
    rfl
  refine pure_ (i := 9) (N := some 19) (v := ?_) (a' := ?_) #[true, true, true, true, true, true, true, true, true, true, false, false, false, true, false, true, true, true, false, true, true, true, false, true, false, false, false, false, true, false, false, false, false] rfl rfl (by kernel_rfl) (fun _ _ _ h => h) (Or.inl ⟨by rfl, ?_⟩) ?_ ?_
  rotate_left
  · intro w'
    go_simp
    with_reducible rfl
  rotate_left
  · simp only [Act.put, List.setIfInBounds_toArray, List.set_cons_zero, List.set_cons_succ, i64_w, i32_w]
    rfl
  refine pure_ (i := 10) (N := some 20) (v := ?_) (a' := ?_) #[true, true, true, true, true, true, true, true, true, true, true, false, false, true, false, true, true, true, false, true, true, true, false, true, false, false, false, false, true, false, false, false, false] rfl rfl (by kernel_rfl) (fun _ _ _ h => h) (Or.inl ⟨by rfl, ?_⟩) ?_ ?_
  rotate_left
  · intro w'
    go_simp
    with_reducible rfl
  rotate_left
  · simp only [Act.put, List.setIfInBounds_toArray, List.set_cons_zero, List.set_cons_succ, i64_w, i32_w]
    rfl
  refine pure_ (i := 11) (N := some 21) (v := ?_) (a' := ?_) #[true, true, true, true, true, true, true, true, true, true, true, true, false, true, false, true, true, true, false, true, true, true, false, true, false, false, false, false, true, false, false, false, false] rfl rfl (by kernel_rfl) (fun _ _ _ h => h) (Or.inl ⟨by rfl, ?_⟩) ?_ ?_
  rotate_left
  · intro w'
    go_simp
    with_reducible rfl
  rotate_left
  · simp only [Act.put, List.setIfInBounds_toArray, List.set_cons_zero, List.set_cons_succ, i64_w, i32_w]
    rfl
  refine take_ (i := 12) (N := some 22) (v := ?_) (a' := ?_) #[true, true, true, true, true, true, true, true, true, true, true, true, true, true, false, true, true, true, false, true, true, true, false, true, false, false, false, false, true, false, false, false, false] rfl rfl (by kernel_rfl) (fun _ _ _ h => h) (Or.inl ⟨by rfl, ?_⟩) hHeld ?_ ?_
  rotate_left
  · rintro w' ⟨s0, s1, s2, s3, s4, s5⟩
    refine run_load_at (x := .tmp 21) (b := g) (o := at_ * 66) (S := P) ?_ ?_ s4 <;> rfl
  rotate_left
  · simp only [Act.put, List.setIfInBounds_toArray, List.set_cons_zero, List.set_cons_succ, i64_w, i32_w]
    rfl
  refine take_ (i := 18) (N := some 28) (v := ?_) (a' := ?_) #[true, true, true, true, true, true, true, true, true, true, true, true, true, true, false, true, true, true, true, true, true, true, false, true, false, false, false, false, true, false, false, false, false] rfl rfl (by kernel_rfl) (fun _ _ _ h => h) (Or.inl ⟨by rfl, ?_⟩) hHeld ?_ ?_
  rotate_left
  · rintro w' ⟨s0, s1, s2, s3, s4, s5⟩
    go_simp
    with_reducible rfl
  rotate_left
  · simp only [Act.put, List.setIfInBounds_toArray, List.set_cons_zero, List.set_cons_succ, i64_w, i32_w]
    rfl
  refine take_ (i := 22) (N := some 32) (v := ?_) (a' := ?_) #[true, true, true, true, true, true, true, true, true, true, true, true, true, true, false, true, true, true, true, true, true, true, true, true, false, false, false, false, true, false, false, false, false] rfl rfl (by kernel_rfl) (fun _ _ _ h => h) (Or.inl ⟨by rfl, ?_⟩) hHeld ?_ ?_
  rotate_left
  · rintro w' ⟨s0, s1, s2, s3, s4, s5⟩
    go_simp
    with_reducible rfl
  rotate_left
  · simp only [Act.put, List.setIfInBounds_toArray, List.set_cons_zero, List.set_cons_succ, i64_w, i32_w]
    rfl
  refine pure_ (i := 24) (N := some 34) (v := ?_) (a' := ?_) #[true, true, true, true, true, true, true, true, true, true, true, true, true, true, false, true, true, true, true, true, true, true, true, true, true, false, false, false, true, false, false, false, false] rfl rfl (by kernel_rfl) (fun _ _ _ h => h) (Or.inl ⟨by rfl, ?_⟩) ?_ ?_
  rotate_left
  · intro w'
    go_simp
    with_reducible rfl
  rotate_left
  · simp only [Act.put, List.setIfInBounds_toArray, List.set_cons_zero, List.set_cons_succ, i64_w, i32_w]
    rfl
  refine pure_ (i := 25) (N := some 35) (v := ?_) (a' := ?_) #[true, true, true, true, true, true, true, true, true, true, true, true, true, true, false, true, true, true, true, true, true, true, true, true, true, true, false, false, true, false, false, false, false] rfl rfl (by kernel_rfl) (fun _ _ _ h => h) (Or.inl ⟨by rfl, ?_⟩) ?_ ?_
  rotate_left
  · intro w'
    go_simp
    with_reducible rfl
  rotate_left
  · simp only [Act.put, List.setIfInBounds_toArray, List.set_cons_zero, List.set_cons_succ, i64_w, i32_w]
    rfl
  refine pure_ (i := 26) (N := some 36) (v := ?_) (a' := ?_) #[true, true, true, true, true, true, true, true, true, true, true, true, true, true, false, true, true, true, true, true, true, true, true, true, true, true, true, false, true, false, false, false, false] rfl rfl (by kernel_rfl) (fun _ _ _ h => h) (Or.inl ⟨by rfl, ?_⟩) ?_ ?_
  rotate_left
  · intro w'
    go_simp
    with_reducible rfl
  rotate_left
  · simp only [Act.put, List.setIfInBounds_toArray, List.set_cons_zero, List.set_cons_succ, i64_w, i32_w]
    rfl
  refine take_ (i := 27) (N := some 37) (v := ?_) (a' := ?_) #[true, true, true, true, true, true, true, true, true, true, true, true, true, true, false, true, true, true, true, true, true, true, true, true, true, true, true, true, true, false, false, false, false] rfl rfl (by kernel_rfl) (fun _ _ _ h => h) (Or.inl ⟨by rfl, ?_⟩) hHeld ?_ ?_
  rotate_left
  · rintro w' ⟨s0, s1, s2, s3, s4, s5⟩
    refine run_load_at (x := .tmp 36) (b := g) (o := at_ * 66 + 32) (S := Q) ?_ ?_ s5 <;> rfl
  rotate_left
  · simp only [Act.put, List.setIfInBounds_toArray, List.set_cons_zero, List.set_cons_succ, i64_w, i32_w]
    rfl
  refine join_ (σ := Nat) 1 #[true, true, true, true, true, true, true, true, true, true, true, true, true, true, true, true, true, true, true, true, true, true, true, true, true, true, true, true, true, true, true, true, false] (fun s => [(24, .agg (encSet A').toArray), (39, .agg (encSet B').toArray), (8, .pointer (some ⟨s, 0, none⟩)), (40, .agg (encP A' B').toArray)]) (fun s w' => V.heap.size ≤ s ∧ PairAt w' s noS noS ∧ Below V.heap.size V w') ?_ ?_
  rotate_left
  · intro hCont
    refine two_ (i := 14) (j := 31) (Ni := some 24) (Nj := some 8) #[true, true, true, true, true, true, true, true, true, true, true, true, true, true, true, true, true, true, true, true, true, true, true, true, true, true, true, true, true, false, false, false, false] #[true, true, true, true, true, true, true, true, true, true, true, true, true, true, false, true, true, true, true, true, true, true, true, true, true, true, true, true, true, false, false, true, false] rfl rfl rfl rfl (by kernel_rfl) (by decide) (by decide) (fun K hK => ?_) (fun K hK => ?_)
    · skip
      refine goes_ Try.func77 (by kernel_rfl) rfl #[.agg #[.int .i64 (n : Int), .slice A1 ls.length c1, .slice A2 es.length c2], .agg (encSet P).toArray, .int .i64 (lab : Int)] (by rfl) rfl rfl (by simp only [List.map_toArray, List.map_cons, List.map_nil]; rfl) ?_
      refine (HC1.out _ HV.out).mono ?_
      rintro e w3 ⟨rfl, hB⟩
      refine ⟨_, rfl, ?_⟩
      have hB' := hB
      have HVa := Aside0.mk (below_then HV.out HV.out.size hB)
      have hBf := Aside0.mk hB
      clear hB hB'
      refine hK.out _ _ ⟨later hBf.out hHeld.1, later hBf.out hHeld.2.1, later hBf.out hHeld.2.2.1, later hBf.out hHeld.2.2.2.1, range_later hBf.out hHeld.2.2.2.2.1, range_later hBf.out hHeld.2.2.2.2.2⟩ (fun hHeld => ?_)
      clear hK K
      refine norm_ (a' := ?_) ?_ ?_
      rotate_left
      · show Act.put _ (some 24) _ = _
        simp only [Act.put, List.setIfInBounds_toArray, List.set_cons_zero, List.set_cons_succ, i64_w, i32_w]
        rfl
      refine two_ (i := 29) (j := 31) (Ni := some 39) (Nj := some 8) #[true, true, true, true, true, true, true, true, true, true, true, true, true, true, true, true, true, true, true, true, true, true, true, true, true, true, true, true, true, true, false, false, false] #[true, true, true, true, true, true, true, true, true, true, true, true, true, true, true, true, true, true, true, true, true, true, true, true, true, true, true, true, true, false, false, true, false] rfl rfl rfl rfl (by kernel_rfl) (by decide) (by decide) (fun K hK => ?_) (fun K hK => ?_)
      · skip
        refine goes_ Try.func77 (by kernel_rfl) rfl #[.agg #[.int .i64 (n : Int), .slice A1 ls.length c1, .slice A2 es.length c2], .agg (encSet Q).toArray, .int .i64 (lab : Int)] (by rfl) rfl rfl (by simp only [List.map_toArray, List.map_cons, List.map_nil]; rfl) ?_
        refine (HC2.out _ HVa.out).mono ?_
        rintro e w3 ⟨rfl, hB⟩
        refine ⟨_, rfl, ?_⟩
        have hB' := hB
        have HVb := Aside0.mk (below_then HVa.out HVa.out.size hB)
        have hBf := Aside0.mk hB
        clear hB hB'
        refine hK.out _ _ ⟨later hBf.out hHeld.1, later hBf.out hHeld.2.1, later hBf.out hHeld.2.2.1, later hBf.out hHeld.2.2.2.1, range_later hBf.out hHeld.2.2.2.2.1, range_later hBf.out hHeld.2.2.2.2.2⟩ (fun hHeld => ?_)
        clear hK K
        refine norm_ (a' := ?_) ?_ ?_
        rotate_left
        · show Act.put _ (some 39) _ = _
          simp only [Act.put, List.setIfInBounds_toArray, List.set_cons_zero, List.set_cons_succ, i64_w, i32_w]
          rfl
        refine pure_ (i := 30) (N := some 40) (v := ?_) (a' := ?_) #[true, true, true, true, true, true, true, true, true, true, true, true, true, true, true, true, true, true, true, true, true, true, true, true, true, true, true, true, true, true, true, false, false] rfl rfl (by kernel_rfl) (fun _ _ _ h => h) (Or.inl ⟨by rfl, ?_⟩) ?_ ?_
        rotate_left
        · intro w'
          refine run_built_pair (x := .tmp 24) (y := .tmp 39) (A := A') (B := B') ?_ ?_ ?_ <;> rfl
        rotate_left
        · simp only [Act.put, List.setIfInBounds_toArray, List.set_cons_zero, List.set_cons_succ, i64_w, i32_w]
          rfl
        refine one_ (i := 31) (N := some 8) #[true, true, true, true, true, true, true, true, true, true, true, true, true, true, true, true, true, true, true, true, true, true, true, true, true, true, true, true, true, true, true, true, false] rfl rfl (by kernel_rfl) (by decide) (fun K hK => ?_)
        refine value_ (w1 := ?_) (v := ?_) (by rfl) rfl ?_ ?_
        rotate_left 2
        · refine run_alloc_pair ?_; rfl
        have HVc := Aside0.mk (below_alloc HVb.out (Obj.cells (encP noS noS).toArray 118))
        have HVcP := Aside0.mk (pair_new HVb.out)
        refine hK.out _ _ ⟨later (below_alloc (Below.refl _ _) _) hHeld.1, later (below_alloc (Below.refl _ _) _) hHeld.2.1, later (below_alloc (Below.refl _ _) _) hHeld.2.2.1, later (below_alloc (Below.refl _ _) _) hHeld.2.2.2.1, range_later (below_alloc (Below.refl _ _) _) hHeld.2.2.2.2.1, range_later (below_alloc (Below.refl _ _) _) hHeld.2.2.2.2.2⟩ (fun hHeld => ?_)
        clear hK K
        refine norm_ (a' := ?_) ?_ ?_
        rotate_left
        · show Act.put _ (some 8) _ = _
          simp only [Act.put, List.setIfInBounds_toArray, List.set_cons_zero, List.set_cons_succ, i64_w, i32_w]
          rfl
        exact norm_ (by simp only [putAll, Act.put, List.setIfInBounds_toArray, List.set_cons_zero, List.set_cons_succ]) (hCont _ _ ⟨HVcP.out.2, HVcP.out.1, HVc.out⟩)
      · skip
        refine value_ (w1 := ?_) (v := ?_) (by rfl) rfl ?_ ?_
        rotate_left 2
        · refine run_alloc_pair ?_; rfl
        have HVb := Aside0.mk (below_alloc HVa.out (Obj.cells (encP noS noS).toArray 118))
        have HVbP := Aside0.mk (pair_new HVa.out)
        refine hK.out _ _ ⟨later (below_alloc (Below.refl _ _) _) hHeld.1, later (below_alloc (Below.refl _ _) _) hHeld.2.1, later (below_alloc (Below.refl _ _) _) hHeld.2.2.1, later (below_alloc (Below.refl _ _) _) hHeld.2.2.2.1, range_later (below_alloc (Below.refl _ _) _) hHeld.2.2.2.2.1, range_later (below_alloc (Below.refl _ _) _) hHeld.2.2.2.2.2⟩ (fun hHeld => ?_)
        clear hK K
        refine norm_ (a' := ?_) ?_ ?_
        rotate_left
        · show Act.put _ (some 8) _ = _
          simp only [Act.put, List.setIfInBounds_toArray, List.set_cons_zero, List.set_cons_succ, i64_w, i32_w]
          rfl
        refine one_ (i := 29) (N := some 39) #[true, true, true, true, true, true, true, true, true, true, true, true, true, true, true, true, true, true, true, true, true, true, true, true, true, true, true, true, true, true, false, true, false] rfl rfl (by kernel_rfl) (by decide) (fun K hK => ?_)
        refine goes_ Try.func77 (by kernel_rfl) rfl #[.agg #[.int .i64 (n : Int), .slice A1 ls.length c1, .slice A2 es.length c2], .agg (encSet Q).toArray, .int .i64 (lab : Int)] (by rfl) rfl rfl (by simp only [List.map_toArray, List.map_cons, List.map_nil]; rfl) ?_
        refine (HC2.out _ HVb.out).mono ?_
        rintro e w3 ⟨rfl, hB⟩
        refine ⟨_, rfl, ?_⟩
        have hB' := hB
        have HVc := Aside0.mk (below_then HVb.out HVb.out.size hB)
        have HVcP := Aside0.mk (And.intro (HVbP.out.1.below hB) HVbP.out.2)
        have hBf := Aside0.mk hB
        clear hB hB'
        refine hK.out _ _ ⟨later hBf.out hHeld.1, later hBf.out hHeld.2.1, later hBf.out hHeld.2.2.1, later hBf.out hHeld.2.2.2.1, range_later hBf.out hHeld.2.2.2.2.1, range_later hBf.out hHeld.2.2.2.2.2⟩ (fun hHeld => ?_)
        clear hK K
        refine norm_ (a' := ?_) ?_ ?_
        rotate_left
        · show Act.put _ (some 39) _ = _
          simp only [Act.put, List.setIfInBounds_toArray, List.set_cons_zero, List.set_cons_succ, i64_w, i32_w]
          rfl
        refine pure_ (i := 30) (N := some 40) (v := ?_) (a' := ?_) #[true, true, true, true, true, true, true, true, true, true, true, true, true, true, true, true, true, true, true, true, true, true, true, true, true, true, true, true, true, true, true, true, false] rfl rfl (by kernel_rfl) (fun _ _ _ h => h) (Or.inl ⟨by rfl, ?_⟩) ?_ ?_
        rotate_left
        · intro w'
          refine run_built_pair (x := .tmp 24) (y := .tmp 39) (A := A') (B := B') ?_ ?_ ?_ <;> rfl
        rotate_left
        · simp only [Act.put, List.setIfInBounds_toArray, List.set_cons_zero, List.set_cons_succ, i64_w, i32_w]
          rfl
        exact norm_ (by simp only [putAll, Act.put, List.setIfInBounds_toArray, List.set_cons_zero, List.set_cons_succ]) (hCont _ _ ⟨HVcP.out.2, HVcP.out.1, HVc.out⟩)
    · skip
      refine value_ (w1 := ?_) (v := ?_) (by rfl) rfl ?_ ?_
      rotate_left 2
      · refine run_alloc_pair ?_; rfl
      have HVa := Aside0.mk (below_alloc HV.out (Obj.cells (encP noS noS).toArray 118))
      have HVaP := Aside0.mk (pair_new HV.out)
      refine hK.out _ _ ⟨later (below_alloc (Below.refl _ _) _) hHeld.1, later (below_alloc (Below.refl _ _) _) hHeld.2.1, later (below_alloc (Below.refl _ _) _) hHeld.2.2.1, later (below_alloc (Below.refl _ _) _) hHeld.2.2.2.1, range_later (below_alloc (Below.refl _ _) _) hHeld.2.2.2.2.1, range_later (below_alloc (Below.refl _ _) _) hHeld.2.2.2.2.2⟩ (fun hHeld => ?_)
      clear hK K
      refine norm_ (a' := ?_) ?_ ?_
      rotate_left
      · show Act.put _ (some 8) _ = _
        simp only [Act.put, List.setIfInBounds_toArray, List.set_cons_zero, List.set_cons_succ, i64_w, i32_w]
        rfl
      refine one_ (i := 14) (N := some 24) #[true, true, true, true, true, true, true, true, true, true, true, true, true, true, true, true, true, true, true, true, true, true, true, true, true, true, true, true, true, false, false, true, false] rfl rfl (by kernel_rfl) (by decide) (fun K hK => ?_)
      refine goes_ Try.func77 (by kernel_rfl) rfl #[.agg #[.int .i64 (n : Int), .slice A1 ls.length c1, .slice A2 es.length c2], .agg (encSet P).toArray, .int .i64 (lab : Int)] (by rfl) rfl rfl (by simp only [List.map_toArray, List.map_cons, List.map_nil]; rfl) ?_
      refine (HC1.out _ HVa.out).mono ?_
      rintro e w3 ⟨rfl, hB⟩
      refine ⟨_, rfl, ?_⟩
      have hB' := hB
      have HVb := Aside0.mk (below_then HVa.out HVa.out.size hB)
      have HVbP := Aside0.mk (And.intro (HVaP.out.1.below hB) HVaP.out.2)
      have hBf := Aside0.mk hB
      clear hB hB'
      refine hK.out _ _ ⟨later hBf.out hHeld.1, later hBf.out hHeld.2.1, later hBf.out hHeld.2.2.1, later hBf.out hHeld.2.2.2.1, range_later hBf.out hHeld.2.2.2.2.1, range_later hBf.out hHeld.2.2.2.2.2⟩ (fun hHeld => ?_)
      clear hK K
      refine norm_ (a' := ?_) ?_ ?_
      rotate_left
      · show Act.put _ (some 24) _ = _
        simp only [Act.put, List.setIfInBounds_toArray, List.set_cons_zero, List.set_cons_succ, i64_w, i32_w]
        rfl
      refine one_ (i := 29) (N := some 39) #[true, true, true, true, true, true, true, true, true, true, true, true, true, true, true, true, true, true, true, true, true, true, true, true, true, true, true, true, true, true, false, true, false] rfl rfl (by kernel_rfl) (by decide) (fun K hK => ?_)
      refine goes_ Try.func77 (by kernel_rfl) rfl #[.agg #[.int .i64 (n : Int), .slice A1 ls.length c1, .slice A2 es.length c2], .agg (encSet Q).toArray, .int .i64 (lab : Int)] (by rfl) rfl rfl (by simp only [List.map_toArray, List.map_cons, List.map_nil]; rfl) ?_
      refine (HC2.out _ HVb.out).mono ?_
      rintro e w3 ⟨rfl, hB⟩
      refine ⟨_, rfl, ?_⟩
      have hB' := hB
      have HVc := Aside0.mk (below_then HVb.out HVb.out.size hB)
      have HVcP := Aside0.mk (And.intro (HVbP.out.1.below hB) HVbP.out.2)
      have hBf := Aside0.mk hB
      clear hB hB'
      refine hK.out _ _ ⟨later hBf.out hHeld.1, later hBf.out hHeld.2.1, later hBf.out hHeld.2.2.1, later hBf.out hHeld.2.2.2.1, range_later hBf.out hHeld.2.2.2.2.1, range_later hBf.out hHeld.2.2.2.2.2⟩ (fun hHeld => ?_)
      clear hK K
      refine norm_ (a' := ?_) ?_ ?_
      rotate_left
      · show Act.put _ (some 39) _ = _
        simp only [Act.put, List.setIfInBounds_toArray, List.set_cons_zero, List.set_cons_succ, i64_w, i32_w]
        rfl
      refine pure_ (i := 30) (N := some 40) (v := ?_) (a' := ?_) #[true, true, true, true, true, true, true, true, true, true, true, true, true, true, true, true, true, true, true, true, true, true, true, true, true, true, true, true, true, true, true, true, false] rfl rfl (by kernel_rfl) (fun _ _ _ h => h) (Or.inl ⟨by rfl, ?_⟩) ?_ ?_
      rotate_left
      · intro w'
        refine run_built_pair (x := .tmp 24) (y := .tmp 39) (A := A') (B := B') ?_ ?_ ?_ <;> rfl
      rotate_left
      · simp only [Act.put, List.setIfInBounds_toArray, List.set_cons_zero, List.set_cons_succ, i64_w, i32_w]
        rfl
      exact norm_ (by simp only [putAll, Act.put, List.setIfInBounds_toArray, List.set_cons_zero, List.set_cons_succ]) (hCont _ _ ⟨HVcP.out.2, HVcP.out.1, HVc.out⟩)
  rintro s w4 ⟨hs1, hs2, hs3⟩
  have hHeld := hold_later hs3 HHold.out
  have HF1 := Aside0.mk hs1
  have HF2 := Aside0.mk hs2
  have HF3 := Aside0.mk hs3
  clear hs1 hs2 hs3
  refine norm_ (a' := ?_) ?_ ?_
  rotate_left
  · simp only [putAll, Act.put, List.setIfInBounds_toArray, List.set_cons_zero, List.set_cons_succ]
    rfl
  refine last_ (i := 32) (N := none) #[true, true, true, true, true, true, true, true, true, true, true, true, true, true, true, true, true, true, true, true, true, true, true, true, true, true, true, true, true, true, true, true, true] rfl rfl (by kernel_rfl) (by decide) (fun K hK => ?_)
  refine skip_ (w1 := ?_) (by rfl) rfl ?_ ?_
  rotate_left
  · refine run_store_pair (x := .tmp 8) (y := .tmp 40) (b := s) (A := A') (B := B') ?_ ?_ ?_ HF2.out.there <;> rfl
  refine hK.out _ _ ?_
  clear hK K
  refine done_ (by kernel_rfl) ?_
  have HF4 := Aside0.mk (HF2.out.store A' B')
  have HF5 := Aside0.mk (below_setCells HF3.out 0 (encP A' B') HF1.out)
  have HSr := Aside0.mk (show s ≠ w.heap.size by have h1 := HF1.out; have h2 := (Array.getElem?_eq_some_iff.1 HR2c.out).1; omega)
  clear HC1 HC2 HHold hHeld HF2 HF3 HV
  have HS5 := Aside0.mk (HS2.out.on HF5.out)
  have HR5 := Aside0.mk (show WordAt (w4.setCells s 0 (encP A' B')) w.heap.size (.int .i64 0) (.slice none 0 0) from blk_below HR2c.out HF5.out)
  have HB5 := Aside0.mk (below_then HB2.out HB2.out.size HF5.out)
  clear HS2 HR2c HB2 HF5 HF1 HS1 HB1 HR1c HPa HPb
  generalize (w4.setCells s 0 (encP A' B')) = V5 at HF4 HS5 HR5 HB5 ⊢
  have hsl : s < V5.heap.size := (Array.getElem?_eq_some_iff.1 HF4.out).1
  have HZ6 := Aside0.mk (set_new V5 V5.heap.size noS rfl)
  have HZ7 := Aside0.mk (HZ6.out.store noS)
  have hB7 : Below V5.heap.size V5 ((V5.alloc (Obj.cells (encSet noS).toArray 107)).setCells V5.heap.size 0 (encSet noS)) := below_setCells (below_alloc (Below.refl _ _) _) 0 _ (Nat.le_refl _)
  have HP7 := Aside0.mk (HF4.out.below hB7)
  have HS7 := Aside0.mk (HS5.out.on hB7)
  have HR7 := Aside0.mk (show WordAt ((V5.alloc (Obj.cells (encSet noS).toArray 107)).setCells V5.heap.size 0 (encSet noS)) w.heap.size (.int .i64 0) (.slice none 0 0) from blk_below HR5.out hB7)
  have HB7 := Aside0.mk (below_then HB5.out HB5.out.size hB7)
  have HEA := Aside0.mk (fun W b hb => eqSet A' noS W b hb)
  have HEB := Aside0.mk (fun W b hb => eqSet B' noS W b hb)
  have HGA : encSet A' = encSet noS ↔ nextL n es f.a lab = [] := by rw [HAm.out]; exact good_set hn' (good_next _ _ _ _)
  have HGB : encSet B' = encSet noS ↔ nextL n es f.b lab = [] := by rw [HBm.out]; exact good_set hn' (good_next _ _ _ _)
  clear hB7 HS5 HB5 HR5 HF4
  by_cases hca : nextL n es f.a lab = [] <;> by_cases hcb : nextL n es f.b lab = []
  · -- none of both
    have HEA := Aside0.mk (show ∀ W, (Op.equalIn 10000 107 (.agg (encSet A').toArray) (.agg (encSet noS).toArray)).run Try.prog W = .ok true W from fun W => HEA.out W true (by rw [HGA]; simp [hca]))
    have HEB := Aside0.mk (show ∀ W, (Op.equalIn 10000 107 (.agg (encSet B').toArray) (.agg (encSet noS).toArray)).run Try.prog W = .ok true W from fun W => HEB.out W true (by rw [HGB]; simp [hcb]))
    have HQ := Aside0.mk (show R = (none, all) by
      rw [HRd.out]
      unfold stepW
      simp only
      rw [← HFd.out]
      simp [hca, hcb])
    clear hca hcb HGA HGB
    go_wp2_with (first
        | (refine wpList_value (by rfl) (run_zero_set (by rfl)) ?_)
        | (refine wpList_value (by rfl) (run_alloc_set (by rfl)) ?_)
        | (refine wpList_skip (by rfl) (by rfl) (run_store_set (x := .tmp 9) (y := .tmp 41) (b := V5.heap.size) (S := noS) (by rfl) (by rfl) (by rfl) HZ6.out.there) ?_; generalize ((V5.alloc (Obj.cells (encSet noS).toArray 107)).setCells V5.heap.size 0 (encSet noS)) = W7 at *; generalize V5.heap.size = z at *)
        | (refine wpList_value (by rfl) (run_load_at (x := .tmp 43) (b := s) (o := 0) (S := A') (by rfl) (by rfl) HP7.out.a) ?_)
        | (refine wpList_value (by rfl) (run_load_at (x := .tmp 9) (b := z) (o := 0) (S := noS) (by rfl) (by rfl) HZ7.out.range) ?_)
        | (refine wpList_value (by rfl) (run_load_at (x := .tmp 48) (b := s) (o := 32) (S := B') (by rfl) (by rfl) HP7.out.b) ?_)
        | (refine wpList_value (by rfl) (run_load_at (x := .tmp 55) (b := s) (o := 32) (S := B') (by rfl) (by rfl) HP7.out.b) ?_)
        | (refine wpList_value (by rfl) (run_load_at (x := .tmp 65) (b := s) (o := 0) (S := A') (by rfl) (by rfl) HP7.out.a) ?_)
        | (refine wpList_value (by rfl) (run_eq_set (x := .tmp 44) (y := .tmp 45) (A := A') (B := noS) (r := true) (by rfl) (by rfl) (by rfl) (HEA.out _)) ?_)
        | (refine wpList_value (by rfl) (run_eq_set (x := .tmp 49) (y := .tmp 50) (A := B') (B := noS) (r := true) (by rfl) (by rfl) (by rfl) (HEB.out _)) ?_)
        | (refine wpList_value (by rfl) (run_eq_set (x := .tmp 56) (y := .tmp 57) (A := B') (B := noS) (r := true) (by rfl) (by rfl) (by rfl) (HEB.out _)) ?_)
        | (refine wpList_value (by rfl) (run_eq_set (x := .tmp 66) (y := .tmp 67) (A := A') (B := noS) (r := true) (by rfl) (by rfl) (by rfl) (HEA.out _)) ?_)
        | (refine wpList_value (by rfl) (run_load_pair (x := .tmp 8) (b := s) (A := A') (B := B') (by rfl) (by rfl) HP7.out.range) ?_)
        | (refine wpList_skip (by rfl) (by rfl) (run_store_word (x := .tmp 6) (y := .tmp 53) (b := w.heap.size) (k := .int .i64 0) (v := .slice none 0 0) (by rfl) (by rfl) (by rfl) HR7.out.there rfl rfl) ?_))
    refine bodyPost_ret (results_word rfl _ _ w.heap.size (.int .i64 0) (.slice none 0 0) rfl (HR7.out.store _ _)) rfl ?_
    rw [HQ.out]
    unfold StepPost
    refine ⟨rfl, ⟨_, HS7.out.frame (grown_setCells _ _ _) ?_ ?_ ?_⟩, Ks.fresh (Ks.of_below HB7.out HS0.out.size) (Nat.le_refl _) HS0.out.size (grown_setCells _ _ _)⟩
    · exact Nat.ne_of_lt HS0.out.lt
    · exact Nat.ne_of_lt HS0.out.map.lt
    · exact Kd.R_ne HS7.out.row HR7.out (by decide)
  · -- just the second
    have HEA := Aside0.mk (show ∀ W, (Op.equalIn 10000 107 (.agg (encSet A').toArray) (.agg (encSet noS).toArray)).run Try.prog W = .ok true W from fun W => HEA.out W true (by rw [HGA]; simp [hca]))
    have HEB := Aside0.mk (show ∀ W, (Op.equalIn 10000 107 (.agg (encSet B').toArray) (.agg (encSet noS).toArray)).run Try.prog W = .ok false W from fun W => HEB.out W false (by rw [HGB]; simp [hcb]))
    have HQ := Aside0.mk (show R = (some (2, wordF ls all at_ lab), all) by
      rw [HRd.out]
      unfold stepW
      simp only
      rw [← HFd.out]
      simp [hca, hcb])
    clear hca hcb HGA HGB
    go_wp2_with (first
        | (refine wpList_value (by rfl) (run_zero_set (by rfl)) ?_)
        | (refine wpList_value (by rfl) (run_alloc_set (by rfl)) ?_)
        | (refine wpList_skip (by rfl) (by rfl) (run_store_set (x := .tmp 9) (y := .tmp 41) (b := V5.heap.size) (S := noS) (by rfl) (by rfl) (by rfl) HZ6.out.there) ?_; generalize ((V5.alloc (Obj.cells (encSet noS).toArray 107)).setCells V5.heap.size 0 (encSet noS)) = W7 at *; generalize V5.heap.size = z at *)
        | (refine wpList_value (by rfl) (run_load_at (x := .tmp 43) (b := s) (o := 0) (S := A') (by rfl) (by rfl) HP7.out.a) ?_)
        | (refine wpList_value (by rfl) (run_load_at (x := .tmp 9) (b := z) (o := 0) (S := noS) (by rfl) (by rfl) HZ7.out.range) ?_)
        | (refine wpList_value (by rfl) (run_load_at (x := .tmp 48) (b := s) (o := 32) (S := B') (by rfl) (by rfl) HP7.out.b) ?_)
        | (refine wpList_value (by rfl) (run_load_at (x := .tmp 55) (b := s) (o := 32) (S := B') (by rfl) (by rfl) HP7.out.b) ?_)
        | (refine wpList_value (by rfl) (run_load_at (x := .tmp 65) (b := s) (o := 0) (S := A') (by rfl) (by rfl) HP7.out.a) ?_)
        | (refine wpList_value (by rfl) (run_eq_set (x := .tmp 44) (y := .tmp 45) (A := A') (B := noS) (r := true) (by rfl) (by rfl) (by rfl) (HEA.out _)) ?_)
        | (refine wpList_value (by rfl) (run_eq_set (x := .tmp 49) (y := .tmp 50) (A := B') (B := noS) (r := false) (by rfl) (by rfl) (by rfl) (HEB.out _)) ?_)
        | (refine wpList_value (by rfl) (run_eq_set (x := .tmp 56) (y := .tmp 57) (A := B') (B := noS) (r := false) (by rfl) (by rfl) (by rfl) (HEB.out _)) ?_)
        | (refine wpList_value (by rfl) (run_eq_set (x := .tmp 66) (y := .tmp 67) (A := A') (B := noS) (r := true) (by rfl) (by rfl) (by rfl) (HEA.out _)) ?_)
        | (refine wpList_value (by rfl) (run_load_pair (x := .tmp 8) (b := s) (A := A') (B := B') (by rfl) (by rfl) HP7.out.range) ?_))
    refine (word_any base x m n ls A1 c1 _ _ all at_ lab W7 HS7.out (Kd.C_below HR1.out HB7.out) HW.out hat hlab hl).mono ?_
    rintro e w8 ⟨vw, rfl, hRw, hBw⟩
    have HRw := Aside0.mk (Kd.R_lower hRw HB7.out.size)
    have HR8 := Aside0.mk (show WordAt w8 w.heap.size (.int .i64 0) (.slice none 0 0) from blk_below HR7.out hBw)
    have HB8 := Aside0.mk (below_then HB7.out HB7.out.size hBw)
    obtain ⟨Aw, cw, hvw⟩ := Kd.R_slice HRw.out
    subst hvw
    clear hRw hBw
    go_wp2_with (first
        | (refine wpList_skip (by rfl) (by rfl) (run_store_word (x := .tmp 6) (y := .tmp 73) (b := w.heap.size) (k := .int .i64 2) (v := .slice Aw (wordF ls all at_ lab).length cw) (by rfl) (by rfl) (by rfl) HR8.out.there rfl rfl) ?_))
    refine bodyPost_ret (results_word rfl _ _ w.heap.size (.int .i64 2) (.slice Aw (wordF ls all at_ lab).length cw) rfl (HR8.out.store _ _)) rfl ?_
    rw [HQ.out]
    unfold StepPost
    refine ⟨_, rfl, Kd.R_grown1 HRw.out rfl (grown_setCells _ _ _) ?_, below_setCells HB8.out 0 _ (Nat.le_refl _)⟩
    exact Kd.R_ne HRw.out HR8.out (by decide)
  · -- just the first
    have HEA := Aside0.mk (show ∀ W, (Op.equalIn 10000 107 (.agg (encSet A').toArray) (.agg (encSet noS).toArray)).run Try.prog W = .ok false W from fun W => HEA.out W false (by rw [HGA]; simp [hca]))
    have HEB := Aside0.mk (show ∀ W, (Op.equalIn 10000 107 (.agg (encSet B').toArray) (.agg (encSet noS).toArray)).run Try.prog W = .ok true W from fun W => HEB.out W true (by rw [HGB]; simp [hcb]))
    have HQ := Aside0.mk (show R = (some (1, wordF ls all at_ lab), all) by
      rw [HRd.out]
      unfold stepW
      simp only
      rw [← HFd.out]
      simp [hca, hcb])
    clear hca hcb HGA HGB
    go_wp2_with (first
        | (refine wpList_value (by rfl) (run_zero_set (by rfl)) ?_)
        | (refine wpList_value (by rfl) (run_alloc_set (by rfl)) ?_)
        | (refine wpList_skip (by rfl) (by rfl) (run_store_set (x := .tmp 9) (y := .tmp 41) (b := V5.heap.size) (S := noS) (by rfl) (by rfl) (by rfl) HZ6.out.there) ?_; generalize ((V5.alloc (Obj.cells (encSet noS).toArray 107)).setCells V5.heap.size 0 (encSet noS)) = W7 at *; generalize V5.heap.size = z at *)
        | (refine wpList_value (by rfl) (run_load_at (x := .tmp 43) (b := s) (o := 0) (S := A') (by rfl) (by rfl) HP7.out.a) ?_)
        | (refine wpList_value (by rfl) (run_load_at (x := .tmp 9) (b := z) (o := 0) (S := noS) (by rfl) (by rfl) HZ7.out.range) ?_)
        | (refine wpList_value (by rfl) (run_load_at (x := .tmp 48) (b := s) (o := 32) (S := B') (by rfl) (by rfl) HP7.out.b) ?_)
        | (refine wpList_value (by rfl) (run_load_at (x := .tmp 55) (b := s) (o := 32) (S := B') (by rfl) (by rfl) HP7.out.b) ?_)
        | (refine wpList_value (by rfl) (run_load_at (x := .tmp 65) (b := s) (o := 0) (S := A') (by rfl) (by rfl) HP7.out.a) ?_)
        | (refine wpList_value (by rfl) (run_eq_set (x := .tmp 44) (y := .tmp 45) (A := A') (B := noS) (r := false) (by rfl) (by rfl) (by rfl) (HEA.out _)) ?_)
        | (refine wpList_value (by rfl) (run_eq_set (x := .tmp 49) (y := .tmp 50) (A := B') (B := noS) (r := true) (by rfl) (by rfl) (by rfl) (HEB.out _)) ?_)
        | (refine wpList_value (by rfl) (run_eq_set (x := .tmp 56) (y := .tmp 57) (A := B') (B := noS) (r := true) (by rfl) (by rfl) (by rfl) (HEB.out _)) ?_)
        | (refine wpList_value (by rfl) (run_eq_set (x := .tmp 66) (y := .tmp 67) (A := A') (B := noS) (r := false) (by rfl) (by rfl) (by rfl) (HEA.out _)) ?_)
        | (refine wpList_value (by rfl) (run_load_pair (x := .tmp 8) (b := s) (A := A') (B := B') (by rfl) (by rfl) HP7.out.range) ?_))
    refine (word_any base x m n ls A1 c1 _ _ all at_ lab W7 HS7.out (Kd.C_below HR1.out HB7.out) HW.out hat hlab hl).mono ?_
    rintro e w8 ⟨vw, rfl, hRw, hBw⟩
    have HRw := Aside0.mk (Kd.R_lower hRw HB7.out.size)
    have HR8 := Aside0.mk (show WordAt w8 w.heap.size (.int .i64 0) (.slice none 0 0) from blk_below HR7.out hBw)
    have HB8 := Aside0.mk (below_then HB7.out HB7.out.size hBw)
    obtain ⟨Aw, cw, hvw⟩ := Kd.R_slice HRw.out
    subst hvw
    clear hRw hBw
    go_wp2_with (first
        | (refine wpList_skip (by rfl) (by rfl) (run_store_word (x := .tmp 6) (y := .tmp 63) (b := w.heap.size) (k := .int .i64 1) (v := .slice Aw (wordF ls all at_ lab).length cw) (by rfl) (by rfl) (by rfl) HR8.out.there rfl rfl) ?_))
    refine bodyPost_ret (results_word rfl _ _ w.heap.size (.int .i64 1) (.slice Aw (wordF ls all at_ lab).length cw) rfl (HR8.out.store _ _)) rfl ?_
    rw [HQ.out]
    unfold StepPost
    refine ⟨_, rfl, Kd.R_grown1 HRw.out rfl (grown_setCells _ _ _) ?_, below_setCells HB8.out 0 _ (Nat.le_refl _)⟩
    exact Kd.R_ne HRw.out HR8.out (by decide)
  · -- both
    have HEA := Aside0.mk (show ∀ W, (Op.equalIn 10000 107 (.agg (encSet A').toArray) (.agg (encSet noS).toArray)).run Try.prog W = .ok false W from fun W => HEA.out W false (by rw [HGA]; simp [hca]))
    have HEB := Aside0.mk (show ∀ W, (Op.equalIn 10000 107 (.agg (encSet B').toArray) (.agg (encSet noS).toArray)).run Try.prog W = .ok false W from fun W => HEB.out W false (by rw [HGB]; simp [hcb]))
    have HQ := Aside0.mk (show R = (none, if metK all (nextL n es f.a lab) (nextL n es f.b lab) then all else all ++ [⟨nextL n es f.a lab, nextL n es f.b lab, wordF ls all at_ lab, at_, lab⟩]) by
      rw [HRd.out, metK_is hn' (good_next _ _ _ _) (good_next _ _ _ _) HG.out]
      unfold stepW
      simp only
      rw [← HFd.out]
      simp [hca, hcb])
    clear hca hcb HGA HGB
    go_wp2_with (first
        | (refine wpList_value (by rfl) (run_zero_set (by rfl)) ?_)
        | (refine wpList_value (by rfl) (run_alloc_set (by rfl)) ?_)
        | (refine wpList_skip (by rfl) (by rfl) (run_store_set (x := .tmp 9) (y := .tmp 41) (b := V5.heap.size) (S := noS) (by rfl) (by rfl) (by rfl) HZ6.out.there) ?_; generalize ((V5.alloc (Obj.cells (encSet noS).toArray 107)).setCells V5.heap.size 0 (encSet noS)) = W7 at *; generalize V5.heap.size = z at *)
        | (refine wpList_value (by rfl) (run_load_at (x := .tmp 43) (b := s) (o := 0) (S := A') (by rfl) (by rfl) HP7.out.a) ?_)
        | (refine wpList_value (by rfl) (run_load_at (x := .tmp 9) (b := z) (o := 0) (S := noS) (by rfl) (by rfl) HZ7.out.range) ?_)
        | (refine wpList_value (by rfl) (run_load_at (x := .tmp 48) (b := s) (o := 32) (S := B') (by rfl) (by rfl) HP7.out.b) ?_)
        | (refine wpList_value (by rfl) (run_load_at (x := .tmp 55) (b := s) (o := 32) (S := B') (by rfl) (by rfl) HP7.out.b) ?_)
        | (refine wpList_value (by rfl) (run_load_at (x := .tmp 65) (b := s) (o := 0) (S := A') (by rfl) (by rfl) HP7.out.a) ?_)
        | (refine wpList_value (by rfl) (run_eq_set (x := .tmp 44) (y := .tmp 45) (A := A') (B := noS) (r := false) (by rfl) (by rfl) (by rfl) (HEA.out _)) ?_)
        | (refine wpList_value (by rfl) (run_eq_set (x := .tmp 49) (y := .tmp 50) (A := B') (B := noS) (r := false) (by rfl) (by rfl) (by rfl) (HEB.out _)) ?_)
        | (refine wpList_value (by rfl) (run_eq_set (x := .tmp 56) (y := .tmp 57) (A := B') (B := noS) (r := false) (by rfl) (by rfl) (by rfl) (HEB.out _)) ?_)
        | (refine wpList_value (by rfl) (run_eq_set (x := .tmp 66) (y := .tmp 67) (A := A') (B := noS) (r := false) (by rfl) (by rfl) (by rfl) (HEA.out _)) ?_)
        | (refine wpList_value (by rfl) (run_load_pair (x := .tmp 8) (b := s) (A := A') (B := B') (by rfl) (by rfl) HP7.out.range) ?_))
    have hF := find_any base x m n (.slice A1 ls.length c1) (.slice A2 es.length c2) _ all (nextL n es f.a lab) (nextL n es f.b lab) (wordF ls all at_ lab) at_ lab W7 HS7.out hl
    rw [← HAm.out, ← HBm.out] at hF
    refine hF.mono ?_
    rintro e w8 ⟨rfl, ⟨v', hS8⟩, hK8⟩
    have HS8 := Aside0.mk hS8
    have HR8 := Aside0.mk (show WordAt w8 w.heap.size (.int .i64 0) (.slice none 0 0) from hK8.typ _ _ _ _ HR7.out (by decide) (by decide))
    have HK8 := Aside0.mk ((Ks.of_below HB7.out HS0.out.size).trans hK8)
    clear hS8 hK8 hF
    go_wp2_with (first
        | (refine wpList_skip (by rfl) (by rfl) (run_store_word (x := .tmp 6) (y := .tmp 79) (b := w.heap.size) (k := .int .i64 0) (v := .slice none 0 0) (by rfl) (by rfl) (by rfl) HR8.out.there rfl rfl) ?_))
    refine bodyPost_ret (results_word rfl _ _ w.heap.size (.int .i64 0) (.slice none 0 0) rfl (HR8.out.store _ _)) rfl ?_
    rw [HQ.out]
    unfold StepPost
    refine ⟨rfl, ⟨_, HS8.out.frame (grown_setCells _ _ _) ?_ ?_ ?_⟩, Ks.fresh HK8.out (Nat.le_refl _) HS0.out.size (grown_setCells _ _ _)⟩
    · exact Nat.ne_of_lt HS0.out.lt
    · exact Nat.ne_of_lt HS0.out.map.lt
    · exact Kd.R_ne HS8.out.row HR8.out (by decide)

end Go.Proofs.Ytmpiokdomjchiaa.H
