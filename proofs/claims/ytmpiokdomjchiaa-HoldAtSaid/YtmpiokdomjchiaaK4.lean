/-
  Walks: (*trace.search).find, (*trace.search).word.
  Walks: slices.Reverse of texts of the call's own; (*trace.search).word.
-/
import Derived.Test.YtmpiokdomjchiaaK3
import Derived.Test.YtmpiokdomjchiaaK2
import Derived.Test.YtmpiokdomjchiaaWApart
import Derived.Great.BuildSlice
set_option linter.unusedVariables false
set_option linter.unusedSimpArgs false
namespace Go.Proofs.Ytmpiokdomjchiaa.H
open Go.RowKit Go.Proofs.Ytmpiokdomjchiaa.Pr Go.Proofs.YtmpiokdomjchiaaW.PrintWords Go.Proofs.Ytmpiokdomjchiaa.Sem Go.Proofs.YtmpiokdomjchiaaW.PrintLast

/-- What a search found, as cells. -/
def encF (f : Fnd) : List Value := encP (memS f.a) (memS f.b) ++ [.int .i64 (f.frm : Int), .int .i64 (f.lab : Int)]
theorem encF_len (f : Fnd) : (encF f).length = 66 := by simp [encF, encP_len]
theorem encF_one (f : Fnd) : ∀ u ∈ encF f, u.oneCell' = true := by
  intro u hu
  unfold encF encP at hu
  simp only [List.mem_append, List.mem_cons, List.not_mem_nil, or_false] at hu
  rcases hu with (h | h) | h | h
  · exact enc_one _ u h
  · exact enc_one _ u h
  · subst h; rfl
  · subst h; rfl
def kF : Kd Fnd := Kd.iso (Kd.raw 66) encF
theorem kF_M (w : World) (base : Nat) (ok : Nat → Prop) (f : Fnd) : kF.M w base ok f (encF f) := ⟨rfl, encF_len f, encF_one f⟩
theorem info159 : (Try.prog.info? 159).map (fun i => (i.zero, i.size, i.bytes)) = some (some (.agg (List.replicate 64 (Value.int .u64 0) ++ [Value.int .i64 0, Value.int .i64 0]).toArray), 66, 528) := by kernel_rfl

/-- What a call leaves as it is: all below base, and each row of cells that is no search and no row of what was found. -/
structure Ks (base : Nat) (W W1 : World) : Prop where
  low : Below base W W1
  typ : ∀ (k : Nat) (c : Array Value) (t : Nat) (fr : Nat × Nat), W.heap[k]? = some (.cells c t fr) → t ≠ 115 → t ≠ 159 → W1.heap[k]? = some (.cells c t fr)
theorem Ks.refl (base : Nat) (W : World) : Ks base W W := ⟨Below.refl _ _, fun _ _ _ _ h _ _ => h⟩
theorem Ks.trans {base : Nat} {W W1 W2 : World} (h : Ks base W W1) (k : Ks base W1 W2) : Ks base W W2 := ⟨h.low.trans k.low, fun i c t fr h0 h1 h2 => k.typ i c t fr (h.typ i c t fr h0 h1 h2) h1 h2⟩
theorem Ks.of_below {base : Nat} {W W1 : World} (h : Below W.heap.size W W1) (hb : base ≤ W.heap.size) : Ks base W W1 := ⟨below_then (Below.refl base W) hb h, fun k c t fr h0 _ _ => blk_below h0 h⟩
theorem Ks.of_grown {base : Nat} {W W1 : World} {row : Option Nat} (hg : W.grownBy W1 row) (hb : base ≤ W.heap.size) (hr : ∀ k, row = some k → base ≤ k) (ht : ∀ k c t fr, row = some k → W.heap[k]? = some (.cells c t fr) → t = 115 ∨ t = 159) : Ks base W W1 :=
  ⟨(Below.refl base W).grown hg hb hr, fun k c t fr h0 h1 h2 => blk_grown h0 hg (fun e => by rcases ht k c t fr e.symm h0 with h | h; exact h1 h; exact h2 h)⟩
theorem grown_set (W : World) (g j : Nat) (v : Value) : W.grownBy (W.setCell ⟨g, j, none⟩ v) (some g) := ⟨rfl, rfl, rfl, by simp [World.setCell], fun k _ hk => Below.heap_setCell _ _ _ _ (fun e => hk (by rw [e]))⟩

/-- A search in memory: block x; its map: block m. -/
structure SrSt (base : Nat) (W : World) (x : Nat) (n : Int) (v1 v2 : Value) (m : Nat) (v : Value) (all : List Fnd) : Prop where
  blk : W.heap[x]? = some (.cells #[.int .i64 n, v1, v2, v, .map (some m)] 115 (0, 0))
  row : kF.R 159 W base (fun _ => True) v all
  map : SM W m all.length (fun k => all.any fun f => decide (k = kw (memS f.a) (memS f.b)))
  hx : base ≤ x
  hm : base ≤ m
section
variable {base : Nat} {W W1 : World} {x : Nat} {n : Int} {v1 v2 : Value} {m : Nat} {v : Value} {all : List Fnd}
theorem SrSt.lt (h : SrSt base W x n v1 v2 m v all) : x < W.heap.size := (Array.getElem?_eq_some_iff.1 h.blk).1
theorem SrSt.size (h : SrSt base W x n v1 v2 m v all) : base ≤ W.heap.size := Nat.le_of_lt (Nat.lt_of_le_of_lt h.hx h.lt)
theorem SrSt.on (h : SrSt base W x n v1 v2 m v all) (hb : Below W.heap.size W W1) : SrSt base W1 x n v1 v2 m v all := ⟨blk_below h.blk hb, Kd.R_below h.row hb, h.map.below hb, h.hx, h.hm⟩
theorem SrSt.c0 (h : SrSt base W x n v1 v2 m v all) : W.cell? ⟨x, 0, none⟩ = some (.int .i64 n) := (blk_cell h.blk 0).trans rfl
theorem SrSt.c1 (h : SrSt base W x n v1 v2 m v all) : W.cell? ⟨x, 1, none⟩ = some v1 := (blk_cell h.blk 1).trans rfl
theorem SrSt.c2 (h : SrSt base W x n v1 v2 m v all) : W.cell? ⟨x, 2, none⟩ = some v2 := (blk_cell h.blk 2).trans rfl
theorem SrSt.c3 (h : SrSt base W x n v1 v2 m v all) : W.cell? ⟨x, 3, none⟩ = some v := (blk_cell h.blk 3).trans rfl
theorem SrSt.c4 (h : SrSt base W x n v1 v2 m v all) : W.cell? ⟨x, 4, none⟩ = some (.map (some m)) := (blk_cell h.blk 4).trans rfl
theorem SrSt.nex (h : SrSt base W x n v1 v2 m v all) : some x ≠ v.ownBlock := Kd.R_ne h.row h.blk (by decide)
theorem SrSt.nem (h : SrSt base W x n v1 v2 m v all) : some m ≠ v.ownBlock := by
  intro e
  obtain ⟨cells, hc⟩ := Kd.R_typed h.row m e.symm
  obtain ⟨es, c, hb⟩ := h.map.blk
  rw [hc] at hb
  cases hb
theorem SrSt.xm (h : SrSt base W x n v1 v2 m v all) : x ≠ m := by
  intro e
  obtain ⟨es, c, hb⟩ := h.map.blk
  rw [← e, h.blk] at hb
  cases hb
theorem SrSt.frozen (h : SrSt base W x n v1 v2 m v all) (j : Nat) : W.frozen? ⟨x, j, none⟩ = false := by
  unfold World.frozen?
  simp only [h.blk]
  simp
end
/-- Was a pair found? By the words of the sets. -/
def metK (all : List Fnd) (a b : List Int) : Bool := all.any fun f => decide (kw (memS a) (memS b) = kw (memS f.a) (memS f.b))
theorem pair_range {W : World} {b : Nat} {C : List Value} {t : Nat} (h : W.heap[b]? = some (.cells C.toArray t (0, 0))) : W.rangeAt b 0 C := by
  intro j v hv
  rw [Nat.zero_add, blk_cell h j]
  simpa using hv
theorem info_pair : (Try.prog.info? 118).map (·.size) = some 64 := by kernel_rfl
theorem run_load_pair {op : Oper} {a : Act} {w : World} {x : Operand} {b : Nat} {A B : Nat → Bool} (ho : op.op = .load 118 x) (hx : a.eval x = .pointer (some ⟨b, 0, none⟩)) (hc : w.rangeAt b 0 (encP A B)) : (execOp a.eval op).run Try.prog w = .ok (.value (.agg (encP A B).toArray)) w := by
  unfold execOp
  simp only [ho, hx, Instr.loadAt, Instr.sureAddr, Sem.run_bind, Sem.run_pure, Result.andThen_ok, run_loadVar_mid w b 0 118 (encP A B) _ hc Try.underlying118 rfl (by rw [encP_len]; exact info_pair)]
theorem run_look {op : Oper} {a : Act} {w : World} {x y : Operand} {m : Nat} {k u : Value} (ho : op.op = .lookup 112 x y false) (hx : a.eval x = .map (some m)) (hy : a.eval y = k) (h : (Instr.lookup 112 (.map (some m)) k false).run Try.prog w = .ok u w) : (execOp a.eval op).run Try.prog w = .ok (.value u) w := by
  unfold execOp
  simp only [ho, hx, hy, Sem.run_bind, Sem.run_pure, h, Result.andThen_ok]
theorem run_upd {op : Oper} {a : Act} {w w1 : World} {x y z : Operand} {m : Nat} {k u : Value} (ho : op.op = .mapUpdate 112 x y z) (hx : a.eval x = .map (some m)) (hy : a.eval y = k) (hz : a.eval z = u) (h : (Instr.mapUpdate 112 (.map (some m)) k u).run Try.prog w = .ok () w1) : (execOp a.eval op).run Try.prog w = .ok .skip w1 := by
  unfold execOp
  simp only [ho, hx, hy, hz, Sem.run_bind, Sem.run_pure, h, Result.andThen_ok]

theorem built_found (A B : Nat → Bool) (f l : Int) : Try.prog.built 159 [(0, .agg (encP A B).toArray), (1, .int .i64 f), (2, .int .i64 l)] = some (encP A B ++ [Value.int .i64 f, Value.int .i64 l]).toArray := by kernel_rfl
theorem built_pair (A B : Nat → Bool) : Try.prog.built 118 [(0, .agg (encSet A).toArray), (1, .agg (encSet B).toArray)] = some (encP A B).toArray := by kernel_rfl
theorem run_built_found {op : Oper} {a : Act} {w : World} {x y z : Operand} {A B : Nat → Bool} {f l : Int} (ho : op.op = .build 159 #[(0, x), (1, y), (2, z)]) (hx : a.eval x = .agg (encP A B).toArray) (hy : a.eval y = .int .i64 f) (hz : a.eval z = .int .i64 l) : (execOp a.eval op).run Try.prog w = .ok (.value (.agg (encP A B ++ [Value.int .i64 f, Value.int .i64 l]).toArray)) w := by
  have h := run_build (P := Try.prog) w 159 #[(0, .agg (encP A B).toArray), (1, .int .i64 f), (2, .int .i64 l)] _ (built_found A B f l)
  unfold execOp
  simp only [ho, hx, hy, hz, List.map_toArray, List.map_cons, List.map_nil, Sem.run_bind, Sem.run_pure, h, Result.andThen_ok]
theorem run_built_pair {op : Oper} {a : Act} {w : World} {x y : Operand} {A B : Nat → Bool} (ho : op.op = .build 118 #[(0, x), (1, y)]) (hx : a.eval x = .agg (encSet A).toArray) (hy : a.eval y = .agg (encSet B).toArray) : (execOp a.eval op).run Try.prog w = .ok (.value (.agg (encP A B).toArray)) w := by
  have h := run_build (P := Try.prog) w 118 #[(0, .agg (encSet A).toArray), (1, .agg (encSet B).toArray)] _ (built_pair A B)
  unfold execOp
  simp only [ho, hx, hy, List.map_toArray, List.map_cons, List.map_nil, Sem.run_bind, Sem.run_pure, h, Result.andThen_ok]

abbrev zFnd : Value := .agg (List.replicate 64 (Value.int .u64 0) ++ [Value.int .i64 0, Value.int .i64 0]).toArray
theorem fill_found (A B : Nat → Bool) (f l : Int) : Instr.fill (fun i => some (i * 66, 66)) ((Array.range (1 * 66)).map (zFnd.cells[· % zFnd.cells.size]!)) [(0, .agg (encP A B ++ [Value.int .i64 f, Value.int .i64 l]).toArray)] = some (encP A B ++ [Value.int .i64 f, Value.int .i64 l]).toArray := by kernel_rfl
theorem run_slice_found {op : Oper} {a : Act} {w : World} {x : Operand} {A B : Nat → Bool} {f l : Int} (ho : op.op = .buildSlice 113 1 #[(0, x)]) (hx : a.eval x = .agg (encP A B ++ [Value.int .i64 f, Value.int .i64 l]).toArray) : (execOp a.eval op).run Try.prog w = .ok (.value (.slice (some ⟨w.heap.size, 0, none⟩) 1 1)) (w.alloc (.cells (encP A B ++ [Value.int .i64 f, Value.int .i64 l]).toArray 159)) := by
  obtain ⟨ie, hie, hzz⟩ := Option.map_eq_some_iff.1 info159
  simp only [Prod.mk.injEq] at hzz
  obtain ⟨hz0, hz1, hz2⟩ := hzz
  have h := run_buildSlice (P := Try.prog) w 113 159 1 #[(0, .agg (encP A B ++ [Value.int .i64 f, Value.int .i64 l]).toArray)] _ ie zFnd Try.underlying113 hie hz0 (by rw [hz1]; decide) (by rw [hz1]; decide) (by rw [hz1]; exact fill_found A B f l)
  unfold execOp
  simp only [ho, hx, List.map_toArray, List.map_cons, List.map_nil, Sem.run_bind, Sem.run_pure, h, Result.andThen_ok]

set_option maxHeartbeats 8000000 in
set_option maxRecDepth 100000 in
theorem find_any (base x m : Nat) (n : Int) (v1 v2 v : Value) (all : List Fnd) (a b : List Int) (wd : List ByteArray) (frm lab : Nat) (w : World) (h : SrSt base w x n v1 v2 m v all) (hl : all.length ≤ 1000000) :
    Calls Try.prog 81 #[.pointer (some ⟨x, 0, none⟩), .agg (encP (memS a) (memS b)).toArray, .int .i64 (frm : Int), .int .i64 (lab : Int)] w fun e w' => e = .returned (.tuple #[]) ∧ (∃ v', SrSt base w' x n v1 v2 m v' (if metK all a b then all else all ++ [⟨a, b, wd, frm, lab⟩])) ∧ Ks base w w' := by
  have HF := Aside0.mk (show encF ⟨a, b, wd, frm, lab⟩ = encP (memS a) (memS b) ++ [.int .i64 (frm : Int), .int .i64 (lab : Int)] from rfl)
  obtain ⟨A, hA⟩ : ∃ A, A = memS a := ⟨_, rfl⟩
  obtain ⟨B, hB⟩ : ∃ B, B = memS b := ⟨_, rfl⟩
  rw [← hA, ← hB] at HF ⊢
  have HMK := Aside0.mk (show (fun k => all.any fun f => decide (k = kw (memS f.a) (memS f.b))) (kw A B) = metK all a b by rw [hA, hB]; rfl)
  have HAB := Aside0.mk (And.intro hA hB)
  clear hA hB
  obtain ⟨all', hall'⟩ : ∃ all', all' = if metK all a b then all else all ++ [(⟨a, b, wd, frm, lab⟩ : Fnd)] := ⟨_, rfl⟩
  rw [← hall']
  have HAll := Aside0.mk hall'
  clear hall'
  have HS0 := Aside0.mk h
  clear h
  have HB0 := Aside0.mk (Below.refl w.heap.size w)
  go_enter Try.func81, Try.ntmps81
  go_wp2_with fail
  have HS1 := Aside0.mk (HS0.out.on (below_alloc (Below.refl _ _) (Obj.cells (encP A B).toArray 118)))
  have HB1 := Aside0.mk (below_alloc HB0.out (Obj.cells (encP A B).toArray 118))
  have HP1 := Aside0.mk (blk_new w (Obj.cells (encP A B).toArray 118))
  obtain ⟨p, hp⟩ : ∃ p, p = w.heap.size := ⟨_, rfl⟩
  rw [← hp] at HP1 ⊢
  have HPx := Aside0.mk (show p ≠ x by rw [hp]; exact Ne.symm (Nat.ne_of_lt HS0.out.lt))
  have HPm := Aside0.mk (show p ≠ m by rw [hp]; exact Ne.symm (Nat.ne_of_lt HS0.out.map.lt))
  clear hp
  generalize (w.alloc (Obj.cells (encP A B).toArray 118)) = W at HS1 HB1 HP1 ⊢
  have HK1 := Aside0.mk (Ks.of_below HB1.out HS0.out.size)
  have HLk := Aside0.mk (HS1.out.map.look A B)
  rw [HMK.out] at HLk
  cases hmet : metK all a b with
  | true =>
    rw [hmet] at HLk HAll
    have HAll := Aside0.mk (show all' = all by rw [HAll.out]; rfl)
    have HLk' := Aside0.mk (fun q => (HS1.out.on (pw_below_drewN (Below.refl _ W) q)).map.look A B)
    rw [HMK.out, hmet] at HLk'
    refine start_ (n := 7) (S := fun w' => w'.cell? ⟨x, 4, none⟩ = some (.map (some m)) ∧ w'.rangeAt p 0 (encP A B) ∧ (Instr.lookup 112 (.map (some m)) (.agg (encP A B).toArray) false).run Try.prog w' = .ok (.int .i64 1) w') (ds := []) #[false, false, false, false, false, false, false] (by kernel_rfl) rfl rfl ⟨HS1.out.c4, pair_range HP1.out, HLk'.out 1⟩ (fun hHeld => ?_)
    refine pure_ (i := 0) (N := some 8) (v := ?_) (a' := ?_) #[true, false, false, false, false, false, false] rfl rfl (by kernel_rfl) (fun _ _ _ h => h) (Or.inl ⟨by rfl, ?_⟩) ?_ ?_
    rotate_left
    · intro w'
      go_simp
      with_reducible rfl
    rotate_left
    · simp only [Act.put, List.setIfInBounds_toArray, List.set_cons_zero, List.set_cons_succ, i64_w, i32_w]
      rfl
    refine pure_ (i := 1) (N := some 9) (v := ?_) (a' := ?_) #[true, true, false, false, false, false, false] rfl rfl (by kernel_rfl) (fun _ _ _ h => h) (Or.inl ⟨by rfl, ?_⟩) ?_ ?_
    rotate_left
    · intro w'
      go_simp
      with_reducible rfl
    rotate_left
    · simp only [Act.put, List.setIfInBounds_toArray, List.set_cons_zero, List.set_cons_succ, i64_w, i32_w]
      rfl
    refine pure_ (i := 2) (N := some 10) (v := ?_) (a' := ?_) #[true, true, true, false, false, false, false] rfl rfl (by kernel_rfl) (fun _ _ _ h => h) (Or.inl ⟨by rfl, ?_⟩) ?_ ?_
    rotate_left
    · intro w'
      go_simp
      with_reducible rfl
    rotate_left
    · simp only [Act.put, List.setIfInBounds_toArray, List.set_cons_zero, List.set_cons_succ, i64_w, i32_w]
      rfl
    refine take_ (i := 3) (N := some 11) (v := ?_) (a' := ?_) #[true, true, true, true, false, false, false] rfl rfl (by kernel_rfl) (fun _ _ _ h => h) (Or.inl ⟨by rfl, ?_⟩) hHeld ?_ ?_
    rotate_left
    · rintro w' ⟨s0, s1, s2⟩
      go_simp
      with_reducible rfl
    rotate_left
    · simp only [Act.put, List.setIfInBounds_toArray, List.set_cons_zero, List.set_cons_succ, i64_w, i32_w]
      rfl
    refine take_ (i := 4) (N := some 12) (v := ?_) (a' := ?_) #[true, true, true, true, true, false, false] rfl rfl (by kernel_rfl) (fun _ _ _ h => h) (Or.inl ⟨by rfl, ?_⟩) hHeld ?_ ?_
    rotate_left
    · rintro w' ⟨s0, s1, s2⟩
      refine run_load_pair (x := .tmp 5) (b := p) (A := A) (B := B) ?_ ?_ s1 <;> rfl
    rotate_left
    · simp only [Act.put, List.setIfInBounds_toArray, List.set_cons_zero, List.set_cons_succ, i64_w, i32_w]
      rfl
    refine take_ (i := 5) (N := some 13) (v := ?_) (a' := ?_) #[true, true, true, true, true, true, false] rfl rfl (by kernel_rfl) (fun _ _ _ h => h) (Or.inl ⟨by rfl, ?_⟩) hHeld ?_ ?_
    rotate_left
    · rintro w' ⟨s0, s1, s2⟩
      refine run_look (x := .tmp 11) (y := .tmp 12) (m := m) (k := .agg (encP A B).toArray) (u := .int .i64 1) ?_ ?_ ?_ s2 <;> rfl
    rotate_left
    · simp only [Act.put, List.setIfInBounds_toArray, List.set_cons_zero, List.set_cons_succ, i64_w, i32_w]
      rfl
    refine pure_ (i := 6) (N := some 14) (v := ?_) (a' := ?_) #[true, true, true, true, true, true, true] rfl rfl (by kernel_rfl) (fun _ _ _ h => h) (Or.inl ⟨by rfl, ?_⟩) ?_ ?_
    rotate_left
    · intro w'
      go_simp
      with_reducible rfl
    rotate_left
    · simp only [Act.put, List.setIfInBounds_toArray, List.set_cons_zero, List.set_cons_succ, i64_w, i32_w]
      rfl
    refine done_ (by kernel_rfl) ?_
    have HB2 := Aside0.mk (below_drew1 (Below.refl W.heap.size W))
    go_wp2
    go_end0
    exact ⟨rfl, ⟨v, by rw [HAll.out]; exact HS1.out.on HB2.out⟩, HK1.out.trans (Ks.of_below HB2.out HS1.out.size)⟩
  | false =>
    rw [hmet] at HLk HAll
    have HAll := Aside0.mk (show all' = all ++ [(⟨a, b, wd, frm, lab⟩ : Fnd)] by rw [HAll.out]; rfl)
    have HLk' := Aside0.mk (fun q => (HS1.out.on (pw_below_drewN (Below.refl _ W) q)).map.look A B)
    rw [HMK.out, hmet] at HLk'
    refine start_ (n := 7) (S := fun w' => w'.cell? ⟨x, 4, none⟩ = some (.map (some m)) ∧ w'.rangeAt p 0 (encP A B) ∧ (Instr.lookup 112 (.map (some m)) (.agg (encP A B).toArray) false).run Try.prog w' = .ok (.int .i64 0) w') (ds := []) #[false, false, false, false, false, false, false] (by kernel_rfl) rfl rfl ⟨HS1.out.c4, pair_range HP1.out, HLk'.out 1⟩ (fun hHeld => ?_)
    refine pure_ (i := 0) (N := some 8) (v := ?_) (a' := ?_) #[true, false, false, false, false, false, false] rfl rfl (by kernel_rfl) (fun _ _ _ h => h) (Or.inl ⟨by rfl, ?_⟩) ?_ ?_
    rotate_left
    · intro w'
      go_simp
      with_reducible rfl
    rotate_left
    · simp only [Act.put, List.setIfInBounds_toArray, List.set_cons_zero, List.set_cons_succ, i64_w, i32_w]
      rfl
    refine pure_ (i := 1) (N := some 9) (v := ?_) (a' := ?_) #[true, true, false, false, false, false, false] rfl rfl (by kernel_rfl) (fun _ _ _ h => h) (Or.inl ⟨by rfl, ?_⟩) ?_ ?_
    rotate_left
    · intro w'
      go_simp
      with_reducible rfl
    rotate_left
    · simp only [Act.put, List.setIfInBounds_toArray, List.set_cons_zero, List.set_cons_succ, i64_w, i32_w]
      rfl
    refine pure_ (i := 2) (N := some 10) (v := ?_) (a' := ?_) #[true, true, true, false, false, false, false] rfl rfl (by kernel_rfl) (fun _ _ _ h => h) (Or.inl ⟨by rfl, ?_⟩) ?_ ?_
    rotate_left
    · intro w'
      go_simp
      with_reducible rfl
    rotate_left
    · simp only [Act.put, List.setIfInBounds_toArray, List.set_cons_zero, List.set_cons_succ, i64_w, i32_w]
      rfl
    refine take_ (i := 3) (N := some 11) (v := ?_) (a' := ?_) #[true, true, true, true, false, false, false] rfl rfl (by kernel_rfl) (fun _ _ _ h => h) (Or.inl ⟨by rfl, ?_⟩) hHeld ?_ ?_
    rotate_left
    · rintro w' ⟨s0, s1, s2⟩
      go_simp
      with_reducible rfl
    rotate_left
    · simp only [Act.put, List.setIfInBounds_toArray, List.set_cons_zero, List.set_cons_succ, i64_w, i32_w]
      rfl
    refine take_ (i := 4) (N := some 12) (v := ?_) (a' := ?_) #[true, true, true, true, true, false, false] rfl rfl (by kernel_rfl) (fun _ _ _ h => h) (Or.inl ⟨by rfl, ?_⟩) hHeld ?_ ?_
    rotate_left
    · rintro w' ⟨s0, s1, s2⟩
      refine run_load_pair (x := .tmp 5) (b := p) (A := A) (B := B) ?_ ?_ s1 <;> rfl
    rotate_left
    · simp only [Act.put, List.setIfInBounds_toArray, List.set_cons_zero, List.set_cons_succ, i64_w, i32_w]
      rfl
    refine take_ (i := 5) (N := some 13) (v := ?_) (a' := ?_) #[true, true, true, true, true, true, false] rfl rfl (by kernel_rfl) (fun _ _ _ h => h) (Or.inl ⟨by rfl, ?_⟩) hHeld ?_ ?_
    rotate_left
    · rintro w' ⟨s0, s1, s2⟩
      refine run_look (x := .tmp 11) (y := .tmp 12) (m := m) (k := .agg (encP A B).toArray) (u := .int .i64 0) ?_ ?_ ?_ s2 <;> rfl
    rotate_left
    · simp only [Act.put, List.setIfInBounds_toArray, List.set_cons_zero, List.set_cons_succ, i64_w, i32_w]
      rfl
    refine pure_ (i := 6) (N := some 14) (v := ?_) (a' := ?_) #[true, true, true, true, true, true, true] rfl rfl (by kernel_rfl) (fun _ _ _ h => h) (Or.inl ⟨by rfl, ?_⟩) ?_ ?_
    rotate_left
    · intro w'
      go_simp
      with_reducible rfl
    rotate_left
    · simp only [Act.put, List.setIfInBounds_toArray, List.set_cons_zero, List.set_cons_succ, i64_w, i32_w]
      rfl
    refine done_ (by kernel_rfl) ?_
    have hB2 := below_drew1 (Below.refl W.heap.size W)
    have HS2 := Aside0.mk (HS1.out.on hB2)
    have HK2 := Aside0.mk (HK1.out.trans (Ks.of_below hB2 HS1.out.size))
    have HP2 := Aside0.mk (blk_below HP1.out hB2)
    clear hB2
    generalize W.drew = W2 at HS2 HK2 HP2 ⊢
    clear HS1 HB1 HP1 HK1 HLk HLk'
    go_wp2_with fail
    refine start_ (n := 6) (S := fun w' => w'.cell? ⟨x, 4, none⟩ = some (.map (some m)) ∧ w'.rangeAt p 0 (encP A B)) (ds := [5]) #[false, false, false, false, false, false] (by kernel_rfl) rfl rfl ⟨HS2.out.c4, pair_range HP2.out⟩ (fun hHeld => ?_)
    have hB3 := below_drew1 (Below.refl W2.heap.size W2)
    have HS3 := Aside0.mk (HS2.out.on hB3)
    have HK3 := Aside0.mk (HK2.out.trans (Ks.of_below hB3 HS2.out.size))
    have HP3 := Aside0.mk (blk_below HP2.out hB3)
    clear hB3
    generalize W2.drew = W3 at HS3 HK3 HP3 hHeld ⊢
    obtain ⟨W4, hU, hM4, hG4⟩ := HS3.out.map.put A B (by unfold maxLen; omega)
    have HU := Aside0.mk hU
    have HM4 := Aside0.mk hM4
    have HG4 := Aside0.mk hG4
    clear hU hM4 hG4
    refine pure_ (i := 0) (N := some 15) (v := ?_) (a' := ?_) #[true, false, false, false, false, false] rfl rfl (by kernel_rfl) (fun _ _ _ h => h) (Or.inl ⟨by rfl, ?_⟩) ?_ ?_
    rotate_left
    · intro w'
      go_simp
      with_reducible rfl
    rotate_left
    · simp only [Act.put, List.setIfInBounds_toArray, List.set_cons_zero, List.set_cons_succ, i64_w, i32_w]
      rfl
    refine pure_ (i := 1) (N := some 16) (v := ?_) (a' := ?_) #[true, true, false, false, false, false] rfl rfl (by kernel_rfl) (fun _ _ _ h => h) (Or.inl ⟨by rfl, ?_⟩) ?_ ?_
    rotate_left
    · intro w'
      go_simp
      with_reducible rfl
    rotate_left
    · simp only [Act.put, List.setIfInBounds_toArray, List.set_cons_zero, List.set_cons_succ, i64_w, i32_w]
      rfl
    refine pure_ (i := 2) (N := some 17) (v := ?_) (a' := ?_) #[true, true, true, false, false, false] rfl rfl (by kernel_rfl) (fun _ _ _ h => h) (Or.inl ⟨by rfl, ?_⟩) ?_ ?_
    rotate_left
    · intro w'
      go_simp
      with_reducible rfl
    rotate_left
    · simp only [Act.put, List.setIfInBounds_toArray, List.set_cons_zero, List.set_cons_succ, i64_w, i32_w]
      rfl
    refine take_ (i := 3) (N := some 18) (v := ?_) (a' := ?_) #[true, true, true, true, false, false] rfl rfl (by kernel_rfl) (fun _ _ _ h => h) (Or.inl ⟨by rfl, ?_⟩) hHeld ?_ ?_
    rotate_left
    · rintro w' ⟨s0, s1⟩
      go_simp
      with_reducible rfl
    rotate_left
    · simp only [Act.put, List.setIfInBounds_toArray, List.set_cons_zero, List.set_cons_succ, i64_w, i32_w]
      rfl
    refine take_ (i := 4) (N := some 19) (v := ?_) (a' := ?_) #[true, true, true, true, true, false] rfl rfl (by kernel_rfl) (fun _ _ _ h => h) (Or.inl ⟨by rfl, ?_⟩) hHeld ?_ ?_
    rotate_left
    · rintro w' ⟨s0, s1⟩
      refine run_load_pair (x := .tmp 5) (b := p) (A := A) (B := B) ?_ ?_ s1 <;> rfl
    rotate_left
    · simp only [Act.put, List.setIfInBounds_toArray, List.set_cons_zero, List.set_cons_succ, i64_w, i32_w]
      rfl
    refine last_ (i := 5) (N := none) #[true, true, true, true, true, true] rfl rfl (by kernel_rfl) (by decide) (fun K hK => ?_)
    refine skip_ (w1 := ?_) (by rfl) rfl ?_ ?_
    rotate_left
    · refine run_upd (w1 := W4) (x := .tmp 18) (y := .tmp 19) (z := .const (.int .i64 1)) (m := m) (k := .agg (encP A B).toArray) (u := .int .i64 1) ?_ ?_ ?_ ?_ HU.out <;> rfl
    refine hK.out _ _ ?_
    clear hK K
    refine done_ (by kernel_rfl) ?_
    have HX4 := Aside0.mk (blk_grown HS3.out.blk HG4.out (by have := HS3.out.xm; simpa using this))
    have HR4 := Aside0.mk (Kd.R_grown1 HS3.out.row rfl HG4.out (HS3.out.nem))
    have HP4 := Aside0.mk (blk_grown HP3.out HG4.out (by have := HPm.out; simpa using this))
    have HK4 := Aside0.mk (HK3.out.trans (Ks.of_grown HG4.out HS3.out.size (fun k hk => by cases hk; exact HS3.out.hm) (fun k c t fr hk hb => by
      cases hk
      obtain ⟨es, cc, hmb⟩ := HS3.out.map.blk
      rw [hmb] at hb
      cases hb)))
    have HSz := Aside0.mk (Nat.le_trans HS3.out.size HG4.out.size)
    have HN4 := Aside0.mk (And.intro HS3.out.nex HS3.out.nem)
    have HH4 := Aside0.mk (And.intro HS3.out.hx HS3.out.hm)
    clear HS3 HK3 HP3 HU HG4 HS2 HK2 HP2
    go_wp2_with fail
    obtain ⟨A0, c0, hv⟩ := Kd.R_slice HR4.out
    refine start_ (n := 14) (S := fun w' => w'.cell? ⟨x, 3, none⟩ = some v ∧ w'.rangeAt p 0 (encP A B)) (ds := [13]) #[false, false, false, false, false, false, false, false, false, false, false, false, false, false] (by kernel_rfl) rfl rfl ⟨(blk_cell HX4.out 3).trans rfl, pair_range HP4.out⟩ (fun hHeld => ?_)
    have hB5 := below_drew1 (Below.refl W4.heap.size W4)
    have HX5 := Aside0.mk (blk_below HX4.out hB5)
    have HR5 := Aside0.mk (Kd.R_below HR4.out hB5)
    have HM5 := Aside0.mk (HM4.out.below hB5)
    have HK5 := Aside0.mk (HK4.out.trans (Ks.of_below hB5 HSz.out))
    have HP5 := Aside0.mk (blk_below HP4.out hB5)
    have HZ5 := Aside0.mk (Nat.le_trans HSz.out hB5.size)
    clear hB5
    generalize W4.drew = W5 at HX5 HR5 HM5 HK5 HP5 HZ5 hHeld ⊢
    subst hv
    clear HX4 HR4 HM4 HK4 HP4
    refine pure_ (i := 0) (N := some 20) (v := ?_) (a' := ?_) #[true, false, false, false, false, false, false, false, false, false, false, false, false, false] rfl rfl (by kernel_rfl) (fun _ _ _ h => h) (Or.inl ⟨by rfl, ?_⟩) ?_ ?_
    rotate_left
    · intro w'
      go_simp
      with_reducible rfl
    rotate_left
    · simp only [Act.put, List.setIfInBounds_toArray, List.set_cons_zero, List.set_cons_succ, i64_w, i32_w]
      rfl
    refine pure_ (i := 1) (N := some 21) (v := ?_) (a' := ?_) #[true, true, false, false, false, false, false, false, false, false, false, false, false, false] rfl rfl (by kernel_rfl) (fun _ _ _ h => h) (Or.inl ⟨by rfl, ?_⟩) ?_ ?_
    rotate_left
    · intro w'
      go_simp
      with_reducible rfl
    rotate_left
    · simp only [Act.put, List.setIfInBounds_toArray, List.set_cons_zero, List.set_cons_succ, i64_w, i32_w]
      rfl
    refine pure_ (i := 2) (N := some 22) (v := ?_) (a' := ?_) #[true, true, true, false, false, false, false, false, false, false, false, false, false, false] rfl rfl (by kernel_rfl) (fun _ _ _ h => h) (Or.inl ⟨by rfl, ?_⟩) ?_ ?_
    rotate_left
    · intro w'
      go_simp
      with_reducible rfl
    rotate_left
    · simp only [Act.put, List.setIfInBounds_toArray, List.set_cons_zero, List.set_cons_succ, i64_w, i32_w]
      rfl
    refine pure_ (i := 3) (N := some 23) (v := ?_) (a' := ?_) #[true, true, true, true, false, false, false, false, false, false, false, false, false, false] rfl rfl (by kernel_rfl) (fun _ _ _ h => h) (Or.inl ⟨by rfl, ?_⟩) ?_ ?_
    rotate_left
    · intro w'
      go_simp
      with_reducible rfl
    rotate_left
    · simp only [Act.put, List.setIfInBounds_toArray, List.set_cons_zero, List.set_cons_succ, i64_w, i32_w]
      rfl
    refine pure_ (i := 6) (N := some 26) (v := ?_) (a' := ?_) #[true, true, true, true, false, false, true, false, false, false, false, false, false, false] rfl rfl (by kernel_rfl) (fun _ _ _ h => h) (Or.inl ⟨by rfl, ?_⟩) ?_ ?_
    rotate_left
    · intro w'
      go_simp
      with_reducible rfl
    rotate_left
    · simp only [Act.put, List.setIfInBounds_toArray, List.set_cons_zero, List.set_cons_succ, i64_w, i32_w]
      rfl
    refine pure_ (i := 7) (N := some 27) (v := ?_) (a' := ?_) #[true, true, true, true, false, false, true, true, false, false, false, false, false, false] rfl rfl (by kernel_rfl) (fun _ _ _ h => h) (Or.inl ⟨by rfl, ?_⟩) ?_ ?_
    rotate_left
    · intro w'
      go_simp
      with_reducible rfl
    rotate_left
    · simp only [Act.put, List.setIfInBounds_toArray, List.set_cons_zero, List.set_cons_succ, i64_w, i32_w]
      rfl
    refine take_ (i := 4) (N := some 24) (v := ?_) (a' := ?_) #[true, true, true, true, true, false, true, true, false, false, false, false, false, false] rfl rfl (by kernel_rfl) (fun _ _ _ h => h) (Or.inl ⟨by rfl, ?_⟩) hHeld ?_ ?_
    rotate_left
    · rintro w' ⟨s0, s1⟩
      go_simp
      with_reducible rfl
    rotate_left
    · simp only [Act.put, List.setIfInBounds_toArray, List.set_cons_zero, List.set_cons_succ, i64_w, i32_w]
      rfl
    refine take_ (i := 5) (N := some 25) (v := ?_) (a' := ?_) #[true, true, true, true, true, true, true, true, false, false, false, false, false, false] rfl rfl (by kernel_rfl) (fun _ _ _ h => h) (Or.inl ⟨by rfl, ?_⟩) hHeld ?_ ?_
    rotate_left
    · rintro w' ⟨s0, s1⟩
      refine run_load_pair (x := .tmp 5) (b := p) (A := A) (B := B) ?_ ?_ s1 <;> rfl
    rotate_left
    · simp only [Act.put, List.setIfInBounds_toArray, List.set_cons_zero, List.set_cons_succ, i64_w, i32_w]
      rfl
    refine pure_ (i := 8) (N := some 28) (v := ?_) (a' := ?_) #[true, true, true, true, true, true, true, true, true, false, false, false, false, false] rfl rfl (by kernel_rfl) (fun _ _ _ h => h) (Or.inl ⟨by rfl, ?_⟩) ?_ ?_
    rotate_left
    · intro w'
      refine run_built_found (x := .tmp 25) (y := .tmp 26) (z := .tmp 27) (A := A) (B := B) (f := (frm : Int)) (l := (lab : Int)) ?_ ?_ ?_ ?_ <;> rfl
    rotate_left
    · simp only [Act.put, List.setIfInBounds_toArray, List.set_cons_zero, List.set_cons_succ, i64_w, i32_w]
      rfl
    refine one_ (i := 9) (N := some 29) #[true, true, true, true, true, true, true, true, true, true, false, false, false, false] rfl rfl (by kernel_rfl) (by decide) (fun K hK => ?_)
    refine value_ (w1 := ?_) (v := ?_) (by rfl) rfl ?_ ?_
    rotate_left 2
    · refine run_slice_found (x := .tmp 28) (A := A) (B := B) (f := (frm : Int)) (l := (lab : Int)) ?_ ?_ <;> rfl
    refine hK.out _ _ ⟨later (below_alloc (Below.refl _ _) _) hHeld.1, pair_range (blk_below HP5.out (below_alloc (Below.refl _ _) _))⟩ (fun hHeld => ?_)
    clear hK K
    refine norm_ (a' := ?_) ?_ ?_
    rotate_left
    · show Act.put _ (some 29) _ = _
      simp only [Act.put, List.setIfInBounds_toArray, List.set_cons_zero, List.set_cons_succ, i64_w, i32_w]
      rfl
    refine one_ (i := 10) (N := some 30) #[true, true, true, true, true, true, true, true, true, true, true, false, false, false] rfl rfl (by kernel_rfl) (by decide) (fun K hK => ?_)
    refine Kd.R_append_step kF (w0 := W5) base (by rfl) (.tmp 24) (.tmp 29) 113 159 (.agg (List.replicate 64 (Value.int .u64 0) ++ [Value.int .i64 0, Value.int .i64 0]).toArray) 528 rfl Try.underlying113 info159 rfl (by decide) (by omega) (.slice A0 all.length c0) all ⟨a, b, wd, frm, lab⟩ (encP A B ++ [Value.int .i64 (frm : Int), Value.int .i64 (lab : Int)]) (fun _ => True) (fun _ => False) rfl rfl ?aP (fun _ hk => hk.elim) ?aF ?aO ?aB ?aS ?aL ?_
    (case aP => rw [← HF.out]; exact kF_M _ _ _ _)
    (case aF => exact fun _ _ => trivial)
    (case aO => exact HR5.out)
    (case aB => exact Below.refl _ _)
    (case aS => exact HZ5.out)
    (case aL => omega)
    intro v3 w3 ho hb hg hat
    obtain ⟨A4, c4, hv4⟩ := Kd.R_slice ho
    rw [List.length_append, List.length_singleton] at hv4
    subst hv4
    have HO := Aside0.mk ho
    have HG := Aside0.mk hg
    have HX6 := Aside0.mk (blk_grown HX5.out hg HN4.out.1)
    have HM6 := Aside0.mk (HM5.out.same (hg.block m HM5.out.lt HN4.out.2))
    have HK6 := Aside0.mk (HK5.out.trans (Ks.of_grown hg HZ5.out (fun k hk => Kd.R_base HR5.out k hk) (fun k c t fr hk hbk => by
      obtain ⟨cells, hc⟩ := Kd.R_typed HR5.out k hk
      rw [hc] at hbk
      cases hbk
      exact Or.inr rfl)))
    have fz : w3.frozen? ⟨x, 3, none⟩ = false := by unfold World.frozen?; simp only [HX6.out]; simp
    clear ho hb hg hat
    refine hK.out _ _ ⟨(blk_cell HX6.out 3).trans rfl, pair_range (blk_grown HP5.out HG.out (by intro e; obtain ⟨cells, hc⟩ := Kd.R_typed HR5.out p e.symm; rw [HP5.out] at hc; cases hc))⟩ (fun hHeld => ?_)
    clear hK K
    refine norm_ (a' := ?_) ?_ ?_
    rotate_left
    · show Act.put _ (some 30) _ = _
      simp only [Act.put, List.setIfInBounds_toArray, List.set_cons_zero, List.set_cons_succ, i64_w, i32_w]
      rfl
    refine pure_ (i := 11) (N := some 31) (v := ?_) (a' := ?_) #[true, true, true, true, true, true, true, true, true, true, true, true, false, false] rfl rfl (by kernel_rfl) (fun _ _ _ h => h) (Or.inl ⟨by rfl, ?_⟩) ?_ ?_
    rotate_left
    · intro w'
      go_simp
      with_reducible rfl
    rotate_left
    · simp only [Act.put, List.setIfInBounds_toArray, List.set_cons_zero, List.set_cons_succ, i64_w, i32_w]
      rfl
    refine pure_ (i := 12) (N := some 32) (v := ?_) (a' := ?_) #[true, true, true, true, true, true, true, true, true, true, true, true, true, false] rfl rfl (by kernel_rfl) (fun _ _ _ h => h) (Or.inl ⟨by rfl, ?_⟩) ?_ ?_
    rotate_left
    · intro w'
      go_simp
      with_reducible rfl
    rotate_left
    · simp only [Act.put, List.setIfInBounds_toArray, List.set_cons_zero, List.set_cons_succ, i64_w, i32_w]
      rfl
    refine last_ (i := 13) (N := none) #[true, true, true, true, true, true, true, true, true, true, true, true, true, true] rfl rfl (by kernel_rfl) (by decide) (fun K hK => ?_)
    refine skip_ (w1 := ?_) (by rfl) rfl ?_ ?_
    rotate_left
    · go_simp
      rfl
    refine hK.out _ _ ?_
    clear hK K
    refine done_ (by kernel_rfl) ?_
    have HSz6 := Aside0.mk (Nat.le_trans HZ5.out HG.out.size)
    have hG7 := grown_set w3 x 3 (.slice A4 (all.length + 1) c4)
    have HX7 := Aside0.mk (show (w3.setCell ⟨x, 3, none⟩ (.slice A4 (all.length + 1) c4)).heap[x]? = some (.cells #[.int .i64 n, v1, v2, .slice A4 (all.length + 1) c4, .map (some m)] 115 (0, 0)) by simp [World.setCell, Array.getElem?_modify, HX6.out])
    have HR7 := Aside0.mk (Kd.R_grown1 HO.out rfl hG7 (Kd.R_ne HO.out HX6.out (by decide)))
    have HM7 := Aside0.mk (HM6.out.same (hG7.block m HM6.out.lt (by
      intro e
      cases e
      obtain ⟨es, cc, hmb⟩ := HM6.out.blk
      rw [HX6.out] at hmb
      cases hmb)))
    have HK7 := Aside0.mk (HK6.out.trans (Ks.of_grown hG7 HSz6.out (fun k hk => by cases hk; exact HH4.out.1) (fun k c t fr hk hbk => by
      cases hk
      rw [HX6.out] at hbk
      cases hbk
      exact Or.inl rfl)))
    clear hG7
    go_wp2
    go_end0
    refine ⟨rfl, ⟨.slice A4 (all.length + 1) c4, ?_⟩, HK7.out⟩
    rw [HAll.out]
    refine ⟨HX7.out, HR7.out, ?_, HH4.out.1, HH4.out.2⟩
    rw [List.length_append, List.length_singleton]
    have e : (fun k => (all ++ [(⟨a, b, wd, frm, lab⟩ : Fnd)]).any fun f => decide (k = kw (memS f.a) (memS f.b))) = fun k => (all.any fun f => decide (k = kw (memS f.a) (memS f.b))) || decide (k = kw A B) := by
      funext k
      rw [List.any_append, HAB.out.1, HAB.out.2]
      simp
    rw [e]
    exact HM7.out

end Go.Proofs.Ytmpiokdomjchiaa.H

set_option linter.unusedVariables false
set_option linter.unusedSimpArgs false
namespace Go.Proofs.Ytmpiokdomjchiaa.H
open Go.RowKit Go.Proofs.Ytmpiokdomjchiaa.Pr Go.Proofs.YtmpiokdomjchiaaW.PrintWords Go.Proofs.Ytmpiokdomjchiaa.Sem Go.Proofs.YtmpiokdomjchiaaW.PrintLast

/-- slices.Reverse of texts of the call's own. -/
theorem reverseR (base e : Nat) (v : Value) (xs : List ByteArray) (w : World) (h : Kd.R Kd.string e w base (fun _ => True) v xs) (hl : xs.length < 1000000000000) :
    Calls Try.prog 117 #[v] w fun e' w' => e' = .returned (.tuple #[]) ∧ Kd.R Kd.string e w' base (fun _ => True) v xs.reverse ∧ w.grownBy w' v.ownBlock := by
  have ho := own_of_RS h
  rcases ho.2 with ⟨hv, h0⟩ | ⟨g, cap, cur, hv, hb, hg, h1, h2, h3, h4⟩
  · subst hv
    have hx : xs = [] := by simpa using h0
    subst hx
    refine (Try.slices_Reverse_string_empty none 0 w).mono ?_
    rintro e' w' ⟨rfl, rfl⟩
    exact ⟨rfl, h, grown_of_below (Below.refl _ _) _⟩
  · subst hv
    have hH := holds_of_block (ss := xs.map fun s => s.data.toList) hg (by rw [← h4, Nat.mul_one])
    refine (Try.slices_Reverse_string g 0 cap _ w hH (by rw [List.length_map]; omega)).mono ?_
    rintro e' w' ⟨rfl, q, rfl⟩
    have hc := Lib.ownsRow_putRow (q := q) (k := (xs.map fun s => s.data.toList).length) (ys := (xs.map fun s => s.data.toList).reverse) ho (by simp) (Nat.le_refl _)
    rw [List.take_of_length_le (by simp)] at hc
    refine ⟨rfl, ?_, grownBy_sorted (os := #[]) _⟩
    have h5 := RS_of_own (by simp) hc
    have e5 : ((xs.map fun s => s.data.toList).reverse.map fun l => (⟨l.toArray⟩ : ByteArray)) = xs.reverse := by
      rw [← List.map_reverse, List.map_map]
      have : ((fun l => (⟨l.toArray⟩ : ByteArray)) ∘ fun (s : ByteArray) => s.data.toList) = id := by funext s; rfl
      rw [this, List.map_id]
    rwa [e5] at h5
abbrev dF : Fnd := ⟨[], [], [], 0, 0⟩
/-- What a search has found is well formed. -/
structure WfF (ls : List ByteArray) (all : List Fnd) : Prop where
  zero : (all.getD 0 dF).word = []
  step : ∀ i, 0 < i → i < all.length → (all.getD i dF).frm < i ∧ (all.getD i dF).lab < ls.length ∧ (all.getD i dF).word = wordF ls all (all.getD i dF).frm (all.getD i dF).lab
/-- What was found as number k, in memory. -/
theorem atF {w : World} {base : Nat} {ok : Nat → Prop} {v : Value} {all : List Fnd} (h : kF.R 159 w base ok v all) (k : Nat) (hk : k < all.length) : ∃ g c, v = .slice (some ⟨g, 0, none⟩) all.length c ∧ ∀ j u, (encF (all.getD k dF))[j]? = some u → w.cell? ⟨g, k * 66 + j, none⟩ = some u := by
  obtain ⟨g, c, hv, _, _, _⟩ := Kd.R_form h (by omega)
  obtain ⟨A, c', hv', _, hC⟩ := Kd.R_reads h
  rw [hv] at hv'
  injection hv' with e1 e2 e3
  subst e1
  obtain ⟨ad, cs, e, hl, hK, hc⟩ := Kd.C_get hC dF (k : Int) (by omega) (by omega)
  injection e with e
  subst e
  refine ⟨g, c, hv, fun j u hu => ?_⟩
  have hcs : cs = encF (all.getD k dF) := by simpa using hK.1
  have h2 := hc j u (by rw [hcs]; exact hu)
  rw [add_plain] at h2
  simpa [kF, Kd.iso, Kd.raw] using h2
theorem encF_frm (f : Fnd) : (encF f)[64]? = some (.int .i64 (f.frm : Int)) := by
  unfold encF
  rw [List.getElem?_append_right (by rw [encP_len]; exact Nat.le_refl _), encP_len]
  rfl
theorem encF_lab (f : Fnd) : (encF f)[65]? = some (.int .i64 (f.lab : Int)) := by
  unfold encF
  rw [List.getElem?_append_right (by rw [encP_len]; omega), encP_len]
  rfl
theorem encF_a (f : Fnd) {j : Nat} {u : Value} (h : (encSet (memS f.a))[j]? = some u) : (encF f)[j]? = some u := by
  have hj : j < (encSet (memS f.a)).length := (List.getElem?_eq_some_iff.1 h).1
  unfold encF encP
  rw [List.append_assoc, List.getElem?_append_left hj]
  exact h
theorem encF_b (f : Fnd) {j : Nat} {u : Value} (h : (encSet (memS f.b))[j]? = some u) : (encF f)[32 + j]? = some u := by
  have hj : j < (encSet (memS f.b)).length := (List.getElem?_eq_some_iff.1 h).1
  unfold encF encP
  rw [List.append_assoc, List.getElem?_append_right (by rw [encSet_len]; omega), encSet_len, Nat.add_sub_cancel_left, List.getElem?_append_left hj]
  exact h

set_option maxHeartbeats 8000000 in
set_option maxRecDepth 100000 in
theorem word_any (base x m : Nat) (n : Int) (ls : List ByteArray) (A1 : Option Addr) (c1 : Nat) (v2 v : Value) (all : List Fnd) (at0 lab : Nat) (w : World) (h : SrSt base w x n (.slice A1 ls.length c1) v2 m v all) (hr1 : Kd.C Kd.string w A1 ls.length ls) (hw : WfF ls all) (hat : at0 < all.length) (hlab : lab < ls.length) (hl : all.length ≤ 1000000) :
    Calls Try.prog 110 #[.pointer (some ⟨x, 0, none⟩), .int .i64 (at0 : Int), .int .i64 (lab : Int)] w (MadeS w (wordF ls all at0 lab)) := by
  have HR1 := Aside0.mk hr1
  have hls := C_len hr1
  have HW := Aside0.mk hw
  have HS0 := Aside0.mk h
  have hx1 := h.c1
  obtain ⟨ad, hA, g0⟩ := atS hr1 lab hlab
  subst hA
  obtain ⟨s, hs⟩ : ∃ s, s = ls.getD lab ByteArray.empty := ⟨_, rfl⟩
  have HT0 := Aside0.mk (show wordF ls all at0 lab = (all.getD at0 dF).word ++ [s] by rw [hs]; rfl)
  obtain ⟨T, hT⟩ : ∃ T, T = wordF ls all at0 lab := ⟨_, rfl⟩
  rw [← hT] at HT0 ⊢
  rw [← hs] at g0
  clear hr1 hw h hs hT
  have i1 : (lab : Int) < (ls.length : Int) := by omega
  have HB0 := Aside0.mk (Below.refl w.heap.size w)
  go_enter Try.func110, Try.ntmps110
  go_wp2
  have HI := own_lit_of (enc := Value.string) w w.heap.size 9 [s] (Nat.le_refl _) (by simp)
  have HI2 := Aside0.mk (Kd.R_of_own (enc := Value.string) (h1 := fun _ => rfl) (ok := fun _ => True) HI (fun _ _ => trivial))
  clear HI g0 hx1
  go_loopw [1, 7] (fun i v7 wr => ∃ (k : Nat) (L : List ByteArray), i = .int .i64 k ∧ k < all.length ∧ Aside0 ((all.getD k dF).word ++ L.reverse = T) ∧ L.length + k ≤ at0 + 1 ∧ Aside0 (Kd.R Kd.string 9 wr w.heap.size (fun _ => True) v7 L) ∧ Aside0 (Below w.heap.size w wr)) (fun i _ _ => (intOf i).toNat)
  case atStart =>
    refine ⟨at0, [s], rfl, hat, ⟨?_⟩, by simp; omega, ⟨?_⟩, ⟨below_alloc HB0.out _⟩⟩
    · rw [HT0.out]; rfl
    · simpa [encs, Kd.string] using HI2.out
  case round =>
    clear HI2
    obtain ⟨k, L, rfl, hk, HT, hLk, HO, HB⟩ := hrel
    by_cases hk0 : 0 < k
    · have HSr := Aside0.mk (HS0.out.on HB.out)
      obtain ⟨hf1, hf2, hf3⟩ := HW.out.step k hk0 hk
      obtain ⟨g, c, hv, hcell⟩ := atF HSr.out.row k hk
      have hcf := hcell 64 _ (encF_frm _)
      have hcl := hcell 65 _ (encF_lab _)
      obtain ⟨f, hf⟩ : ∃ f, f = all.getD k dF := ⟨_, rfl⟩
      have HFFa := Aside0.mk (show (all.getD k dF).frm = f.frm by rw [hf])
      rw [← hf] at hf1 hf2 hf3 hcf hcl HT
      obtain ⟨ad', hA', g1⟩ := atS HR1.out f.lab hf2
      injection hA' with hA'
      subst hA'
      replace g1 := later HB.out g1
      obtain ⟨t, ht⟩ : ∃ t, t = ls.getD f.lab ByteArray.empty := ⟨_, rfl⟩
      rw [← ht] at g1
      have HT1 := Aside0.mk (show (all.getD f.frm dF).word ++ (L ++ [t]).reverse = T by
        rw [← HT.out, hf3, ht]
        unfold wordF
        simp)
      clear hf hcell hf3 ht
      subst hv
      have i2 : (k : Int) < (all.length : Int) := by omega
      have i3 : (0 : Int) < (k : Int) := by omega
      have i4 : (f.lab : Int) < (ls.length : Int) := by omega
      obtain ⟨fl, hfl⟩ : ∃ fl, fl = f.lab := ⟨_, rfl⟩
      obtain ⟨ff, hff⟩ : ∃ ff, ff = f.frm := ⟨_, rfl⟩
      rw [← hfl] at g1 hcl i4
      rw [← hff] at HT1 hf1 hcf HFFa
      clear hfl hff hf2
      have HCf := Aside0.mk hcf
      clear hcf
      go_wp2_with fail
      refine start_ (n := 19) (S := fun w' => w'.cell? ⟨x, 1, none⟩ = some (.slice (some ad) ls.length c1) ∧ w'.cell? ⟨x, 3, none⟩ = some (.slice (some ⟨g, 0, none⟩) all.length c) ∧ w'.cell? ⟨g, k * 66 + 65, none⟩ = some (.int .i64 (fl : Int)) ∧ w'.cell? (ad.add fl) = some (.string t)) (ds := [17]) #[false, false, false, false, false, false, false, false, false, false, false, false, false, false, false, false, false, false, false] (by kernel_rfl) rfl rfl ⟨HSr.out.c1, HSr.out.c3, hcl, g1⟩ (fun hHeld => ?_)
      have hB5 := below_drew1 (Below.refl wr.heap.size wr)
      have HO5 := Aside0.mk (Kd.R_below HO.out hB5)
      have HB5 := Aside0.mk (below_then HB.out HB.out.size hB5)
      clear hB5
      generalize wr.drew = W5 at HO5 HB5 hHeld ⊢
      refine pure_ (i := 0) (N := some 27) (v := ?_) (a' := ?_) #[true, false, false, false, false, false, false, false, false, false, false, false, false, false, false, false, false, false, false] rfl rfl (by kernel_rfl) (fun _ _ _ h => h) (Or.inl ⟨by rfl, ?_⟩) ?_ ?_
      rotate_left
      · intro w'
        go_simp
        with_reducible rfl
      rotate_left
      · simp only [Act.put, List.setIfInBounds_toArray, List.set_cons_zero, List.set_cons_succ, i64_w, i32_w]
        rfl
      refine pure_ (i := 1) (N := some 28) (v := ?_) (a' := ?_) #[true, true, false, false, false, false, false, false, false, false, false, false, false, false, false, false, false, false, false] rfl rfl (by kernel_rfl) (fun _ _ _ h => h) (Or.inl ⟨by rfl, ?_⟩) ?_ ?_
      rotate_left
      · intro w'
        go_simp
        with_reducible rfl
      rotate_left
      · simp only [Act.put, List.setIfInBounds_toArray, List.set_cons_zero, List.set_cons_succ, i64_w, i32_w]
        rfl
      refine pure_ (i := 2) (N := some 29) (v := ?_) (a' := ?_) #[true, true, true, false, false, false, false, false, false, false, false, false, false, false, false, false, false, false, false] rfl rfl (by kernel_rfl) (fun _ _ _ h => h) (Or.inl ⟨by rfl, ?_⟩) ?_ ?_
      rotate_left
      · intro w'
        go_simp
        with_reducible rfl
      rotate_left
      · simp only [Act.put, List.setIfInBounds_toArray, List.set_cons_zero, List.set_cons_succ, i64_w, i32_w]
        rfl
      refine pure_ (i := 3) (N := some 30) (v := ?_) (a' := ?_) #[true, true, true, true, false, false, false, false, false, false, false, false, false, false, false, false, false, false, false] rfl rfl (by kernel_rfl) (fun _ _ _ h => h) (Or.inl ⟨by rfl, ?_⟩) ?_ ?_
      rotate_left
      · intro w'
        go_simp
        with_reducible rfl
      rotate_left
      · simp only [Act.put, List.setIfInBounds_toArray, List.set_cons_zero, List.set_cons_succ, i64_w, i32_w]
        rfl
      refine pure_ (i := 4) (N := some 31) (v := ?_) (a' := ?_) #[true, true, true, true, true, false, false, false, false, false, false, false, false, false, false, false, false, false, false] rfl rfl (by kernel_rfl) (fun _ _ _ h => h) (Or.inl ⟨by rfl, ?_⟩) ?_ ?_
      rotate_left
      · intro w'
        go_simp
        with_reducible rfl
      rotate_left
      · simp only [Act.put, List.setIfInBounds_toArray, List.set_cons_zero, List.set_cons_succ, i64_w, i32_w]
        rfl
      refine pure_ (i := 6) (N := some 33) (v := ?_) (a' := ?_) #[true, true, true, true, true, false, true, false, false, false, false, false, false, false, false, false, false, false, false] rfl rfl (by kernel_rfl) (fun _ _ _ h => h) (Or.inl ⟨by rfl, ?_⟩) ?_ ?_
      rotate_left
      · intro w'
        go_simp
        with_reducible rfl
      rotate_left
      · simp only [Act.put, List.setIfInBounds_toArray, List.set_cons_zero, List.set_cons_succ, i64_w, i32_w]
        rfl
      refine pure_ (i := 7) (N := some 34) (v := ?_) (a' := ?_) #[true, true, true, true, true, false, true, true, false, false, false, false, false, false, false, false, false, false, false] rfl rfl (by kernel_rfl) (fun _ _ _ h => h) (Or.inl ⟨by rfl, ?_⟩) ?_ ?_
      rotate_left
      · intro w'
        go_simp
        with_reducible rfl
      rotate_left
      · simp only [Act.put, List.setIfInBounds_toArray, List.set_cons_zero, List.set_cons_succ, i64_w, i32_w]
        rfl
      refine pure_ (i := 8) (N := some 35) (v := ?_) (a' := ?_) #[true, true, true, true, true, false, true, true, true, false, false, false, false, false, false, false, false, false, false] rfl rfl (by kernel_rfl) (fun _ _ _ h => h) (Or.inl ⟨by rfl, ?_⟩) ?_ ?_
      rotate_left
      · intro w'
        go_simp
        with_reducible rfl
      rotate_left
      · simp only [Act.put, List.setIfInBounds_toArray, List.set_cons_zero, List.set_cons_succ, i64_w, i32_w]
        rfl
      refine pure_ (i := 10) (N := some 37) (v := ?_) (a' := ?_) #[true, true, true, true, true, false, true, true, true, false, true, false, false, false, false, false, false, false, false] rfl rfl (by kernel_rfl) (fun _ _ _ h => h) (Or.inl ⟨by rfl, ?_⟩) ?_ ?_
      rotate_left
      · intro w'
        go_simp
        with_reducible rfl
      rotate_left
      · simp only [Act.put, List.setIfInBounds_toArray, List.set_cons_zero, List.set_cons_succ, i64_w, i32_w]
        rfl
      refine take_ (i := 5) (N := some 32) (v := ?_) (a' := ?_) #[true, true, true, true, true, true, true, true, true, false, true, false, false, false, false, false, false, false, false] rfl rfl (by kernel_rfl) (fun _ _ _ h => h) (Or.inl ⟨by rfl, ?_⟩) hHeld ?_ ?_
      rotate_left
      · rintro w' ⟨s0, s1, s2, s3⟩
        go_simp
        with_reducible rfl
      rotate_left
      · simp only [Act.put, List.setIfInBounds_toArray, List.set_cons_zero, List.set_cons_succ, i64_w, i32_w]
        rfl
      refine take_ (i := 9) (N := some 36) (v := ?_) (a' := ?_) #[true, true, true, true, true, true, true, true, true, true, true, false, false, false, false, false, false, false, false] rfl rfl (by kernel_rfl) (fun _ _ _ h => h) (Or.inl ⟨by rfl, ?_⟩) hHeld ?_ ?_
      rotate_left
      · rintro w' ⟨s0, s1, s2, s3⟩
        go_simp
        with_reducible rfl
      rotate_left
      · simp only [Act.put, List.setIfInBounds_toArray, List.set_cons_zero, List.set_cons_succ, i64_w, i32_w]
        rfl
      refine pure_ (i := 11) (N := some 38) (v := ?_) (a' := ?_) #[true, true, true, true, true, true, true, true, true, true, true, true, false, false, false, false, false, false, false] rfl rfl (by kernel_rfl) (fun _ _ _ h => h) (Or.inl ⟨by rfl, ?_⟩) ?_ ?_
      rotate_left
      · intro w'
        go_simp
        with_reducible rfl
      rotate_left
      · simp only [Act.put, List.setIfInBounds_toArray, List.set_cons_zero, List.set_cons_succ, i64_w, i32_w]
        rfl
      refine pure_ (i := 12) (N := some 39) (v := ?_) (a' := ?_) #[true, true, true, true, true, true, true, true, true, true, true, true, true, false, false, false, false, false, false] rfl rfl (by kernel_rfl) (fun _ _ _ h => h) (Or.inl ⟨by rfl, ?_⟩) ?_ ?_
      rotate_left
      · intro w'
        go_simp
        with_reducible rfl
      rotate_left
      · simp only [Act.put, List.setIfInBounds_toArray, List.set_cons_zero, List.set_cons_succ, i64_w, i32_w]
        rfl
      refine take_ (i := 13) (N := some 40) (v := ?_) (a' := ?_) #[true, true, true, true, true, true, true, true, true, true, true, true, true, true, false, false, false, false, false] rfl rfl (by kernel_rfl) (fun _ _ _ h => h) (Or.inl ⟨by rfl, ?_⟩) hHeld ?_ ?_
      rotate_left
      · rintro w' ⟨s0, s1, s2, s3⟩
        go_simp
        with_reducible rfl
      rotate_left
      · simp only [Act.put, List.setIfInBounds_toArray, List.set_cons_zero, List.set_cons_succ, i64_w, i32_w]
        rfl
      refine pure_ (i := 14) (N := some 41) (v := ?_) (a' := ?_) #[true, true, true, true, true, true, true, true, true, true, true, true, true, true, true, false, false, false, false] rfl rfl (by kernel_rfl) (fun _ _ _ h => h) (Or.inl ⟨by rfl, ?_⟩) ?_ ?_
      rotate_left
      · intro w'
        go_simp
        with_reducible rfl
      rotate_left
      · simp only [Act.put, List.setIfInBounds_toArray, List.set_cons_zero, List.set_cons_succ, i64_w, i32_w]
        rfl
      refine take_ (i := 15) (N := some 42) (v := ?_) (a' := ?_) #[true, true, true, true, true, true, true, true, true, true, true, true, true, true, true, true, false, false, false] rfl rfl (by kernel_rfl) (fun _ _ _ h => h) (Or.inl ⟨by rfl, ?_⟩) hHeld ?_ ?_
      rotate_left
      · rintro w' ⟨s0, s1, s2, s3⟩
        go_simp
        with_reducible rfl
      rotate_left
      · simp only [Act.put, List.setIfInBounds_toArray, List.set_cons_zero, List.set_cons_succ, i64_w, i32_w]
        rfl
      refine one_ (i := 16) (N := some 43) #[true, true, true, true, true, true, true, true, true, true, true, true, true, true, true, true, true, false, false] rfl rfl (by kernel_rfl) (by decide) (fun K hK => ?_)
      refine value_ (w1 := ?_) (v := ?_) (by rfl) rfl ?_ ?_
      rotate_left 2
      · go_simp
        constructor
        · rfl
        · rfl
      refine hK.out _ _ ⟨later (below_alloc (Below.refl _ _) _) hHeld.1, later (below_alloc (Below.refl _ _) _) hHeld.2.1, later (below_alloc (Below.refl _ _) _) hHeld.2.2.1, later (below_alloc (Below.refl _ _) _) hHeld.2.2.2⟩ (fun hHeld => ?_)
      clear hK K
      refine norm_ (a' := ?_) ?_ ?_
      rotate_left
      · show Act.put _ (some 43) _ = _
        simp only [Act.put, List.setIfInBounds_toArray, List.set_cons_zero, List.set_cons_succ, i64_w, i32_w]
        rfl
      refine last_ (i := 17) (N := some 44) #[true, true, true, true, true, true, true, true, true, true, true, true, true, true, true, true, true, true, false] rfl rfl (by kernel_rfl) (by decide) (fun K hK => ?_)
      refine Kd.R_append_step Kd.string (w0 := w) w.heap.size (by rfl) (.tmp 27) (.tmp 43) 22 9 (.string ⟨#[]⟩) 16 rfl Try.underlying22 info9 rfl (by decide) (by omega) u7 L t [.string t] (fun _ => True) (fun _ => False) rfl rfl ?aP (fun _ hk => hk.elim) ?aF ?aO ?aB ?aS ?aL ?_
      (case aP => exact rfl)
      (case aF => exact fun _ _ => trivial)
      (case aO => exact HO5.out)
      (case aB => exact HB5.out)
      (case aS => exact HB5.out.size)
      (case aL => omega)
      intro v3 w3 ho hb hg hat
      have HO6 := Aside0.mk ho
      have HB6 := Aside0.mk hb
      clear ho hb hg hat
      refine hK.out _ _ ?_
      clear hK K
      refine norm_ (a' := ?_) ?_ ?_
      rotate_left
      · show Act.put _ (some 44) _ = _
        simp only [Act.put, List.setIfInBounds_toArray, List.set_cons_zero, List.set_cons_succ, i64_w, i32_w]
        rfl
      refine pure_ (i := 18) (N := some 7) (v := ?_) (a' := ?_) #[true, true, true, true, true, true, true, true, true, true, true, true, true, true, true, true, true, true, true] rfl rfl (by kernel_rfl) (fun _ _ _ h => h) (Or.inl ⟨by rfl, ?_⟩) ?_ ?_
      rotate_left
      · intro w'
        go_simp
        with_reducible rfl
      rotate_left
      · simp only [Act.put, List.setIfInBounds_toArray, List.set_cons_zero, List.set_cons_succ, i64_w, i32_w]
        rfl
      refine done_ (by kernel_rfl) ?_
      have HS6 := Aside0.mk (HS0.out.on HB6.out)
      have hx3 := HS6.out.c3
      obtain ⟨g', c', hv', hcell'⟩ := atF HS6.out.row k hk
      injection hv' with e1 e2 e3
      injection e1 with e1
      injection e1 with e1
      subst e1
      have hcf := hcell' 64 _ (encF_frm _)
      have HFF := Aside0.mk (show (all.getD k dF).frm = ff from HFFa.out)
      rw [HFF.out] at hcf
      clear e2 e3 hcell'
      go_wp2
      go_roundw
      case rel => exact ⟨ff, L ++ [t], rfl, by omega, HT1, by simp; omega, HO6, HB6⟩
      case measure => simp [intOf]; omega
    · have hk00 : k = 0 := by omega
      subst hk00
      have e0 : L.reverse = T := by
        have := HT.out
        rw [HW.out.zero, List.nil_append] at this
        exact this
      have HE := Aside0.mk e0
      have hLl : L.length < 1000000000000 := by omega
      clear e0 HT
      go_wp2_with fail
      refine (reverseR _ _ _ _ _ HO.out hLl).mono ?_
      rintro e w3 ⟨rfl, hR, hG⟩
      have HR3 := Aside0.mk hR
      have HB3 := Aside0.mk (HB.out.grown hG HB.out.size (Kd.R_base HO.out))
      clear hR hG
      rw [HE.out] at HR3
      go_wp2
      go_ret
      exact ⟨_, rfl, HR3.out, HB3.out⟩

end Go.Proofs.Ytmpiokdomjchiaa.H
