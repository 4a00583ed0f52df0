/-
  Walks: semblanceref40.met, semblanceref40.Of.
-/
import Derived.Test.YtmpiokdomjchiaaSn
set_option linter.unusedVariables false
set_option linter.unusedSimpArgs false
namespace Go.Proofs.Ytmpiokdomjchiaa.H
open Go.RowKit Go.Proofs.Ytmpiokdomjchiaa.Pr Go.Proofs.YtmpiokdomjchiaaW.PrintWords Go.Proofs.Ytmpiokdomjchiaa.Sem Go.Proofs.YtmpiokdomjchiaaW.PrintLast

abbrev FS := S122
/-- What was found, as the reference has it. -/
def toF (f : Fnd) : FS := ⟨f.a, f.b, f.word⟩
theorem toF_at (all : List Fnd) (k : Nat) : (all.map toF).getD k z122 = toF (all.getD k dF) := by
  by_cases h : k < all.length
  · simp [List.getD_eq_getElem?_getD, List.getElem?_eq_getElem h]
  · rw [List.getD_eq_getElem?_getD, List.getD_eq_getElem?_getD, List.getElem?_eq_none (by simpa using h), List.getElem?_eq_none (by omega)]
    rfl
/-- Number k of what was found, in memory. -/
theorem atFd {w : World} {A : Option Addr} {all : List Fnd} (h : Kd.C k122 w A all.length (all.map toF)) (k : Nat) (hk : k < all.length) : ∃ ad A0 c0 A1 c1 A2 c2, A = some ad ∧ w.cell? (ad.add (k * 3)) = some (.slice A0 (all.getD k dF).a.length c0) ∧ w.cell? ⟨(ad.add (k * 3)).block, (ad.add (k * 3)).off + 1, none⟩ = some (.slice A1 (all.getD k dF).b.length c1) ∧ w.cell? ⟨(ad.add (k * 3)).block, (ad.add (k * 3)).off + 2, none⟩ = some (.slice A2 (all.getD k dF).word.length c2) ∧ Kd.C (Kd.int .i64) w A0 (all.getD k dF).a.length (all.getD k dF).a ∧ Kd.C (Kd.int .i64) w A1 (all.getD k dF).b.length (all.getD k dF).b ∧ Kd.C Kd.string w A2 (all.getD k dF).word.length (all.getD k dF).word := by
  obtain ⟨ad, A0, c0, A1, c1, A2, c2, e, h0, h1, h2, _, g0, _, g1, _, g2⟩ := at_T122 h (k : Int) (by omega) (by omega)
  have e1 : rd_T122 (all.map toF) (k : Int) = toF (all.getD k dF) := by
    show (all.map toF).getD ((k : Int)).toNat z122 = _
    rw [Int.toNat_natCast, toF_at]
  rw [e1] at h0 h1 h2 g0 g1 g2
  rw [Int.toNat_natCast] at h0 h1 h2
  exact ⟨ad, A0, c0, A1, c1, A2, c2, e, h0, h1, h2, g0, g1, g2⟩
theorem same_int (xs ys : List Int) (r : Bool) (hr : decide (xs = ys) = r) (A1 A2 : Option Addr) (c1 c2 : Nat) (w : World) (hx : Kd.C (Kd.int .i64) w A1 xs.length xs) (hy : Kd.C (Kd.int .i64) w A2 ys.length ys) :
    Calls Try.prog 33 #[.slice A1 xs.length c1, .slice A2 ys.length c2] w fun e w' => e = .returned (.bool r) ∧ Drawn0 w w' := by
  rw [← hr]
  exact same01_any xs ys A1 A2 c1 c2 w hx hy
theorem drawn_trans {w1 w2 w3 : World} (h : Drawn0 w1 w2) (k : Drawn0 w2 w3) : Drawn0 w1 w3 := by
  obtain ⟨n, rfl⟩ := h
  obtain ⟨m, rfl⟩ := k
  exact ⟨⟨n + m, World.drewN_drewN ..⟩⟩

set_option maxHeartbeats 8000000 in
set_option maxRecDepth 100000 in
theorem met_any (all : List Fnd) (a b : List Int) (r : Bool) (hr0 : metF all a b = r) (A1 A2 A3 : Option Addr) (c1 c2 c3 : Nat) (w : World) (hr : Kd.C k122 w A1 all.length (all.map toF)) (ha : Kd.C (Kd.int .i64) w A2 a.length a) (hb : Kd.C (Kd.int .i64) w A3 b.length b) :
    Calls Try.prog 83 #[.slice A1 all.length c1, .slice A2 a.length c2, .slice A3 b.length c3] w fun e w' => e = .returned (.bool r) ∧ Drawn0 w w' := by
  have hl := C_len hr
  have HR := Lib.hid hr; clear hr
  have HA := Lib.hid ha; clear ha
  have HB := Lib.hid hb; clear hb
  have H0 := Aside0.mk hr0; clear hr0
  go_enter Try.func83, Try.ntmps83
  go_wp2
  go_loopw [7] (fun i wr => ∃ k : Nat, k ≤ all.length ∧ i = .int .i64 k ∧ Aside0 (∀ j, j < k → (decide ((all.getD j dF).a = a) && decide ((all.getD j dF).b = b)) = false) ∧ Drawn0 w wr) (fun i _ => all.length - (intOf i).toNat)
  case atStart => exact ⟨0, Nat.zero_le _, rfl, ⟨fun j hj => by omega⟩, Drawn0.refl _⟩
  case round =>
    obtain ⟨k, hk, rfl, hz, hD⟩ := hrel
    by_cases hlt : k < all.length
    · have i0 : (k : Int) < (all.length : Int) := by omega
      obtain ⟨ad, B0, d0, B1, d1, B2, d2, hA, g0, g1, g2, k0, k1, k2⟩ := atFd (Kd.C_below HR.out hD.below) k hlt
      subst hA
      obtain ⟨f, hf⟩ : ∃ f, f = all.getD k dF := ⟨_, rfl⟩
      rw [← hf] at g0 g1 g2 k0 k1 k2
      have HS := Aside0.mk hf; clear hf g2 k2
      have HK0 := Aside0.mk k0
      have HK1 := Aside0.mk k1
      clear k0 k1
      have HA2 := Aside0.mk (Kd.C_below HA.out hD.below)
      have HB2 := Aside0.mk (Kd.C_below HB.out hD.below)
      by_cases q : f.a = a
      · have Q := Aside0.mk (decide_eq_true q)
        clear q
        go_wp2_with fail
        refine (same_int f.a a true Q.out B0 A2 d0 c2 wr HK0.out HA2.out).mono ?_
        rintro e w3 ⟨rfl, hD3⟩
        have g1' := later hD3.below g1
        have HK13 := Aside0.mk (Kd.C_below HK1.out hD3.below)
        have HB3 := Aside0.mk (Kd.C_below HB2.out hD3.below)
        have hD4 := drawn_trans hD hD3
        clear g0 g1 hD hD3
        by_cases q2' : f.b = b
        · have Q2 := Aside0.mk (decide_eq_true q2')
          clear q2'
          have HF := Aside0.mk (show r = true by rw [← H0.out]; exact any_yes dF hlt (by rw [← HS.out, Q.out, Q2.out]; rfl))
          go_wp2_with fail
          refine (same_int f.b b true Q2.out B1 A3 d1 c3 w3 HK13.out HB3.out).mono ?_
          rintro e w4 ⟨rfl, hD5⟩
          have hD6 := drawn_trans hD4 hD5
          clear hD5 hD4 g1'
          go_wp2
          go_ret
          exact ⟨ret_bool HF.out.symm, hD6⟩
        · have Q2 := Aside0.mk (decide_eq_false q2')
          clear q2'
          have HQ := Aside0.mk (show (decide (f.a = a) && decide (f.b = b)) = false by rw [Q2.out, Bool.and_false])
          go_wp2_with fail
          refine (same_int f.b b false Q2.out B1 A3 d1 c3 w3 HK13.out HB3.out).mono ?_
          rintro e w4 ⟨rfl, hD5⟩
          have hD6 := drawn_trans hD4 hD5
          clear hD5 hD4 g1'
          go_wp2
          go_roundw
          case rel => exact ⟨k + 1, by omega, by go_num, ⟨fun j hj => by rcases Nat.lt_succ_iff_lt_or_eq.1 hj with h | rfl; exact hz.out j h; rw [← HS.out]; exact HQ.out⟩, hD6⟩
          case measure => simp [intOf]; omega
      · have Q := Aside0.mk (decide_eq_false q)
        clear q
        have HQ := Aside0.mk (show (decide (f.a = a) && decide (f.b = b)) = false by rw [Q.out, Bool.false_and])
        go_wp2_with fail
        refine (same_int f.a a false Q.out B0 A2 d0 c2 wr HK0.out HA2.out).mono ?_
        rintro e w3 ⟨rfl, hD3⟩
        have hD4 := drawn_trans hD hD3
        clear g0 g1 hD hD3
        go_wp2
        go_roundw
        case rel => exact ⟨k + 1, by omega, by go_num, ⟨fun j hj => by rcases Nat.lt_succ_iff_lt_or_eq.1 hj with h | rfl; exact hz.out j h; rw [← HS.out]; exact HQ.out⟩, hD4⟩
        case measure => simp [intOf]; omega
    · have i0 : ¬ (k : Int) < (all.length : Int) := by omega
      have HF := Aside0.mk (show r = false by rw [← H0.out]; exact any_no dF hlt hz.out)
      go_wp2
      go_ret
      exact ⟨ret_bool HF.out.symm, hD⟩

theorem results_word1 {fn : Func} {p : Tmp} (h : fn.results = #[.cell p 54]) (tmps : Array Value) (w : World) (r : Nat) (k v : Value) (hp : tmps.getD p undef = .pointer (some ⟨r, 0, none⟩)) (hb : WordAt w r k v) : (results fn tmps).run Try.prog w = .ok (.agg #[k, v]) w :=
  results_cell_row h tmps w r 54 #[k, v] (0, 0) _ hp hb Try.underlying54 rfl (by simpa using info_word)
/-- A row's blocks are of its own type. -/
theorem R_apart {α : Type} {d : Kd α} {e e' : Nat} {w : World} {base : Nat} {u v : Value} {xs : List α} (h : d.R e w base (fun _ => True) u xs) (hE : d.E = []) (hv : ∀ k, v.ownBlock = some k → ∃ cells, w.heap[k]? = some (.cells cells e' (0, 0))) (ht : e ≠ e') : d.R e w base (fun k => some k ≠ v.ownBlock) u xs := by
  refine Kd.R_mono (Kd.R_bound h) (fun k hk e1 => ?_)
  obtain ⟨_, _, _, q, hq, cells, hc⟩ := hk
  rw [hE] at hq
  obtain ⟨c2, hc2⟩ := hv k e1.symm
  rw [hc] at hc2
  cases hc2
  exact ht (List.mem_singleton.1 hq).symm
theorem R_new {α : Type} {d : Kd α} {e base : Nat} (W : World) (xs : List α) (inner : List Value) (hrep : Reps (d.M W base fun _ => True) d.sz xs inner) (hbase : base ≤ W.heap.size) (hm : xs.length ≤ 9223372036854775807) : d.R e (W.alloc (.cells inner.toArray e)) base (fun _ => True) (.slice (some ⟨W.heap.size, 0, none⟩) xs.length xs.length) xs := by
  refine ⟨fun _ _ => trivial, inner, ?_, ?_⟩
  · have h2 := World.ownsRow_lit (base := base) (e := e) (size := d.sz) W inner.toArray xs.length hbase (by simpa [maxLen] using hm) (by simpa using hrep.1)
    simpa using h2
  · refine hrep.imp_ (fun p c hp => d.M_mono (fun k hk => ⟨trivial, fun he => ?_⟩) (Kd.M_below (d.M_bound hp) (below_alloc (Below.refl _ _) _)))
    have h3 : k = W.heap.size := by simpa [Value.ownBlock] using he
    have := hk.2.2.1
    omega
theorem oneI (W : World) (base : Nat) (x : Int) (hb : base ≤ W.heap.size) : Kd.R (Kd.int .i64) 3 (W.alloc (.cells #[.int .i64 x] 3)) base (fun _ => True) (.slice (some ⟨W.heap.size, 0, none⟩) 1 1) [x] := by
  have := own_lit_of (enc := Value.int .i64) W base 3 [x] hb (by simp)
  have h2 := Kd.R_of_own (enc := Value.int .i64) (h1 := fun _ => rfl) (ok := fun _ => True) this (fun _ _ => trivial)
  simpa [encs, Kd.int] using h2
theorem find_start (W : World) (base : Nat) (s t : Int) (hb : base ≤ W.heap.size) : Kd.R k122 122 (((W.alloc (.cells #[.int .i64 s] 3)).alloc (.cells #[.int .i64 t] 3)).alloc (.cells #[.slice (some ⟨W.heap.size, 0, none⟩) 1 1, .slice (some ⟨W.heap.size + 1, 0, none⟩) 1 1, .slice none 0 0] 122)) base (fun _ => True) (.slice (some ⟨W.heap.size + 1 + 1, 0, none⟩) 1 1) [(⟨[s], [t], []⟩ : FS)] := by
  have h1 := Kd.R_below (oneI W base s hb) (below_alloc (Below.refl _ _) (Obj.cells #[.int .i64 t] 3))
  have h2 := oneI (W.alloc (.cells #[.int .i64 s] 3)) base t (by simp; omega)
  have h3 := R_new (d := k122) (e := 122) (base := base) ((W.alloc (.cells #[.int .i64 s] 3)).alloc (.cells #[.int .i64 t] 3)) [(⟨[s], [t], []⟩ : FS)] [.slice (some ⟨W.heap.size, 0, none⟩) 1 1, .slice (some ⟨W.heap.size + 1, 0, none⟩) 1 1, .slice none 0 0] (Reps.snoc (Reps.none _ _) (k122_mkM _ base _ (⟨[s], [t], []⟩ : FS) h1 (by simpa using h2) (Kd.R_nil _ _ _ _ _)) rfl) (by simp; omega) (by simp)
  simpa using h3
theorem emptyS (W : World) (base : Nat) (hb : base ≤ W.heap.size) : Kd.R Kd.string 9 (W.alloc (.cells #[] 9)) base (fun _ => True) (.slice (some ⟨W.heap.size, 0, none⟩) 0 0) [] :=
  Kd.R_of_own (enc := Value.string) (own_lit_of (enc := Value.string) W base 9 [] hb (by simp)) (fun _ _ => trivial)
/-- One text in a block. -/
def OneS (w : World) (b : Nat) (s : ByteArray) : Prop := w.heap[b]? = some (.cells #[.string s] 9 (0, 0))
theorem OneS.read {w : World} {b : Nat} {s : ByteArray} (h : OneS w b s) : Kd.C Kd.string w (some ⟨b, 0, none⟩) 1 [s] :=
  C_of_blk (ps := [s]) (cells := [.string s]) h (Reps.snoc (Reps.none _ _) (by rfl) rfl) (by simp)
theorem OneS.below {w w1 : World} {b : Nat} {s : ByteArray} (h : OneS w b s) (hb : Below w.heap.size w w1) : OneS w1 b s := blk_below h hb
theorem one_new {B : Nat} {V W : World} (h : Below B V W) (s : ByteArray) : OneS (W.alloc (.cells #[.string s] 9)) W.heap.size s := blk_new _ _
theorem cells5_later {w w1 : World} (hb : Below w.heap.size w w1) {a1 a2 a3 : Addr} {u1 u2 u3 : Value} (h : w.cell? a1 = some u1 ∧ w.cell? a2 = some u2 ∧ w.cell? a3 = some u3) : w1.cell? a1 = some u1 ∧ w1.cell? a2 = some u2 ∧ w1.cell? a3 = some u3 :=
  ⟨later hb h.1, later hb h.2.1, later hb h.2.2⟩
/-- The variables of semblanceref40.Of. -/
structure QSt (w W : World) (n : Int) (v1 v2 v : Value) (all : List Fnd) : Prop where
  box : BoxL W w.heap.size n v1 v2
  word : WordAt W (w.heap.size + 1) (.int .i64 0) (.slice none 0 0)
  row : Kd.R k122 122 W w.heap.size (fun _ => True) v (all.map toF)
  below : Below w.heap.size w W
theorem QSt.on {w W W1 : World} {n : Int} {v1 v2 v : Value} {all : List Fnd} (h : QSt w W n v1 v2 v all) (hb : Below W.heap.size W W1) : QSt w W1 n v1 v2 v all :=
  ⟨h.box.below hb, h.word.below hb, Kd.R_below h.row hb, below_then h.below h.below.size hb⟩

set_option maxHeartbeats 16000000 in
set_option maxRecDepth 100000 in
theorem of40_any (n s t : Nat) (ls : List ByteArray) (es : List Ed) (budget : Nat) (A1 A2 : Option Addr) (c1 c2 : Nat) (w : World) (hr1 : Kd.C Kd.string w A1 ls.length ls) (hr2 : Kd.C k81 w A2 es.length es) (hm : mayR n ls es = true) (hs : s < n) (ht : t < n) (hb1 : 1 ≤ budget) (hb2 : budget ≤ 65536) :
    Calls Try.prog 41 #[.agg #[.int .i64 (n : Int), .slice A1 ls.length c1, .slice A2 es.length c2], .int .i64 (s : Int), .int .i64 (t : Int), .int .i64 (budget : Int)] w fun e w' => ∃ vw, e = .returned (.agg #[.int .i64 (ofF n ls es s t (budget : Int)).1, vw]) ∧ Kd.R Kd.string 9 w' w.heap.size (fun _ => True) vw (ofF n ls es s t (budget : Int)).2 ∧ Below w.heap.size w w' := by
  have HB := Aside0.mk (Below.refl w.heap.size w)
  have hn := (n_le hm).2
  have hn' : n ≤ 2048 := by omega
  have hls := C_len hr1
  have HR1 := Aside0.mk hr1
  have HR2 := Aside0.mk hr2
  have HE0 := Aside0.mk (fun e he => (es_mem hm (e := e) he).1.1)
  obtain ⟨T, hT⟩ : ∃ T, T = ofF n ls es s t (budget : Int) := ⟨_, rfl⟩
  have HT := Aside0.mk hT
  rw [← hT]
  clear hr1 hr2 hm hT
  have h1 : Below (w.alloc (Obj.cells #[Value.int IntKind.i64 n, Value.slice A1 ls.length c1, Value.slice A2 es.length c2] 25)).heap.size (w.alloc (Obj.cells #[Value.int IntKind.i64 n, Value.slice A1 ls.length c1, Value.slice A2 es.length c2] 25)) ((w.alloc (Obj.cells #[Value.int IntKind.i64 n, Value.slice A1 ls.length c1, Value.slice A2 es.length c2] 25)).alloc (Obj.cells #[Value.int IntKind.i64 0, Value.slice none 0 0] 54)) := below_alloc (Below.refl _ _) _
  have HX1 := Aside0.mk (show BoxL ((w.alloc (Obj.cells #[Value.int IntKind.i64 n, Value.slice A1 ls.length c1, Value.slice A2 es.length c2] 25)).alloc (Obj.cells #[Value.int IntKind.i64 0, Value.slice none 0 0] 54)) w.heap.size n (.slice A1 ls.length c1) (.slice A2 es.length c2) from blk_below (blk_new w _) h1)
  have HW1 := Aside0.mk (word_new (w.alloc (Obj.cells #[Value.int IntKind.i64 n, Value.slice A1 ls.length c1, Value.slice A2 es.length c2] 25)) (w.heap.size + 1) (.int .i64 0) (.slice none 0 0) (by simp))
  have HB1 := Aside0.mk (below_alloc (below_alloc HB.out (Obj.cells #[Value.int IntKind.i64 n, Value.slice A1 ls.length c1, Value.slice A2 es.length c2] 25)) (Obj.cells #[Value.int IntKind.i64 0, Value.slice none 0 0] 54))
  clear h1
  go_enter Try.func41, Try.ntmps41
  go_wp2
  have HQ0 := Aside0.mk (show QSt w (((((w.alloc (Obj.cells #[Value.int IntKind.i64 n, Value.slice A1 ls.length c1, Value.slice A2 es.length c2] 25)).alloc (Obj.cells #[Value.int IntKind.i64 0, Value.slice none 0 0] 54)).alloc (Obj.cells #[Value.int IntKind.i64 s] 3)).alloc (Obj.cells #[Value.int IntKind.i64 t] 3)).alloc (Obj.cells #[Value.slice (some ⟨w.heap.size + 1 + 1, 0, none⟩) 1 1, Value.slice (some ⟨w.heap.size + 1 + 1 + 1, 0, none⟩) 1 1, Value.slice none 0 0] 122)) n (.slice A1 ls.length c1) (.slice A2 es.length c2) (.slice (some ⟨w.heap.size + 1 + 1 + 1 + 1, 0, none⟩) 1 1) [⟨[(s : Int)], [(t : Int)], [], 0, 0⟩] by
    have hb : Below ((w.alloc (Obj.cells #[Value.int IntKind.i64 n, Value.slice A1 ls.length c1, Value.slice A2 es.length c2] 25)).alloc (Obj.cells #[Value.int IntKind.i64 0, Value.slice none 0 0] 54)).heap.size ((w.alloc (Obj.cells #[Value.int IntKind.i64 n, Value.slice A1 ls.length c1, Value.slice A2 es.length c2] 25)).alloc (Obj.cells #[Value.int IntKind.i64 0, Value.slice none 0 0] 54)) (((((w.alloc (Obj.cells #[Value.int IntKind.i64 n, Value.slice A1 ls.length c1, Value.slice A2 es.length c2] 25)).alloc (Obj.cells #[Value.int IntKind.i64 0, Value.slice none 0 0] 54)).alloc (Obj.cells #[Value.int IntKind.i64 s] 3)).alloc (Obj.cells #[Value.int IntKind.i64 t] 3)).alloc (Obj.cells #[Value.slice (some ⟨w.heap.size + 1 + 1, 0, none⟩) 1 1, Value.slice (some ⟨w.heap.size + 1 + 1 + 1, 0, none⟩) 1 1, Value.slice none 0 0] 122)) := below_alloc (below_alloc (below_alloc (Below.refl _ _) _) _) _
    refine ⟨HX1.out.below hb, HW1.out.below hb, ?_, below_then HB1.out HB1.out.size hb⟩
    have := find_start ((w.alloc (Obj.cells #[Value.int IntKind.i64 n, Value.slice A1 ls.length c1, Value.slice A2 es.length c2] 25)).alloc (Obj.cells #[Value.int IntKind.i64 0, Value.slice none 0 0] 54)) w.heap.size s t (by simp; omega)
    simpa [toF] using this)
  clear HX1 HW1 HB1
  generalize (((((w.alloc (Obj.cells #[Value.int IntKind.i64 n, Value.slice A1 ls.length c1, Value.slice A2 es.length c2] 25)).alloc (Obj.cells #[Value.int IntKind.i64 0, Value.slice none 0 0] 54)).alloc (Obj.cells #[Value.int IntKind.i64 s] 3)).alloc (Obj.cells #[Value.int IntKind.i64 t] 3)).alloc (Obj.cells #[Value.slice (some ⟨w.heap.size + 1 + 1, 0, none⟩) 1 1, Value.slice (some ⟨w.heap.size + 1 + 1 + 1, 0, none⟩) 1 1, Value.slice none 0 0] 122)) = W at HQ0 ⊢
  go_loopw [9, 10] (fun v i wr => ∃ (k fuel : Nat) (all : List Fnd), i = .int .i64 k ∧ all.length ≤ budget ∧ budget + 1 ≤ fuel + k ∧ Aside0 (∀ i, i < all.length → (all.getD i dF).word.length ≤ i) ∧ Aside0 (goF n ls es (budget : Int) fuel all k = T) ∧ Aside0 (QSt w wr n (.slice A1 ls.length c1) (.slice A2 es.length c2) v all)) (fun _ i _ => budget + 1 - (intOf i).toNat)
  case atStart =>
    refine ⟨0, budget + 1, _, rfl, by simp; omega, by omega, ⟨?_⟩, ⟨?_⟩, HQ0⟩
    · intro i hi
      have : i = 0 := by simpa using hi
      subst this
      exact Nat.le_refl _
    · rw [HT.out]
      unfold ofF
      rw [Int.toNat_natCast]
  case round =>
    clear HQ0
    obtain ⟨k, fuel, all, rfl, hal, hfu, HL, HG, HQ⟩ := hrel
    obtain ⟨wo, hwo⟩ : ∃ wo, wo = wr := ⟨_, rfl⟩
    subst hwo
    obtain ⟨Av, cv, hv⟩ := Kd.R_slice HQ.out.row
    rw [List.length_map] at hv
    subst hv
    by_cases hlt : k < all.length
    · have i0 : (k : Int) < (all.length : Int) := by omega
      obtain ⟨f', rfl⟩ : ∃ f', fuel = f' + 1 := ⟨fuel - 1, by omega⟩
      have HG' := Aside0.mk (goF_go (n := n) (ls := ls) (es := es) (budget := (budget : Int)) (f := f') hlt ▸ HG.out)
      go_wp2
      go_loopw [9, 11] (fun v j wr => ∃ (q : Nat) (all : List Fnd), j = .int .i64 q ∧ q ≤ ls.length ∧ k < all.length ∧ all.length ≤ budget ∧ Aside0 (∀ i, i < all.length → (all.getD i dF).word.length ≤ i) ∧ Aside0 (afterL n ls es (budget : Int) f' k (labsF n ls es (budget : Int) (ls.length - q) all k q) = T) ∧ Aside0 (QSt w wr n (.slice A1 ls.length c1) (.slice A2 es.length c2) v all)) (fun _ j _ => ls.length - (intOf j).toNat)
      case atStart => exact ⟨0, all, rfl, Nat.zero_le _, hlt, hal, HL, HG', HQ⟩
      case round =>
        clear HG' HQ HG HL
        obtain ⟨q, all', rfl, hq, hk', hal', HL, HG, HQ⟩ := hrel
        obtain ⟨wi, hwi⟩ : ∃ wi, wi = wr := ⟨_, rfl⟩
        subst hwi
        obtain ⟨Av', cv', hv⟩ := Kd.R_slice HQ.out.row
        rw [List.length_map] at hv
        subst hv
        have b1 := HQ.out.box.c1
        by_cases hlt2 : q < ls.length
        · have j0 : (q : Int) < (ls.length : Int) := by omega
          have j2 : (k : Int) < (all'.length : Int) := by omega
          obtain ⟨M, hM⟩ : ∃ M, ls.length - q = M + 1 := ⟨ls.length - q - 1, by omega⟩
          have HMM := Aside0.mk (show ls.length - (q + 1) = M by omega)
          rw [hM] at HG
          clear hM
          obtain ⟨A', c', hv', _, hCr⟩ := Kd.R_reads HQ.out.row
          rw [List.length_map] at hv' hCr
          injection hv' with e1 e2 e3
          subst e1
          obtain ⟨ad, B0, d0, B1, d1, B2, d2, hA, g0, g1, g2, k0, k1, k2⟩ := atFd hCr k hk'
          subst hA
          obtain ⟨f, hf⟩ : ∃ f, f = all'.getD k dF := ⟨_, rfl⟩
          rw [← hf] at g0 g1 g2 k0 k1 k2
          have HFw := Aside0.mk (show f.word.length ≤ k by rw [hf]; exact HL.out k hk')
          have HFd := Aside0.mk hf
          have HK0 := Aside0.mk k0
          have HK1 := Aside0.mk k1
          have HK2 := Aside0.mk k2
          have HE2 := Aside0.mk g2
          obtain ⟨al, hAl, gs⟩ := atS (Kd.C_below HR1.out HQ.out.below) q hlt2
          subst hAl
          obtain ⟨sx, hsx⟩ : ∃ sx, sx = ls.getD q ByteArray.empty := ⟨_, rfl⟩
          rw [← hsx] at gs
          have HSx := Aside0.mk hsx
          have HGs := Aside0.mk gs
          obtain ⟨a', ha'⟩ : ∃ a', a' = nextL n es f.a q := ⟨_, rfl⟩
          obtain ⟨b', hb'⟩ : ∃ b', b' = nextL n es f.b q := ⟨_, rfl⟩
          have HAe := Aside0.mk ha'
          have HBe := Aside0.mk hb'
          clear e2 e3 hCr hf k0 k1 k2 g2 gs hsx ha' hb'
          go_wp2_with fail
          clear b1
          refine start_ (n := 18) (S := fun w' => w'.cell? ⟨w.heap.size, 0, none⟩ = some (.int .i64 (n : Int)) ∧ w'.cell? ⟨w.heap.size, 1, none⟩ = some (.slice (some al) ls.length c1) ∧ w'.cell? ⟨w.heap.size, 2, none⟩ = some (.slice A2 es.length c2) ∧ w'.cell? (ad.add (k * 3)) = some (.slice B0 f.a.length d0) ∧ w'.cell? ⟨(ad.add (k * 3)).block, (ad.add (k * 3)).off + 1, none⟩ = some (.slice B1 f.b.length d1)) (ds := []) #[false, false, false, false, false, false, false, false, false, false, false, false, false, false, false, false, false, false] (by kernel_rfl) rfl rfl ⟨HQ.out.box.c0, HQ.out.box.c1, HQ.out.box.c2, g0, g1⟩ (fun hHeld => ?_)
          have HV := Aside0.mk (below_drew1 (Below.refl wi.heap.size wi))
          generalize wi.drew = V at HV hHeld ⊢
          clear g0 g1
          refine pure_ (i := 1) (N := some 35) (v := ?_) (a' := ?_) #[false, true, false, false, false, false, false, false, false, false, false, false, false, false, false, false, false, false] rfl rfl (by kernel_rfl) (fun _ _ _ h => h) (Or.inl ⟨by rfl, ?_⟩) ?_ ?_
          rotate_left
          · intro w'
            go_simp
            with_reducible rfl
          rotate_left
          · simp only [Act.put, List.setIfInBounds_toArray, List.set_cons_zero, List.set_cons_succ, i64_w, i32_w]
            rfl
          refine pure_ (i := 2) (N := some 36) (v := ?_) (a' := ?_) #[false, true, true, false, false, false, false, false, false, false, false, false, false, false, false, false, false, false] rfl rfl (by kernel_rfl) (fun _ _ _ h => h) (Or.inl ⟨by rfl, ?_⟩) ?_ ?_
          rotate_left
          · intro w'
            go_simp
            with_reducible rfl
          rotate_left
          · simp only [Act.put, List.setIfInBounds_toArray, List.set_cons_zero, List.set_cons_succ, i64_w, i32_w]
            rfl
          refine pure_ (i := 3) (N := some 37) (v := ?_) (a' := ?_) #[false, true, true, true, false, false, false, false, false, false, false, false, false, false, false, false, false, false] rfl rfl (by kernel_rfl) (fun _ _ _ h => h) (Or.inl ⟨by rfl, ?_⟩) ?_ ?_
          rotate_left
          · intro w'
            go_simp
            with_reducible rfl
          rotate_left
          · simp only [Act.put, List.setIfInBounds_toArray, List.set_cons_zero, List.set_cons_succ, i64_w, i32_w]
            rfl
          refine pure_ (i := 4) (N := some 38) (v := ?_) (a' := ?_) #[false, true, true, true, true, false, false, false, false, false, false, false, false, false, false, false, false, false] rfl rfl (by kernel_rfl) (fun _ _ _ h => h) (Or.inl ⟨by rfl, ?_⟩) ?_ ?_
          rotate_left
          · intro w'
            go_simp
            with_reducible rfl
          rotate_left
          · simp only [Act.put, List.setIfInBounds_toArray, List.set_cons_zero, List.set_cons_succ, i64_w, i32_w]
            rfl
          refine pure_ (i := 6) (N := some 40) (v := ?_) (a' := ?_) #[false, true, true, true, true, false, true, false, false, false, false, false, false, false, false, false, false, false] rfl rfl (by kernel_rfl) (fun _ _ _ h => h) (Or.inl ⟨by rfl, ?_⟩) ?_ ?_
          rotate_left
          · intro w'
            go_simp
            with_reducible rfl
          rotate_left
          · simp only [Act.put, List.setIfInBounds_toArray, List.set_cons_zero, List.set_cons_succ, i64_w, i32_w]
            rfl
          refine pure_ (i := 9) (N := some 43) (v := ?_) (a' := ?_) #[false, true, true, true, true, false, true, false, false, true, false, false, false, false, false, false, false, false] rfl rfl (by kernel_rfl) (fun _ _ _ h => h) (Or.inl ⟨by rfl, ?_⟩) ?_ ?_
          rotate_left
          · intro w'
            go_simp
            with_reducible rfl
          rotate_left
          · simp only [Act.put, List.setIfInBounds_toArray, List.set_cons_zero, List.set_cons_succ, i64_w, i32_w]
            rfl
          refine pure_ (i := 10) (N := some 44) (v := ?_) (a' := ?_) #[false, true, true, true, true, false, true, false, false, true, true, false, false, false, false, false, false, false] rfl rfl (by kernel_rfl) (fun _ _ _ h => h) (Or.inl ⟨by rfl, ?_⟩) ?_ ?_
          rotate_left
          · intro w'
            go_simp
            with_reducible rfl
          rotate_left
          · simp only [Act.put, List.setIfInBounds_toArray, List.set_cons_zero, List.set_cons_succ, i64_w, i32_w]
            rfl
          refine pure_ (i := 11) (N := some 45) (v := ?_) (a' := ?_) #[false, true, true, true, true, false, true, false, false, true, true, true, false, false, false, false, false, false] rfl rfl (by kernel_rfl) (fun _ _ _ h => h) (Or.inl ⟨by rfl, ?_⟩) ?_ ?_
          rotate_left
          · intro w'
            go_simp
            with_reducible rfl
          rotate_left
          · simp only [Act.put, List.setIfInBounds_toArray, List.set_cons_zero, List.set_cons_succ, i64_w, i32_w]
            rfl
          refine pure_ (i := 12) (N := some 46) (v := ?_) (a' := ?_) #[false, true, true, true, true, false, true, false, false, true, true, true, true, false, false, false, false, false] rfl rfl (by kernel_rfl) (fun _ _ _ h => h) (Or.inl ⟨by rfl, ?_⟩) ?_ ?_
          rotate_left
          · intro w'
            go_simp
            with_reducible rfl
          rotate_left
          · simp only [Act.put, List.setIfInBounds_toArray, List.set_cons_zero, List.set_cons_succ, i64_w, i32_w]
            rfl
          refine pure_ (i := 14) (N := some 48) (v := ?_) (a' := ?_) #[false, true, true, true, true, false, true, false, false, true, true, true, true, false, true, false, false, false] rfl rfl (by kernel_rfl) (fun _ _ _ h => h) (Or.inl ⟨by rfl, ?_⟩) ?_ ?_
          rotate_left
          · intro w'
            go_simp
            with_reducible rfl
          rotate_left
          · simp only [Act.put, List.setIfInBounds_toArray, List.set_cons_zero, List.set_cons_succ, i64_w, i32_w]
            rfl
          refine take_ (i := 0) (N := some 34) (v := ?_) (a' := ?_) #[true, true, true, true, true, false, true, false, false, true, true, true, true, false, true, false, false, false] rfl rfl (by kernel_rfl) (fun _ _ _ h => h) (Or.inl ⟨by rfl, ?_⟩) hHeld ?_ ?_
          rotate_left
          · rintro w' ⟨s0, s1, s2, s3, s4⟩
            go_simp
            with_reducible rfl
          rotate_left
          · simp only [Act.put, List.setIfInBounds_toArray, List.set_cons_zero, List.set_cons_succ, i64_w, i32_w]
            rfl
          refine take_ (i := 5) (N := some 39) (v := ?_) (a' := ?_) #[true, true, true, true, true, true, true, false, false, true, true, true, true, false, true, false, false, false] rfl rfl (by kernel_rfl) (fun _ _ _ h => h) (Or.inl ⟨by rfl, ?_⟩) hHeld ?_ ?_
          rotate_left
          · rintro w' ⟨s0, s1, s2, s3, s4⟩
            go_simp
            with_reducible rfl
          rotate_left
          · simp only [Act.put, List.setIfInBounds_toArray, List.set_cons_zero, List.set_cons_succ, i64_w, i32_w]
            rfl
          refine take_ (i := 8) (N := some 42) (v := ?_) (a' := ?_) #[true, true, true, true, true, true, true, false, true, true, true, true, true, false, true, false, false, false] rfl rfl (by kernel_rfl) (fun _ _ _ h => h) (Or.inl ⟨by rfl, ?_⟩) hHeld ?_ ?_
          rotate_left
          · rintro w' ⟨s0, s1, s2, s3, s4⟩
            go_simp
            with_reducible rfl
          rotate_left
          · simp only [Act.put, List.setIfInBounds_toArray, List.set_cons_zero, List.set_cons_succ, i64_w, i32_w]
            rfl
          refine take_ (i := 13) (N := some 47) (v := ?_) (a' := ?_) #[true, true, true, true, true, true, true, false, true, true, true, true, true, true, true, false, false, false] rfl rfl (by kernel_rfl) (fun _ _ _ h => h) (Or.inl ⟨by rfl, ?_⟩) hHeld ?_ ?_
          rotate_left
          · rintro w' ⟨s0, s1, s2, s3, s4⟩
            go_simp
            with_reducible rfl
          rotate_left
          · simp only [Act.put, List.setIfInBounds_toArray, List.set_cons_zero, List.set_cons_succ, i64_w, i32_w]
            rfl
          refine one_ (i := 7) (N := some 41) #[true, true, true, true, true, true, true, true, true, true, true, true, true, true, true, false, false, false] rfl rfl (by kernel_rfl) (by decide) (fun K hK => ?_)
          refine goes_ Try.func80 (by kernel_rfl) rfl #[.agg #[.int .i64 (n : Int), .slice (some al) ls.length c1, .slice A2 es.length c2], .slice B0 f.a.length d0, .int .i64 (q : Int)] (by rfl) rfl rfl (by simp only [List.map_toArray, List.map_cons, List.map_nil]; rfl) ?_
          refine (next_any n es f.a q _ A2 B0 c2 d0 V (Kd.C_below HR2.out (below_then HQ.out.below HQ.out.below.size HV.out)) (Kd.C_below HK0.out HV.out) HE0.out hn').mono ?_
          rw [← HAe.out]
          rintro e w3 ⟨va, rfl, hRa, hBa⟩
          obtain ⟨Aa, ca, rfl⟩ := Kd.R_slice hRa
          refine ⟨_, rfl, ?_⟩
          have HBa := Aside0.mk hBa
          have HV3 := Aside0.mk (below_then HV.out HV.out.size hBa)
          have HRa := Aside0.mk (Kd.R_lower hRa (Nat.le_trans HQ.out.below.size HV.out.size))
          clear hRa hBa
          refine hK.out _ _ ⟨later HBa.out hHeld.1, later HBa.out hHeld.2.1, later HBa.out hHeld.2.2.1, later HBa.out hHeld.2.2.2.1, later HBa.out hHeld.2.2.2.2⟩ (fun hHeld => ?_)
          clear hK K
          refine norm_ (a' := ?_) ?_ ?_
          rotate_left
          · show Act.put _ (some 41) _ = _
            simp only [Act.put, List.setIfInBounds_toArray, List.set_cons_zero, List.set_cons_succ, i64_w, i32_w]
            rfl
          refine one_ (i := 15) (N := some 49) #[true, true, true, true, true, true, true, true, true, true, true, true, true, true, true, true, false, false] rfl rfl (by kernel_rfl) (by decide) (fun K hK => ?_)
          refine goes_ Try.func80 (by kernel_rfl) rfl #[.agg #[.int .i64 (n : Int), .slice (some al) ls.length c1, .slice A2 es.length c2], .slice B1 f.b.length d1, .int .i64 (q : Int)] (by rfl) rfl rfl (by simp only [List.map_toArray, List.map_cons, List.map_nil]; rfl) ?_
          refine (next_any n es f.b q _ A2 B1 c2 d1 w3 (Kd.C_below HR2.out (below_then HQ.out.below HQ.out.below.size HV3.out)) (Kd.C_below HK1.out HV3.out) HE0.out hn').mono ?_
          rw [← HBe.out]
          rintro e w4 ⟨vb, rfl, hRb, hBb⟩
          obtain ⟨Ab, cb, rfl⟩ := Kd.R_slice hRb
          refine ⟨_, rfl, ?_⟩
          have HBb := Aside0.mk hBb
          have HV4 := Aside0.mk (below_then HV3.out HV3.out.size hBb)
          have HRb4 := Aside0.mk (Kd.R_lower hRb (Nat.le_trans HQ.out.below.size HV3.out.size))
          have HRa4 := Aside0.mk (Kd.R_below HRa.out hBb)
          clear hRb hBb
          refine hK.out _ _ ⟨later HBb.out hHeld.1, later HBb.out hHeld.2.1, later HBb.out hHeld.2.2.1, later HBb.out hHeld.2.2.2.1, later HBb.out hHeld.2.2.2.2⟩ (fun hHeld => ?_)
          clear hK K
          refine norm_ (a' := ?_) ?_ ?_
          rotate_left
          · show Act.put _ (some 49) _ = _
            simp only [Act.put, List.setIfInBounds_toArray, List.set_cons_zero, List.set_cons_succ, i64_w, i32_w]
            rfl
          refine pure_ (i := 16) (N := some 12) (v := ?_) (a' := ?_) #[true, true, true, true, true, true, true, true, true, true, true, true, true, true, true, true, true, false] rfl rfl (by kernel_rfl) (fun _ _ _ h => h) (Or.inl ⟨by rfl, ?_⟩) ?_ ?_
          rotate_left
          · intro w'
            go_simp
            with_reducible rfl
          rotate_left
          · simp only [Act.put, List.setIfInBounds_toArray, List.set_cons_zero, List.set_cons_succ, i64_w, i32_w]
            rfl
          refine pure_ (i := 17) (N := some 13) (v := ?_) (a' := ?_) #[true, true, true, true, true, true, true, true, true, true, true, true, true, true, true, true, true, true] rfl rfl (by kernel_rfl) (fun _ _ _ h => h) (Or.inl ⟨by rfl, ?_⟩) ?_ ?_
          rotate_left
          · intro w'
            go_simp
            with_reducible rfl
          rotate_left
          · simp only [Act.put, List.setIfInBounds_toArray, List.set_cons_zero, List.set_cons_succ, i64_w, i32_w]
            rfl
          refine done_ (by kernel_rfl) ?_
          have HQ4 := Aside0.mk (HQ.out.on HV4.out)
          have HE4 := Aside0.mk (later HV4.out HE2.out)
          have HK4 := Aside0.mk (Kd.C_below HK2.out HV4.out)
          have HG4 := Aside0.mk (later HV4.out HGs.out)
          clear HQ HE2 HK2 HGs HV4 HRa HBa HBb HV HV3 HK0 HK1
          go_wp2_with fail
          refine start_ (n := 15) (S := fun w' => w'.cell? ⟨(ad.add (k * 3)).block, (ad.add (k * 3)).off + 2, none⟩ = some (.slice B2 f.word.length d2) ∧ w'.cell? ⟨w.heap.size, 1, none⟩ = some (.slice (some al) ls.length c1) ∧ w'.cell? (al.add q) = some (.string sx)) (ds := [13]) #[false, false, false, false, false, false, false, false, false, false, false, false, false, false, false] (by kernel_rfl) rfl rfl ⟨HE4.out, HQ4.out.box.c1, HG4.out⟩ (fun hHeld => ?_)
          have HV := Aside0.mk (below_drew1 (Below.refl w4.heap.size w4))
          have HQ5 := Aside0.mk (HQ4.out.on HV.out)
          have HRa5 := Aside0.mk (Kd.R_below HRa4.out HV.out)
          have HRb5 := Aside0.mk (Kd.R_below HRb4.out HV.out)
          have HK5 := Aside0.mk (Kd.C_below HK4.out HV.out)
          generalize w4.drew = V at HV HQ5 HRa5 HRb5 HK5 hHeld ⊢
          have HHold := Aside0.mk hHeld
          have HV0 := Aside0.mk (Below.refl V.heap.size V)
          refine pure_ (i := 1) (N := some 51) (v := ?_) (a' := ?_) #[false, true, false, false, false, false, false, false, false, false, false, false, false, false, false] rfl rfl (by kernel_rfl) (fun _ _ _ h => h) (Or.inl ⟨by rfl, ?_⟩) ?_ ?_
          rotate_left
          · intro w'
            go_simp
            with_reducible rfl
          rotate_left
          · simp only [Act.put, List.setIfInBounds_toArray, List.set_cons_zero, List.set_cons_succ, i64_w, i32_w]
            rfl
          refine pure_ (i := 2) (N := some 52) (v := ?_) (a' := ?_) #[false, true, true, false, false, false, false, false, false, false, false, false, false, false, false] rfl rfl (by kernel_rfl) (fun _ _ _ h => h) (Or.inl ⟨by rfl, ?_⟩) ?_ ?_
          rotate_left
          · intro w'
            go_simp
            with_reducible rfl
          rotate_left
          · simp only [Act.put, List.setIfInBounds_toArray, List.set_cons_zero, List.set_cons_succ, i64_w, i32_w]
            rfl
          refine pure_ (i := 3) (N := some 53) (v := ?_) (a' := ?_) #[false, true, true, true, false, false, false, false, false, false, false, false, false, false, false] rfl rfl (by kernel_rfl) (fun _ _ _ h => h) (Or.inl ⟨by rfl, ?_⟩) ?_ ?_
          rotate_left
          · intro w'
            go_simp
            with_reducible rfl
          rotate_left
          · simp only [Act.put, List.setIfInBounds_toArray, List.set_cons_zero, List.set_cons_succ, i64_w, i32_w]
            rfl
          refine pure_ (i := 4) (N := some 54) (v := ?_) (a' := ?_) #[false, true, true, true, true, false, false, false, false, false, false, false, false, false, false] rfl rfl (by kernel_rfl) (fun _ _ _ h => h) (Or.inl ⟨by rfl, ?_⟩) ?_ ?_
          rotate_left
          · intro w'
            go_simp
            with_reducible rfl
          rotate_left
          · simp only [Act.put, List.setIfInBounds_toArray, List.set_cons_zero, List.set_cons_succ, i64_w, i32_w]
            rfl
          refine pure_ (i := 7) (N := some 57) (v := ?_) (a' := ?_) #[false, true, true, true, true, false, false, true, false, false, false, false, false, false, false] rfl rfl (by kernel_rfl) (fun _ _ _ h => h) (Or.inl ⟨by rfl, ?_⟩) ?_ ?_
          rotate_left
          · intro w'
            go_simp
            with_reducible rfl
          rotate_left
          · simp only [Act.put, List.setIfInBounds_toArray, List.set_cons_zero, List.set_cons_succ, i64_w, i32_w]
            rfl
          refine pure_ (i := 9) (N := some 59) (v := ?_) (a' := ?_) #[false, true, true, true, true, false, false, true, false, true, false, false, false, false, false] rfl rfl (by kernel_rfl) (fun _ _ _ h => h) (Or.inl ⟨by rfl, ?_⟩) ?_ ?_
          rotate_left
          · intro w'
            go_simp
            with_reducible rfl
          rotate_left
          · simp only [Act.put, List.setIfInBounds_toArray, List.set_cons_zero, List.set_cons_succ, i64_w, i32_w]
            rfl
          refine take_ (i := 5) (N := some 55) (v := ?_) (a' := ?_) #[false, true, true, true, true, true, false, true, false, true, false, false, false, false, false] rfl rfl (by kernel_rfl) (fun _ _ _ h => h) (Or.inl ⟨by rfl, ?_⟩) hHeld ?_ ?_
          rotate_left
          · rintro w' ⟨s0, s1, s2⟩
            go_simp
            with_reducible rfl
          rotate_left
          · simp only [Act.put, List.setIfInBounds_toArray, List.set_cons_zero, List.set_cons_succ, i64_w, i32_w]
            rfl
          refine take_ (i := 8) (N := some 58) (v := ?_) (a' := ?_) #[false, true, true, true, true, true, false, true, true, true, false, false, false, false, false] rfl rfl (by kernel_rfl) (fun _ _ _ h => h) (Or.inl ⟨by rfl, ?_⟩) hHeld ?_ ?_
          rotate_left
          · rintro w' ⟨s0, s1, s2⟩
            go_simp
            with_reducible rfl
          rotate_left
          · simp only [Act.put, List.setIfInBounds_toArray, List.set_cons_zero, List.set_cons_succ, i64_w, i32_w]
            rfl
          refine pure_ (i := 10) (N := some 60) (v := ?_) (a' := ?_) #[false, true, true, true, true, true, false, true, true, true, true, false, false, false, false] rfl rfl (by kernel_rfl) (fun _ _ _ h => h) (Or.inl ⟨by rfl, ?_⟩) ?_ ?_
          rotate_left
          · intro w'
            go_simp
            with_reducible rfl
          rotate_left
          · simp only [Act.put, List.setIfInBounds_toArray, List.set_cons_zero, List.set_cons_succ, i64_w, i32_w]
            rfl
          refine take_ (i := 11) (N := some 61) (v := ?_) (a' := ?_) #[false, true, true, true, true, true, false, true, true, true, true, true, false, false, false] rfl rfl (by kernel_rfl) (fun _ _ _ h => h) (Or.inl ⟨by rfl, ?_⟩) hHeld ?_ ?_
          rotate_left
          · rintro w' ⟨s0, s1, s2⟩
            go_simp
            with_reducible rfl
          rotate_left
          · simp only [Act.put, List.setIfInBounds_toArray, List.set_cons_zero, List.set_cons_succ, i64_w, i32_w]
            rfl
          refine join_ (σ := Nat × Value × Nat) 2 #[true, true, true, true, true, true, true, true, true, true, true, true, true, false, false] (fun s => [(50, .slice (some ⟨s.1, 0, none⟩) 0 0), (56, s.2.1), (62, .slice (some ⟨s.2.2, 0, none⟩) 1 1)]) (fun s w' => Kd.R Kd.string 9 w' V.heap.size (fun _ => True) s.2.1 f.word ∧ OneS w' s.2.2 sx ∧ Below V.heap.size V w') ?_ ?_
          rotate_left
          · intro hCont
            refine two_ (i := 0) (j := 12) (Ni := some 50) (Nj := some 62) #[true, true, true, true, true, true, false, true, true, true, true, true, false, false, false] #[false, true, true, true, true, true, false, true, true, true, true, true, true, false, false] rfl rfl rfl rfl (by kernel_rfl) (by decide) (by decide) (fun K hK => ?_) (fun K hK => ?_)
            · skip
              refine value_ (w1 := ?_) (v := ?_) (by rfl) rfl ?_ ?_
              rotate_left 2
              · go_simp
                constructor
                · rfl
                · rfl
              have HEHVa := Aside0.mk (emptyS _ V.heap.size HV0.out.size)
              have HVa := Aside0.mk (below_alloc HV0.out (Obj.cells #[] 9))
              refine hK.out _ _ ⟨later (below_alloc (Below.refl _ _) _) hHeld.1, later (below_alloc (Below.refl _ _) _) hHeld.2.1, later (below_alloc (Below.refl _ _) _) hHeld.2.2⟩ (fun hHeld => ?_)
              clear hK K
              refine norm_ (a' := ?_) ?_ ?_
              rotate_left
              · show Act.put _ (some 50) _ = _
                simp only [Act.put, List.setIfInBounds_toArray, List.set_cons_zero, List.set_cons_succ, i64_w, i32_w]
                rfl
              refine two_ (i := 6) (j := 12) (Ni := some 56) (Nj := some 62) #[true, true, true, true, true, true, true, true, true, true, true, true, false, false, false] #[true, true, true, true, true, true, false, true, true, true, true, true, true, false, false] rfl rfl rfl rfl (by kernel_rfl) (by decide) (by decide) (fun K hK => ?_) (fun K hK => ?_)
              · skip
                refine Kd.R_append_rows_step Kd.string (Rr := fun x cs => cs = [Value.string x]) (w0 := V) V.heap.size (by rfl) (.tmp 50) (.tmp 55) 22 9 (.string ⟨#[]⟩) 16 rfl Try.underlying22 info9 rfl (by decide) (by omega) (.slice (some ⟨V.heap.size, 0, none⟩) 0 0) [] f.word B2 f.word.length d2 (fun _ => True) (fun _ => False) rfl rfl ?aE ?aR (fun _ _ h => h) (fun _ hk => hk.elim) (fun _ _ => trivial) HVa.out HVa.out.size ?aL ?_
                (case aE => simpa using HEHVa.out)
                (case aR => exact Kd.C_below HK5.out HVa.out)
                (case aL => have := HFw.out; simp only [List.length_nil]; omega)
                intro v6 w6 ho hb hg hat
                have HPHVb := Aside0.mk ho
                have HVb := Aside0.mk hb
                have hh3 := cells5_later hb HHold.out
                clear ho hg hat
                refine hK.out _ _ ⟨hh3.1, hh3.2.1, hh3.2.2⟩ (fun hHeld => ?_)
                clear hK K
                refine norm_ (a' := ?_) ?_ ?_
                rotate_left
                · show Act.put _ (some 56) _ = _
                  simp only [Act.put, List.setIfInBounds_toArray, List.set_cons_zero, List.set_cons_succ, i64_w, i32_w]
                  rfl
                refine one_ (i := 12) (N := some 62) #[true, true, true, true, true, true, true, true, true, true, true, true, true, false, false] rfl rfl (by kernel_rfl) (by decide) (fun K hK => ?_)
                refine value_ (w1 := ?_) (v := ?_) (by rfl) rfl ?_ ?_
                rotate_left 2
                · go_simp
                  constructor
                  · rfl
                  · rfl
                have HOHVc := Aside0.mk (one_new HVb.out sx)
                have HVc := Aside0.mk (below_alloc HVb.out (Obj.cells #[.string sx] 9))
                have HPHVc := Aside0.mk (Kd.R_below HPHVb.out (below_alloc (Below.refl _ _) (Obj.cells #[.string sx] 9)))
                refine hK.out _ _ ⟨later (below_alloc (Below.refl _ _) _) hHeld.1, later (below_alloc (Below.refl _ _) _) hHeld.2.1, later (below_alloc (Below.refl _ _) _) hHeld.2.2⟩ (fun hHeld => ?_)
                clear hK K
                refine norm_ (a' := ?_) ?_ ?_
                rotate_left
                · show Act.put _ (some 62) _ = _
                  simp only [Act.put, List.setIfInBounds_toArray, List.set_cons_zero, List.set_cons_succ, i64_w, i32_w]
                  rfl
                exact norm_ (by simp only [putAll, Act.put, List.setIfInBounds_toArray, List.set_cons_zero, List.set_cons_succ]) (hCont (V.heap.size, v6, w6.heap.size) _ ⟨HPHVc.out, HOHVc.out, HVc.out⟩)
              · skip
                refine value_ (w1 := ?_) (v := ?_) (by rfl) rfl ?_ ?_
                rotate_left 2
                · go_simp
                  constructor
                  · rfl
                  · rfl
                have HOHVb := Aside0.mk (one_new HVa.out sx)
                have HVb := Aside0.mk (below_alloc HVa.out (Obj.cells #[.string sx] 9))
                have HEHVb := Aside0.mk (Kd.R_below HEHVa.out (below_alloc (Below.refl _ _) (Obj.cells #[.string sx] 9)))
                have HNHVb := Aside0.mk (Ne.symm (Nat.ne_of_lt (Kd.R_lt HEHVa.out _ rfl)))
                refine hK.out _ _ ⟨later (below_alloc (Below.refl _ _) _) hHeld.1, later (below_alloc (Below.refl _ _) _) hHeld.2.1, later (below_alloc (Below.refl _ _) _) hHeld.2.2⟩ (fun hHeld => ?_)
                clear hK K
                refine norm_ (a' := ?_) ?_ ?_
                rotate_left
                · show Act.put _ (some 62) _ = _
                  simp only [Act.put, List.setIfInBounds_toArray, List.set_cons_zero, List.set_cons_succ, i64_w, i32_w]
                  rfl
                refine one_ (i := 6) (N := some 56) #[true, true, true, true, true, true, true, true, true, true, true, true, true, false, false] rfl rfl (by kernel_rfl) (by decide) (fun K hK => ?_)
                refine Kd.R_append_rows_step Kd.string (Rr := fun x cs => cs = [Value.string x]) (w0 := V) V.heap.size (by rfl) (.tmp 50) (.tmp 55) 22 9 (.string ⟨#[]⟩) 16 rfl Try.underlying22 info9 rfl (by decide) (by omega) (.slice (some ⟨V.heap.size, 0, none⟩) 0 0) [] f.word B2 f.word.length d2 (fun _ => True) (fun _ => False) rfl rfl ?aE ?aR (fun _ _ h => h) (fun _ hk => hk.elim) (fun _ _ => trivial) HVb.out HVb.out.size ?aL ?_
                (case aE => simpa using HEHVb.out)
                (case aR => exact Kd.C_below HK5.out HVb.out)
                (case aL => have := HFw.out; simp only [List.length_nil]; omega)
                intro v6 w6 ho hb hg hat
                have HPHVc := Aside0.mk ho
                have HVc := Aside0.mk hb
                have HOHVc := Aside0.mk (blk_grown HOHVb.out hg (by simp [Value.ownBlock]))
                have hh3 := cells5_later hb HHold.out
                clear ho hg hat
                refine hK.out _ _ ⟨hh3.1, hh3.2.1, hh3.2.2⟩ (fun hHeld => ?_)
                clear hK K
                refine norm_ (a' := ?_) ?_ ?_
                rotate_left
                · show Act.put _ (some 56) _ = _
                  simp only [Act.put, List.setIfInBounds_toArray, List.set_cons_zero, List.set_cons_succ, i64_w, i32_w]
                  rfl
                exact norm_ (by simp only [putAll, Act.put, List.setIfInBounds_toArray, List.set_cons_zero, List.set_cons_succ]) (hCont (V.heap.size, v6, V.heap.size + 1) _ ⟨HPHVc.out, (by simpa [OneS] using HOHVc.out), HVc.out⟩)
            · skip
              refine value_ (w1 := ?_) (v := ?_) (by rfl) rfl ?_ ?_
              rotate_left 2
              · go_simp
                constructor
                · rfl
                · rfl
              have HOHVa := Aside0.mk (one_new HV0.out sx)
              have HVa := Aside0.mk (below_alloc HV0.out (Obj.cells #[.string sx] 9))
              refine hK.out _ _ ⟨later (below_alloc (Below.refl _ _) _) hHeld.1, later (below_alloc (Below.refl _ _) _) hHeld.2.1, later (below_alloc (Below.refl _ _) _) hHeld.2.2⟩ (fun hHeld => ?_)
              clear hK K
              refine norm_ (a' := ?_) ?_ ?_
              rotate_left
              · show Act.put _ (some 62) _ = _
                simp only [Act.put, List.setIfInBounds_toArray, List.set_cons_zero, List.set_cons_succ, i64_w, i32_w]
                rfl
              refine one_ (i := 0) (N := some 50) #[true, true, true, true, true, true, false, true, true, true, true, true, true, false, false] rfl rfl (by kernel_rfl) (by decide) (fun K hK => ?_)
              refine value_ (w1 := ?_) (v := ?_) (by rfl) rfl ?_ ?_
              rotate_left 2
              · go_simp
                constructor
                · rfl
                · rfl
              have HEHVb := Aside0.mk (emptyS _ V.heap.size HVa.out.size)
              have HVb := Aside0.mk (below_alloc HVa.out (Obj.cells #[] 9))
              have HOHVb := Aside0.mk (HOHVa.out.below (below_alloc (Below.refl _ _) (Obj.cells #[] 9)))
              have HNHVb := Aside0.mk (Nat.ne_of_lt (blk_lt HOHVa.out))
              refine hK.out _ _ ⟨later (below_alloc (Below.refl _ _) _) hHeld.1, later (below_alloc (Below.refl _ _) _) hHeld.2.1, later (below_alloc (Below.refl _ _) _) hHeld.2.2⟩ (fun hHeld => ?_)
              clear hK K
              refine norm_ (a' := ?_) ?_ ?_
              rotate_left
              · show Act.put _ (some 50) _ = _
                simp only [Act.put, List.setIfInBounds_toArray, List.set_cons_zero, List.set_cons_succ, i64_w, i32_w]
                rfl
              refine one_ (i := 6) (N := some 56) #[true, true, true, true, true, true, true, true, true, true, true, true, true, false, false] rfl rfl (by kernel_rfl) (by decide) (fun K hK => ?_)
              refine Kd.R_append_rows_step Kd.string (Rr := fun x cs => cs = [Value.string x]) (w0 := V) V.heap.size (by rfl) (.tmp 50) (.tmp 55) 22 9 (.string ⟨#[]⟩) 16 rfl Try.underlying22 info9 rfl (by decide) (by omega) (.slice (some ⟨V.heap.size + 1, 0, none⟩) 0 0) [] f.word B2 f.word.length d2 (fun _ => True) (fun _ => False) rfl rfl ?aE ?aR (fun _ _ h => h) (fun _ hk => hk.elim) (fun _ _ => trivial) HVb.out HVb.out.size ?aL ?_
              (case aE => simpa using HEHVb.out)
              (case aR => exact Kd.C_below HK5.out HVb.out)
              (case aL => have := HFw.out; simp only [List.length_nil]; omega)
              intro v6 w6 ho hb hg hat
              have HPHVc := Aside0.mk ho
              have HVc := Aside0.mk hb
              have HOHVc := Aside0.mk (blk_grown HOHVb.out hg (by simp [Value.ownBlock]))
              have hh3 := cells5_later hb HHold.out
              clear ho hg hat
              refine hK.out _ _ ⟨hh3.1, hh3.2.1, hh3.2.2⟩ (fun hHeld => ?_)
              clear hK K
              refine norm_ (a' := ?_) ?_ ?_
              rotate_left
              · show Act.put _ (some 56) _ = _
                simp only [Act.put, List.setIfInBounds_toArray, List.set_cons_zero, List.set_cons_succ, i64_w, i32_w]
                rfl
              exact norm_ (by simp only [putAll, Act.put, List.setIfInBounds_toArray, List.set_cons_zero, List.set_cons_succ]) (hCont (V.heap.size + 1, v6, V.heap.size) _ ⟨HPHVc.out, (by simpa [OneS] using HOHVc.out), HVc.out⟩)
          rintro ⟨g50, v6, g62⟩ w6 ⟨hs1, hs2, hs3⟩
          have hHeld := cells5_later hs3 HHold.out
          have HF1 := Aside0.mk hs1
          have HF2 := Aside0.mk hs2
          have HF3 := Aside0.mk hs3
          clear hs1 hs2 hs3
          refine norm_ (a' := ?_) ?_ ?_
          rotate_left
          · simp only [putAll, Act.put, List.setIfInBounds_toArray, List.set_cons_zero, List.set_cons_succ]
            rfl
          refine last_ (i := 13) (N := some 63) #[true, true, true, true, true, true, true, true, true, true, true, true, true, true, false] rfl rfl (by kernel_rfl) (by decide) (fun K hK => ?_)
          refine Kd.R_append_rows_step Kd.string (Rr := fun x cs => cs = [Value.string x]) (w0 := V) V.heap.size (by rfl) (.tmp 56) (.tmp 62) 22 9 (.string ⟨#[]⟩) 16 rfl Try.underlying22 info9 rfl (by decide) (by omega) v6 f.word [sx] (some ⟨g62, 0, none⟩) 1 1 (fun _ => True) (fun _ => False) rfl rfl HF1.out HF2.out.read (fun _ _ h => h) (fun _ hk => hk.elim) (fun _ _ => trivial) HF3.out HF3.out.size ?aL ?_
          (case aL => have := HFw.out; omega)
          intro v7 w7 ho hb hg hat
          have HRw7 := Aside0.mk (Kd.R_lower ho HQ5.out.below.size)
          have HB7 := Aside0.mk hb
          clear ho hb hg hat
          refine hK.out _ _ ?_
          clear hK K
          refine norm_ (a' := ?_) ?_ ?_
          rotate_left
          · show Act.put _ (some 63) _ = _
            simp only [Act.put, List.setIfInBounds_toArray, List.set_cons_zero, List.set_cons_succ, i64_w, i32_w]
            rfl
          refine pure_ (i := 14) (N := some 14) (v := ?_) (a' := ?_) #[true, true, true, true, true, true, true, true, true, true, true, true, true, true, true] rfl rfl (by kernel_rfl) (fun _ _ _ h => h) (Or.inl ⟨by rfl, ?_⟩) ?_ ?_
          rotate_left
          · intro w'
            go_simp
            with_reducible rfl
          rotate_left
          · simp only [Act.put, List.setIfInBounds_toArray, List.set_cons_zero, List.set_cons_succ, i64_w, i32_w]
            rfl
          refine done_ (by kernel_rfl) ?_
          have HQ7 := Aside0.mk (HQ5.out.on HB7.out)
          have HRa7 := Aside0.mk (Kd.R_below HRa5.out HB7.out)
          have HRb7 := Aside0.mk (Kd.R_below HRb5.out HB7.out)
          have HWd := Aside0.mk (show wordF ls all' k q = f.word ++ [sx] by rw [HSx.out, HFd.out]; rfl)
          obtain ⟨wd, hwd⟩ : ∃ wd, wd = f.word ++ [sx] := ⟨_, rfl⟩
          have HWl := Aside0.mk (show wd.length ≤ k + 1 by rw [hwd, List.length_append, List.length_singleton]; have := HFw.out; omega)
          rw [← hwd] at HRw7 HWd
          clear hwd
          obtain ⟨Aw, cw, hvw⟩ := Kd.R_slice HRw7.out
          subst hvw
          have HSW := Aside0.mk (show stepW n ls es all' k q = (if a' = [] ∧ b' = [] then (none, all') else if b' = [] then (some (1, wd), all') else if a' = [] then (some (2, wd), all') else (none, if metF all' a' b' then all' else all' ++ [⟨a', b', wd, k, q⟩])) by
            unfold stepW
            simp only
            rw [← HFd.out, ← HAe.out, ← HBe.out, HWd.out])
          clear HQ4 HRa4 HRb4 HK4 HE4 HG4 HQ5 HRa5 HRb5 HK5 HHold HV HV0 HF1 HF2 HF3 HB7
          by_cases ha : a' = []
          · have pa1 : ¬ (0 : Int) < (a'.length : Int) := by rw [ha]; simp
            have pa2 : ((a'.length : Int) == 0) = true := by rw [ha]; rfl
            by_cases hb : b' = []
            · have pb1 : ¬ (0 : Int) < (b'.length : Int) := by rw [hb]; simp
              have pb2 : ((b'.length : Int) == 0) = true := by rw [hb]; rfl
              have HS := Aside0.mk (show stepW n ls es all' k q = (none, all') by rw [HSW.out, if_pos ⟨ha, hb⟩])
              clear ha hb HSW
              by_cases hfull : budget < (all').length
              · exact absurd hfull (by omega)

              · have j1 : ¬ (budget : Int) < ((all').length : Int) := by omega
                have HT' := Aside0.mk (show afterL n ls es (budget : Int) f' k (labsF n ls es (budget : Int) (ls.length - (q + 1)) (all') k (q + 1)) = T by rw [← HG.out, labsF_on HS.out j1, HMM.out])
                go_wp2
                go_roundw
                case rel => exact ⟨q + 1, all', by go_num, by omega, by omega, by omega, HL, HT', HQ7⟩
                case measure => simp [intOf]; omega

            · have pb1 : (0 : Int) < (b'.length : Int) := by have := List.length_pos_iff.2 hb; omega
              have pb2 : ((b'.length : Int) == 0) = false := by have := List.length_pos_iff.2 hb; simp; exact hb
              have HS := Aside0.mk (show stepW n ls es all' k q = (some (2, wd), all') by rw [HSW.out, if_neg (fun h => hb h.2), if_neg hb, if_pos ha])
              clear ha hb HSW
              have HT' := Aside0.mk (show T = (2, wd) by rw [← HG.out, labsF_some HS.out]; rfl)

              go_wp2_with (first
                | (refine wpList_skip (by rfl) (by rfl) (run_store_word (x := .tmp 8) (y := .tmp 83) (b := w.heap.size + 1) (k := .int .i64 2) (v := .slice Aw wd.length cw) (by rfl) (by rfl) (by rfl) HQ7.out.word.there rfl rfl) ?_))
              refine bodyPost_ret (results_word1 rfl _ _ (w.heap.size + 1) (.int .i64 2) (.slice Aw wd.length cw) rfl (HQ7.out.word.store _ _)) rfl ?_
              rw [HT'.out]
              exact ⟨_, rfl, Kd.R_grown1 HRw7.out rfl (grown_setCells _ _ _) (Kd.R_ne HRw7.out HQ7.out.word (by decide)), below_setCells HQ7.out.below 0 _ (Nat.le_succ _)⟩

          · have pa1 : (0 : Int) < (a'.length : Int) := by have := List.length_pos_iff.2 ha; omega
            have pa2 : ((a'.length : Int) == 0) = false := by have := List.length_pos_iff.2 ha; simp; exact ha
            by_cases hb : b' = []
            · have pb1 : ¬ (0 : Int) < (b'.length : Int) := by rw [hb]; simp
              have pb2 : ((b'.length : Int) == 0) = true := by rw [hb]; rfl
              have HS := Aside0.mk (show stepW n ls es all' k q = (some (1, wd), all') by rw [HSW.out, if_neg (fun h => ha h.1), if_pos hb])
              clear ha hb HSW
              have HT' := Aside0.mk (show T = (1, wd) by rw [← HG.out, labsF_some HS.out]; rfl)

              go_wp2_with (first
                | (refine wpList_skip (by rfl) (by rfl) (run_store_word (x := .tmp 8) (y := .tmp 73) (b := w.heap.size + 1) (k := .int .i64 1) (v := .slice Aw wd.length cw) (by rfl) (by rfl) (by rfl) HQ7.out.word.there rfl rfl) ?_))
              refine bodyPost_ret (results_word1 rfl _ _ (w.heap.size + 1) (.int .i64 1) (.slice Aw wd.length cw) rfl (HQ7.out.word.store _ _)) rfl ?_
              rw [HT'.out]
              exact ⟨_, rfl, Kd.R_grown1 HRw7.out rfl (grown_setCells _ _ _) (Kd.R_ne HRw7.out HQ7.out.word (by decide)), below_setCells HQ7.out.below 0 _ (Nat.le_succ _)⟩

            · have pb1 : (0 : Int) < (b'.length : Int) := by have := List.length_pos_iff.2 hb; omega
              have pb2 : ((b'.length : Int) == 0) = false := by have := List.length_pos_iff.2 hb; simp; exact hb
              have HSW2 := Aside0.mk (show stepW n ls es all' k q = (none, if metF all' a' b' then all' else all' ++ [⟨a', b', wd, k, q⟩]) by rw [HSW.out, if_neg (fun h => ha h.1), if_neg hb, if_neg ha])
              clear ha hb HSW
              obtain ⟨mt, hmt⟩ : ∃ mt, mt = metF all' a' b' := ⟨_, rfl⟩
              rw [← hmt] at HSW2
              obtain ⟨Aq, cq, hvq, _, hCq⟩ := Kd.R_reads HQ7.out.row
              rw [List.length_map] at hvq hCq
              injection hvq with e1 e2 e3
              subst e1
              subst e3
              obtain ⟨_, _, hCa⟩ := Kd.R_reads' HRa7.out
              obtain ⟨_, _, hCb⟩ := Kd.R_reads' HRb7.out
              have HMt := Aside0.mk (met_any all' a' b' mt hmt.symm (some ad) Aa Ab cv' ca cb w7 hCq hCa hCb)
              clear e2 hCq hCa hCb hmt
              cases mt with
              | true =>
                have HS := Aside0.mk (show stepW n ls es all' k q = (none, all') by rw [HSW2.out]; rfl)
                clear HSW2
                go_wp2_with fail
                refine HMt.out.mono ?_
                clear HMt
                rintro e w8 ⟨rfl, hD⟩
                have HQ8 := Aside0.mk (HQ7.out.on hD.below)
                clear hD HQ7
                by_cases hfull : budget < (all').length
                · exact absurd hfull (by omega)

                · have j1 : ¬ (budget : Int) < ((all').length : Int) := by omega
                  have HT' := Aside0.mk (show afterL n ls es (budget : Int) f' k (labsF n ls es (budget : Int) (ls.length - (q + 1)) (all') k (q + 1)) = T by rw [← HG.out, labsF_on HS.out j1, HMM.out])
                  go_wp2
                  go_roundw
                  case rel => exact ⟨q + 1, all', by go_num, by omega, by omega, by omega, HL, HT', HQ8⟩
                  case measure => simp [intOf]; omega

              | false =>
                have HS := Aside0.mk (show stepW n ls es all' k q = (none, all' ++ [⟨a', b', wd, k, q⟩]) by rw [HSW2.out]; rfl)
                clear HSW2
                go_wp2_with fail
                refine HMt.out.mono ?_
                clear HMt
                rintro e w8 ⟨rfl, hD⟩
                have HQ8 := Aside0.mk (HQ7.out.on hD.below)
                have hty : ∀ k, (Value.slice (some ad) all'.length cv').ownBlock = some k → ∃ cells, w8.heap[k]? = some (.cells cells 122 (0, 0)) := Kd.R_typed HQ8.out.row
                have HXa := Aside0.mk (R_apart (Kd.R_below HRa7.out hD.below) rfl hty (by decide))
                have HXb := Aside0.mk (R_apart (Kd.R_below HRb7.out hD.below) rfl hty (by decide))
                have HXw := Aside0.mk (R_apart (Kd.R_below HRw7.out hD.below) rfl hty (by decide))
                have HWL := Aside0.mk (show ∀ i, i < (all' ++ [(⟨a', b', wd, k, q⟩ : Fnd)]).length → ((all' ++ [(⟨a', b', wd, k, q⟩ : Fnd)]).getD i dF).word.length ≤ i by
                  intro i hi
                  rw [List.length_append, List.length_singleton] at hi
                  rw [getD_snoc]
                  by_cases h : i < all'.length
                  · rw [if_pos h]; exact HL.out i h
                  · rw [if_neg h, if_pos (by omega)]
                    have := HWl.out
                    show wd.length ≤ i
                    omega)
                have hlen : (all' ++ [(⟨a', b', wd, k, q⟩ : Fnd)]).length = all'.length + 1 := by simp
                have HLn := Aside0.mk hlen
                have HAp := Aside0.mk (show ∀ v9 w9, k122.R 122 w9 w.heap.size (fun _ => True) v9 (List.map toF all' ++ [toF ⟨a', b', wd, k, q⟩]) → Below w.heap.size w w9 → w8.grownBy w9 (Value.slice (some ad) all'.length cv').ownBlock → QSt w w9 n (.slice (some al) ls.length c1) (.slice A2 es.length c2) v9 (all' ++ [⟨a', b', wd, k, q⟩]) by
                  intro v9 w9 ho hb hg
                  have ho2 : Kd.R k122 122 w9 w.heap.size (fun _ => True) v9 ((all' ++ [(⟨a', b', wd, k, q⟩ : Fnd)]).map toF) := by rw [List.map_append]; exact ho
                  exact QSt.mk (blk_grown HQ8.out.box hg (Kd.R_ne HQ8.out.row HQ8.out.box (by decide))) (blk_grown HQ8.out.word hg (Kd.R_ne HQ8.out.row HQ8.out.word (by decide))) ho2 hb)
                have HApL := Aside0.mk (show ∀ v9 w9, k122.R 122 w9 w.heap.size (fun _ => True) v9 (List.map toF all' ++ [toF ⟨a', b', wd, k, q⟩]) → ∃ A c, v9 = .slice A (all'.length + 1) c by
                  intro v9 w9 ho
                  obtain ⟨A9, c9, hv9⟩ := Kd.R_slice ho
                  rw [List.length_append, List.length_map, List.length_singleton] at hv9
                  exact ⟨A9, c9, hv9⟩)
                clear hD HQ7 hty hlen
                by_cases hfull : budget < all'.length + 1
                · have j1 : (budget : Int) < ((all'.length + 1 : Nat) : Int) := by omega
                  have j3 : (budget : Int) < (all'.length : Int) + 1 := by omega
                  have HT' := Aside0.mk (show T = (4, []) by rw [← HG.out, labsF_full HS.out (by rw [HLn.out]; exact j1)]; rfl)
                  go_wp2_with (first
                    | (at_builtin; refine Kd.R_append k122 (w0 := w) w.heap.size rfl (.tmp 94) (.tmp 99) 123 122 (.agg #[(.slice none 0 0), (.slice none 0 0), (.slice none 0 0)]) 72 rfl Try.underlying123 info122 ?h0 ?h1 ?h2 (.slice (some ad) all'.length cv') (all'.map toF) (toF ⟨a', b', wd, k, q⟩) [.slice Aa a'.length ca, .slice Ab b'.length cb, .slice Aw wd.length cw] (fun _ => True) (fun k => some k ≠ (Value.slice (some ad) all'.length cv').ownBlock) ?h3 ?h4 ?h5 ?h6 ?h7 ?h8 ?h9 ?h10 ?h11 ?h12; (case h0 => rfl); (case h1 => decide); (case h2 => omega); (case h3 => rfl); (case h4 => rfl); (case h6 => exact fun _ hk => ⟨trivial, hk⟩); (case h7 => exact fun _ _ => trivial); (case h8 => exact HQ8.out.row); (case h9 => exact HQ8.out.below); (case h10 => exact HQ8.out.below.size); (case h11 => rw [List.length_map]; omega); (case h5 => exact k122_mkM _ _ _ (toF ⟨a', b', wd, k, q⟩) HXa.out HXb.out HXw.out); intro v9 w9 ho hb hg hat; have HQ9 := Aside0.mk (HAp.out v9 w9 ho hb hg); obtain ⟨A9, c9, hv9⟩ := HApL.out v9 w9 ho; subst hv9; clear ho hb hg hat)
                    | (refine wpList_skip (by rfl) (by rfl) (run_store_word (x := .tmp 8) (y := .tmp 105) (b := w.heap.size + 1) (k := .int .i64 4) (v := .slice none 0 0) (by rfl) (by rfl) (by rfl) HQ9.out.word.there rfl rfl) ?_))
                  refine bodyPost_ret (results_word1 rfl _ _ (w.heap.size + 1) (.int .i64 4) (.slice none 0 0) rfl (HQ9.out.word.store _ _)) rfl ?_
                  rw [HT'.out]
                  exact ⟨_, rfl, Kd.R_nil _ _ _ _ _, below_setCells HQ9.out.below 0 _ (Nat.le_succ _)⟩
                · have j1 : ¬ (budget : Int) < ((all'.length + 1 : Nat) : Int) := by omega
                  have j3 : ¬ (budget : Int) < (all'.length : Int) + 1 := by omega
                  have j5 : ¬ (budget : Int) ≤ (all'.length : Int) := by omega
                  have j6 : (all'.length : Int) < (budget : Int) := by omega
                  have HT' := Aside0.mk (show afterL n ls es (budget : Int) f' k (labsF n ls es (budget : Int) (ls.length - (q + 1)) (all' ++ [⟨a', b', wd, k, q⟩]) k (q + 1)) = T by rw [← HG.out, labsF_on HS.out (by rw [HLn.out]; exact j1), HMM.out])
                  go_wp2_with (first
                    | (at_builtin; refine Kd.R_append k122 (w0 := w) w.heap.size rfl (.tmp 94) (.tmp 99) 123 122 (.agg #[(.slice none 0 0), (.slice none 0 0), (.slice none 0 0)]) 72 rfl Try.underlying123 info122 ?g0 ?g1 ?g2 (.slice (some ad) all'.length cv') (all'.map toF) (toF ⟨a', b', wd, k, q⟩) [.slice Aa a'.length ca, .slice Ab b'.length cb, .slice Aw wd.length cw] (fun _ => True) (fun k => some k ≠ (Value.slice (some ad) all'.length cv').ownBlock) ?g3 ?g4 ?g5 ?g6 ?g7 ?g8 ?g9 ?g10 ?g11 ?g12; (case g0 => rfl); (case g1 => decide); (case g2 => omega); (case g3 => rfl); (case g4 => rfl); (case g6 => exact fun _ hk => ⟨trivial, hk⟩); (case g7 => exact fun _ _ => trivial); (case g8 => exact HQ8.out.row); (case g9 => exact HQ8.out.below); (case g10 => exact HQ8.out.below.size); (case g11 => rw [List.length_map]; omega); (case g5 => exact k122_mkM _ _ _ (toF ⟨a', b', wd, k, q⟩) HXa.out HXb.out HXw.out); intro v9 w9 ho hb hg hat; have HQ9 := Aside0.mk (HAp.out v9 w9 ho hb hg); obtain ⟨A9, c9, hv9⟩ := HApL.out v9 w9 ho; subst hv9; clear ho hb hg hat))
                  go_roundw
                  case rel => exact ⟨q + 1, _, by go_num, by omega, by rw [HLn.out]; omega, by rw [HLn.out]; omega, HWL, HT', HQ9⟩
                  case measure => simp [intOf]; omega
        · have j0 : ¬ (q : Int) < (ls.length : Int) := by omega
          have HG2 := Aside0.mk (show goF n ls es (budget : Int) f' all' (k + 1) = T by rw [← HG.out, show ls.length - q = 0 by omega]; rfl)
          go_wp2
          go_roundw
          case rel => exact ⟨k + 1, f', all', by go_num, by omega, by omega, HL, HG2, HQ⟩
          case measure => simp [intOf]; omega
    · have i0 : ¬ (k : Int) < (all.length : Int) := by omega
      have HE := Aside0.mk (show T = (3, []) by rw [← HG.out]; exact goF_end fuel hlt)
      go_wp2_with (first
        | (refine wpList_skip (by rfl) (by rfl) (run_store_word (x := .tmp 8) (y := .tmp 106) (b := w.heap.size + 1) (k := .int .i64 3) (v := .slice none 0 0) (by rfl) (by rfl) (by rfl) HQ.out.word.there rfl rfl) ?_))
      refine bodyPost_ret (results_word1 rfl _ _ (w.heap.size + 1) (.int .i64 3) (.slice none 0 0) rfl (HQ.out.word.store _ _)) rfl ?_
      rw [HE.out]
      exact ⟨_, rfl, Kd.R_nil _ _ _ _ _, below_setCells HQ.out.below 0 _ (Nat.le_succ _)⟩

end Go.Proofs.Ytmpiokdomjchiaa.H
