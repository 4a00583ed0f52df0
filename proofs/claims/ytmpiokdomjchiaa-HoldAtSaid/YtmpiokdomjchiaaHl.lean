/-
  The walk of bisim.Greatest.
-/
import Derived.Test.YtmpiokdomjchiaaHk2
set_option linter.unusedVariables false
set_option linter.unusedSimpArgs false
namespace Go.Proofs.Ytmpiokdomjchiaa.H
open Go.RowKit Go.Proofs.Ytmpiokdomjchiaa.Pr Go.Proofs.YtmpiokdomjchiaaW.PrintWords Go.Proofs.Ytmpiokdomjchiaa.Sem Go.Proofs.YtmpiokdomjchiaaW.PrintLast

/-- All pairs of nodes whose first is below k. -/
def pairsTo (n k : Nat) : List Pair := (List.range k).flatMap fun s : Nat => (List.range n).map fun t : Nat => (⟨(s : Int), (t : Int)⟩ : Pair)
theorem pairsTo_succ (n k : Nat) : pairsTo n (k + 1) = pairsTo n k ++ (List.range n).map fun t : Nat => (⟨(k : Int), (t : Int)⟩ : Pair) := by
  unfold pairsTo
  rw [List.range_succ, List.flatMap_append]
  simp
theorem pairsTo_length (n k : Nat) : (pairsTo n k).length = k * n := by
  induction k with
  | zero => simp [pairsTo]
  | succ k ih => rw [pairsTo_succ, List.length_append, ih]; simp [Nat.succ_mul]
theorem pairsTo_in (n k : Nat) (hk : k ≤ n) : (pairsTo n k).all (inP (n : Int)) = true := by
  rw [List.all_eq_true]
  intro p hp
  unfold pairsTo at hp
  obtain ⟨s, hs, hp⟩ := List.mem_flatMap.1 hp
  obtain ⟨t, ht, rfl⟩ := List.mem_map.1 hp
  have h1 := List.mem_range.1 hs
  have h2 := List.mem_range.1 ht
  unfold inP
  simp only [Bool.and_eq_true, decide_eq_true_eq]
  omega
/-- Do both of a pair follow each other? -/
def bothB (es : List Ed) (S : Int → Int → Bool) (p : Pair) : Bool := followsB es S false p.f0 p.f1 && followsB es S true p.f0 p.f1
/-- One round: who stays; the pairs behind it. -/
def passK (es : List Ed) : List Pair → (Int → Int → Bool) → List Pair
  | [], _ => []
  | p :: r, S => if bothB es S p then p :: passK es r S else passK es r (lessP S p.f0 p.f1)
def passS (es : List Ed) : List Pair → (Int → Int → Bool) → (Int → Int → Bool)
  | [], S => S
  | p :: r, S => if bothB es S p then passS es r S else passS es r (lessP S p.f0 p.f1)
theorem passK_snoc (es : List Ed) (p : Pair) : ∀ (r : List Pair) (S : Int → Int → Bool), passK es (r ++ [p]) S = passK es r S ++ (if bothB es (passS es r S) p then [p] else [])
  | [], S => by simp only [List.nil_append, passK, passS]; rfl
  | x :: r, S => by
    cases h : bothB es S x
    · simp [passK, passS, h, passK_snoc es p r]
    · simp [passK, passS, h, passK_snoc es p r]
theorem passS_snoc (es : List Ed) (p : Pair) : ∀ (r : List Pair) (S : Int → Int → Bool), passS es (r ++ [p]) S = (if bothB es (passS es r S) p then passS es r S else lessP (passS es r S) p.f0 p.f1)
  | [], S => by simp only [List.nil_append, passS]; rfl
  | x :: r, S => by
    cases h : bothB es S x
    · simp [passS, h, passS_snoc es p r]
    · simp [passS, h, passS_snoc es p r]
theorem passK_sub (es : List Ed) : ∀ (r : List Pair) (S : Int → Int → Bool), List.Sublist (passK es r S) r
  | [], S => List.Sublist.refl _
  | x :: r, S => by
    unfold passK
    split
    · exact (passK_sub es r S).cons_cons x
    · exact (passK_sub es r _).cons x
/-- Round by round. -/
def rounds (es : List Ed) : Nat → List Pair → (Int → Int → Bool) → List Pair
  | 0, rel, _ => rel
  | f + 1, rel, S => if (passK es rel S).length = rel.length then passK es rel S else rounds es f (passK es rel S) (passS es rel S)
/-- bisim.Greatest. -/
def greatL (n : Nat) (es : List Ed) : List Pair := rounds es (n * n + 1) (pairsTo n n) (relS (pairsTo n n))

theorem below_of_grown_none {w w1 : World} (hg : w.grownBy w1 none) : Below w.heap.size w w1 := ⟨hg.os, hg.tape, hg.output, hg.size, fun k hk => hg.block k hk (by simp)⟩
/-- What is written is a row of other elements. -/
theorem TableAt.grown {base : Nat} {w w1 : World} {H n : Nat} {es : List Ed} {cnt : Nat} {S : Int → Int → Bool} (h : TableAt base w H n es cnt S) {row : Option Nat} (hrow : ∀ b, row = some b → ∃ cs t fr, w.heap[b]? = some (.cells cs t fr) ∧ t ≠ 93 ∧ t ≠ 23 ∧ t ≠ 81) (hg : w.grownBy w1 row) : TableAt base w1 H n es cnt S := by
  cases row with
  | none => exact h.on (below_of_grown_none hg)
  | some b =>
    obtain ⟨cs, t, fr, hb, h1, h2, h3⟩ := hrow b rfl
    refine ⟨(hg.block _ (Array.getElem?_eq_some_iff.1 h.tb).1 ?_).trans h.tb, ?_, h.pm.grown ?_ hg, h.base⟩
    · intro e
      cases e
      rw [h.tb] at hb
      cases hb
      exact h1 rfl
    · obtain ⟨vs, ht⟩ := h.tab
      exact ⟨vs, ht.grown rfl hb (fun c t' fr' e => by cases e; exact ⟨h2, h3⟩) hg⟩
    · intro k hk
      cases hk
      exact ⟨_, _, _, hb⟩
theorem TableAt.mapped {base : Nat} {w w1 : World} {H n : Nat} {es : List Ed} {cnt cnt' : Nat} {S S' : Int → Int → Bool} (h : TableAt base w H n es cnt S) (hp : PM w1 (H + 1) cnt' S') (hg : w.grownBy w1 (some (H + 1))) : TableAt base w1 H n es cnt' S' := by
  obtain ⟨es', c', hm⟩ := h.pm.blk
  obtain ⟨vs, ht⟩ := h.tab
  refine ⟨(hg.block _ (Array.getElem?_eq_some_iff.1 h.tb).1 ?_).trans h.tb, ⟨vs, ht.grown rfl hm (by intro c t fr e; cases e) hg⟩, hp, h.base⟩
  simp

/-- delete, as one step of a region that draws. -/
theorem step_delete {P : Program} {ops : Array Oper} {o : Oper} {a : Act} {Q : Exit → Act → World → Prop} {K : Act → World → Prop} {W w1 : World} (hw : Region.wanted o (yielded ops a.tmps) = true) (m x : Operand) (t k : TypeId)
    (hop : o.op = Op.call { callee := Callee.builtin Builtin.delete, args := #[m, x], argTypes := #[t, k] }) {b : Nat} {key : Value} (hm : a.eval m = .map (some b)) (hx : a.eval x = key)
    (hrun : (Builtin.delete_ #[t, k] o.type #[.map (some b), key]).run P W = .ok (.tuple #[]) w1) (h : K (a.put o.dst (.tuple #[])) w1) :
    if Region.wanted o (yielded ops a.tmps) = true then Oper.wp P o a W K Q else K (a.put o.dst undef) W := by
  rw [if_pos hw]
  unfold Oper.wp
  simp [execOp, hop, resolve, invoke, builtin, hm, hx, hrun, Result.andThen]
  exact h
def lenS : Value → Nat
  | .slice _ n _ => n
  | _ => 0
/-- Pairs that a call has made. -/
abbrev RP (w : World) (base : Nat) (ok : Nat → Prop) (v : Value) (xs : List Pair) : Prop := Kd.R k31 31 w base ok v xs

theorem RP.mapped {w w1 : World} {base : Nat} {ok : Nat → Prop} {v : Value} {xs : List Pair} (h : RP w base ok v xs) {m : Nat} {es : Array MapEntry} {c : Nat} (hm : w.heap[m]? = some (.map es c)) (hg : w.grownBy w1 (some m)) : RP w1 base ok v xs := by
  refine Kd.R_grown2 h rfl hg ?_
  intro k hk hh
  cases hk
  obtain ⟨cells, hc⟩ := Kd.R_typed h m hh.symm
  rw [hm] at hc
  cases hc
theorem rows31 {w : World} {base : Nat} {ok : Nat → Prop} {v : Value} {xs : List Pair} (h : RP w base ok v xs) : ∀ b, v.ownBlock = some b → ∃ cs t fr, w.heap[b]? = some (.cells cs t fr) ∧ t ≠ 93 ∧ t ≠ 23 ∧ t ≠ 81 := fun b hb => by
  obtain ⟨cells, hc⟩ := Kd.R_typed h b hb
  exact ⟨_, _, _, hc, by decide, by decide, by decide⟩

set_option maxHeartbeats 16000000 in
set_option maxRecDepth 100000 in
theorem greatest_yes (n : Nat) (ls : List ByteArray) (es : List Ed) (A1 A2 : Option Addr) (c1 c2 : Nat) (w : World) (hr1 : Kd.C Kd.string w A1 ls.length ls) (hr2 : Kd.C k81 w A2 es.length es) (hm : mayR n ls es = true) :
    Calls Try.prog 20 #[.agg #[.int .i64 n, .slice A1 ls.length c1, .slice A2 es.length c2]] w fun e w' => ∃ v, e = .returned (.tuple #[v, .int .i64 0]) ∧ RP w' w.heap.size (fun _ => True) v (greatL n es) ∧ Below w.heap.size w w' := by
  have HB := Aside0.mk (Below.refl w.heap.size w)
  have HC : ∀ W, Below w.heap.size w W → Calls Try.prog 66 #[.agg #[.int .i64 n, .slice A1 ls.length c1, .slice A2 es.length c2]] W fun e w' => e = .returned (.int .i64 0) ∧ Below W.heap.size W w' := fun W hW =>
    check_yes n ls es A1 A2 c1 c2 W (Kd.C_below hr1 hW) (Kd.C_below hr2 hW) (by rw [may_same]; exact hm)
  have HC' := Lib.hid HC
  have HO : ∀ (rel : List Pair) (A3 : Option Addr) (c3 : Nat) (W : World), Below w.heap.size w W → Kd.C k31 W A3 rel.length rel → Calls Try.prog 60 #[.agg #[.int .i64 n, .slice A1 ls.length c1, .slice A2 es.length c2], .slice A3 rel.length c3] W (OpenPost W n es rel (rel.all (inP n))) := fun rel A3 c3 W hW h3 =>
    open_main n ls es rel A1 A2 A3 c1 c2 c3 W (Kd.C_below hr1 hW) (Kd.C_below hr2 hW) h3 hm
  have HO' := Lib.hid HO
  have HM := Aside0.mk hm
  have hn := n_le hm
  have hnn : n * n ≤ 2048 * 2048 := Nat.mul_le_mul (by omega) (by omega)
  clear HC HO hr1 hr2 hm
  go_enter Try.func20, Try.ntmps20
  go_wp2_with fail
  refine (HC'.out _ (below_alloc HB.out _)).mono ?_
  rintro e w1 ⟨rfl, hB⟩
  have HX := Aside0.mk (show BoxL w1 w.heap.size n (.slice A1 ls.length c1) (.slice A2 es.length c2) from blk_below (blk_new w _) hB)
  have HB1 := Aside0.mk (below_then (below_alloc HB.out _) (by simp) hB)
  have b0 := HX.out.c0
  clear hB
  go_wp2
  clear b0
  go_loopw [5, 20] (fun v i wr => ∃ k : Nat, k ≤ n ∧ i = .int .i64 k ∧ Aside0 (RP wr w.heap.size (fun _ => True) v (pairsTo n k)) ∧ Aside0 (BoxL wr w.heap.size n (.slice A1 ls.length c1) (.slice A2 es.length c2)) ∧ Aside0 (Below w.heap.size w wr)) (fun _ i _ => n - (intOf i).toNat)
  case atStart => exact ⟨0, Nat.zero_le _, rfl, ⟨Kd.R_nil _ _ _ _ _⟩, HX, HB1⟩
  case round =>
    clear HX HB1
    obtain ⟨k, hk, rfl, HO1, HX1, HB1⟩ := hrel
    have b0 := HX1.out.c0
    by_cases hlt : k < n
    · go_wp2
      clear b0
      go_loopw [5, 25] (fun v i wr => ∃ j : Nat, j ≤ n ∧ i = .int .i64 j ∧ Aside0 (RP wr w.heap.size (fun _ => True) v (pairsTo n k ++ (List.range j).map fun t : Nat => (⟨(k : Int), (t : Int)⟩ : Pair))) ∧ Aside0 (BoxL wr w.heap.size n (.slice A1 ls.length c1) (.slice A2 es.length c2)) ∧ Aside0 (Below w.heap.size w wr)) (fun _ i _ => n - (intOf i).toNat)
      case atStart => exact ⟨0, Nat.zero_le _, rfl, ⟨by simpa using HO1.out⟩, HX1, HB1⟩
      case round =>
        clear HO1 HX1 HB1
        obtain ⟨j, hj, rfl, HO1, HX1, HB1⟩ := hrel
        by_cases hlt2 : j < n
        · have hle : (pairsTo n k ++ (List.range j).map fun t : Nat => (⟨(k : Int), (t : Int)⟩ : Pair)).length ≤ 2048 * 2048 := by
            rw [List.length_append, pairsTo_length, List.length_map, List.length_range]
            have h1 : k * n + j ≤ (k + 1) * n := by rw [Nat.succ_mul]; omega
            exact Nat.le_trans (Nat.le_trans h1 (Nat.mul_le_mul_right n hlt)) hnn
          have HN := Aside0.mk (show pairsTo n k ++ (List.range (j + 1)).map (fun t : Nat => (⟨(k : Int), (t : Int)⟩ : Pair)) = (pairsTo n k ++ (List.range j).map fun t : Nat => (⟨(k : Int), (t : Int)⟩ : Pair)) ++ [⟨(k : Int), (j : Int)⟩] by rw [List.range_succ, List.map_append, List.append_assoc]; rfl)
          obtain ⟨L, hL⟩ : ∃ L, L = pairsTo n k ++ (List.range j).map fun t : Nat => (⟨(k : Int), (t : Int)⟩ : Pair) := ⟨_, rfl⟩
          rw [← hL] at HO1 hle HN
          clear hL
          go_wp2_with (at_builtin; refine Kd.R_append k31 (w0 := w) w.heap.size rfl (.tmp 28) (.tmp 32) 26 31 (.agg #[(.int .i64 0), (.int .i64 0)]) 16 rfl Try.underlying26 info31 rfl (by decide) (by omega) u5 L (⟨(k : Int), (j : Int)⟩ : Pair) [.int .i64 (k : Int), .int .i64 (j : Int)] (fun _ => True) (fun _ => False) rfl rfl (k31_mkM _ _ _ (⟨(k : Int), (j : Int)⟩ : Pair)) (fun _ hk => hk.elim) (fun _ _ => trivial) HO1.out HB1.out HB1.out.size (by omega) ?_; intro v2 w2 ho hb hg hat; have HO2 := Aside0.mk ho; have HB2 := Aside0.mk hb; have HX2 := Aside0.mk (blk_grown (g := w.heap.size) HX1.out hg (Kd.R_ne HO1.out HX1.out (by decide))); clear ho hb hg hat)
          go_roundw
          case rel => exact ⟨j + 1, by omega, by go_num, ⟨by rw [HN.out]; exact HO2.out⟩, HX2, HB2⟩
          case measure => simp [intOf]; omega
        · have ej : j = n := by omega
          have HN := Aside0.mk (show pairsTo n (k + 1) = pairsTo n k ++ (List.range j).map fun t : Nat => (⟨(k : Int), (t : Int)⟩ : Pair) by rw [pairsTo_succ, ej])
          clear ej
          go_wp2
          go_roundw
          case rel => exact ⟨k + 1, by omega, by go_num, ⟨by rw [HN.out]; exact HO1.out⟩, HX1, HB1⟩
          case measure => simp [intOf]; omega
    · have ek : k = n := by omega
      rw [ek] at HO1
      have b1 := HX1.out.c1
      have b2 := HX1.out.c2
      obtain ⟨A3, c3, hv, hle3, hC3⟩ := Kd.R_reads HO1.out
      subst hv
      have HC3 := Aside0.mk hC3
      have hpl : (pairsTo n n).length ≤ 2048 * 2048 := by rw [pairsTo_length]; exact hnn
      have HAll := Aside0.mk (pairsTo_in n n (Nat.le_refl _))
      have HG := Aside0.mk (show rounds es (n * n + 1) (pairsTo n n) (relS (pairsTo n n)) = greatL n es from rfl)
      have HLen := Aside0.mk (show (pairsTo n n).length < n * n + 1 by rw [pairsTo_length]; omega)
      obtain ⟨G, hG⟩ : ∃ G, G = greatL n es := ⟨_, rfl⟩
      rw [← hG] at HG
      have HGL := Aside0.mk hG
      generalize pairsTo n n = rel at HO1 HC3 hpl HAll HG HLen
      go_wp2_with fail
      refine (HO'.out rel A3 c3 _ HB1.out HC3.out).mono ?_
      rw [HAll.out]
      rintro e w2 ⟨⟨H, rfl, hT⟩, hB⟩
      have HT := Aside0.mk hT
      have HB2 := Aside0.mk (below_then HB1.out HB1.out.size hB)
      have HO2 := Aside0.mk (Kd.R_below HO1.out hB)
      have HB1' := Aside0.mk HB1.out
      clear hB hT HO1 HX1 HB1 HC3 hC3 hG
      obtain ⟨cnt, hc⟩ : ∃ cnt, cnt = rel.length := ⟨_, rfl⟩
      rw [← hc] at HT
      clear hc hle3
      obtain ⟨BT, hBT⟩ : ∃ BT, BT = wr.heap.size := ⟨_, rfl⟩
      rw [← hBT] at HT
      have HTB := Aside0.mk (show w.heap.size ≤ H + 1 by have h1 := HT.out.base; have h2 := HB1'.out.size; omega)
      clear hBT
      have HF := Aside0.mk (show ∃ f, rounds es f rel (relS rel) = G ∧ rel.length < f ∧ rel.all (inP n) = true from ⟨_, HG.out, HLen.out, HAll.out⟩)
      go_wp2
      clear hk hlt ek b0 b1 b2 HG HLen HAll
      go_loopw [5] (fun v wr => ∃ (rel : List Pair) (S : Int → Int → Bool), rel.length ≤ 2048 * 2048 ∧ Aside0 (∃ f, rounds es f rel S = G ∧ rel.length < f ∧ rel.all (inP n) = true) ∧ Aside0 (RP wr w.heap.size (fun _ => True) v rel) ∧ Aside0 (TableAt BT wr H n es cnt S) ∧ Aside0 (Below w.heap.size w wr)) (fun v _ => lenS v)
      case atStart => exact ⟨rel, relS rel, hpl, HF, HO2, HT, HB2⟩
      case round =>
        clear HF HO2 HT HB2 hpl
        obtain ⟨rel, S, hpl, HF, HO2, HT, HB2⟩ := hrel
        obtain ⟨A3, c3, hv, hle3, hC3⟩ := Kd.R_reads HO2.out
        subst hv
        clear hC3
        obtain ⟨B0, hB0⟩ : ∃ B0, B0 = wr.heap.size := ⟨_, rfl⟩
        have HRel := Aside0.mk (show RP wr w.heap.size (fun b => b < B0) (.slice A3 rel.length c3) rel from Kd.R_reok rfl HO2.out (fun k hk => by rw [hB0]; exact Kd.R_lt HO2.out k hk))
        have HB0 := Aside0.mk (show B0 ≤ wr.heap.size ∧ w.heap.size ≤ B0 by rw [hB0]; exact ⟨Nat.le_refl _, HB2.out.size⟩)
        clear hB0 HO2
        have hrl : rel.length ≤ 4194304 := hpl
        go_wp2
        go_loopw [10, 44] (fun v i wr2 => ∃ k : Nat, k ≤ rel.length ∧ i = .int .i64 k ∧ Aside0 (RP wr2 B0 (fun _ => True) v (passK es (rel.take k) S)) ∧ Aside0 (RP wr2 w.heap.size (fun b => b < B0) (.slice A3 rel.length c3) rel) ∧ Aside0 (TableAt BT wr2 H n es cnt (passS es (rel.take k) S)) ∧ Aside0 (Below w.heap.size w wr2) ∧ Aside0 (B0 ≤ wr2.heap.size ∧ w.heap.size ≤ B0)) (fun _ i _ => rel.length - (intOf i).toNat)
        case atStart => exact ⟨0, Nat.zero_le _, rfl, ⟨by simpa [passK] using Kd.R_nil _ _ _ _ _⟩, HRel, ⟨by simpa [passS] using HT.out⟩, HB2, HB0⟩
        case round =>
          clear HRel HT HB2 HB0
          obtain ⟨k, hk, rfl, HK, HRel, HT, HB2, HB0⟩ := hrel
          by_cases hlt : k < rel.length
          · obtain ⟨ad, hA, g0, g1⟩ := atP (Kd.R_reads' HRel.out).2.2 k hlt
            subst hA
            obtain ⟨x, hx⟩ : ∃ x, x = rel.getD k z31 := ⟨_, rfl⟩
            rw [← hx] at g0 g1
            have HXin := Aside0.mk (show inP n x = true by
              obtain ⟨f, _, _, ha⟩ := HF.out
              rw [hx, List.getD_eq_getElem?_getD, List.getElem?_eq_getElem hlt]
              exact List.all_eq_true.1 ha _ (List.getElem_mem hlt))
            have HE := Aside0.mk (show rel.take (k + 1) = rel.take k ++ [x] by rw [hx]; exact take_snoc z31 hlt)
            clear hx
            obtain ⟨Kp, hKp⟩ : ∃ Kp, Kp = passK es (rel.take k) S := ⟨_, rfl⟩
            obtain ⟨Sp, hSp⟩ : ∃ Sp, Sp = passS es (rel.take k) S := ⟨_, rfl⟩
            have hKl : Kp.length ≤ 4194304 := by
              rw [hKp]
              refine Nat.le_trans (passK_sub es _ S).length_le ?_
              rw [List.length_take]; omega
            have HKn := Aside0.mk (show passK es (rel.take (k + 1)) S = Kp ++ (if bothB es Sp x then [x] else []) by rw [HE.out, passK_snoc, hKp, hSp])
            have HSn := Aside0.mk (show passS es (rel.take (k + 1)) S = (if bothB es Sp x then Sp else lessP Sp x.f0 x.f1) by rw [HE.out, passS_snoc, hSp])
            rw [← hKp] at HK
            rw [← hSp] at HT
            clear hKp hSp
            go_wp2_with fail
            have HT1 := Aside0.mk (HT.out.on (below_alloc (Below.refl _ _) (Obj.cells #[Value.int IntKind.i64 x.f0, Value.int IntKind.i64 x.f1] 31)))
            have HNodes := Aside0.mk (inP_nodes HXin.out)
            obtain ⟨X, hX⟩ : ∃ X, X = wr.heap.size := ⟨_, rfl⟩
            have x0 := (blk_cell (blk_new wr (Obj.cells #[Value.int IntKind.i64 x.f0, Value.int IntKind.i64 x.f1] 31)) 0).trans rfl
            have x1 := (blk_cell (blk_new wr (Obj.cells #[Value.int IntKind.i64 x.f0, Value.int IntKind.i64 x.f1] 31)) 1).trans rfl
            have HBx := Aside0.mk (below_alloc (Below.refl wr.heap.size wr) (Obj.cells #[Value.int IntKind.i64 x.f0, Value.int IntKind.i64 x.f1] 31))
            rw [← hX] at x0 x1 ⊢
            clear hX
            generalize (wr.alloc (Obj.cells #[Value.int IntKind.i64 x.f0, Value.int IntKind.i64 x.f1] 31)) = U at HT1 HBx x0 x1 ⊢
            cases q1 : followsB es Sp false x.f0 x.f1 with
            | false =>
              have HNo := Aside0.mk (show bothB es Sp x = false by unfold bothB; rw [q1]; rfl)
              refine (follows_is BT n ls es cnt Sp H x.f0 x.f1 false false q1 _ HT1.out HM.out HNodes.out.1 HNodes.out.2).mono ?_
              rintro e w3 ⟨rfl, hB⟩
              have HTf := Aside0.mk (HT1.out.on hB)
              have HBf := Aside0.mk (below_then HBx.out HBx.out.size hB)
              have d0 := later hB x0
              have d1 := later hB x1
              clear hB q1 x0 x1 HT1 HBx
              go_wp2_with fail
              have HKf := Aside0.mk (Kd.R_below HK.out HBf.out)
              have HRf := Aside0.mk (Kd.R_below HRel.out HBf.out)
              have HBw := Aside0.mk (below_then HB2.out HB2.out.size HBf.out)
              have HS0 := Aside0.mk (Nat.le_trans HB0.out.1 HBf.out.size)
              have HSn2 := Aside0.mk (show passS es (rel.take (k + 1)) S = lessP Sp x.f0 x.f1 by rw [HSn.out, HNo.out]; rfl)
              have HKn2 := Aside0.mk (show passK es (rel.take (k + 1)) S = Kp by rw [HKn.out, HNo.out]; simp)
              clear HBf HK HRel HB2 HNo
              refine start_ (n := 6) (S := fun w' => w'.cell? ⟨H + 1 + 1, 1, none⟩ = some (.map (some (H + 1))) ∧ w'.cell? ⟨X, 0, none⟩ = some (.int .i64 x.f0) ∧ w'.cell? ⟨X, 1, none⟩ = some (.int .i64 x.f1)) (ds := [5]) #[false, false, false, false, false, false] (by kernel_rfl) rfl rfl ⟨HTf.out.t1, d0, d1⟩ (fun hHeld => ?_)
              replace HTf := Aside0.mk (HTf.out.on (below_drew1 (Below.refl _ _)))
              replace HKf := Aside0.mk (Kd.R_below HKf.out (below_drew1 (Below.refl _ _)))
              replace HRf := Aside0.mk (Kd.R_below HRf.out (below_drew1 (Below.refl _ _)))
              replace HBw := Aside0.mk (below_drew1 HBw.out)
              replace HS0 := Aside0.mk (show B0 ≤ w3.drew.heap.size from HS0.out)
              generalize w3.drew = V at HTf HKf HRf HBw HS0 hHeld ⊢
              refine pure_ (i := 0) (N := some 60) (v := ?_) (a' := ?_) #[true, false, false, false, false, false] rfl rfl (by kernel_rfl) (fun _ _ _ h => h) (Or.inl ⟨by rfl, ?_⟩) ?_ ?_
              rotate_left
              · intro w'
                go_simp
                with_reducible rfl
              rotate_left
              · simp only [Act.put, List.setIfInBounds_toArray, List.set_cons_zero, List.set_cons_succ, i64_w, i32_w]
                rfl
              refine pure_ (i := 1) (N := some 61) (v := ?_) (a' := ?_) #[true, true, false, false, false, false] rfl rfl (by kernel_rfl) (fun _ _ _ h => h) (Or.inl ⟨by rfl, ?_⟩) ?_ ?_
              rotate_left
              · intro w'
                go_simp
                with_reducible rfl
              rotate_left
              · simp only [Act.put, List.setIfInBounds_toArray, List.set_cons_zero, List.set_cons_succ, i64_w, i32_w]
                rfl
              refine pure_ (i := 2) (N := some 62) (v := ?_) (a' := ?_) #[true, true, true, false, false, false] rfl rfl (by kernel_rfl) (fun _ _ _ h => h) (Or.inl ⟨by rfl, ?_⟩) ?_ ?_
              rotate_left
              · intro w'
                go_simp
                with_reducible rfl
              rotate_left
              · simp only [Act.put, List.setIfInBounds_toArray, List.set_cons_zero, List.set_cons_succ, i64_w, i32_w]
                rfl
              refine take_ (i := 3) (N := some 63) (v := ?_) (a' := ?_) #[true, true, true, true, false, false] rfl rfl (by kernel_rfl) (fun _ _ _ h => h) (Or.inl ⟨by rfl, ?_⟩) hHeld ?_ ?_
              rotate_left
              · rintro w' ⟨s0, s1, s2⟩
                go_simp
                with_reducible rfl
              rotate_left
              · simp only [Act.put, List.setIfInBounds_toArray, List.set_cons_zero, List.set_cons_succ, i64_w, i32_w]
                rfl
              refine take_ (i := 4) (N := some 64) (v := ?_) (a' := ?_) #[true, true, true, true, true, false] rfl rfl (by kernel_rfl) (fun _ _ _ h => h) (Or.inl ⟨by rfl, ?_⟩) hHeld ?_ ?_
              rotate_left
              · rintro w' ⟨s0, s1, s2⟩
                go_simp
                with_reducible rfl
              rotate_left
              · simp only [Act.put, List.setIfInBounds_toArray, List.set_cons_zero, List.set_cons_succ, i64_w, i32_w]
                rfl
              refine last_ (i := 5) (N := none) #[true, true, true, true, true, true] rfl rfl (by kernel_rfl) (by decide) (fun K hK => ?_)
              obtain ⟨w6, hrun, hpm, hg⟩ := HTf.out.pm.del (okNode HNodes.out.1.1 HNodes.out.1.2 hn.2) (okNode HNodes.out.2.1 HNodes.out.2.2 hn.2) 0
              obtain ⟨es', c', hmb⟩ := HTf.out.pm.blk
              have HT5 := Aside0.mk (HTf.out.mapped hpm hg)
              have HK5 := Aside0.mk (RP.mapped HKf.out hmb hg)
              have HR5 := Aside0.mk (RP.mapped HRf.out hmb hg)
              have HB5 := Aside0.mk (HBw.out.grown hg HBw.out.size (fun k hk => by cases hk; exact HTB.out))
              have HS5 := Aside0.mk (Nat.le_trans HS0.out hg.size)
              refine step_delete (by rfl) (.tmp 63) (.tmp 64) 91 31 rfl rfl rfl hrun ?_
              clear hrun hpm hg hmb
              refine hK.out _ _ ?_
              clear hK K
              refine done_ (by kernel_rfl) ?_
              go_wp2
              go_roundw
              case rel => exact ⟨k + 1, by omega, by go_num, ⟨by rw [HKn2.out]; exact HK5.out⟩, HR5, ⟨by rw [HSn2.out]; exact HT5.out⟩, HB5, ⟨HS5.out, HB0.out.2⟩⟩
              case measure => simp [intOf]; omega
            | true =>
              refine (follows_is BT n ls es cnt Sp H x.f0 x.f1 false true q1 _ HT1.out HM.out HNodes.out.1 HNodes.out.2).mono ?_
              rintro e w3 ⟨rfl, hB⟩
              have HT2 := Aside0.mk (HT1.out.on hB)
              have HBy := Aside0.mk (below_then HBx.out HBx.out.size hB)
              have y0 := later hB x0
              have y1 := later hB x1
              clear hB x0 x1 HT1 HBx
              go_wp2_with fail
              cases q2 : followsB es Sp true x.f0 x.f1 with
              | false =>
                have HNo := Aside0.mk (show bothB es Sp x = false by unfold bothB; rw [q1, q2]; rfl)
                refine (follows_is BT n ls es cnt Sp H x.f0 x.f1 true false q2 _ HT2.out HM.out HNodes.out.1 HNodes.out.2).mono ?_
                rintro e w4 ⟨rfl, hB⟩
                have HTf := Aside0.mk (HT2.out.on hB)
                have HBf := Aside0.mk (below_then HBy.out HBy.out.size hB)
                have d0 := later hB y0
                have d1 := later hB y1
                clear hB q1 q2 y0 y1 HT2 HBy
                go_wp2_with fail
                have HKf := Aside0.mk (Kd.R_below HK.out HBf.out)
                have HRf := Aside0.mk (Kd.R_below HRel.out HBf.out)
                have HBw := Aside0.mk (below_then HB2.out HB2.out.size HBf.out)
                have HS0 := Aside0.mk (Nat.le_trans HB0.out.1 HBf.out.size)
                have HSn2 := Aside0.mk (show passS es (rel.take (k + 1)) S = lessP Sp x.f0 x.f1 by rw [HSn.out, HNo.out]; rfl)
                have HKn2 := Aside0.mk (show passK es (rel.take (k + 1)) S = Kp by rw [HKn.out, HNo.out]; simp)
                clear HBf HK HRel HB2 HNo
                refine start_ (n := 6) (S := fun w' => w'.cell? ⟨H + 1 + 1, 1, none⟩ = some (.map (some (H + 1))) ∧ w'.cell? ⟨X, 0, none⟩ = some (.int .i64 x.f0) ∧ w'.cell? ⟨X, 1, none⟩ = some (.int .i64 x.f1)) (ds := [5]) #[false, false, false, false, false, false] (by kernel_rfl) rfl rfl ⟨HTf.out.t1, d0, d1⟩ (fun hHeld => ?_)
                replace HTf := Aside0.mk (HTf.out.on (below_drew1 (Below.refl _ _)))
                replace HKf := Aside0.mk (Kd.R_below HKf.out (below_drew1 (Below.refl _ _)))
                replace HRf := Aside0.mk (Kd.R_below HRf.out (below_drew1 (Below.refl _ _)))
                replace HBw := Aside0.mk (below_drew1 HBw.out)
                replace HS0 := Aside0.mk (show B0 ≤ w4.drew.heap.size from HS0.out)
                generalize w4.drew = V at HTf HKf HRf HBw HS0 hHeld ⊢
                refine pure_ (i := 0) (N := some 60) (v := ?_) (a' := ?_) #[true, false, false, false, false, false] rfl rfl (by kernel_rfl) (fun _ _ _ h => h) (Or.inl ⟨by rfl, ?_⟩) ?_ ?_
                rotate_left
                · intro w'
                  go_simp
                  with_reducible rfl
                rotate_left
                · simp only [Act.put, List.setIfInBounds_toArray, List.set_cons_zero, List.set_cons_succ, i64_w, i32_w]
                  rfl
                refine pure_ (i := 1) (N := some 61) (v := ?_) (a' := ?_) #[true, true, false, false, false, false] rfl rfl (by kernel_rfl) (fun _ _ _ h => h) (Or.inl ⟨by rfl, ?_⟩) ?_ ?_
                rotate_left
                · intro w'
                  go_simp
                  with_reducible rfl
                rotate_left
                · simp only [Act.put, List.setIfInBounds_toArray, List.set_cons_zero, List.set_cons_succ, i64_w, i32_w]
                  rfl
                refine pure_ (i := 2) (N := some 62) (v := ?_) (a' := ?_) #[true, true, true, false, false, false] rfl rfl (by kernel_rfl) (fun _ _ _ h => h) (Or.inl ⟨by rfl, ?_⟩) ?_ ?_
                rotate_left
                · intro w'
                  go_simp
                  with_reducible rfl
                rotate_left
                · simp only [Act.put, List.setIfInBounds_toArray, List.set_cons_zero, List.set_cons_succ, i64_w, i32_w]
                  rfl
                refine take_ (i := 3) (N := some 63) (v := ?_) (a' := ?_) #[true, true, true, true, false, false] rfl rfl (by kernel_rfl) (fun _ _ _ h => h) (Or.inl ⟨by rfl, ?_⟩) hHeld ?_ ?_
                rotate_left
                · rintro w' ⟨s0, s1, s2⟩
                  go_simp
                  with_reducible rfl
                rotate_left
                · simp only [Act.put, List.setIfInBounds_toArray, List.set_cons_zero, List.set_cons_succ, i64_w, i32_w]
                  rfl
                refine take_ (i := 4) (N := some 64) (v := ?_) (a' := ?_) #[true, true, true, true, true, false] rfl rfl (by kernel_rfl) (fun _ _ _ h => h) (Or.inl ⟨by rfl, ?_⟩) hHeld ?_ ?_
                rotate_left
                · rintro w' ⟨s0, s1, s2⟩
                  go_simp
                  with_reducible rfl
                rotate_left
                · simp only [Act.put, List.setIfInBounds_toArray, List.set_cons_zero, List.set_cons_succ, i64_w, i32_w]
                  rfl
                refine last_ (i := 5) (N := none) #[true, true, true, true, true, true] rfl rfl (by kernel_rfl) (by decide) (fun K hK => ?_)
                obtain ⟨w6, hrun, hpm, hg⟩ := HTf.out.pm.del (okNode HNodes.out.1.1 HNodes.out.1.2 hn.2) (okNode HNodes.out.2.1 HNodes.out.2.2 hn.2) 0
                obtain ⟨es', c', hmb⟩ := HTf.out.pm.blk
                have HT5 := Aside0.mk (HTf.out.mapped hpm hg)
                have HK5 := Aside0.mk (RP.mapped HKf.out hmb hg)
                have HR5 := Aside0.mk (RP.mapped HRf.out hmb hg)
                have HB5 := Aside0.mk (HBw.out.grown hg HBw.out.size (fun k hk => by cases hk; exact HTB.out))
                have HS5 := Aside0.mk (Nat.le_trans HS0.out hg.size)
                refine step_delete (by rfl) (.tmp 63) (.tmp 64) 91 31 rfl rfl rfl hrun ?_
                clear hrun hpm hg hmb
                refine hK.out _ _ ?_
                clear hK K
                refine done_ (by kernel_rfl) ?_
                go_wp2
                go_roundw
                case rel => exact ⟨k + 1, by omega, by go_num, ⟨by rw [HKn2.out]; exact HK5.out⟩, HR5, ⟨by rw [HSn2.out]; exact HT5.out⟩, HB5, ⟨HS5.out, HB0.out.2⟩⟩
                case measure => simp [intOf]; omega
              | true =>
                have HYes := Aside0.mk (show bothB es Sp x = true by unfold bothB; rw [q1, q2]; rfl)
                refine (follows_is BT n ls es cnt Sp H x.f0 x.f1 true true q2 _ HT2.out HM.out HNodes.out.1 HNodes.out.2).mono ?_
                rintro e w4 ⟨rfl, hB⟩
                have HTf := Aside0.mk (HT2.out.on hB)
                have HBf := Aside0.mk (below_then HBy.out HBy.out.size hB)
                have d0 := later hB y0
                have d1 := later hB y1
                have HSn2 := Aside0.mk (show passS es (rel.take (k + 1)) S = Sp by rw [HSn.out, HYes.out]; rfl)
                have HKn2 := Aside0.mk (show passK es (rel.take (k + 1)) S = Kp ++ [x] by rw [HKn.out, HYes.out]; rfl)
                have HKf := Aside0.mk (Kd.R_below HK.out HBf.out)
                have HRf := Aside0.mk (Kd.R_below HRel.out HBf.out)
                have HBw := Aside0.mk (below_then HB2.out HB2.out.size HBf.out)
                have HS0 := Aside0.mk (Nat.le_trans HB0.out.1 HBf.out.size)
                clear hB q1 q2 y0 y1 HT2 HBy HBf HK HRel HB2
                go_wp2_with (at_builtin; refine Kd.R_append k31 (w0 := w4) B0 rfl (.tmp 56) (.tmp 58) 26 31 (.agg #[(.int .i64 0), (.int .i64 0)]) 16 rfl Try.underlying26 info31 rfl (by decide) (by omega) u10 Kp x [.int .i64 x.f0, .int .i64 x.f1] (fun _ => True) (fun _ => False) rfl rfl (k31_mkM _ _ _ x) (fun _ hk => hk.elim) (fun _ _ => trivial) HKf.out (Below.refl _ _) HS0.out (by omega) ?_; intro v2 w5 ho hb hg hat; have HO5 := Aside0.mk ho; have HG5 := Aside0.mk hg; clear ho hb hg hat)
                have HB5 := Aside0.mk (HBw.out.grown HG5.out HBw.out.size (fun k hk => Nat.le_trans HB0.out.2 (Kd.R_base HKf.out k hk)))
                have HT5 := Aside0.mk (HTf.out.grown (rows31 HKf.out) HG5.out)
                have HR5 := Aside0.mk (Kd.R_grown2 HRf.out rfl HG5.out (fun k hk hh => absurd (HRf.out.1 k hh.symm) (Nat.not_lt.2 (Kd.R_base HKf.out k hk))))
                have HS5 := Aside0.mk (And.intro (Nat.le_trans HS0.out HG5.out.size) HB0.out.2)
                go_roundw
                case rel => exact ⟨k + 1, by omega, by go_num, ⟨by rw [HKn2.out]; exact HO5.out⟩, HR5, ⟨by rw [HSn2.out]; exact HT5.out⟩, HB5, HS5⟩
                case measure => simp [intOf]; omega
          · have ek : rel.take k = rel := List.take_of_length_le (by omega)
            rw [ek] at HK HT
            obtain ⟨Ak, ck, hvk⟩ := Kd.R_slice HK.out
            subst hvk
            obtain ⟨Kp, hKp⟩ : ∃ Kp, Kp = passK es rel S := ⟨_, rfl⟩
            obtain ⟨Sp, hSp⟩ : ∃ Sp, Sp = passS es rel S := ⟨_, rfl⟩
            have hsub : Kp.length ≤ rel.length := by rw [hKp]; exact (passK_sub es rel S).length_le
            have hin : Kp.all (inP n) = true := by
              obtain ⟨f, _, _, ha⟩ := HF.out
              rw [List.all_eq_true] at ha ⊢
              intro p hp
              rw [hKp] at hp
              exact ha p ((passK_sub es rel S).subset hp)
            have hrd : ∃ f, (if Kp.length = rel.length then Kp else rounds es f Kp Sp) = G ∧ rel.length < f + 1 := by
              obtain ⟨f, hf, hl, _⟩ := HF.out
              cases f with
              | zero => omega
              | succ f => exact ⟨f, by rw [← hf, hKp, hSp]; rfl, hl⟩
            rw [← hKp] at HK ⊢
            rw [← hSp] at HT
            have HIn := Aside0.mk hin
            have HRd := Aside0.mk hrd
            clear hKp hSp ek hin hrd
            have hwb := HB0.out.2
            by_cases hq : Kp.length = rel.length
            · have p0 : ((Kp.length : Int) == (rel.length : Int)) = true := by rw [hq]; simp
              have HGK := Aside0.mk (show Kp = G by obtain ⟨f, hf, _⟩ := HRd.out; rw [if_pos hq] at hf; exact hf)
              clear hq
              go_wp2
              go_ret2
              exact ⟨_, rfl, by rw [← HGL.out, ← HGK.out]; exact Kd.R_lower HK.out hwb, HB2.out⟩
            · have p0 : ((Kp.length : Int) == (rel.length : Int)) = false := by simp; omega
              have HGK := Aside0.mk (show ∃ f, rounds es f Kp Sp = G ∧ Kp.length < f ∧ Kp.all (inP n) = true by
                obtain ⟨f, hf, hl⟩ := HRd.out
                rw [if_neg hq] at hf
                exact ⟨f, hf, by omega, HIn.out⟩)
              have hlt5 : Kp.length < rel.length := by omega
              clear hq
              go_wp2
              go_roundw
              case rel => exact ⟨Kp, Sp, by omega, HGK, ⟨Kd.R_lower HK.out hwb⟩, HT, HB2⟩
              case measure => simp [lenS]; omega

end Go.Proofs.Ytmpiokdomjchiaa.H
