/-
  Formulas: which lines may be (hml.may, hml.Check, semblanceref37.May), small formulas (semblancelaw37.Light, semblancelaw38.light).
  Rows: lines of formulas, as they come in.
  Walks: hold's sets of nodes: put, has, dia.
  Walk: hold.line.
-/
import Derived.Test.YtmpiokdomjchiaaK2
import Derived.Test.YtmpiokdomjchiaaRw
import Derived.Test.YtmpiokdomjchiaaK4
set_option linter.unusedVariables false
set_option linter.unnecessarySimpa false
set_option linter.unusedSimpArgs false
namespace Go.Proofs.Ytmpiokdomjchiaa.H
open Go.RowKit Go.Proofs.Ytmpiokdomjchiaa.Pr Go.Proofs.YtmpiokdomjchiaaW.PrintWords Go.Proofs.Ytmpiokdomjchiaa.Sem Go.Proofs.YtmpiokdomjchiaaW.PrintLast

/-- A line of a formula: kind, label, two lines ahead. -/
abbrev Fm := S97
/-- Line k of a formula, in memory. -/
theorem atFm {w : World} {A : Option Addr} {n : Nat} {xs : List Fm} (h : Kd.C k97 w A n xs) (k : Nat) (hk : k < n) : ∃ ad, A = some ad ∧ w.cell? (ad.add (k * 4)) = some (.int .i64 (xs.getD k z97).f0) ∧ w.cell? ⟨(ad.add (k * 4)).block, (ad.add (k * 4)).off + 1, none⟩ = some (.string (xs.getD k z97).f1) ∧ w.cell? ⟨(ad.add (k * 4)).block, (ad.add (k * 4)).off + 2, none⟩ = some (.int .i64 (xs.getD k z97).f2) ∧ w.cell? ⟨(ad.add (k * 4)).block, (ad.add (k * 4)).off + 3, none⟩ = some (.int .i64 (xs.getD k z97).f3) :=
  at_T97 h (k : Int) (by omega) (by omega)
def inL (i k : Int) : Bool := decide (0 ≤ i ∧ i < k)
/-- No text. -/
def noT (s : ByteArray) : Bool := s.toList == []
set_option maxRecDepth 100000 in
theorem mayAt_any (i k : Int) (b : Bool) (hb : inL i k = b) (p : Addr) (w : World) (h0 : w.cell? p = some (.int .i64 k)) :
    Calls Try.prog 125 #[.int .i64 i, .pointer (some p)] w fun e w' => e = .returned (.bool b) ∧ w = w' := by
  subst hb
  go_enter Try.func125, Try.ntmps125
  by_cases q0 : 0 ≤ i
  · by_cases q1 : i < k
    · have e : inL i k = true := decide_eq_true ⟨q0, q1⟩
      have HE := Aside0.mk e
      clear e
      go_wp2
      go_ret
      exact ⟨ret_bool HE.out.symm, rfl⟩
    · have e : inL i k = false := decide_eq_false (fun h => q1 h.2)
      have HE := Aside0.mk e
      clear e
      go_wp2
      go_ret
      exact ⟨ret_bool HE.out.symm, rfl⟩
  · have e : inL i k = false := decide_eq_false (fun h => q0 h.1)
    have HE := Aside0.mk e
    clear e
    go_wp2
    go_ret
    exact ⟨ret_bool HE.out.symm, rfl⟩
/-- May a line be, behind k others? -/
def mayF (x : Fm) (k : Int) : Bool :=
  if x.f0 = 1 then noT x.f1 && ((x.f2 == 0) && (x.f3 == 0))
  else if x.f0 = 2 then noT x.f1 && ((x.f3 == 0) && inL x.f2 k)
  else if x.f0 = 3 then noT x.f1 && (inL x.f2 k && inL x.f3 k)
  else if x.f0 = 4 then decide (x.f1.size ≤ 200) && ((x.f3 == 0) && inL x.f2 k)
  else false
theorem eqForm' (d : Nat) (a b : Fm) (w : World) : (Op.equalIn (d + 1 + 1) 97 (.agg #[.int .i64 a.f0, .string a.f1, .int .i64 a.f2, .int .i64 a.f3]) (.agg #[.int .i64 b.f0, .string b.f1, .int .i64 b.f2, .int .i64 b.f3])).run Try.prog w = .ok (a.f0 == b.f0 && (a.f1.toList == b.f1.toList && (a.f2 == b.f2 && a.f3 == b.f3))) w := by
  have hu : (underlying 3).run Try.prog w = .ok (.int .i64) w := by kernel_rfl
  have hus : (underlying 9).run Try.prog w = .ok .string w := by kernel_rfl
  have p0 : ∀ (x y z : Int) (s : ByteArray), (part 3 #[.int .i64 x, .string s, .int .i64 y, .int .i64 z] 0).run Try.prog w = .ok (.int .i64 x) w := fun x y z s => by kernel_rfl
  have p1 : ∀ (x y z : Int) (s : ByteArray), (part 9 #[.int .i64 x, .string s, .int .i64 y, .int .i64 z] 1).run Try.prog w = .ok (.string s) w := fun x y z s => by kernel_rfl
  have p2 : ∀ (x y z : Int) (s : ByteArray), (part 3 #[.int .i64 x, .string s, .int .i64 y, .int .i64 z] 2).run Try.prog w = .ok (.int .i64 y) w := fun x y z s => by kernel_rfl
  have p3 : ∀ (x y z : Int) (s : ByteArray), (part 3 #[.int .i64 x, .string s, .int .i64 y, .int .i64 z] 3).run Try.prog w = .ok (.int .i64 z) w := fun x y z s => by kernel_rfl
  have e3 : ∀ x y : Int, (Op.equalIn (d + 1) 3 (.int .i64 x) (.int .i64 y)).run Try.prog w = .ok (x == y) w := by
    intro x y
    unfold Op.equalIn
    simp [hu, Result.andThen]
  have es : ∀ x y : ByteArray, (Op.equalIn (d + 1) 9 (.string x) (.string y)).run Try.prog w = .ok (x.toList == y.toList) w := by
    intro x y
    unfold Op.equalIn
    simp [hus, Result.andThen]
    first
      | exact (beq_toListBytes x y).symm
      | exact beq_toListBytes x y
      | (rw [Bool.eq_iff_iff, Lib.bytes_beq_iff]; exact beq_iff_eq)
  exact eqA_of (P := Try.prog) (d := d + 1) (t := 97) (w := w) Try.underlying97 (by kernel_rfl)
    (eqf_cons rfl (p0 _ _ _ _) (p0 _ _ _ _) (e3 _ _) (eqf_cons rfl (p1 _ _ _ _) (p1 _ _ _ _) (es _ _) (eqf_cons rfl (p2 _ _ _ _) (p2 _ _ _ _) (e3 _ _) (eqf_last rfl (p3 _ _ _ _) (p3 _ _ _ _) (e3 _ _)))))

/-- A formula's line in a variable, block b. -/
def FormAt (w : World) (b : Nat) (x : Fm) : Prop := w.heap[b]? = some (.cells #[.int .i64 x.f0, .string x.f1, .int .i64 x.f2, .int .i64 x.f3] 97 (0, 0))
theorem FormAt.c0 {w : World} {b : Nat} {x : Fm} (h : FormAt w b x) : w.cell? ⟨b, 0, none⟩ = some (.int .i64 x.f0) := (blk_cell h 0).trans rfl
theorem FormAt.c1 {w : World} {b : Nat} {x : Fm} (h : FormAt w b x) : w.cell? ⟨b, 1, none⟩ = some (.string x.f1) := (blk_cell h 1).trans rfl
theorem FormAt.c2 {w : World} {b : Nat} {x : Fm} (h : FormAt w b x) : w.cell? ⟨b, 2, none⟩ = some (.int .i64 x.f2) := (blk_cell h 2).trans rfl
theorem FormAt.c3 {w : World} {b : Nat} {x : Fm} (h : FormAt w b x) : w.cell? ⟨b, 3, none⟩ = some (.int .i64 x.f3) := (blk_cell h 3).trans rfl
theorem FormAt.below {w w1 : World} {b : Nat} {x : Fm} (h : FormAt w b x) (hb : Below w.heap.size w w1) : FormAt w1 b x := blk_below h hb
theorem form_new (W : World) (b : Nat) (x : Fm) (hb : W.heap.size = b) : FormAt (W.alloc (.cells #[.int .i64 x.f0, .string x.f1, .int .i64 x.f2, .int .i64 x.f3] 97)) b x := by
  subst hb
  exact blk_new _ _

set_option maxHeartbeats 4000000 in
set_option maxRecDepth 100000 in
theorem may_form (x : Fm) (k : Int) (r : Bool) (hr : mayF x k = r) (w : World) :
    Calls Try.prog 104 #[.agg #[.int .i64 x.f0, .string x.f1, .int .i64 x.f2, .int .i64 x.f3], .int .i64 k] w fun e w' => e = .returned (.bool r) ∧ Below w.heap.size w w' := by
  have HB := Aside0.mk (Below.refl w.heap.size w)
  have hfb : Below (w.alloc (.cells #[.int .i64 x.f0, .string x.f1, .int .i64 x.f2, .int .i64 x.f3] 97)).heap.size (w.alloc (.cells #[.int .i64 x.f0, .string x.f1, .int .i64 x.f2, .int .i64 x.f3] 97)) ((w.alloc (.cells #[.int .i64 x.f0, .string x.f1, .int .i64 x.f2, .int .i64 x.f3] 97)).alloc (.cells #[.int .i64 k] 3)) := below_alloc (Below.refl _ _) _
  have hf := (form_new w w.heap.size x rfl).below hfb
  have hk := (blk_cell (blk_new (w.alloc (.cells #[.int .i64 x.f0, .string x.f1, .int .i64 x.f2, .int .i64 x.f3] 97)) (.cells #[.int .i64 k] 3)) 0).trans rfl
  have hk2 : ((w.alloc (.cells #[.int .i64 x.f0, .string x.f1, .int .i64 x.f2, .int .i64 x.f3] 97)).alloc (.cells #[.int .i64 k] 3)).cell? ⟨w.heap.size + 1, 0, none⟩ = some (.int .i64 k) := by simpa using hk
  have HF := Aside0.mk hf
  have HK := Aside0.mk hk2
  have HB2 := Aside0.mk (below_alloc (below_alloc HB.out (.cells #[.int .i64 x.f0, .string x.f1, .int .i64 x.f2, .int .i64 x.f3] 97)) (.cells #[.int .i64 k] 3))
  clear hfb hf hk hk2
  have HMk := Aside0.mk (fun i => mayAt_any i k _ rfl ⟨w.heap.size + 1, 0, none⟩ _ HK.out)
  unfold mayF at hr
  go_enter Try.func104, Try.ntmps104
  have b0 := HF.out.c0
  have b1 := HF.out.c1
  have b2 := HF.out.c2
  have b3 := HF.out.c3
  obtain ⟨f0, f1, f2, f3⟩ := x
  simp only at *
  by_cases k1 : f0 = 1
  · subst k1
    rw [if_pos rfl] at hr
    have hE : ∀ W, (Op.equalIn 10000 97 (.agg #[.int .i64 1, .string f1, .int .i64 f2, .int .i64 f3]) (.agg #[.int .i64 1, .string ⟨#[]⟩, .int .i64 0, .int .i64 0])).run Try.prog W = .ok r W := by
      intro W
      have h := eqForm' 9998 ⟨1, f1, f2, f3⟩ ⟨1, ⟨#[]⟩, 0, 0⟩ W
      refine (show _ = _ from h).trans ?_
      congr 1
      rw [← hr]
      unfold noT
      have e : (⟨#[]⟩ : ByteArray).toList = [] := by rw [ByteArray.toList_eq]
      simp only [beq_self_eq_true, Bool.true_and, e]
    clear hr
    go_wp2
    go_ret
    exact ⟨rfl, HB2.out⟩
  · rw [if_neg k1] at hr
    have p1 : (f0 == 1) = false := by simp [k1]
    by_cases k2 : f0 = 2
    · rw [if_pos k2] at hr
      have p2 : (f0 == 2) = true := by simp [k2]
      clear k1 k2
      cases t1 : noT f1 with
      | false =>
        rw [t1] at hr
        unfold noT at t1
        have HR := Aside0.mk (show r = false by rw [← hr]; rfl)
        clear hr
        go_wp2
        go_ret
        exact ⟨ret_bool HR.out.symm, HB2.out⟩
      | true =>
        rw [t1] at hr
        unfold noT at t1
        cases z3 : (f3 == 0) with
        | false =>
          rw [z3] at hr
          have HR := Aside0.mk (show r = false by rw [← hr]; rfl)
          clear hr
          go_wp2
          go_ret
          exact ⟨ret_bool HR.out.symm, HB2.out⟩
        | true =>
          rw [z3] at hr
          cases if2 : inL f2 k with
          | false =>
            have If2 := Aside0.mk if2
            rw [if2] at hr
            clear if2
            have HR := Aside0.mk (show r = false by rw [← hr]; rfl)
            clear hr
            go_wp2_with fail
            refine (mayAt_any f2 k _ If2.out ⟨w.heap.size + 1, 0, none⟩ _ HK.out).mono ?_
            rintro e w1 ⟨rfl, rfl⟩
            go_wp2
            go_ret
            exact ⟨ret_bool HR.out.symm, HB2.out⟩
          | true =>
            have If2 := Aside0.mk if2
            rw [if2] at hr
            clear if2
            have HR := Aside0.mk (show r = true by rw [← hr]; rfl)
            clear hr
            go_wp2_with fail
            refine (mayAt_any f2 k _ If2.out ⟨w.heap.size + 1, 0, none⟩ _ HK.out).mono ?_
            rintro e w1 ⟨rfl, rfl⟩
            go_wp2
            go_ret
            exact ⟨ret_bool HR.out.symm, HB2.out⟩
    · rw [if_neg k2] at hr
      have p2 : (f0 == 2) = false := by simp [k2]
      by_cases k3 : f0 = 3
      · rw [if_pos k3] at hr
        have p3 : (f0 == 3) = true := by simp [k3]
        clear k1 k2 k3
        cases t1 : noT f1 with
        | false =>
          rw [t1] at hr
          unfold noT at t1
          have HR := Aside0.mk (show r = false by rw [← hr]; rfl)
          clear hr
          go_wp2
          go_ret
          exact ⟨ret_bool HR.out.symm, HB2.out⟩
        | true =>
          rw [t1] at hr
          unfold noT at t1
          cases if2 : inL f2 k with
          | false =>
            have If2 := Aside0.mk if2
            rw [if2] at hr
            clear if2
            have HR := Aside0.mk (show r = false by rw [← hr]; rfl)
            clear hr
            go_wp2_with fail
            refine (mayAt_any f2 k _ If2.out ⟨w.heap.size + 1, 0, none⟩ _ HK.out).mono ?_
            rintro e w1 ⟨rfl, rfl⟩
            go_wp2
            go_ret
            exact ⟨ret_bool HR.out.symm, HB2.out⟩
          | true =>
            have If2 := Aside0.mk if2
            rw [if2] at hr
            clear if2
            cases if3 : inL f3 k with
            | false =>
              have If3 := Aside0.mk if3
              rw [if3] at hr
              clear if3
              have HR := Aside0.mk (show r = false by rw [← hr]; rfl)
              clear hr
              go_wp2_with fail
              refine (mayAt_any f2 k _ If2.out ⟨w.heap.size + 1, 0, none⟩ _ HK.out).mono ?_
              rintro e w1 ⟨rfl, rfl⟩
              go_wp2_with fail
              refine (mayAt_any f3 k _ If3.out ⟨w.heap.size + 1, 0, none⟩ _ HK.out).mono ?_
              rintro e w1 ⟨rfl, rfl⟩
              go_wp2
              go_ret
              exact ⟨ret_bool HR.out.symm, HB2.out⟩
            | true =>
              have If3 := Aside0.mk if3
              rw [if3] at hr
              clear if3
              have HR := Aside0.mk (show r = true by rw [← hr]; rfl)
              clear hr
              go_wp2_with fail
              refine (mayAt_any f2 k _ If2.out ⟨w.heap.size + 1, 0, none⟩ _ HK.out).mono ?_
              rintro e w1 ⟨rfl, rfl⟩
              go_wp2_with fail
              refine (mayAt_any f3 k _ If3.out ⟨w.heap.size + 1, 0, none⟩ _ HK.out).mono ?_
              rintro e w1 ⟨rfl, rfl⟩
              go_wp2
              go_ret
              exact ⟨ret_bool HR.out.symm, HB2.out⟩
      · rw [if_neg k3] at hr
        have p3 : (f0 == 3) = false := by simp [k3]
        by_cases k4 : f0 = 4
        · rw [if_pos k4] at hr
          have p4 : (f0 == 4) = true := by simp [k4]
          clear k1 k2 k3 k4
          by_cases s1 : (f1.size : Int) ≤ 200
          · rw [decide_eq_true (show f1.size ≤ 200 by omega)] at hr
            cases z3 : (f3 == 0) with
            | false =>
              rw [z3] at hr
              have HR := Aside0.mk (show r = false by rw [← hr]; rfl)
              clear hr
              go_wp2
              go_ret
              exact ⟨ret_bool HR.out.symm, HB2.out⟩
            | true =>
              rw [z3] at hr
              cases if2 : inL f2 k with
              | false =>
                have If2 := Aside0.mk if2
                rw [if2] at hr
                clear if2
                have HR := Aside0.mk (show r = false by rw [← hr]; rfl)
                clear hr
                go_wp2_with fail
                refine (mayAt_any f2 k _ If2.out ⟨w.heap.size + 1, 0, none⟩ _ HK.out).mono ?_
                rintro e w1 ⟨rfl, rfl⟩
                go_wp2
                go_ret
                exact ⟨ret_bool HR.out.symm, HB2.out⟩
              | true =>
                have If2 := Aside0.mk if2
                rw [if2] at hr
                clear if2
                have HR := Aside0.mk (show r = true by rw [← hr]; rfl)
                clear hr
                go_wp2_with fail
                refine (mayAt_any f2 k _ If2.out ⟨w.heap.size + 1, 0, none⟩ _ HK.out).mono ?_
                rintro e w1 ⟨rfl, rfl⟩
                go_wp2
                go_ret
                exact ⟨ret_bool HR.out.symm, HB2.out⟩
          · rw [decide_eq_false (show ¬ f1.size ≤ 200 by omega)] at hr
            have HR := Aside0.mk (show r = false by rw [← hr]; rfl)
            clear hr
            go_wp2
            go_ret
            exact ⟨ret_bool HR.out.symm, HB2.out⟩
        · rw [if_neg k4] at hr
          have p4 : (f0 == 4) = false := by simp [k4]
          have HR := Aside0.mk (show r = false from hr.symm)
          clear hr k1 k2 k3 k4
          go_wp2
          go_ret
          exact ⟨ret_bool HR.out.symm, HB2.out⟩

/-- May a formula be? -/
def mayFs (fs : List Fm) : Bool := decide (0 < fs.length) && (decide (fs.length ≤ 65536) && (List.range fs.length).all fun k => mayF (fs.getD k z97) k)
set_option maxHeartbeats 4000000 in
set_option maxRecDepth 100000 in
theorem hml_check (fs : List Fm) (r : Bool) (hr0 : mayFs fs = r) (A : Option Addr) (c : Nat) (w : World) (hr : Kd.C k97 w A fs.length fs) :
    Calls Try.prog 71 #[.slice A fs.length c] w fun e w' => e = .returned (.int .i64 (errB r)) ∧ Below w.heap.size w w' := by
  have hl := C_len hr
  have HR := Aside0.mk hr
  have HB := Aside0.mk (Below.refl w.heap.size w)
  clear hr
  unfold mayFs at hr0
  by_cases q0 : fs.length = 0
  · have q1 : ((fs.length : Int) == 0) = true := by simp [q0]
    have H0 := Aside0.mk (show r = false by rw [← hr0, decide_eq_false (by omega)]; rfl)
    clear hr0 q0
    go_enter Try.func71, Try.ntmps71
    go_wp2
    go_ret
    exact ⟨ret_int (by rw [H0.out]; rfl), HB.out⟩
  · have q1 : ((fs.length : Int) == 0) = false := by simp; intro e; exact q0 (by rw [e]; rfl)
    have q1' : ((fs.length : Int) == 0) = false := q1
    rw [decide_eq_true (show 0 < fs.length by omega), Bool.true_and] at hr0
    by_cases q2 : 65536 < (fs.length : Int)
    · have H0 := Aside0.mk (show r = false by rw [← hr0, decide_eq_false (by omega)]; rfl)
      clear hr0 q0
      go_enter Try.func71, Try.ntmps71
      go_wp2
      go_ret
      exact ⟨ret_int (by rw [H0.out]; rfl), HB.out⟩
    · rw [decide_eq_true (show fs.length ≤ 65536 by omega), Bool.true_and] at hr0
      have H0 := Aside0.mk hr0
      clear hr0 q0
      go_enter Try.func71, Try.ntmps71
      go_wp2
      go_loopw [15] (fun i wr => ∃ k : Nat, k ≤ fs.length ∧ i = .int .i64 k ∧ Aside0 (∀ j, j < k → mayF (fs.getD j z97) j = true) ∧ Aside0 (Below w.heap.size w wr)) (fun i _ => fs.length - (intOf i).toNat)
      case atStart => exact ⟨0, Nat.zero_le _, rfl, ⟨fun j hj => by omega⟩, HB⟩
      case round =>
        obtain ⟨k, hk, rfl, hz, HBr⟩ := hrel
        by_cases hlt : k < fs.length
        · have i0 : (k : Int) < (fs.length : Int) := by omega
          obtain ⟨ad, hA, g0, g1, g2, g3⟩ := atFm HR.out k hlt
          subst hA
          replace g0 := later HBr.out g0
          replace g1 := later HBr.out g1
          replace g2 := later HBr.out g2
          replace g3 := later HBr.out g3
          obtain ⟨x, hx⟩ : ∃ x, x = fs.getD k z97 := ⟨_, rfl⟩
          rw [← hx] at g0 g1 g2 g3
          have HX := Aside0.mk hx
          clear hx
          have HB1 := Aside0.mk (below_alloc HBr.out (.cells #[.int .i64 x.f0, .string x.f1, .int .i64 x.f2, .int .i64 x.f3] 97))
          have hf := form_new wr wr.heap.size x rfl
          have b0 := hf.c0
          have b1 := hf.c1
          have b2 := hf.c2
          have b3 := hf.c3
          clear hf
          cases hm : mayF x k with
          | false =>
            have HM := Aside0.mk hm
            have HF := Aside0.mk (show r = false by rw [← H0.out]; exact all_bad hlt (by rw [← HX.out]; exact hm))
            clear hm
            go_wp2_with fail
            refine (may_form x k _ HM.out _).mono ?_
            rintro e w2 ⟨rfl, hB⟩
            have HB2 := Aside0.mk (below_then HB1.out HB1.out.size hB)
            clear hB b0 b1 b2 b3
            go_wp2
            go_ret
            exact ⟨ret_int (by rw [HF.out]; rfl), HB2.out⟩
          | true =>
            have HM := Aside0.mk hm
            clear hm
            go_wp2_with fail
            refine (may_form x k _ HM.out _).mono ?_
            rintro e w2 ⟨rfl, hB⟩
            have HB2 := Aside0.mk (below_then HB1.out HB1.out.size hB)
            clear hB b0 b1 b2 b3
            go_wp2
            go_roundw
            case rel => exact ⟨k + 1, by omega, by go_num, ⟨fun j hj => by
              rcases Nat.lt_succ_iff_lt_or_eq.1 hj with h | rfl
              · exact hz.out j h
              · rw [← HX.out]; exact HM.out⟩, HB2⟩
            case measure => simp [intOf]; omega
        · have i0 : ¬ (k : Int) < (fs.length : Int) := by omega
          have HF := Aside0.mk (show r = true by
            rw [← H0.out]
            rw [List.all_eq_true]
            intro j hj
            exact hz.out j (by have := List.mem_range.1 hj; omega))
          go_wp2
          go_ret
          exact ⟨ret_int (by rw [HF.out]; rfl), HBr.out⟩

end Go.Proofs.Ytmpiokdomjchiaa.H

set_option linter.unusedVariables false
set_option linter.unnecessarySimpa false
set_option linter.unusedSimpArgs false
set_option maxRecDepth 100000
namespace Go.Proofs.Ytmpiokdomjchiaa.H
open Go.RowKit Go.Proofs.Ytmpiokdomjchiaa.Pr Go.Proofs.YtmpiokdomjchiaaW.PrintWords Go.Proofs.Ytmpiokdomjchiaa.Sem
open Go.ChangeShapes Go.WideShapes Go.Deep Go.Joins

instance : Inhabited Fm := ⟨z97⟩
section
variable {H : Type} {enc : TypeId × Value → H} {w : World} {base : Nat} {spare : Nat → Bool} {held : Bool}
theorem el_form : ∀ n cs y, DataW.trod enc Try.prog w base spare held n 97 cs = some y → cs.length = 4 → ∃ a : Fm, k97.K w a cs := by
  intro n cs y h hl
  obtain ⟨y0, y1, y2, y3, m, _, _, h0, h1, h2, h3⟩ := trod_struct4 Try.underlying97 h
  match cs, hl with
  | [c0, c1, c2, c3], _ =>
    rw [show Try.prog.cellsOf 3 = 1 by kernel_rfl] at h0 h2 h3
    rw [show Try.prog.cellsOf 9 = 1 by kernel_rfl] at h1
    obtain ⟨a0, e0, _, _⟩ := DataW.trod_int Try.underlying3 h0
    obtain ⟨a1, e1, _, _⟩ := DataW.trod_string Try.underlying9 h1
    obtain ⟨a2, e2, _, _⟩ := DataW.trod_int Try.underlying3 h2
    obtain ⟨a3, e3, _, _⟩ := DataW.trod_int Try.underlying3 h3
    have e0' : c0 = .int .i64 a0 := by simpa using e0
    have e1' : c1 = .string a1 := by simpa using e1
    have e2' : c2 = .int .i64 a2 := by simpa using e2
    have e3' : c3 = .int .i64 a3 := by simpa using e3
    subst e0' e1' e2' e3'
    exact ⟨⟨a0, a1, a2, a3⟩, k97_mk w ⟨a0, a1, a2, a3⟩⟩
end

end Go.Proofs.Ytmpiokdomjchiaa.H

set_option linter.unusedVariables false
set_option linter.unnecessarySimpa false
set_option linter.unusedSimpArgs false
namespace Go.Proofs.Ytmpiokdomjchiaa.H
open Go.RowKit Go.Proofs.Ytmpiokdomjchiaa.Pr Go.Proofs.YtmpiokdomjchiaaW.PrintWords Go.Proofs.Ytmpiokdomjchiaa.Sem Go.Proofs.YtmpiokdomjchiaaW.PrintLast

set_option maxRecDepth 100000 in
theorem hput_any (b i : Nat) (S : Nat → Bool) (w : World) (hS : SetAt 102 w b S) (hi : i < 2048) : Calls Try.prog 126 #[.pointer (some ⟨b, 0, none⟩), .int .i64 i] w fun e w' => e = .returned (.tuple #[]) ∧ SetAt 102 w' b (withN S i) ∧ w.grownBy w' (some b) := by
  obtain ⟨q, hq0⟩ : ∃ q, q = i / 64 := ⟨_, rfl⟩
  obtain ⟨r, hr0⟩ : ∃ r, r = i % 64 := ⟨_, rfl⟩
  have hc := hS.cell (show i / 64 < 32 by omega)
  have hf := hS.frozen (i / 64)
  have hput := hS.put hi
  have hg : w.grownBy (w.setCell ⟨b, i / 64, none⟩ (.int .u64 ((wordOf S (i / 64) ||| 2 ^ (i % 64) : Nat) : Int))) (some b) := ⟨rfl, rfl, rfl, by simp [World.setCell], fun k _ hk => Below.heap_setCell _ _ _ _ (fun e => hk (by rw [e]))⟩
  rw [← hq0] at hc hf hput hg
  rw [← hr0] at hput hg
  have hxl := wordOf_lt S q
  obtain ⟨x, hx0⟩ : ∃ x, x = wordOf S q := ⟨_, rfl⟩
  rw [← hx0] at hc hput hg hxl
  have hrl : r < 64 := by omega
  have hor := or_word x r hxl hrl
  have HP := Aside0.mk hput
  have HG := Aside0.mk hg
  have hq : IntKind.i64.wrap ((i : Int) / 64) = (q : Int) := by rw [IntKind.wrap_i64]; omega
  have hqq : wrap64 ((i : Int) / 64) = (q : Int) := by rw [← i64_w]; exact hq
  have hr : ((i : Int) % 64) = (r : Int) := by omega
  have hr2 : Int.tmod (i : Int) 64 = (r : Int) := by rw [hr0]; rfl
  have hr3 : IntKind.u64.wrap (r : Int) = (r : Int) := by simp [IntKind.wrap, IntKind.bits, IntKind.signed]; omega
  have i0 : (0 : Int) ≤ (q : Int) := by omega
  have i1 : (q : Int) < 32 := by omega
  have HO := Aside0.mk hor
  clear hput hg hq0 hr0 hx0 hxl hrl hor hS hi
  go_enter Try.func126, Try.ntmps126
  go_wp2_with fail
  refine start_ (n := 14) (S := fun w' => w'.cell? ⟨b, q, none⟩ = some (.int .u64 (x : Int))) (ds := [13]) #[false, false, false, false, false, false, false, false, false, false, false, false, false, false] (by kernel_rfl) rfl rfl (hc) (fun hHeld => ?_)
  refine pure_ (i := 0) (N := some 4) (v := ?_) (a' := ?_) #[true, false, false, false, false, false, false, false, false, false, false, false, false, false] rfl rfl (by kernel_rfl) (fun _ _ _ h => h) (Or.inl ⟨by rfl, ?_⟩) ?_ ?_
  rotate_left
  · intro w'
    go_simp
    with_reducible rfl
  rotate_left
  · simp only [Act.put, List.setIfInBounds_toArray, List.set_cons_zero, List.set_cons_succ, i64_w, i32_w]
    rfl
  refine pure_ (i := 1) (N := some 5) (v := ?_) (a' := ?_) #[true, true, false, false, false, false, false, false, false, false, false, false, false, false] rfl rfl (by kernel_rfl) (fun _ _ _ h => h) (Or.inl ⟨by rfl, ?_⟩) ?_ ?_
  rotate_left
  · intro w'
    go_simp
    with_reducible rfl
  rotate_left
  · simp only [Act.put, List.setIfInBounds_toArray, List.set_cons_zero, List.set_cons_succ, i64_w, i32_w]
    rfl
  refine pure_ (i := 2) (N := some 6) (v := ?_) (a' := ?_) #[true, true, true, false, false, false, false, false, false, false, false, false, false, false] rfl rfl (by kernel_rfl) (fun _ _ _ h => h) (Or.inl ⟨by rfl, ?_⟩) ?_ ?_
  rotate_left
  · intro w'
    go_simp
    with_reducible rfl
  rotate_left
  · simp only [Act.put, List.setIfInBounds_toArray, List.set_cons_zero, List.set_cons_succ, i64_w, i32_w]
    rfl
  refine pure_ (i := 3) (N := some 7) (v := ?_) (a' := ?_) #[true, true, true, true, false, false, false, false, false, false, false, false, false, false] rfl rfl (by kernel_rfl) (fun _ _ _ h => h) (Or.inl ⟨by rfl, ?_⟩) ?_ ?_
  rotate_left
  · intro w'
    go_simp
    with_reducible rfl
  rotate_left
  · simp only [Act.put, List.setIfInBounds_toArray, List.set_cons_zero, List.set_cons_succ, i64_w, i32_w]
    rfl
  refine pure_ (i := 4) (N := some 8) (v := ?_) (a' := ?_) #[true, true, true, true, true, false, false, false, false, false, false, false, false, false] rfl rfl (by kernel_rfl) (fun _ _ _ h => h) (Or.inl ⟨by rfl, ?_⟩) ?_ ?_
  rotate_left
  · intro w'
    go_simp
    with_reducible rfl
  rotate_left
  · simp only [Act.put, List.setIfInBounds_toArray, List.set_cons_zero, List.set_cons_succ, i64_w, i32_w]
    rfl
  refine pure_ (i := 6) (N := some 10) (v := ?_) (a' := ?_) #[true, true, true, true, true, false, true, false, false, false, false, false, false, false] rfl rfl (by kernel_rfl) (fun _ _ _ h => h) (Or.inl ⟨by rfl, ?_⟩) ?_ ?_
  rotate_left
  · intro w'
    go_simp
    with_reducible rfl
  rotate_left
  · simp only [Act.put, List.setIfInBounds_toArray, List.set_cons_zero, List.set_cons_succ, i64_w, i32_w]
    rfl
  refine pure_ (i := 7) (N := some 11) (v := ?_) (a' := ?_) #[true, true, true, true, true, false, true, true, false, false, false, false, false, false] rfl rfl (by kernel_rfl) (fun _ _ _ h => h) (Or.inl ⟨by rfl, ?_⟩) ?_ ?_
  rotate_left
  · intro w'
    go_simp
    with_reducible rfl
  rotate_left
  · simp only [Act.put, List.setIfInBounds_toArray, List.set_cons_zero, List.set_cons_succ, i64_w, i32_w]
    rfl
  refine pure_ (i := 8) (N := some 12) (v := ?_) (a' := ?_) #[true, true, true, true, true, false, true, true, true, false, false, false, false, false] rfl rfl (by kernel_rfl) (fun _ _ _ h => h) (Or.inl ⟨by rfl, ?_⟩) ?_ ?_
  rotate_left
  · intro w'
    go_simp
    with_reducible rfl
  rotate_left
  · simp only [Act.put, List.setIfInBounds_toArray, List.set_cons_zero, List.set_cons_succ, i64_w, i32_w]
    rfl
  refine pure_ (i := 9) (N := some 13) (v := ?_) (a' := ?_) #[true, true, true, true, true, false, true, true, true, true, false, false, false, false] rfl rfl (by kernel_rfl) (fun _ _ _ h => h) (Or.inl ⟨by rfl, ?_⟩) ?_ ?_
  rotate_left
  · intro w'
    go_simp
    with_reducible rfl
  rotate_left
  · simp only [Act.put, List.setIfInBounds_toArray, List.set_cons_zero, List.set_cons_succ, i64_w, i32_w]
    rfl
  refine pure_ (i := 11) (N := some 15) (v := ?_) (a' := ?_) #[true, true, true, true, true, false, true, true, true, true, false, true, false, false] rfl rfl (by kernel_rfl) (fun _ _ _ h => h) (Or.inl ⟨by rfl, ?_⟩) ?_ ?_
  rotate_left
  · intro w'
    go_simp
    with_reducible rfl
  rotate_left
  · simp only [Act.put, List.setIfInBounds_toArray, List.set_cons_zero, List.set_cons_succ, i64_w, i32_w]
    rfl
  refine take_ (i := 5) (N := some 9) (v := ?_) (a' := ?_) #[true, true, true, true, true, true, true, true, true, true, false, true, false, false] rfl rfl (by kernel_rfl) (fun _ _ _ h => h) (Or.inl ⟨by rfl, ?_⟩) hHeld ?_ ?_
  rotate_left
  · intro w' s0
    go_simp
    with_reducible rfl
  rotate_left
  · simp only [Act.put, List.setIfInBounds_toArray, List.set_cons_zero, List.set_cons_succ, i64_w, i32_w]
    rfl
  refine pure_ (i := 10) (N := some 14) (v := ?_) (a' := ?_) #[true, true, true, true, true, true, true, true, true, true, true, true, false, false] rfl rfl (by kernel_rfl) (fun _ _ _ h => h) (Or.inl ⟨by rfl, ?_⟩) ?_ ?_
  rotate_left
  · intro w'
    go_simp
    with_reducible rfl
  rotate_left
  · simp only [Act.put, List.setIfInBounds_toArray, List.set_cons_zero, List.set_cons_succ, i64_w, i32_w]
    rfl
  refine pure_ (i := 12) (N := some 16) (v := ?_) (a' := ?_) #[true, true, true, true, true, true, true, true, true, true, true, true, true, false] rfl rfl (by kernel_rfl) (fun _ _ _ h => h) (Or.inl ⟨by rfl, ?_⟩) ?_ ?_
  rotate_left
  · intro w'
    go_simp
    with_reducible rfl
  rotate_left
  · simp only [Act.put, List.setIfInBounds_toArray, List.set_cons_zero, List.set_cons_succ, i64_w, i32_w]
    rfl
  refine last_ (i := 13) (N := none) #[true, true, true, true, true, true, true, true, true, true, true, true, true, true] rfl rfl (by kernel_rfl) (by decide) (fun K hK => ?_)
  refine skip_ (w1 := ?_) (by rfl) rfl ?_ ?_
  rotate_left
  · go_simp
    rfl
  refine hK.out _ _ ?_
  clear hK K
  refine done_ (by kernel_rfl) ?_
  rw [HO.out]
  go_end0
  exact ⟨rfl, HP.out, HG.out.os, HG.out.tape, HG.out.output, HG.out.size, HG.out.block⟩
set_option maxRecDepth 100000 in
theorem hhas_at (b o i : Nat) (S : Nat → Bool) (w : World) (hS : ∀ j, j < 32 → w.cell? ⟨b, o + j, none⟩ = some (.int .u64 (wordOf S j : Int))) (hi : i < 2048) : Calls Try.prog 73 #[.pointer (some ⟨b, o, none⟩), .int .i64 i] w fun e w' => e = .returned (.bool (S i)) ∧ w = w' := by
  obtain ⟨q, hq0⟩ : ∃ q, q = i / 64 := ⟨_, rfl⟩
  obtain ⟨r, hr0⟩ : ∃ r, r = i % 64 := ⟨_, rfl⟩
  have hc := hS (i / 64) (show i / 64 < 32 by omega)
  rw [← hq0] at hc
  have hxl := wordOf_lt S q
  have hbit := wordOf_bit S q r (by omega)
  rw [show 64 * q + r = i by omega] at hbit
  obtain ⟨x, hx0⟩ : ∃ x, x = wordOf S q := ⟨_, rfl⟩
  rw [← hx0] at hc hxl hbit
  have HA := Aside0.mk ((and_word x r hxl).trans hbit)
  have hq : IntKind.i64.wrap ((i : Int) / 64) = (q : Int) := by rw [IntKind.wrap_i64]; omega
  have hr : ((i : Int) % 64) = (r : Int) := by omega
  have hr2 : r < 64 := by omega
  have i0 : (0 : Int) ≤ (q : Int) := by omega
  have i1 : (q : Int) < 32 := by omega
  clear hq0 hr0 hx0 hxl hbit hS hi
  go_enter Try.func73, Try.ntmps73
  go_wp2
  go_ret
  exact ⟨ret_bool HA.out, rfl⟩


theorem es_lab {n : Int} {ls : List ByteArray} {es : List Ed} (hm : mayR n ls es = true) {e : Ed} (he : e ∈ es) : 0 ≤ e.f1 ∧ e.f1 < ls.length := by
  obtain ⟨k, hk, rfl⟩ := getD_mem z81 he
  unfold mayR at hm
  simp only [Bool.and_eq_true] at hm
  have h := List.all_eq_true.1 hm.2.2.2.2.2 k (List.mem_range.2 hk)
  unfold okAt' at h
  simp only [Bool.and_eq_true, decide_eq_true_eq] at h
  exact ⟨h.2.2.1, h.2.2.2.1⟩
/-- Where an edge of a label leads to a node of a set. -/
def diaS (ls : List ByteArray) (es : List Ed) (lab : ByteArray) (S : Nat → Bool) : Nat → Bool := fun x => es.any fun e => teq (ls.getD e.f1.toNat ByteArray.empty) lab && (S e.f2.toNat && decide (e.f0 = (x : Int)))
theorem diaS_snoc (ls : List ByteArray) (es : List Ed) (lab : ByteArray) (S : Nat → Bool) (e : Ed) {i : Nat} (hi : e.f0 = (i : Int)) : diaS ls (es ++ [e]) lab S = if teq (ls.getD e.f1.toNat ByteArray.empty) lab && S e.f2.toNat then withN (diaS ls es lab S) i else diaS ls es lab S := by
  funext x
  unfold diaS
  rw [List.any_append]
  simp only [List.any_cons, List.any_nil, Bool.or_false]
  cases h1 : teq (ls.getD e.f1.toNat ByteArray.empty) lab <;> cases h2 : S e.f2.toNat
  · simp
  · simp
  · simp
  · simp only [Bool.true_and, if_true]
    unfold withN
    congr 1
    apply decide_eq_decide.2
    omega
theorem hinfo_set : (Try.prog.info? 102).map (·.size) = some 32 := by kernel_rfl
theorem hrun_alloc {op : Oper} {a : Act} {w : World} (ho : op.op = .alloc 102) : (execOp a.eval op).run Try.prog w = .ok (.value (.pointer (some ⟨w.heap.size, 0, none⟩))) (w.alloc (.cells (encSet fun _ => false).toArray 102)) := by
  unfold execOp
  simp only [ho]
  kernel_rfl
theorem hset_new (W : World) (b : Nat) (S : Nat → Bool) (hb : W.heap.size = b) : SetAt 102 (W.alloc (.cells (encSet S).toArray 102)) b S := by
  subst hb
  exact blk_new _ _
theorem hrun_load {op : Oper} {a : Act} {w : World} {x : Operand} {b o : Nat} {S : Nat → Bool} (ho : op.op = .load 102 x) (hx : a.eval x = .pointer (some ⟨b, o, none⟩)) (hc : w.rangeAt b o (encSet S)) : (execOp a.eval op).run Try.prog w = .ok (.value (.agg (encSet S).toArray)) w := by
  unfold execOp
  simp only [ho, hx, Instr.loadAt, Instr.sureAddr, Sem.run_bind, Sem.run_pure, Result.andThen_ok, run_loadVar_mid w b o 102 (encSet S) _ hc Try.underlying102 rfl (by rw [encSet_len]; exact hinfo_set)]
theorem hrun_store {op : Oper} {a : Act} {w : World} {x y : Operand} {b : Nat} {S : Nat → Bool} (ho : op.op = .store 102 x y) (hx : a.eval x = .pointer (some ⟨b, 0, none⟩)) (hy : a.eval y = .agg (encSet S).toArray) (ht : w.there b 0 32) : (execOp a.eval op).run Try.prog w = .ok .skip (w.setCells b 0 (encSet S)) := by
  unfold execOp
  simp only [ho, hx, hy, Instr.storeAt, Instr.sureAddr, Sem.run_bind, Sem.run_pure, Result.andThen_ok, run_storeVar_mid w b 0 102 (encSet S).toArray (by simpa [encSet_len] using ht) (by rw [List.size_toArray, encSet_len]; exact hinfo_set) (all_oneCell_toArray (enc_one _))]
theorem hw_value {P : Program} {ops : Array Oper} {rest : List Oper} {op : Oper} {a : Act} {w w1 : World} {v : Value} {Q : Exit → Act → World → Prop} (hw : Region.wanted op (yielded ops a.tmps) = true) (hrun : (execOp a.eval op).run P w = .ok (.value v) w1) (h : wpList P ops Q rest (a.put op.dst v) w1) : wpList P ops Q (op :: rest) a w :=
  wpList_step fun K hK => value_ hw rfl hrun (hK _ _ h)
theorem hw_skip {P : Program} {ops : Array Oper} {rest : List Oper} {op : Oper} {a : Act} {w w1 : World} {Q : Exit → Act → World → Prop} (hw : Region.wanted op (yielded ops a.tmps) = true) (hd : op.dst = none) (hrun : (execOp a.eval op).run P w = .ok .skip w1) (h : wpList P ops Q rest a w1) : wpList P ops Q (op :: rest) a w :=
  wpList_step fun K hK => by
    have h1 := skip_ (P := P) (ops := ops) (Q := Q) (K := K) hw hd hrun (hK _ _ h)
    rw [if_pos hw] at h1
    rw [if_pos hw]
    exact h1
theorem hset_cells {w : World} {b : Nat} {S : Nat → Bool} {t : Nat} (h : SetAt t w b S) : ∀ j, j < 32 → w.cell? ⟨b, 0 + j, none⟩ = some (.int .u64 (wordOf S j : Int)) := fun j hj => by rw [Nat.zero_add]; exact h.cell hj
theorem words_later {w w1 : World} {b o : Nat} {S : Nat → Bool} (hb : Below w.heap.size w w1) (h : ∀ j, j < 32 → w.cell? ⟨b, o + j, none⟩ = some (.int .u64 (wordOf S j : Int))) : ∀ j, j < 32 → w1.cell? ⟨b, o + j, none⟩ = some (.int .u64 (wordOf S j : Int)) := fun j hj => later hb (h j hj)

/-- The variables of hold.dia. -/
structure DiaSt (w W : World) (n : Int) (v1 v2 : Value) (O : Nat → Bool) : Prop where
  box : BoxL W w.heap.size n v1 v2
  res : SetAt 102 W (w.heap.size + 1) (fun _ => false)
  out : SetAt 102 W (w.heap.size + 1 + 1) O
  below : Below w.heap.size w W
theorem DiaSt.on {w W W1 : World} {n : Int} {v1 v2 : Value} {O : Nat → Bool} (h : DiaSt w W n v1 v2 O) (hb : Below W.heap.size W W1) : DiaSt w W1 n v1 v2 O :=
  ⟨h.box.below hb, h.res.below hb, h.out.below hb, below_then h.below h.below.size hb⟩
theorem DiaSt.put {w W W1 : World} {n : Int} {v1 v2 : Value} {O O' : Nat → Bool} (h : DiaSt w W n v1 v2 O) (ho : SetAt 102 W1 (w.heap.size + 1 + 1) O') (hg : W.grownBy W1 (some (w.heap.size + 1 + 1))) : DiaSt w W1 n v1 v2 O' := by
  refine ⟨?_, h.res.grown hg (by omega), ho, h.below.grown hg h.below.size (fun k hk => by cases hk; omega)⟩
  exact (hg.block _ (Array.getElem?_eq_some_iff.1 h.box).1 (by simp; omega)).trans h.box

set_option maxHeartbeats 8000000 in
set_option maxRecDepth 100000 in
theorem dia_any (n : Int) (ls : List ByteArray) (es : List Ed) (lab : ByteArray) (g o : Nat) (S : Nat → Bool) (A1 A2 : Option Addr) (c1 c2 : Nat) (w : World) (hr1 : Kd.C Kd.string w A1 ls.length ls) (hr2 : Kd.C k81 w A2 es.length es) (hm : mayR n ls es = true) (hS : ∀ j, j < 32 → w.cell? ⟨g, o + j, none⟩ = some (.int .u64 (wordOf S j : Int))) :
    Calls Try.prog 105 #[.agg #[.int .i64 n, .slice A1 ls.length c1, .slice A2 es.length c2], .string lab, .pointer (some ⟨g, o, none⟩)] w fun e w' => e = .returned (.agg (encSet (diaS ls es lab S)).toArray) ∧ Below w.heap.size w w' := by
  have HB := Aside0.mk (Below.refl w.heap.size w)
  have HR1 := Aside0.mk hr1
  have HR2 := Aside0.mk hr2
  have HM := Aside0.mk hm
  have HSw := Aside0.mk hS
  have hel := es_le hm
  have HN := Aside0.mk (n_le hm)
  clear hr1 hr2 hm hS
  have HS0 : Aside0 (DiaSt w (((w.alloc (Obj.cells #[Value.int IntKind.i64 n, Value.slice A1 ls.length c1, Value.slice A2 es.length c2] 25)).alloc (Obj.cells (encSet fun _ => false).toArray 102)).alloc (Obj.cells (encSet fun _ => false).toArray 102)) n (.slice A1 ls.length c1) (.slice A2 es.length c2) (fun _ => false)) := by
    refine ⟨⟨?_, ?_, ?_, by repeat (first | exact HB.out | apply below_alloc)⟩⟩
    · exact blk_below (blk_new w _) (below_alloc (below_alloc (Below.refl _ _) _) _)
    · exact blk_below (hset_new _ _ _ (by simp)) (below_alloc (Below.refl _ _) _)
    · exact hset_new _ _ _ (by simp)
  have b2 := HS0.out.box.c2
  go_enter Try.func105, Try.ntmps105
  go_wp2_with (first
    | (refine hw_value (by rfl) (hrun_alloc (by rfl)) ?_))
  clear b2
  generalize (((w.alloc (Obj.cells #[Value.int IntKind.i64 n, Value.slice A1 ls.length c1, Value.slice A2 es.length c2] 25)).alloc (Obj.cells (encSet fun _ => false).toArray 102)).alloc (Obj.cells (encSet fun _ => false).toArray 102)) = W at HS0 ⊢
  go_loopw [13] (fun i wr => ∃ k : Nat, k ≤ es.length ∧ i = .int .i64 k ∧ Aside0 (DiaSt w wr n (.slice A1 ls.length c1) (.slice A2 es.length c2) (diaS ls (es.take k) lab S))) (fun i _ => es.length - (intOf i).toNat)
  case atStart => exact ⟨0, Nat.zero_le _, rfl, ⟨by
    have e0 : diaS ls [] lab S = fun _ => false := by funext x; rfl
    rw [List.take_zero, e0]; exact HS0.out⟩⟩
  case round =>
    clear HS0
    obtain ⟨k, hk, rfl, HS⟩ := hrel
    by_cases hlt : k < es.length
    · have i0 : (k : Int) < (es.length : Int) := by omega
      obtain ⟨ad, hA, g0, g1, g2⟩ := atE HR2.out k hlt
      subst hA
      replace g0 := later HS.out.below g0
      replace g1 := later HS.out.below g1
      replace g2 := later HS.out.below g2
      have hmem : es.getD k z81 ∈ es := by
        rw [List.getD_eq_getElem?_getD, List.getElem?_eq_getElem hlt]
        exact List.getElem_mem hlt
      have hin := es_mem HM.out hmem
      have hlb := es_lab HM.out hmem
      obtain ⟨x, hx⟩ : ∃ x, x = es.getD k z81 := ⟨_, rfl⟩
      have HE := Aside0.mk (show es.take (k + 1) = es.take k ++ [x] by rw [hx]; exact take_snoc z81 hlt)
      rw [← hx] at g0 g1 g2 hin hlb
      obtain ⟨i, hi⟩ : ∃ i : Nat, x.f0 = (i : Int) := ⟨x.f0.toNat, by omega⟩
      obtain ⟨m, hm⟩ : ∃ m : Nat, x.f1 = (m : Int) := ⟨x.f1.toNat, by omega⟩
      obtain ⟨j, hj⟩ : ∃ j : Nat, x.f2 = (j : Int) := ⟨x.f2.toNat, by omega⟩
      have HIJ := Aside0.mk (show i < 2048 ∧ j < 2048 by have := HN.out; omega)
      have hml : m < ls.length := by omega
      have i1 : (m : Int) < (ls.length : Int) := by omega
      obtain ⟨al, hAl, gl⟩ := atS (Kd.C_below HR1.out HS.out.below) m hml
      subst hAl
      obtain ⟨lx, hlx⟩ : ∃ lx, lx = ls.getD m ByteArray.empty := ⟨_, rfl⟩
      rw [← hlx] at gl
      have HL := Aside0.mk (show diaS ls (es.take (k + 1)) lab S = if teq lx lab && S j then withN (diaS ls (es.take k) lab S) i else diaS ls (es.take k) lab S by
        rw [HE.out, diaS_snoc _ _ _ _ _ hi, hm, hj, Int.toNat_natCast, Int.toNat_natCast, ← hlx])
      rw [hi] at g0
      rw [hm] at g1
      rw [hj] at g2
      clear hx hin hlb hi hm hj hlx hmem hml
      have hba := below_alloc (Below.refl wr.heap.size wr) (Obj.cells #[Value.int IntKind.i64 (i : Int), Value.int IntKind.i64 (m : Int), Value.int IntKind.i64 (j : Int)] 81)
      have HS1 := Aside0.mk (HS.out.on hba)
      have b1 := HS1.out.box.c1
      have gl1 := later hba gl
      have HSw1 := Aside0.mk (words_later HS1.out.below HSw.out)
      clear hba gl
      cases q : teq lx lab with
      | false =>
        have p0 : (lx.toList == lab.toList) = false := q
        have HQ := Aside0.mk q
        clear q
        go_wp2
        go_roundw
        case rel => exact ⟨k + 1, by omega, by go_num, ⟨by rw [HL.out, HQ.out]; exact HS1.out⟩⟩
        case measure => simp [intOf]; omega
      | true =>
        have p0 : (lx.toList == lab.toList) = true := q
        have HQ := Aside0.mk q
        clear q
        go_wp2_with fail
        have e0 := (blk_cell (blk_new wr (Obj.cells #[Value.int IntKind.i64 (i : Int), Value.int IntKind.i64 (m : Int), Value.int IntKind.i64 (j : Int)] 81)) 0).trans rfl
        refine (hhas_at g o j S _ HSw1.out HIJ.out.2).mono ?_
        rintro e w3 ⟨rfl, rfl⟩
        cases hSj : S j with
        | false =>
          have HSj := Aside0.mk hSj
          clear p0 hSj b1 gl1
          go_wp2
          go_roundw
          case rel => exact ⟨k + 1, by omega, by go_num, ⟨by rw [HL.out, HQ.out, HSj.out]; exact HS1.out⟩⟩
          case measure => simp [intOf]; omega
        | true =>
          have HSj := Aside0.mk hSj
          clear p0 hSj b1 gl1
          go_wp2_with fail
          refine (hput_any (w.heap.size + 1 + 1) i _ _ HS1.out.out HIJ.out.1).mono ?_
          rintro e w4 ⟨rfl, hS, hG⟩
          have HS4 := Aside0.mk (HS1.out.put hS hG)
          clear hS hG e0
          go_wp2
          go_roundw
          case rel => exact ⟨k + 1, by omega, by go_num, ⟨by rw [HL.out, HQ.out, HSj.out]; exact HS4.out⟩⟩
          case measure => simp [intOf]; omega
    · have i0 : ¬ (k : Int) < (es.length : Int) := by omega
      have ek : es.take k = es := List.take_of_length_le (by omega)
      rw [ek] at HS
      clear ek
      have HF := Aside0.mk (show SetAt 102 (wr.setCells (w.heap.size + 1) 0 (encSet (diaS ls es lab S))) (w.heap.size + 1) (diaS ls es lab S) from HS.out.res.store _)
      go_wp2_with (first
        | (refine hw_value (by rfl) (hrun_load (x := .tmp 7) (b := w.heap.size + 1 + 1) (o := 0) (S := diaS ls es lab S) (by rfl) (by rfl) HS.out.out.range) ?_)
        | (refine hw_skip (by rfl) (by rfl) (hrun_store (x := .tmp 6) (y := .tmp 35) (b := w.heap.size + 1) (S := diaS ls es lab S) (by rfl) (by rfl) (by rfl) HS.out.res.there) ?_))
      refine bodyPost_ret (results_cell_row (fn := Try.f105) rfl _ _ (w.heap.size + 1) 102 (encSet (diaS ls es lab S)).toArray (0, 0) _ rfl HF.out Try.underlying102 rfl (by rw [List.size_toArray, encSet_len]; exact hinfo_set)) rfl ?_
      exact ⟨rfl, below_setCells HS.out.below 0 _ (by omega)⟩

end Go.Proofs.Ytmpiokdomjchiaa.H

set_option linter.unusedVariables false
set_option linter.unnecessarySimpa false
set_option linter.unusedSimpArgs false
namespace Go.Proofs.Ytmpiokdomjchiaa.H
open Go.RowKit Go.Proofs.Ytmpiokdomjchiaa.Pr Go.Proofs.YtmpiokdomjchiaaW.PrintWords Go.Proofs.Ytmpiokdomjchiaa.Sem Go.Proofs.YtmpiokdomjchiaaW.PrintLast

/-- The first k words of a set. -/
def firstW (T : Nat → Bool) (k : Nat) : Nat → Bool := fun x => decide (x / 64 < k) && T x
theorem firstW_zero (T : Nat → Bool) : firstW T 0 = fun _ => false := by funext x; simp [firstW]
theorem word_first (T : Nat → Bool) (k j : Nat) : wordOf (firstW T k) j = if j < k then wordOf T j else 0 := by
  apply Nat.eq_of_testBit_eq
  intro b
  by_cases hb : b < 64
  · rw [wordOf_bit _ _ _ hb]
    unfold firstW
    have e : (64 * j + b) / 64 = j := by omega
    rw [e]
    by_cases h : j < k
    · rw [if_pos h, wordOf_bit _ _ _ hb, decide_eq_true h, Bool.true_and]
    · rw [if_neg h, decide_eq_false h]; simp
  · have h1 : (wordOf (firstW T k) j).testBit b = false := by unfold wordOf; rw [wbits_bit, decide_eq_false hb]; rfl
    rw [h1]
    by_cases h : j < k
    · rw [if_pos h]
      unfold wordOf
      rw [wbits_bit, decide_eq_false hb]
      rfl
    · rw [if_neg h]; simp
theorem firstW_all (T : Nat → Bool) : encSet (firstW T 32) = encSet T := by
  unfold encSet
  apply List.map_congr_left
  intro j hj
  rw [word_first, if_pos (List.mem_range.1 hj)]
theorem enc_first (T : Nat → Bool) (k : Nat) (hk : k < 32) : encSet (firstW T (k + 1)) = (encSet (firstW T k)).set k (.int .u64 (wordOf T k : Int)) := by
  apply List.ext_getElem
  · simp [encSet]
  · intro j h1 h2
    have hj : j < 32 := by simpa [encSet] using h1
    rw [List.getElem_set]
    by_cases e : k = j
    · subst e
      rw [if_pos rfl]
      simp [encSet, word_first]
    · rw [if_neg e]
      simp only [encSet, List.getElem_map, List.getElem_range, word_first]
      by_cases h : j < k
      · rw [if_pos h, if_pos (by omega)]
      · rw [if_neg h, if_neg (by omega)]
theorem SetAt.first {t : Nat} {w : World} {b : Nat} {T : Nat → Bool} {k : Nat} (h : SetAt t w b (firstW T k)) (hk : k < 32) : SetAt t (w.setCell ⟨b, k, none⟩ (.int .u64 (wordOf T k : Int))) b (firstW T (k + 1)) := by
  have h' : w.heap[b]? = some (.cells (encSet (firstW T k)).toArray t (0, 0)) := h
  unfold SetAt
  rw [enc_first T k hk]
  simp [World.setCell, Array.getElem?_modify, h']
theorem word_true (j : Nat) : wordOf (fun _ => true) j = 18446744073709551615 := by
  apply Nat.eq_of_testBit_eq
  intro b
  unfold wordOf
  rw [wbits_bit, show (18446744073709551615 : Nat) = 2 ^ 64 - 1 from rfl, Nat.testBit_two_pow_sub_one, Bool.and_true]
theorem word_and (S T : Nat → Bool) (j : Nat) : wordOf (fun x => S x && T x) j = wordOf S j &&& wordOf T j := by
  apply Nat.eq_of_testBit_eq
  intro b
  rw [Nat.testBit_and]
  by_cases hb : b < 64
  · rw [wordOf_bit _ _ _ hb, wordOf_bit _ _ _ hb, wordOf_bit _ _ _ hb]
  · unfold wordOf
    rw [wbits_bit, wbits_bit, wbits_bit, decide_eq_false hb]
    rfl
theorem word_not (S : Nat → Bool) (j : Nat) : wordOf (fun x => !S x) j = 18446744073709551615 ^^^ wordOf S j := by
  apply Nat.eq_of_testBit_eq
  intro b
  rw [Nat.testBit_xor, show (18446744073709551615 : Nat) = 2 ^ 64 - 1 from rfl, Nat.testBit_two_pow_sub_one]
  by_cases hb : b < 64
  · rw [wordOf_bit _ _ _ hb, wordOf_bit _ _ _ hb, decide_eq_true hb]
    simp
  · unfold wordOf
    rw [wbits_bit, wbits_bit, decide_eq_false hb]
    rfl
/-- Where a line holds, by where those ahead do. -/
def lineS (ls : List ByteArray) (es : List Ed) (x : Fm) (Ss : List (Nat → Bool)) : Nat → Bool :=
  if x.f0 = 4 then diaS ls es x.f1 (Ss.getD x.f2.toNat fun _ => false)
  else if x.f0 = 1 then fun _ => true
  else if x.f0 = 2 then fun y => !(Ss.getD x.f2.toNat fun _ => false) y
  else if x.f0 = 3 then fun y => (Ss.getD x.f2.toNat fun _ => false) y && (Ss.getD x.f3.toNat fun _ => false) y
  else fun _ => false
/-- The variables of hold.line. -/
structure LiSt (w W : World) (n : Int) (v1 v2 : Value) (x : Fm) (O : Nat → Bool) : Prop where
  box : BoxL W w.heap.size n v1 v2
  form : FormAt W (w.heap.size + 1) x
  res : SetAt 102 W (w.heap.size + 1 + 1) (fun _ => false)
  out : SetAt 102 W (w.heap.size + 1 + 1 + 1) O
  below : Below w.heap.size w W
theorem LiSt.on {w W W1 : World} {n : Int} {v1 v2 : Value} {x : Fm} {O : Nat → Bool} (h : LiSt w W n v1 v2 x O) (hb : Below W.heap.size W W1) : LiSt w W1 n v1 v2 x O :=
  ⟨h.box.below hb, h.form.below hb, h.res.below hb, h.out.below hb, below_then h.below h.below.size hb⟩
theorem LiSt.word {w W : World} {n : Int} {v1 v2 : Value} {x : Fm} {S : Nat → Bool} {k : Nat} (h : LiSt w W n v1 v2 x (firstW S k)) (hk : k < 32) : LiSt w (W.setCell ⟨w.heap.size + 1 + 1 + 1, k, none⟩ (.int .u64 (wordOf S k : Int))) n v1 v2 x (firstW S (k + 1)) := by
  have hg := grown_set W (w.heap.size + 1 + 1 + 1) k (.int .u64 (wordOf S k : Int))
  exact ⟨blk_grown h.box hg (by simp; omega), blk_grown h.form hg (by simp), h.res.grown hg (by omega), h.out.first hk, h.below.grown hg h.below.size (fun b hb => by cases hb; omega)⟩
/-- Rows of sets that are read. -/
def RowsW (w : World) (g : Nat) (Ss : List (Nat → Bool)) : Prop := ∀ i, i < Ss.length → ∀ j, j < 32 → w.cell? ⟨g, i * 32 + j, none⟩ = some (.int .u64 (wordOf (Ss.getD i fun _ => false) j : Int))
theorem RowsW.later {w w1 : World} {g : Nat} {Ss : List (Nat → Bool)} (h : RowsW w g Ss) (hb : Below w.heap.size w w1) : RowsW w1 g Ss := fun i hi j hj => H.later hb (h i hi j hj)

set_option maxHeartbeats 8000000 in
set_option maxRecDepth 100000 in
theorem line_any (n : Int) (ls : List ByteArray) (es : List Ed) (x : Fm) (Ss : List (Nat → Bool)) (vA : Value) (g c : Nat) (A1 A2 : Option Addr) (c1 c2 : Nat) (w : World) (hr1 : Kd.C Kd.string w A1 ls.length ls) (hr2 : Kd.C k81 w A2 es.length es) (hm : mayR n ls es = true) (hx : mayF x Ss.length = true) (hv : 0 < Ss.length → vA = .slice (some ⟨g, 0, none⟩) Ss.length c) (hR : RowsW w g Ss) :
    Calls Try.prog 72 #[.agg #[Value.int IntKind.i64 n, Value.slice A1 ls.length c1, Value.slice A2 es.length c2], .agg #[Value.int IntKind.i64 x.f0, Value.string x.f1, Value.int IntKind.i64 x.f2, Value.int IntKind.i64 x.f3], vA] w fun e w' => e = .returned (.agg (encSet (lineS ls es x Ss)).toArray) ∧ Below w.heap.size w w' := by
  have HB := Aside0.mk (Below.refl w.heap.size w)
  have HR1 := Aside0.mk hr1
  have HR2 := Aside0.mk hr2
  have HM := Aside0.mk hm
  have HRo := Aside0.mk hR
  have HV := Aside0.mk hv
  clear hr1 hr2 hm hR hv
  have HS0 : Aside0 (LiSt w ((((w.alloc (Obj.cells #[Value.int IntKind.i64 n, Value.slice A1 ls.length c1, Value.slice A2 es.length c2] 25)).alloc (Obj.cells #[Value.int IntKind.i64 x.f0, Value.string x.f1, Value.int IntKind.i64 x.f2, Value.int IntKind.i64 x.f3] 97)).alloc (Obj.cells (encSet fun _ => false).toArray 102)).alloc (Obj.cells (encSet fun _ => false).toArray 102)) n (.slice A1 ls.length c1) (.slice A2 es.length c2) x (fun _ => false)) := by
    refine ⟨⟨?_, ?_, ?_, ?_, by repeat (first | exact HB.out | apply below_alloc)⟩⟩
    · exact blk_below (blk_new w _) (below_alloc (below_alloc (below_alloc (Below.refl _ _) _) _) _)
    · exact (form_new _ _ x (by simp)).below (below_alloc (below_alloc (Below.refl _ _) _) _)
    · exact blk_below (hset_new _ _ _ (by simp)) (below_alloc (Below.refl _ _) _)
    · exact hset_new _ _ _ (by simp)
  have hf0 := HS0.out.form.c0
  go_enter Try.func72, Try.ntmps72
  by_cases k4 : x.f0 = 4
  · -- some edge leads there
    have HL := Aside0.mk (show lineS ls es x Ss = diaS ls es x.f1 (Ss.getD x.f2.toNat fun _ => false) by unfold lineS; rw [if_pos k4])
    have hin : 0 ≤ x.f2 ∧ x.f2 < Ss.length := by
      unfold mayF at hx
      rw [if_neg (by omega), if_neg (by omega), if_neg (by omega), if_pos k4] at hx
      simp only [Bool.and_eq_true, inL, decide_eq_true_eq] at hx
      exact hx.2.2
    have p4 : (x.f0 == 4) = true := by simp [k4]
    obtain ⟨a, ha⟩ := Int.eq_ofNat_of_zero_le hin.1
    have hal : a < Ss.length := by omega
    have hvv := HV.out (by omega)
    subst hvv
    have HD := Aside0.mk (fun W (hW : Below w.heap.size w W) => dia_any n ls es x.f1 g (a * 32) (Ss.getD a fun _ => false) A1 A2 c1 c2 W (Kd.C_below HR1.out hW) (Kd.C_below HR2.out hW) HM.out (fun j hj => H.later hW (HRo.out a hal j hj)))
    have i1 : (a : Int) < (Ss.length : Int) := by omega
    rw [ha, Int.toNat_natCast] at HL
    have HA := Aside0.mk ha
    clear k4 hx hin ha hal
    go_wp2_with (first
      | (refine hw_value (by rfl) (hrun_alloc (by rfl)) ?_))
    clear hf0
    generalize ((((w.alloc (Obj.cells #[Value.int IntKind.i64 n, Value.slice A1 ls.length c1, Value.slice A2 es.length c2] 25)).alloc (Obj.cells #[Value.int IntKind.i64 x.f0, Value.string x.f1, Value.int IntKind.i64 x.f2, Value.int IntKind.i64 x.f3] 97)).alloc (Obj.cells (encSet fun _ => false).toArray 102)).alloc (Obj.cells (encSet fun _ => false).toArray 102)) = W at HS0 ⊢
    refine start_ (n := 9) (S := fun w' => w'.cell? ⟨w.heap.size, 0, none⟩ = some (.int .i64 n) ∧ w'.cell? ⟨w.heap.size, 1, none⟩ = some (.slice A1 ls.length c1) ∧ w'.cell? ⟨w.heap.size, 2, none⟩ = some (.slice A2 es.length c2) ∧ w'.cell? ⟨w.heap.size + 1, 1, none⟩ = some (.string x.f1) ∧ w'.cell? ⟨w.heap.size + 1, 2, none⟩ = some (.int .i64 (a : Int))) (ds := [8]) #[false, false, false, false, false, false, false, false, false] (by kernel_rfl) rfl rfl ⟨HS0.out.box.c0, HS0.out.box.c1, HS0.out.box.c2, HS0.out.form.c1, (by rw [← HA.out]; exact HS0.out.form.c2)⟩ (fun hHeld => ?_)
    have HS1 := Aside0.mk (HS0.out.on (below_drew1 (Below.refl W.heap.size W)))
    generalize W.drew = V at HS1 hHeld ⊢
    refine pure_ (i := 1) (N := some 16) (v := ?_) (a' := ?_) #[false, true, false, false, false, false, false, false, false] rfl rfl (by kernel_rfl) (fun _ _ _ h => h) (Or.inl ⟨by rfl, ?_⟩) ?_ ?_
    rotate_left
    · intro w'
      go_simp
      with_reducible rfl
    rotate_left
    · simp only [Act.put, List.setIfInBounds_toArray, List.set_cons_zero, List.set_cons_succ, i64_w, i32_w]
      rfl
    refine pure_ (i := 3) (N := some 18) (v := ?_) (a' := ?_) #[false, true, false, true, false, false, false, false, false] rfl rfl (by kernel_rfl) (fun _ _ _ h => h) (Or.inl ⟨by rfl, ?_⟩) ?_ ?_
    rotate_left
    · intro w'
      go_simp
      with_reducible rfl
    rotate_left
    · simp only [Act.put, List.setIfInBounds_toArray, List.set_cons_zero, List.set_cons_succ, i64_w, i32_w]
      rfl
    refine pure_ (i := 4) (N := some 19) (v := ?_) (a' := ?_) #[false, true, false, true, true, false, false, false, false] rfl rfl (by kernel_rfl) (fun _ _ _ h => h) (Or.inl ⟨by rfl, ?_⟩) ?_ ?_
    rotate_left
    · intro w'
      go_simp
      with_reducible rfl
    rotate_left
    · simp only [Act.put, List.setIfInBounds_toArray, List.set_cons_zero, List.set_cons_succ, i64_w, i32_w]
      rfl
    refine take_ (i := 0) (N := some 15) (v := ?_) (a' := ?_) #[true, true, false, true, true, false, false, false, false] rfl rfl (by kernel_rfl) (fun _ _ _ h => h) (Or.inl ⟨by rfl, ?_⟩) hHeld ?_ ?_
    rotate_left
    · rintro w' ⟨s0, s1, s2, s3, s4⟩
      go_simp
      with_reducible rfl
    rotate_left
    · simp only [Act.put, List.setIfInBounds_toArray, List.set_cons_zero, List.set_cons_succ, i64_w, i32_w]
      rfl
    refine take_ (i := 2) (N := some 17) (v := ?_) (a' := ?_) #[true, true, true, true, true, false, false, false, false] rfl rfl (by kernel_rfl) (fun _ _ _ h => h) (Or.inl ⟨by rfl, ?_⟩) hHeld ?_ ?_
    rotate_left
    · rintro w' ⟨s0, s1, s2, s3, s4⟩
      go_simp
      with_reducible rfl
    rotate_left
    · simp only [Act.put, List.setIfInBounds_toArray, List.set_cons_zero, List.set_cons_succ, i64_w, i32_w]
      rfl
    refine take_ (i := 5) (N := some 20) (v := ?_) (a' := ?_) #[true, true, true, true, true, true, false, false, false] rfl rfl (by kernel_rfl) (fun _ _ _ h => h) (Or.inl ⟨by rfl, ?_⟩) hHeld ?_ ?_
    rotate_left
    · rintro w' ⟨s0, s1, s2, s3, s4⟩
      go_simp
      with_reducible rfl
    rotate_left
    · simp only [Act.put, List.setIfInBounds_toArray, List.set_cons_zero, List.set_cons_succ, i64_w, i32_w]
      rfl
    refine pure_ (i := 6) (N := some 21) (v := ?_) (a' := ?_) #[true, true, true, true, true, true, true, false, false] rfl rfl (by kernel_rfl) (fun _ _ _ h => h) (Or.inl ⟨by rfl, ?_⟩) ?_ ?_
    rotate_left
    · intro w'
      go_simp
      with_reducible rfl
    rotate_left
    · simp only [Act.put, List.setIfInBounds_toArray, List.set_cons_zero, List.set_cons_succ, i64_w, i32_w]
      rfl
    refine one_ (i := 7) (N := some 22) #[true, true, true, true, true, true, true, true, false] rfl rfl (by kernel_rfl) (by decide) (fun K hK => ?_)
    refine goes_ Try.func105 (by kernel_rfl) rfl #[.agg #[Value.int IntKind.i64 n, Value.slice A1 ls.length c1, Value.slice A2 es.length c2], .string x.f1, .pointer (some ⟨g, a * 32, none⟩)] (by rfl) rfl rfl (by simp only [List.map_toArray, List.map_cons, List.map_nil]; rfl) ?_
    refine (HD.out V HS1.out.below).mono ?_
    rintro e w3 ⟨rfl, hB⟩
    refine ⟨_, rfl, ?_⟩
    have HB3 := Aside0.mk hB
    have HS3 := Aside0.mk (HS1.out.on hB)
    clear hB
    refine hK.out _ _ ⟨H.later HB3.out hHeld.1, H.later HB3.out hHeld.2.1, H.later HB3.out hHeld.2.2.1, H.later HB3.out hHeld.2.2.2.1, H.later HB3.out hHeld.2.2.2.2⟩ (fun hHeld => ?_)
    clear hK K
    refine norm_ (a' := ?_) ?_ ?_
    rotate_left
    · show Act.put _ (some 22) _ = _
      simp only [Act.put, List.setIfInBounds_toArray, List.set_cons_zero, List.set_cons_succ, i64_w, i32_w]
      rfl
    refine last_ (i := 8) (N := none) #[true, true, true, true, true, true, true, true, true] rfl rfl (by kernel_rfl) (by decide) (fun K hK => ?_)
    refine skip_ (w1 := ?_) (by rfl) rfl ?_ ?_
    rotate_left
    · refine hrun_store (x := .tmp 6) (y := .tmp 22) (b := w.heap.size + 1 + 1) (S := diaS ls es x.f1 (Ss.getD a fun _ => false)) ?_ ?_ ?_ HS3.out.res.there <;> rfl
    refine hK.out _ _ ?_
    clear hK K
    refine done_ (by kernel_rfl) ?_
    go_wp2_with fail
    refine bodyPost_ret (results_cell_row (fn := Try.f72) rfl _ _ (w.heap.size + 1 + 1) 102 (encSet (diaS ls es x.f1 (Ss.getD a fun _ => false))).toArray (0, 0) _ rfl (HS3.out.res.store _) Try.underlying102 rfl (by rw [List.size_toArray, encSet_len]; exact hinfo_set)) rfl ?_
    rw [HL.out]
    exact ⟨rfl, below_setCells HS3.out.below 0 _ (by omega)⟩
  · have p4 : (x.f0 == 4) = false := by simp [k4]
    have k123 : x.f0 = 1 ∨ x.f0 = 2 ∨ x.f0 = 3 := by
      unfold mayF at hx
      by_cases e1 : x.f0 = 1
      · exact .inl e1
      · by_cases e2 : x.f0 = 2
        · exact .inr (.inl e2)
        · by_cases e3 : x.f0 = 3
          · exact .inr (.inr e3)
          · rw [if_neg e1, if_neg e2, if_neg e3, if_neg k4] at hx
            cases hx
    rcases k123 with k1 | k2 | k3
    · -- everywhere
      have p1 : (x.f0 == 1) = true := by simp [k1]
      have HL := Aside0.mk (show lineS ls es x Ss = fun _ => true by unfold lineS; rw [if_neg k4, if_pos k1])
      clear k4 hx k1
      go_wp2_with (first
        | (refine hw_value (by rfl) (hrun_alloc (by rfl)) ?_))
      clear hf0
      generalize ((((w.alloc (Obj.cells #[Value.int IntKind.i64 n, Value.slice A1 ls.length c1, Value.slice A2 es.length c2] 25)).alloc (Obj.cells #[Value.int IntKind.i64 x.f0, Value.string x.f1, Value.int IntKind.i64 x.f2, Value.int IntKind.i64 x.f3] 97)).alloc (Obj.cells (encSet fun _ => false).toArray 102)).alloc (Obj.cells (encSet fun _ => false).toArray 102)) = W at HS0 ⊢
      go_loopw [25] (fun i wr => ∃ k : Nat, k ≤ 32 ∧ i = .int .i64 k ∧ Aside0 (LiSt w wr n (.slice A1 ls.length c1) (.slice A2 es.length c2) x (firstW (fun _ => true) k))) (fun i _ => 32 - (intOf i).toNat)
      case atStart => exact ⟨0, Nat.zero_le _, rfl, ⟨by rw [firstW_zero]; exact HS0.out⟩⟩
      case round =>
        clear HS0
        obtain ⟨k, hk, rfl, HS⟩ := hrel
        by_cases hlt : k < 32
        · have i0 : (k : Int) < 32 := by omega
          have hout := HS.out.out.cell hlt
          have hfr := HS.out.out.frozen k
          have hnext := HS.out.word hlt
          have HNx := Aside0.mk (by rw [word_true] at hnext; exact hnext)
          clear hnext
          go_wp2
          go_roundw
          case rel => exact ⟨k + 1, by omega, by go_num, HNx⟩
          case measure => simp [intOf]; omega
        · have i0 : ¬ (k : Int) < 32 := by omega
          obtain rfl : k = 32 := by omega
          have HF := Aside0.mk (show SetAt 102 wr (w.heap.size + 1 + 1 + 1) (fun _ => true) by have := HS.out.out; unfold SetAt at this ⊢; rw [firstW_all] at this; exact this)
          go_wp2_with (first
            | (refine hw_value (by rfl) (hrun_load (x := .tmp 7) (b := w.heap.size + 1 + 1 + 1) (o := 0) (S := fun _ => true) (by rfl) (by rfl) HF.out.range) ?_)
            | (refine hw_skip (by rfl) (by rfl) (hrun_store (x := .tmp 6) (y := .tmp 70) (b := w.heap.size + 1 + 1) (S := fun _ => true) (by rfl) (by rfl) (by rfl) HS.out.res.there) ?_))
          refine bodyPost_ret (results_cell_row (fn := Try.f72) rfl _ _ (w.heap.size + 1 + 1) 102 (encSet (fun _ => true)).toArray (0, 0) _ rfl (HS.out.res.store _) Try.underlying102 rfl (by rw [List.size_toArray, encSet_len]; exact hinfo_set)) rfl ?_
          rw [HL.out]
          exact ⟨rfl, below_setCells HS.out.below 0 _ (by omega)⟩
    · have p1 : (x.f0 == 1) = false := by simp [k2]
      have p2 : (x.f0 == 2) = true := by simp [k2]
      have hin : 0 ≤ x.f2 ∧ x.f2 < Ss.length := by
        unfold mayF at hx
        rw [if_neg (by omega), if_pos k2] at hx
        simp only [Bool.and_eq_true, inL, decide_eq_true_eq] at hx
        exact hx.2.2
      obtain ⟨a, ha⟩ := Int.eq_ofNat_of_zero_le hin.1
      have hal : a < Ss.length := by omega
      have hvv := HV.out (by omega)
      subst hvv
      have HL := Aside0.mk (show lineS ls es x Ss = fun y => !(Ss.getD a fun _ => false) y by unfold lineS; rw [if_neg k4, if_neg (by omega), if_pos k2, ha, Int.toNat_natCast])
      have HA := Aside0.mk ha
      have HAl := Aside0.mk hal
      have i1 : (a : Int) < (Ss.length : Int) := by omega
      clear k4 hx k2 hin ha hal
      go_wp2_with (first
        | (refine hw_value (by rfl) (hrun_alloc (by rfl)) ?_))
      clear hf0
      generalize ((((w.alloc (Obj.cells #[Value.int IntKind.i64 n, Value.slice A1 ls.length c1, Value.slice A2 es.length c2] 25)).alloc (Obj.cells #[Value.int IntKind.i64 x.f0, Value.string x.f1, Value.int IntKind.i64 x.f2, Value.int IntKind.i64 x.f3] 97)).alloc (Obj.cells (encSet fun _ => false).toArray 102)).alloc (Obj.cells (encSet fun _ => false).toArray 102)) = W at HS0 ⊢
      go_loopw [33] (fun i wr => ∃ k : Nat, k ≤ 32 ∧ i = .int .i64 k ∧ Aside0 (LiSt w wr n (.slice A1 ls.length c1) (.slice A2 es.length c2) x (firstW (fun y => !(Ss.getD a fun _ => false) y) k))) (fun i _ => 32 - (intOf i).toNat)
      case atStart => exact ⟨0, Nat.zero_le _, rfl, ⟨by rw [firstW_zero]; exact HS0.out⟩⟩
      case round =>
        clear HS0
        obtain ⟨k, hk, rfl, HS⟩ := hrel
        by_cases hlt : k < 32
        · have i0 : (k : Int) < 32 := by omega
          have hout := HS.out.out.cell hlt
          have hfr := HS.out.out.frozen k
          have hnext := HS.out.word hlt
          have hw := H.later HS.out.below (HRo.out a HAl.out k hlt)
          have hl := wordOf_lt (Ss.getD a fun _ => false) k
          have hA2 := HS.out.form.c2
          rw [HA.out] at hA2
          obtain ⟨xw, hxw⟩ : ∃ xw, xw = wordOf (Ss.getD a fun _ => false) k := ⟨_, rfl⟩
          rw [← hxw] at hw hl
          have hbx := bits_xor_u64_nat 18446744073709551615 xw (by omega) hl
          have HNx := Aside0.mk (by rw [word_not, ← hxw, ← hbx] at hnext; exact hnext)
          clear hnext hbx hxw
          go_wp2
          go_roundw
          case rel => exact ⟨k + 1, by omega, by go_num, HNx⟩
          case measure => simp [intOf]; omega
        · have i0 : ¬ (k : Int) < 32 := by omega
          obtain rfl : k = 32 := by omega
          have HF := Aside0.mk (show SetAt 102 wr (w.heap.size + 1 + 1 + 1) (fun y => !(Ss.getD a fun _ => false) y) by have := HS.out.out; unfold SetAt at this ⊢; rw [firstW_all] at this; exact this)
          go_wp2_with (first
            | (refine hw_value (by rfl) (hrun_load (x := .tmp 7) (b := w.heap.size + 1 + 1 + 1) (o := 0) (S := fun y => !(Ss.getD a fun _ => false) y) (by rfl) (by rfl) HF.out.range) ?_)
            | (refine hw_skip (by rfl) (by rfl) (hrun_store (x := .tmp 6) (y := .tmp 70) (b := w.heap.size + 1 + 1) (S := fun y => !(Ss.getD a fun _ => false) y) (by rfl) (by rfl) (by rfl) HS.out.res.there) ?_))
          refine bodyPost_ret (results_cell_row (fn := Try.f72) rfl _ _ (w.heap.size + 1 + 1) 102 (encSet (fun y => !(Ss.getD a fun _ => false) y)).toArray (0, 0) _ rfl (HS.out.res.store _) Try.underlying102 rfl (by rw [List.size_toArray, encSet_len]; exact hinfo_set)) rfl ?_
          rw [HL.out]
          exact ⟨rfl, below_setCells HS.out.below 0 _ (by omega)⟩
    · have p1 : (x.f0 == 1) = false := by simp [k3]
      have p2 : (x.f0 == 2) = false := by simp [k3]
      have p3 : (x.f0 == 3) = true := by simp [k3]
      have hin : (0 ≤ x.f2 ∧ x.f2 < Ss.length) ∧ (0 ≤ x.f3 ∧ x.f3 < Ss.length) := by
        unfold mayF at hx
        rw [if_neg (by omega), if_neg (by omega), if_pos k3] at hx
        simp only [Bool.and_eq_true, inL, decide_eq_true_eq] at hx
        exact hx.2
      obtain ⟨a, ha⟩ := Int.eq_ofNat_of_zero_le hin.1.1
      obtain ⟨b, hb⟩ := Int.eq_ofNat_of_zero_le hin.2.1
      have hal : a < Ss.length := by omega
      have hbl : b < Ss.length := by omega
      have hvv := HV.out (by omega)
      subst hvv
      have HL := Aside0.mk (show lineS ls es x Ss = fun y => (Ss.getD a fun _ => false) y && (Ss.getD b fun _ => false) y by unfold lineS; rw [if_neg k4, if_neg (by omega), if_neg (by omega), if_pos k3, ha, hb, Int.toNat_natCast, Int.toNat_natCast])
      have HA := Aside0.mk (And.intro ha hb)
      have HAl := Aside0.mk (And.intro hal hbl)
      have i1 : (a : Int) < (Ss.length : Int) := by omega
      have i2 : (b : Int) < (Ss.length : Int) := by omega
      clear k4 hx k3 hin ha hb hal hbl
      go_wp2_with (first
        | (refine hw_value (by rfl) (hrun_alloc (by rfl)) ?_))
      clear hf0
      generalize ((((w.alloc (Obj.cells #[Value.int IntKind.i64 n, Value.slice A1 ls.length c1, Value.slice A2 es.length c2] 25)).alloc (Obj.cells #[Value.int IntKind.i64 x.f0, Value.string x.f1, Value.int IntKind.i64 x.f2, Value.int IntKind.i64 x.f3] 97)).alloc (Obj.cells (encSet fun _ => false).toArray 102)).alloc (Obj.cells (encSet fun _ => false).toArray 102)) = W at HS0 ⊢
      go_loopw [49] (fun i wr => ∃ k : Nat, k ≤ 32 ∧ i = .int .i64 k ∧ Aside0 (LiSt w wr n (.slice A1 ls.length c1) (.slice A2 es.length c2) x (firstW (fun y => (Ss.getD a fun _ => false) y && (Ss.getD b fun _ => false) y) k))) (fun i _ => 32 - (intOf i).toNat)
      case atStart => exact ⟨0, Nat.zero_le _, rfl, ⟨by rw [firstW_zero]; exact HS0.out⟩⟩
      case round =>
        clear HS0
        obtain ⟨k, hk, rfl, HS⟩ := hrel
        by_cases hlt : k < 32
        · have i0 : (k : Int) < 32 := by omega
          have hout := HS.out.out.cell hlt
          have hfr := HS.out.out.frozen k
          have hnext := HS.out.word hlt
          have hw := H.later HS.out.below (HRo.out a HAl.out.1 k hlt)
          have hw2 := H.later HS.out.below (HRo.out b HAl.out.2 k hlt)
          have hl := wordOf_lt (Ss.getD a fun _ => false) k
          have hl2 := wordOf_lt (Ss.getD b fun _ => false) k
          have hA2 := HS.out.form.c2
          have hA3 := HS.out.form.c3
          rw [HA.out.1] at hA2
          rw [HA.out.2] at hA3
          obtain ⟨xw, hxw⟩ : ∃ xw, xw = wordOf (Ss.getD a fun _ => false) k := ⟨_, rfl⟩
          obtain ⟨yw, hyw⟩ : ∃ yw, yw = wordOf (Ss.getD b fun _ => false) k := ⟨_, rfl⟩
          rw [← hxw] at hw hl
          rw [← hyw] at hw2 hl2
          have hba := bits_and_u64_nat xw yw hl hl2
          rw [word_and, ← hxw, ← hyw, ← hba] at hnext
          have hdr := (HS.out.on (below_drew1 (Below.refl wr.heap.size wr))).word hlt
          rw [word_and, ← hxw, ← hyw, ← hba] at hdr
          have HNx := Aside0.mk hdr
          have HO0 := Aside0.mk hout
          have HFr := Aside0.mk hfr
          clear hnext hdr hba hxw hyw hout hfr
          go_wp2_with fail
          have hfr : wr.drew.frozen? ⟨w.heap.size + 1 + 1 + 1, k, none⟩ = false := HFr.out
          have hout : (wr.drew.cell? ⟨w.heap.size + 1 + 1 + 1, k, none⟩).isSome = true := by have := HO0.out; simp [this]
          refine start_ (n := 18) (S := fun w' => w'.cell? ⟨w.heap.size + 1, 2, none⟩ = some (.int .i64 (a : Int)) ∧ w'.cell? ⟨w.heap.size + 1, 3, none⟩ = some (.int .i64 (b : Int)) ∧ w'.cell? ⟨g, a * 32 + k, none⟩ = some (.int .u64 (xw : Int)) ∧ w'.cell? ⟨g, b * 32 + k, none⟩ = some (.int .u64 (yw : Int)) ∧ w'.cell? ⟨w.heap.size + 1 + 1 + 1, k, none⟩ = some (.int .u64 (wordOf (firstW (fun y => (Ss.getD a fun _ => false) y && (Ss.getD b fun _ => false) y) k) k : Int))) (ds := [17]) #[false, false, false, false, false, false, false, false, false, false, false, false, false, false, false, false, false, false] (by kernel_rfl) rfl rfl ⟨hA2, hA3, hw, hw2, HO0.out⟩ (fun hHeld => ?_)
          refine pure_ (i := 0) (N := some 52) (v := ?_) (a' := ?_) #[true, false, false, false, false, false, false, false, false, false, false, false, false, false, false, false, false, false] rfl rfl (by kernel_rfl) (fun _ _ _ h => h) (Or.inl ⟨by rfl, ?_⟩) ?_ ?_
          rotate_left
          · intro w'
            go_simp
            with_reducible rfl
          rotate_left
          · simp only [Act.put, List.setIfInBounds_toArray, List.set_cons_zero, List.set_cons_succ, i64_w, i32_w]
            rfl
          refine pure_ (i := 1) (N := some 53) (v := ?_) (a' := ?_) #[true, true, false, false, false, false, false, false, false, false, false, false, false, false, false, false, false, false] rfl rfl (by kernel_rfl) (fun _ _ _ h => h) (Or.inl ⟨by rfl, ?_⟩) ?_ ?_
          rotate_left
          · intro w'
            go_simp
            with_reducible rfl
          rotate_left
          · simp only [Act.put, List.setIfInBounds_toArray, List.set_cons_zero, List.set_cons_succ, i64_w, i32_w]
            rfl
          refine pure_ (i := 2) (N := some 54) (v := ?_) (a' := ?_) #[true, true, true, false, false, false, false, false, false, false, false, false, false, false, false, false, false, false] rfl rfl (by kernel_rfl) (fun _ _ _ h => h) (Or.inl ⟨by rfl, ?_⟩) ?_ ?_
          rotate_left
          · intro w'
            go_simp
            with_reducible rfl
          rotate_left
          · simp only [Act.put, List.setIfInBounds_toArray, List.set_cons_zero, List.set_cons_succ, i64_w, i32_w]
            rfl
          refine pure_ (i := 4) (N := some 56) (v := ?_) (a' := ?_) #[true, true, true, false, true, false, false, false, false, false, false, false, false, false, false, false, false, false] rfl rfl (by kernel_rfl) (fun _ _ _ h => h) (Or.inl ⟨by rfl, ?_⟩) ?_ ?_
          rotate_left
          · intro w'
            go_simp
            with_reducible rfl
          rotate_left
          · simp only [Act.put, List.setIfInBounds_toArray, List.set_cons_zero, List.set_cons_succ, i64_w, i32_w]
            rfl
          refine pure_ (i := 8) (N := some 60) (v := ?_) (a' := ?_) #[true, true, true, false, true, false, false, false, true, false, false, false, false, false, false, false, false, false] rfl rfl (by kernel_rfl) (fun _ _ _ h => h) (Or.inl ⟨by rfl, ?_⟩) ?_ ?_
          rotate_left
          · intro w'
            go_simp
            with_reducible rfl
          rotate_left
          · simp only [Act.put, List.setIfInBounds_toArray, List.set_cons_zero, List.set_cons_succ, i64_w, i32_w]
            rfl
          refine pure_ (i := 9) (N := some 61) (v := ?_) (a' := ?_) #[true, true, true, false, true, false, false, false, true, true, false, false, false, false, false, false, false, false] rfl rfl (by kernel_rfl) (fun _ _ _ h => h) (Or.inl ⟨by rfl, ?_⟩) ?_ ?_
          rotate_left
          · intro w'
            go_simp
            with_reducible rfl
          rotate_left
          · simp only [Act.put, List.setIfInBounds_toArray, List.set_cons_zero, List.set_cons_succ, i64_w, i32_w]
            rfl
          refine pure_ (i := 11) (N := some 63) (v := ?_) (a' := ?_) #[true, true, true, false, true, false, false, false, true, true, false, true, false, false, false, false, false, false] rfl rfl (by kernel_rfl) (fun _ _ _ h => h) (Or.inl ⟨by rfl, ?_⟩) ?_ ?_
          rotate_left
          · intro w'
            go_simp
            with_reducible rfl
          rotate_left
          · simp only [Act.put, List.setIfInBounds_toArray, List.set_cons_zero, List.set_cons_succ, i64_w, i32_w]
            rfl
          refine take_ (i := 3) (N := some 55) (v := ?_) (a' := ?_) #[true, true, true, true, true, false, false, false, true, true, false, true, false, false, false, false, false, false] rfl rfl (by kernel_rfl) (fun _ _ _ h => h) (Or.inl ⟨by rfl, ?_⟩) hHeld ?_ ?_
          rotate_left
          · rintro w' ⟨s0, s1, s2, s3, s4⟩
            go_simp
            with_reducible rfl
          rotate_left
          · simp only [Act.put, List.setIfInBounds_toArray, List.set_cons_zero, List.set_cons_succ, i64_w, i32_w]
            rfl
          refine pure_ (i := 5) (N := some 57) (v := ?_) (a' := ?_) #[true, true, true, true, true, true, false, false, true, true, false, true, false, false, false, false, false, false] rfl rfl (by kernel_rfl) (fun _ _ _ h => h) (Or.inl ⟨by rfl, ?_⟩) ?_ ?_
          rotate_left
          · intro w'
            go_simp
            with_reducible rfl
          rotate_left
          · simp only [Act.put, List.setIfInBounds_toArray, List.set_cons_zero, List.set_cons_succ, i64_w, i32_w]
            rfl
          refine pure_ (i := 6) (N := some 58) (v := ?_) (a' := ?_) #[true, true, true, true, true, true, true, false, true, true, false, true, false, false, false, false, false, false] rfl rfl (by kernel_rfl) (fun _ _ _ h => h) (Or.inl ⟨by rfl, ?_⟩) ?_ ?_
          rotate_left
          · intro w'
            go_simp
            with_reducible rfl
          rotate_left
          · simp only [Act.put, List.setIfInBounds_toArray, List.set_cons_zero, List.set_cons_succ, i64_w, i32_w]
            rfl
          refine take_ (i := 7) (N := some 59) (v := ?_) (a' := ?_) #[true, true, true, true, true, true, true, true, true, true, false, true, false, false, false, false, false, false] rfl rfl (by kernel_rfl) (fun _ _ _ h => h) (Or.inl ⟨by rfl, ?_⟩) hHeld ?_ ?_
          rotate_left
          · rintro w' ⟨s0, s1, s2, s3, s4⟩
            go_simp
            with_reducible rfl
          rotate_left
          · simp only [Act.put, List.setIfInBounds_toArray, List.set_cons_zero, List.set_cons_succ, i64_w, i32_w]
            rfl
          refine take_ (i := 10) (N := some 62) (v := ?_) (a' := ?_) #[true, true, true, true, true, true, true, true, true, true, true, true, false, false, false, false, false, false] rfl rfl (by kernel_rfl) (fun _ _ _ h => h) (Or.inl ⟨by rfl, ?_⟩) hHeld ?_ ?_
          rotate_left
          · rintro w' ⟨s0, s1, s2, s3, s4⟩
            go_simp
            with_reducible rfl
          rotate_left
          · simp only [Act.put, List.setIfInBounds_toArray, List.set_cons_zero, List.set_cons_succ, i64_w, i32_w]
            rfl
          refine pure_ (i := 12) (N := some 64) (v := ?_) (a' := ?_) #[true, true, true, true, true, true, true, true, true, true, true, true, true, false, false, false, false, false] rfl rfl (by kernel_rfl) (fun _ _ _ h => h) (Or.inl ⟨by rfl, ?_⟩) ?_ ?_
          rotate_left
          · intro w'
            go_simp
            with_reducible rfl
          rotate_left
          · simp only [Act.put, List.setIfInBounds_toArray, List.set_cons_zero, List.set_cons_succ, i64_w, i32_w]
            rfl
          refine pure_ (i := 13) (N := some 65) (v := ?_) (a' := ?_) #[true, true, true, true, true, true, true, true, true, true, true, true, true, true, false, false, false, false] rfl rfl (by kernel_rfl) (fun _ _ _ h => h) (Or.inl ⟨by rfl, ?_⟩) ?_ ?_
          rotate_left
          · intro w'
            go_simp
            with_reducible rfl
          rotate_left
          · simp only [Act.put, List.setIfInBounds_toArray, List.set_cons_zero, List.set_cons_succ, i64_w, i32_w]
            rfl
          refine take_ (i := 14) (N := some 66) (v := ?_) (a' := ?_) #[true, true, true, true, true, true, true, true, true, true, true, true, true, true, true, false, false, false] rfl rfl (by kernel_rfl) (fun _ _ _ h => h) (Or.inl ⟨by rfl, ?_⟩) hHeld ?_ ?_
          rotate_left
          · rintro w' ⟨s0, s1, s2, s3, s4⟩
            go_simp
            with_reducible rfl
          rotate_left
          · simp only [Act.put, List.setIfInBounds_toArray, List.set_cons_zero, List.set_cons_succ, i64_w, i32_w]
            rfl
          refine pure_ (i := 15) (N := some 67) (v := ?_) (a' := ?_) #[true, true, true, true, true, true, true, true, true, true, true, true, true, true, true, true, false, false] rfl rfl (by kernel_rfl) (fun _ _ _ h => h) (Or.inl ⟨by rfl, ?_⟩) ?_ ?_
          rotate_left
          · intro w'
            go_simp
            with_reducible rfl
          rotate_left
          · simp only [Act.put, List.setIfInBounds_toArray, List.set_cons_zero, List.set_cons_succ, i64_w, i32_w]
            rfl
          refine pure_ (i := 16) (N := some 68) (v := ?_) (a' := ?_) #[true, true, true, true, true, true, true, true, true, true, true, true, true, true, true, true, true, false] rfl rfl (by kernel_rfl) (fun _ _ _ h => h) (Or.inl ⟨by rfl, ?_⟩) ?_ ?_
          rotate_left
          · intro w'
            go_simp
            with_reducible rfl
          rotate_left
          · simp only [Act.put, List.setIfInBounds_toArray, List.set_cons_zero, List.set_cons_succ, i64_w, i32_w]
            rfl
          refine last_ (i := 17) (N := none) #[true, true, true, true, true, true, true, true, true, true, true, true, true, true, true, true, true, true] rfl rfl (by kernel_rfl) (by decide) (fun K hK => ?_)
          refine skip_ (w1 := ?_) (by rfl) rfl ?_ ?_
          rotate_left
          · go_simp
            rfl
          refine hK.out _ _ ?_
          clear hK K
          refine done_ (by kernel_rfl) ?_
          go_wp2
          go_roundw
          case rel => exact ⟨k + 1, by omega, by go_num, HNx⟩
          case measure => simp [intOf]; omega
        · have i0 : ¬ (k : Int) < 32 := by omega
          obtain rfl : k = 32 := by omega
          have HF := Aside0.mk (show SetAt 102 wr (w.heap.size + 1 + 1 + 1) (fun y => (Ss.getD a fun _ => false) y && (Ss.getD b fun _ => false) y) by have := HS.out.out; unfold SetAt at this ⊢; rw [firstW_all] at this; exact this)
          go_wp2_with (first
            | (refine hw_value (by rfl) (hrun_load (x := .tmp 7) (b := w.heap.size + 1 + 1 + 1) (o := 0) (S := fun y => (Ss.getD a fun _ => false) y && (Ss.getD b fun _ => false) y) (by rfl) (by rfl) HF.out.range) ?_)
            | (refine hw_skip (by rfl) (by rfl) (hrun_store (x := .tmp 6) (y := .tmp 70) (b := w.heap.size + 1 + 1) (S := fun y => (Ss.getD a fun _ => false) y && (Ss.getD b fun _ => false) y) (by rfl) (by rfl) (by rfl) HS.out.res.there) ?_))
          refine bodyPost_ret (results_cell_row (fn := Try.f72) rfl _ _ (w.heap.size + 1 + 1) 102 (encSet (fun y => (Ss.getD a fun _ => false) y && (Ss.getD b fun _ => false) y)).toArray (0, 0) _ rfl (HS.out.res.store _) Try.underlying102 rfl (by rw [List.size_toArray, encSet_len]; exact hinfo_set)) rfl ?_
          rw [HL.out]
          exact ⟨rfl, below_setCells HS.out.below 0 _ (by omega)⟩

end Go.Proofs.Ytmpiokdomjchiaa.H
