/-
  Walks: hold.At, hold.Is, hold.Tells.
  Walks: hold.At joined, slices.Index and slices.Contains of numbers, hold.Is, hold.Tells.
  Walks: semblanceref37.May.
-/
import Derived.Test.YtmpiokdomjchiaaM1
import Derived.Deep.QuietTactic
import Derived.BigQuiet
import Derived.Deep.DeepCutAuto
import Derived.Deep.CutRange
set_option linter.unusedVariables false
set_option linter.unnecessarySimpa false
set_option linter.unusedSimpArgs false
namespace Go.Proofs.Ytmpiokdomjchiaa.H
open Go.RowKit Go.Proofs.Ytmpiokdomjchiaa.Pr Go.Proofs.YtmpiokdomjchiaaW.PrintWords Go.Proofs.Ytmpiokdomjchiaa.Sem Go.Proofs.YtmpiokdomjchiaaW.PrintLast

def kW : Kd (Nat → Bool) := Kd.iso (Kd.raw 32) encSet
theorem kW_M (w : World) (base : Nat) (ok : Nat → Prop) (S : Nat → Bool) : kW.M w base ok S (encSet S) := ⟨rfl, encSet_len S, enc_one S⟩
abbrev zW : Value := .agg (List.replicate 32 (Value.int .u64 0)).toArray
theorem infoW : (Try.prog.info? 102).map (fun i => (i.zero, i.size, i.bytes)) = some (some zW, 32, 256) := by kernel_rfl
theorem fillW (S : Nat → Bool) : Instr.fill (fun i => some (i * 32, 32)) ((Array.range (1 * 32)).map (zW.cells[· % zW.cells.size]!)) [(0, .agg (encSet S).toArray)] = some (encSet S).toArray := by kernel_rfl
theorem hrun_slice {op : Oper} {a : Act} {w : World} {x : Operand} {S : Nat → Bool} (ho : op.op = .buildSlice 99 1 #[(0, x)]) (hx : a.eval x = .agg (encSet S).toArray) : (execOp a.eval op).run Try.prog w = .ok (.value (.slice (some ⟨w.heap.size, 0, none⟩) 1 1)) (w.alloc (.cells (encSet S).toArray 102)) := by
  obtain ⟨ie, hie, hzz⟩ := Option.map_eq_some_iff.1 infoW
  simp only [Prod.mk.injEq] at hzz
  obtain ⟨hz0, hz1, hz2⟩ := hzz
  have h := run_buildSlice (P := Try.prog) w 99 102 1 #[(0, .agg (encSet S).toArray)] _ ie zW Try.underlying99 hie hz0 (by rw [hz1]; decide) (by rw [hz1]; decide) (by rw [hz1]; exact fillW S)
  unfold execOp
  simp only [ho, hx, List.map_toArray, List.map_cons, List.map_nil, Sem.run_bind, Sem.run_pure, h, Result.andThen_ok]
theorem rowsW_of {w : World} {base : Nat} {ok : Nat → Prop} {v : Value} {Ss : List (Nat → Bool)} (h : kW.R 102 w base ok v Ss) : ∃ g c, (0 < Ss.length → v = .slice (some ⟨g, 0, none⟩) Ss.length c) ∧ RowsW w g Ss := by
  by_cases h0 : 0 < Ss.length
  · obtain ⟨g, c, hv, _, _, _⟩ := Kd.R_form h h0
    obtain ⟨A, c', hv', _, hC⟩ := Kd.R_reads h
    rw [hv] at hv'
    injection hv' with e1 e2 e3
    subst e1
    refine ⟨g, c, fun _ => hv, fun i hi j hj => ?_⟩
    obtain ⟨ad, cs, e, hl, hK, hc⟩ := Kd.C_get hC (fun _ => false) (i : Int) (by omega) (by omega)
    injection e with e
    subst e
    rw [Int.toNat_natCast] at hK hc
    have hcs : cs = encSet (Ss.getD i fun _ => false) := hK.1
    have h2 := hc j (.int .u64 (wordOf (Ss.getD i fun _ => false) j : Int)) (by rw [hcs]; exact encSet_at _ _ hj)
    rw [add_plain] at h2
    simpa [kW, Kd.iso, Kd.raw] using h2
  · exact ⟨0, 0, fun h => absurd h h0, fun i hi => absurd hi (by omega)⟩
/-- Where the lines of a formula hold. -/
def linesS (ls : List ByteArray) (es : List Ed) (fs : List Fm) : List (Nat → Bool) := fs.foldl (fun acc x => acc ++ [lineS ls es x acc]) []
theorem linesS_snoc (ls : List ByteArray) (es : List Ed) (fs : List Fm) (x : Fm) : linesS ls es (fs ++ [x]) = linesS ls es fs ++ [lineS ls es x (linesS ls es fs)] := by
  unfold linesS
  rw [List.foldl_append]
  rfl
theorem linesF_len (ls : List ByteArray) (es : List Ed) : ∀ (fs : List Fm) (acc : List (Nat → Bool)), (fs.foldl (fun acc x => acc ++ [lineS ls es x acc]) acc).length = acc.length + fs.length
  | [], acc => rfl
  | x :: r, acc => by
    rw [List.foldl_cons, linesF_len ls es r, List.length_append, List.length_singleton, List.length_cons]
    omega
theorem linesS_len (ls : List ByteArray) (es : List Ed) (fs : List Fm) : (linesS ls es fs).length = fs.length := by
  unfold linesS
  rw [linesF_len]
  simp
theorem run_load_form {op : Oper} {a : Act} {w : World} {y : Operand} {b : Nat} {x : Fm} (ho : op.op = .load 97 y) (hx : a.eval y = .pointer (some ⟨b, 0, none⟩)) (hb : FormAt w b x) : (execOp a.eval op).run Try.prog w = .ok (.value (.agg #[Value.int IntKind.i64 x.f0, Value.string x.f1, Value.int IntKind.i64 x.f2, Value.int IntKind.i64 x.f3])) w := by
  have hb' : w.heap[b]? = some (.cells #[Value.int IntKind.i64 x.f0, Value.string x.f1, Value.int IntKind.i64 x.f2, Value.int IntKind.i64 x.f3] 97 (0, 0)) := hb
  unfold execOp
  simp only [ho, hx, Instr.loadAt, Instr.sureAddr, Sem.run_bind, Sem.run_pure, Result.andThen_ok, run_loadVar_row w b 97 97 #[Value.int IntKind.i64 x.f0, Value.string x.f1, Value.int IntKind.i64 x.f2, Value.int IntKind.i64 x.f3] (0, 0) _ hb' Try.underlying97 rfl (by kernel_rfl)]
/-- hold.At: the nodes, and the error. -/
def atL (n : Int) (ls : List ByteArray) (es : List Ed) (fs : List Fm) : List Int × Int :=
  if mayR n ls es = true ∧ mayFs fs = true then (elems n.toNat ((linesS ls es fs).getD (fs.length - 1) fun _ => false), 0) else ([], 1)
/-- What hold.At leaves. -/
def AtPost (w : World) (R : List Int × Int) (e : Ending) (w' : World) : Prop := ∃ v, e = .returned (.tuple #[v, .int .i64 R.2]) ∧ Kd.R (Kd.int .i64) 3 w' w.heap.size (fun _ => True) v R.1 ∧ Below w.heap.size w w'
theorem hold_at_no (n : Int) (ls : List ByteArray) (es : List Ed) (fs : List Fm) (A1 A2 A3 : Option Addr) (c1 c2 c3 : Nat) (w : World) (hr1 : Kd.C Kd.string w A1 ls.length ls) (hr2 : Kd.C k81 w A2 es.length es) (hr3 : Kd.C k97 w A3 fs.length fs) (hno : ¬ (mayR n ls es = true ∧ mayFs fs = true)) :
    Calls Try.prog 28 #[.agg #[Value.int IntKind.i64 n, Value.slice A1 ls.length c1, Value.slice A2 es.length c2], .slice A3 fs.length c3] w (AtPost w ([], 1)) := by
  have HB := Aside0.mk (Below.refl w.heap.size w)
  have HC : ∀ W, Below w.heap.size w W → Calls Try.prog 66 #[.agg #[Value.int IntKind.i64 n, Value.slice A1 ls.length c1, Value.slice A2 es.length c2]] W fun e w' => e = .returned (.int .i64 (errB (mayR n ls es))) ∧ Below W.heap.size W w' := fun W hW => by
    have := check_any n ls es A1 A2 c1 c2 W (Kd.C_below hr1 hW) (Kd.C_below hr2 hW)
    rwa [may_same] at this
  have HH : ∀ W, Below w.heap.size w W → Calls Try.prog 71 #[.slice A3 fs.length c3] W fun e w' => e = .returned (.int .i64 (errB (mayFs fs))) ∧ Below W.heap.size W w' := fun W hW => hml_check fs _ rfl A3 c3 W (Kd.C_below hr3 hW)
  have HC' := Lib.hid HC
  have HH' := Lib.hid HH
  clear HC HH hr1 hr2 hr3
  cases q : mayR n ls es with
  | false =>
    rw [q] at HC'
    clear hno q
    go_enter Try.func28, Try.ntmps28
    go_wp2_with fail
    refine (HC'.out _ (below_alloc HB.out _)).mono ?_
    rintro e w1 ⟨rfl, hB⟩
    have HB1 := Aside0.mk (below_then (below_alloc HB.out _) (by simp) hB)
    clear hB
    go_wp2
    go_ret2
    exact ⟨_, rfl, Kd.R_nil _ _ _ _ _, HB1.out⟩
  | true =>
    have q2 : mayFs fs = false := by
      cases h : mayFs fs with
      | false => rfl
      | true => exact absurd ⟨q, h⟩ hno
    rw [q] at HC'
    rw [q2] at HH'
    clear hno q q2
    go_enter Try.func28, Try.ntmps28
    go_wp2_with fail
    refine (HC'.out _ (below_alloc HB.out _)).mono ?_
    rintro e w1 ⟨rfl, hB⟩
    have HB1 := Aside0.mk (below_then (below_alloc HB.out _) (by simp) hB)
    clear hB
    go_wp2_with fail
    refine (HH'.out _ HB1.out).mono ?_
    rintro e w2 ⟨rfl, hB⟩
    have HB2 := Aside0.mk (below_then HB1.out HB1.out.size hB)
    clear hB
    go_wp2
    go_ret2
    exact ⟨_, rfl, Kd.R_nil _ _ _ _ _, HB2.out⟩

set_option maxHeartbeats 8000000 in
set_option maxRecDepth 100000 in
theorem hold_at_yes (n : Nat) (ls : List ByteArray) (es : List Ed) (fs : List Fm) (A1 A2 A3 : Option Addr) (c1 c2 c3 : Nat) (w : World) (hr1 : Kd.C Kd.string w A1 ls.length ls) (hr2 : Kd.C k81 w A2 es.length es) (hr3 : Kd.C k97 w A3 fs.length fs) (hm : mayR n ls es = true) (hf : mayFs fs = true) :
    Calls Try.prog 28 #[.agg #[Value.int IntKind.i64 (n : Int), Value.slice A1 ls.length c1, Value.slice A2 es.length c2], .slice A3 fs.length c3] w (AtPost w (elems n ((linesS ls es fs).getD (fs.length - 1) fun _ => false), 0)) := by
  have HB := Aside0.mk (Below.refl w.heap.size w)
  have hn := (n_le hm).2
  have hn' : n ≤ 2048 := by omega
  have HR1 := Aside0.mk hr1
  have HR2 := Aside0.mk hr2
  have HR3 := Aside0.mk hr3
  have HM := Aside0.mk hm
  have HMf := Aside0.mk (fun k (hk : k < fs.length) => by
    unfold mayFs at hf
    simp only [Bool.and_eq_true] at hf
    exact List.all_eq_true.1 hf.2.2 k (List.mem_range.2 hk))
  have hlen : 0 < fs.length ∧ fs.length ≤ 65536 := by
    unfold mayFs at hf
    simp only [Bool.and_eq_true, decide_eq_true_eq] at hf
    exact ⟨hf.1, hf.2.1⟩
  have HC : ∀ W, Below w.heap.size w W → Calls Try.prog 66 #[.agg #[Value.int IntKind.i64 (n : Int), Value.slice A1 ls.length c1, Value.slice A2 es.length c2]] W fun e w' => e = .returned (.int .i64 0) ∧ Below W.heap.size W w' := fun W hW =>
    check_yes n ls es A1 A2 c1 c2 W (Kd.C_below hr1 hW) (Kd.C_below hr2 hW) (by rw [may_same]; exact hm)
  have HH : ∀ W, Below w.heap.size w W → Calls Try.prog 71 #[.slice A3 fs.length c3] W fun e w' => e = .returned (.int .i64 0) ∧ Below W.heap.size W w' := fun W hW => by
    have := hml_check fs _ hf A3 c3 W (Kd.C_below hr3 hW)
    exact this
  have HC' := Lib.hid HC
  have HH' := Lib.hid HH
  obtain ⟨R, hR⟩ : ∃ R, R = (elems n ((linesS ls es fs).getD (fs.length - 1) fun _ => false), (0 : Int)) := ⟨_, rfl⟩
  have HRes := Aside0.mk hR
  rw [← hR]
  clear HC HH hr1 hr2 hr3 hm hf hR
  go_enter Try.func28, Try.ntmps28
  go_wp2_with fail
  refine (HC'.out _ (below_alloc HB.out _)).mono ?_
  rintro e w1 ⟨rfl, hB⟩
  have HX1 := Aside0.mk (show BoxL w1 w.heap.size n (.slice A1 ls.length c1) (.slice A2 es.length c2) from blk_below (blk_new w _) hB)
  have HB1 := Aside0.mk (below_then (below_alloc HB.out _) (by simp) hB)
  clear hB
  go_wp2_with fail
  refine (HH'.out _ HB1.out).mono ?_
  rintro e w2 ⟨rfl, hB⟩
  have HX2 := Aside0.mk (HX1.out.below hB)
  have HB2 := Aside0.mk (below_then HB1.out HB1.out.size hB)
  clear hB HX1 HB1 HC' HH'
  go_wp2
  go_loopw [6, 21] (fun v i wr => ∃ k : Nat, k ≤ fs.length ∧ i = .int .i64 k ∧ Aside0 (kW.R 102 wr w.heap.size (fun _ => True) v (linesS ls es (fs.take k))) ∧ Aside0 (BoxL wr w.heap.size n (.slice A1 ls.length c1) (.slice A2 es.length c2)) ∧ Aside0 (Below w.heap.size w wr)) (fun _ i _ => fs.length - (intOf i).toNat)
  case atStart => exact ⟨0, Nat.zero_le _, rfl, ⟨by simpa [linesS] using Kd.R_nil kW 102 w2 w.heap.size (fun _ => True)⟩, HX2, HB2⟩
  case round =>
    clear HX2 HB2
    obtain ⟨k, hk, rfl, HO, HX, HBr⟩ := hrel
    obtain ⟨wo, hwo⟩ : ∃ wo, wo = wr := ⟨_, rfl⟩
    subst hwo
    by_cases hlt : k < fs.length
    · have i0 : (k : Int) < (fs.length : Int) := by omega
      obtain ⟨ad, hA, g0, g1, g2, g3⟩ := atFm (Kd.C_below HR3.out HBr.out) k hlt
      subst hA
      have hmx := HMf.out k hlt
      obtain ⟨x, hx⟩ : ∃ x, x = fs.getD k z97 := ⟨_, rfl⟩
      rw [← hx] at g0 g1 g2 g3 hmx
      obtain ⟨Ss, hSs⟩ : ∃ Ss, Ss = linesS ls es (fs.take k) := ⟨_, rfl⟩
      have hsl : Ss.length = k := by rw [hSs, linesS_len, List.length_take]; omega
      have HNx := Aside0.mk (show linesS ls es (fs.take (k + 1)) = Ss ++ [lineS ls es x Ss] by rw [take_snoc z97 hlt, linesS_snoc, ← hx, ← hSs])
      rw [← hSs] at HO
      have hba := below_alloc (Below.refl wo.heap.size wo) (Obj.cells #[Value.int IntKind.i64 x.f0, Value.string x.f1, Value.int IntKind.i64 x.f2, Value.int IntKind.i64 x.f3] 97)
      have HB1 := Aside0.mk (below_then HBr.out HBr.out.size hba)
      have HX1 := Aside0.mk (HX.out.below hba)
      have HO1 := Aside0.mk (Kd.R_below HO.out hba)
      have HF1 := Aside0.mk (form_new wo wo.heap.size x rfl)
      obtain ⟨g, c, hv, hrows⟩ := rowsW_of HO1.out
      have hLn := line_any n ls es x Ss u6 g c A1 A2 c1 c2 _ (Kd.C_below HR1.out HB1.out) (Kd.C_below HR2.out HB1.out) HM.out (by rw [hsl]; exact hmx) hv hrows
      have HLn := Aside0.mk hLn
      have HSl := Aside0.mk hsl
      obtain ⟨LS, hLS⟩ : ∃ LS, LS = lineS ls es x Ss := ⟨_, rfl⟩
      rw [← hLS] at HLn HNx
      have b0 := HX1.out.c0
      have b1 := HX1.out.c1
      have b2 := HX1.out.c2
      clear hx hSs hsl hba hmx hv hrows hLn hLS
      go_wp2_with (first
        | (refine hw_value (by rfl) (run_load_form (y := .tmp 8) (b := wo.heap.size) (x := x) (by rfl) (by rfl) HF1.out) ?_))
      clear b0 b1 b2
      refine HLn.out.mono ?_
      rintro e w3 ⟨rfl, hB⟩
      have HB3 := Aside0.mk (below_then HB1.out HB1.out.size hB)
      have HX3 := Aside0.mk (HX1.out.below hB)
      have HO3 := Aside0.mk (Kd.R_below HO1.out hB)
      clear hB HLn HB1 HX1 HO1 HF1 HO HX HBr g0 g1 g2 g3
      have hsl2 : Ss.length ≤ 65536 := by rw [HSl.out]; omega
      go_wp2_with (first
        | (refine hw_value (by rfl) (hrun_slice (x := .tmp 29) (S := LS) (by rfl) (by rfl)) ?_)
        | (at_builtin; refine Kd.R_append kW (w0 := w) w.heap.size rfl (.tmp 25) (.tmp 30) 99 102 zW 256 rfl Try.underlying99 infoW rfl (by decide) (by omega) u6 Ss LS (encSet LS) (fun _ => True) (fun _ => False) rfl rfl (kW_M _ _ _ _) (fun _ hk => hk.elim) (fun _ _ => trivial) HO3.out HB3.out HB3.out.size (by omega) ?_; intro v9 w9 ho hb hg hat; have HO9 := Aside0.mk ho; have HB9 := Aside0.mk hb; have HX9 := Aside0.mk (blk_grown (g := w.heap.size) HX3.out hg (Kd.R_ne HO3.out HX3.out (by decide))); clear ho hb hg hat))
      go_roundw
      case rel => exact ⟨k + 1, by omega, by go_num, ⟨by rw [HNx.out]; exact HO9.out⟩, HX9, HB9⟩
      case measure => simp [intOf]; omega
    · have i0 : ¬ (k : Int) < (fs.length : Int) := by omega
      have ek : fs.take k = fs := List.take_of_length_le (by omega)
      rw [ek] at HO
      obtain ⟨Ss, hSs⟩ : ∃ Ss, Ss = linesS ls es fs := ⟨_, rfl⟩
      have hsl : Ss.length = fs.length := by rw [hSs, linesS_len]
      rw [← hSs] at HO
      obtain ⟨m, hmm⟩ : ∃ m, fs.length = m + 1 := ⟨fs.length - 1, by omega⟩
      obtain ⟨g, c, hv, hrows⟩ := rowsW_of HO.out
      have hv2 := hv (by omega)
      rw [hsl, hmm] at hv2
      subst hv2
      obtain ⟨S, hS⟩ : ∃ S, S = Ss.getD m fun _ => false := ⟨_, rfl⟩
      have HRS := Aside0.mk (show R = (elems n S, (0 : Int)) by rw [HRes.out, hmm, Nat.add_sub_cancel, ← hSs, ← hS])
      have HRw := Aside0.mk (show ∀ j, j < 32 → wo.cell? ⟨g, m * 32 + j, none⟩ = some (.int .u64 (wordOf S j : Int)) by rw [hS]; exact hrows m (by omega))
      have hw1 : IntKind.i64.wrap (((m + 1 : Nat) : Int) - 1) = (m : Int) := by rw [IntKind.wrap_i64]; omega
      have hw2 : IntKind.i64.wrap ((m : Int) + 1 - 1) = (m : Int) := by rw [IntKind.wrap_i64]; omega
      have hw3 : IntKind.i64.wrap (m : Int) = (m : Int) := by rw [IntKind.wrap_i64]; omega
      have b0 := HX.out.c0
      clear ek hSs hsl hrows hS hv hmm
      go_wp2
      clear b0
      go_loopw [9, 35] (fun v i wr2 => ∃ k : Nat, k ≤ n ∧ i = .int .i64 k ∧ Aside0 (Kd.R (Kd.int .i64) 3 wr2 w.heap.size (fun _ => True) v (elems k S)) ∧ Aside0 (∀ j, j < 32 → wr2.cell? ⟨g, m * 32 + j, none⟩ = some (.int .u64 (wordOf S j : Int))) ∧ Aside0 (∃ cs, wr2.heap[g]? = some (.cells cs 102 (0, 0))) ∧ Aside0 (Below w.heap.size w wr2)) (fun _ i _ => n - (intOf i).toNat)
      case atStart =>
        obtain ⟨cs, hcs⟩ := Kd.R_typed HO.out g rfl
        exact ⟨0, Nat.zero_le _, rfl, ⟨Kd.R_nil _ _ _ _ _⟩, HRw, ⟨cs, hcs⟩, HBr⟩
      case round =>
        clear HO HX HBr HRw
        obtain ⟨k2, hk2, rfl, HO, HRw, HTy, HBr⟩ := hrel
        by_cases hlt2 : k2 < n
        · have j0 : (k2 : Int) < (n : Int) := by omega
          have j1 : (m : Int) < ((m + 1 : Nat) : Int) := by omega
          have j2 : (m : Int) < (m : Int) + 1 := by omega
          have HSu := Aside0.mk (elems_succ k2 S)
          have hll := elems_len k2 S
          obtain ⟨L, hL⟩ : ∃ L, L = elems k2 S := ⟨_, rfl⟩
          rw [← hL] at HO HSu hll
          clear hL
          go_wp2_with fail
          refine (hhas_at g (m * 32) k2 S _ HRw.out (by omega)).mono ?_
          rintro e w3 ⟨rfl, rfl⟩
          cases hSk : S k2 with
          | false =>
            rw [hSk] at HSu
            clear hSk
            go_wp2
            go_roundw
            case rel => exact ⟨k2 + 1, by omega, by go_num, ⟨by rw [HSu.out]; simpa using HO.out⟩, HRw, HTy, HBr⟩
            case measure => simp [intOf]; omega
          | true =>
            rw [hSk] at HSu
            clear hSk
            obtain ⟨cs, hcs⟩ := HTy.out
            have HCs := Aside0.mk hcs
            have hneg := Aside0.mk (Kd.R_ne HO.out hcs (by decide))
            clear hcs
            go_wp2_with (at_builtin; refine Kd.R_append (Kd.int .i64) (w0 := w) w.heap.size rfl (.tmp 45) (.tmp 47) 42 3 (.int .i64 0) 8 rfl Try.underlying42 info3 rfl (by decide) (by omega) u9 L (k2 : Int) [.int .i64 (k2 : Int)] (fun _ => True) (fun _ => False) rfl rfl rfl (fun _ hk => hk.elim) (fun _ _ => trivial) HO.out HBr.out HBr.out.size (by omega) ?_; intro v9 w9 ho hb hg hat; have HO9 := Aside0.mk ho; have HB9 := Aside0.mk hb; have HRw9 := Aside0.mk (show ∀ j, j < 32 → w9.cell? ⟨g, m * 32 + j, none⟩ = some (.int .u64 (wordOf S j : Int)) from fun j hj => cell_grown hg (HRw.out j hj) hneg.out); have HTy9 := Aside0.mk (show ∃ cs, w9.heap[g]? = some (.cells cs 102 (0, 0)) from ⟨cs, blk_grown HCs.out hg hneg.out⟩); clear ho hb hg hat)
            go_roundw
            case rel => exact ⟨k2 + 1, by omega, by go_num, ⟨by rw [HSu.out]; exact HO9.out⟩, HRw9, HTy9, HB9⟩
            case measure => simp [intOf]; omega
        · have j0 : ¬ (k2 : Int) < (n : Int) := by omega
          obtain rfl : k2 = n := by omega
          go_wp2
          go_ret2
          rw [HRS.out]
          exact ⟨_, rfl, HO.out, HBr.out⟩

end Go.Proofs.Ytmpiokdomjchiaa.H

set_option linter.unusedVariables false
set_option linter.unnecessarySimpa false
set_option linter.unusedSimpArgs false
namespace Go.Proofs.Ytmpiokdomjchiaa.H
open Go.RowKit Go.Proofs.Ytmpiokdomjchiaa.Pr Go.Proofs.YtmpiokdomjchiaaW.PrintWords Go.Proofs.Ytmpiokdomjchiaa.Sem Go.Proofs.YtmpiokdomjchiaaW.PrintLast

theorem hold_at_any (n : Int) (ls : List ByteArray) (es : List Ed) (fs : List Fm) (A1 A2 A3 : Option Addr) (c1 c2 c3 : Nat) (w : World) (hr1 : Kd.C Kd.string w A1 ls.length ls) (hr2 : Kd.C k81 w A2 es.length es) (hr3 : Kd.C k97 w A3 fs.length fs) :
    Calls Try.prog 28 #[.agg #[Value.int IntKind.i64 n, Value.slice A1 ls.length c1, Value.slice A2 es.length c2], .slice A3 fs.length c3] w (AtPost w (atL n ls es fs)) := by
  by_cases h : mayR n ls es = true ∧ mayFs fs = true
  · have e : atL n ls es fs = (elems n.toNat ((linesS ls es fs).getD (fs.length - 1) fun _ => false), 0) := by unfold atL; rw [if_pos h]
    rw [e]
    obtain ⟨m, rfl⟩ := Int.eq_ofNat_of_zero_le (show 0 ≤ n by have := (n_le h.1).1; omega)
    rw [Int.toNat_natCast]
    exact hold_at_yes m ls es fs A1 A2 A3 c1 c2 c3 w hr1 hr2 hr3 h.1 h.2
  · have e : atL n ls es fs = ([], 1) := by unfold atL; rw [if_neg h]
    rw [e]
    exact hold_at_no n ls es fs A1 A2 A3 c1 c2 c3 w hr1 hr2 hr3 h

/-- The place of a number; -1: none. -/
def placeI (L : List Int) (x : Int) : Int := idxP (fun y => x == y) L
set_option maxRecDepth 100000 in
theorem indexI_any (L : List Int) (x : Int) (A : Option Addr) (c : Nat) (w : World) (hr : Kd.C (Kd.int .i64) w A L.length L) :
    Calls Try.prog 106 #[.slice A L.length c, .int .i64 x] w fun e w' => e = .returned (.int .i64 (placeI L x)) ∧ w = w' := by
  have hl := C_len hr
  have HR := Lib.hid hr; clear hr
  go_enter Try.func106, Try.ntmps106
  go_wp2
  go_loop [8] (fun i => ∃ k : Nat, k ≤ L.length ∧ i = .int .i64 k ∧ Aside0 (∀ j, j < k → (x == L.getD j 0) = false)) (fun i => L.length - (intOf i).toNat)
  case atStart => exact ⟨0, Nat.zero_le _, rfl, ⟨fun j hj => by omega⟩⟩
  case round =>
    obtain ⟨k, hk, rfl, hz⟩ := hrel
    by_cases hlt : k < L.length
    · obtain ⟨ad, hA, g0⟩ := atI HR.out k hlt
      subst hA
      have i0 : (k : Int) < (L.length : Int) := by omega
      obtain ⟨y, hy⟩ : ∃ y, y = L.getD k 0 := ⟨_, rfl⟩
      rw [← hy] at g0
      have HS := Aside0.mk hy; clear hy
      cases q : (x == y) with
      | true =>
        have HF := Aside0.mk (show placeI L x = k from idxP_at _ 0 L k (fun j hj => hz.out j hj) hlt (by rw [← HS.out]; exact q))
        go_wp2
        go_ret
        exact ⟨ret_int HF.out.symm, rfl⟩
      | false =>
        have HQ := Aside0.mk q
        go_wp2
        go_round
        case rel => exact ⟨k + 1, by omega, by go_num, ⟨fun j hj => by rcases Nat.lt_succ_iff_lt_or_eq.1 hj with h | rfl; exact hz.out j h; rw [← HS.out]; exact HQ.out⟩⟩
        case measure => simp [intOf]; omega
    · have i0 : ¬ (k : Int) < (L.length : Int) := by omega
      have HF := Aside0.mk (show placeI L x = -1 from idxP_none _ 0 L (fun j hj => hz.out j (by omega)))
      go_wp2
      go_ret
      exact ⟨ret_int HF.out.symm, rfl⟩
/-- Is a number in a list? -/
def inI (L : List Int) (x : Int) : Bool := L.any fun y => x == y
theorem containsI_any (L : List Int) (x : Int) (r : Bool) (h : inI L x = r) (A : Option Addr) (c : Nat) (w : World) (hr : Kd.C (Kd.int .i64) w A L.length L) :
    Calls Try.prog 74 #[.slice A L.length c, .int .i64 x] w fun e w' => e = .returned (.bool r) ∧ w = w' := by
  have HC := Aside0.mk (indexI_any L x A c w hr)
  have HF := Aside0.mk (show decide (0 ≤ placeI L x) = r by rw [← h]; exact idxP_nonneg _ L)
  clear hr h
  generalize placeI L x = p at HC HF
  go_enter Try.func74, Try.ntmps74
  go_wp2_with fail
  refine HC.out.mono ?_
  rintro e w1 ⟨rfl, rfl⟩
  go_wp2
  go_ret
  exact ⟨ret_bool HF.out, rfl⟩

/-- hold.Is: does the formula hold at a node? -/
def holdIs (n : Int) (ls : List ByteArray) (es : List Ed) (fs : List Fm) (x : Int) : Bool := inI (atL n ls es fs).1 x
theorem hold_is_any (n : Int) (ls : List ByteArray) (es : List Ed) (fs : List Fm) (x : Int) (r : Bool) (hr : holdIs n ls es fs x = r) (A1 A2 A3 : Option Addr) (c1 c2 c3 : Nat) (w : World) (hr1 : Kd.C Kd.string w A1 ls.length ls) (hr2 : Kd.C k81 w A2 es.length es) (hr3 : Kd.C k97 w A3 fs.length fs) :
    Calls Try.prog 30 #[.agg #[Value.int IntKind.i64 n, Value.slice A1 ls.length c1, Value.slice A2 es.length c2], .slice A3 fs.length c3, .int .i64 x] w fun e w' => e = .returned (.bool r) ∧ Below w.heap.size w w' := by
  have HB := Aside0.mk (Below.refl w.heap.size w)
  have HC : ∀ W, Below w.heap.size w W → Calls Try.prog 28 #[.agg #[.int .i64 n, .slice A1 ls.length c1, .slice A2 es.length c2], .slice A3 fs.length c3] W (AtPost W (atL n ls es fs)) := fun W hW =>
    hold_at_any n ls es fs A1 A2 A3 c1 c2 c3 W (Kd.C_below hr1 hW) (Kd.C_below hr2 hW) (Kd.C_below hr3 hW)
  have HC' := Lib.hid HC
  unfold holdIs at hr
  generalize atL n ls es fs = R at HC' hr
  obtain ⟨L, er⟩ := R
  have HI := Aside0.mk (show inI L x = r from hr)
  clear HC hr1 hr2 hr3 hr
  go_enter Try.func30, Try.ntmps30
  go_wp2_with fail
  refine (HC'.out _ (below_alloc HB.out _)).mono ?_
  rintro e w1 ⟨v, rfl, hR, hB⟩
  obtain ⟨Aa, ca, rfl, _, hCa⟩ := Kd.R_reads hR
  have HB1 := Aside0.mk (below_then (below_alloc HB.out _) (by simp) hB)
  have HCa := Aside0.mk hCa
  clear hR hCa hB
  go_wp2_with fail
  refine (containsI_any L x _ HI.out Aa ca _ HCa.out).mono ?_
  rintro e w2 ⟨rfl, rfl⟩
  go_wp2
  go_ret
  exact ⟨rfl, HB1.out⟩

/-- hold.Tells: does the formula hold at one node and at another, that is there, not? -/
def holdTells (n : Int) (ls : List ByteArray) (es : List Ed) (fs : List Fm) (a b : Int) : Bool :=
  if (atL n ls es fs).2 = 0 then (if 0 ≤ b then (if b < n then (inI (atL n ls es fs).1 a && !inI (atL n ls es fs).1 b) else false) else false) else false
set_option maxHeartbeats 2000000 in
theorem hold_tells_any (n : Int) (ls : List ByteArray) (es : List Ed) (fs : List Fm) (a b : Int) (r : Bool) (hr : holdTells n ls es fs a b = r) (A1 A2 A3 : Option Addr) (c1 c2 c3 : Nat) (w : World) (hr1 : Kd.C Kd.string w A1 ls.length ls) (hr2 : Kd.C k81 w A2 es.length es) (hr3 : Kd.C k97 w A3 fs.length fs) :
    Calls Try.prog 31 #[.agg #[Value.int IntKind.i64 n, Value.slice A1 ls.length c1, Value.slice A2 es.length c2], .slice A3 fs.length c3, .int .i64 a, .int .i64 b] w fun e w' => e = .returned (.bool r) ∧ Below w.heap.size w w' := by
  have HB := Aside0.mk (Below.refl w.heap.size w)
  have HC : ∀ W, Below w.heap.size w W → Calls Try.prog 28 #[.agg #[.int .i64 n, .slice A1 ls.length c1, .slice A2 es.length c2], .slice A3 fs.length c3] W (AtPost W (atL n ls es fs)) := fun W hW =>
    hold_at_any n ls es fs A1 A2 A3 c1 c2 c3 W (Kd.C_below hr1 hW) (Kd.C_below hr2 hW) (Kd.C_below hr3 hW)
  have HC' := Lib.hid HC
  unfold holdTells at hr
  have her : (atL n ls es fs).2 = 0 ∨ (atL n ls es fs).2 = 1 := by unfold atL; split <;> simp
  generalize atL n ls es fs = R at HC' hr her
  obtain ⟨L, er⟩ := R
  simp only at hr her
  have HX := Aside0.mk (show BoxL _ w.heap.size n (.slice A1 ls.length c1) (.slice A2 es.length c2) from blk_new w _)
  have HR0 := Aside0.mk hr
  clear HC hr1 hr2 hr3 hr
  go_enter Try.func31, Try.ntmps31
  go_wp2_with fail
  refine (HC'.out _ (below_alloc HB.out _)).mono ?_
  rintro e w1 ⟨v, rfl, hR, hB⟩
  obtain ⟨Aa, ca, rfl, _, hCa⟩ := Kd.R_reads hR
  have HX1 := Aside0.mk (blk_below HX.out hB)
  have HB1 := Aside0.mk (below_then (below_alloc HB.out _) (by simp) hB)
  have HCa := Aside0.mk hCa
  have hr := HR0.out
  clear hR hCa hB HX HC' HR0
  have b0 := BoxL.c0 HX1.out
  clear HX1
  rcases her with rfl | rfl
  · rw [if_pos rfl] at hr
    by_cases q0 : 0 ≤ b
    · rw [if_pos q0] at hr
      by_cases q1 : b < n
      · rw [if_pos q1] at hr
        cases ia : inI L a with
        | false =>
          rw [ia, Bool.false_and] at hr
          have HIa := Aside0.mk ia
          have HR := Aside0.mk hr
          clear ia hr
          go_wp2_with fail
          refine (containsI_any L a _ HIa.out Aa ca _ HCa.out).mono ?_
          rintro e w2 ⟨rfl, rfl⟩
          go_wp2
          go_ret
          exact ⟨ret_bool HR.out, HB1.out⟩
        | true =>
          rw [ia, Bool.true_and] at hr
          have HIa := Aside0.mk ia
          have HR := Aside0.mk hr
          clear ia hr
          go_wp2_with fail
          refine (containsI_any L a _ HIa.out Aa ca _ HCa.out).mono ?_
          rintro e w2 ⟨rfl, rfl⟩
          go_wp2_with fail
          refine (containsI_any L b _ rfl Aa ca _ HCa.out).mono ?_
          rintro e w2 ⟨rfl, rfl⟩
          go_wp2
          go_ret
          exact ⟨ret_bool HR.out, HB1.out⟩
      · rw [if_neg q1] at hr
        have HR := Aside0.mk hr
        clear hr
        go_wp2
        go_ret
        exact ⟨ret_bool HR.out, HB1.out⟩
    · rw [if_neg q0] at hr
      have HR := Aside0.mk hr
      clear hr
      go_wp2
      go_ret
      exact ⟨ret_bool HR.out, HB1.out⟩
  · rw [if_neg (by decide)] at hr
    have HR := Aside0.mk hr
    clear hr
    go_wp2
    go_ret
    exact ⟨ret_bool HR.out, HB1.out⟩

end Go.Proofs.Ytmpiokdomjchiaa.H

set_option linter.unusedVariables false
set_option linter.unnecessarySimpa false
set_option linter.unusedSimpArgs false
namespace Go.Proofs.Ytmpiokdomjchiaa.H
open Go.RowKit Go.Proofs.Ytmpiokdomjchiaa.Pr Go.Proofs.YtmpiokdomjchiaaW.PrintWords Go.Proofs.Ytmpiokdomjchiaa.Sem Go.Proofs.YtmpiokdomjchiaaW.PrintLast

/-- The reference's look at a line: what it makes of A and B. -/
def mayA (x : Fm) (k : Int) : Bool := if x.f0 = 1 then x.f2 == 0 else inL x.f2 k
def mayB' (x : Fm) (k : Int) : Bool := if x.f0 = 3 then inL x.f3 k else x.f3 == 0
theorem noT_size (s : ByteArray) : noT s = decide (s.size = 0) := by
  unfold noT
  rw [ByteArray.toList_eq, Bool.eq_iff_iff, beq_iff_eq, decide_eq_true_eq]
  rw [← ByteArray.size_data, ← Array.length_toList, List.length_eq_zero_iff]
theorem mayF_bad {x : Fm} {k : Int} (h : x.f0 < 1 ∨ 4 < x.f0 ∨ mayA x k = false ∨ mayB' x k = false ∨ (x.f0 ≠ 4 ∧ 0 < (x.f1.size : Int)) ∨ 200 < (x.f1.size : Int)) : mayF x k = false := by
  unfold mayF mayA mayB' at *
  rw [noT_size]
  by_cases k1 : x.f0 = 1
  · simp only [k1] at h ⊢
    by_cases s0 : x.f1.size = 0
    · rw [decide_eq_true s0]
      rcases h with h | h | h | h | h | h
      · omega
      · omega
      · simp at h; simp [h]
      · simp at h; simp [h]
      · omega
      · omega
    · rw [decide_eq_false s0]; rfl
  · by_cases k2 : x.f0 = 2
    · simp only [k2] at h ⊢
      by_cases s0 : x.f1.size = 0
      · rw [decide_eq_true s0]
        rcases h with h | h | h | h | h | h
        · omega
        · omega
        · simp at h; simp [h]
        · simp at h; simp [h]
        · omega
        · omega
      · rw [decide_eq_false s0]; rfl
    · by_cases k3 : x.f0 = 3
      · simp only [k3] at h ⊢
        by_cases s0 : x.f1.size = 0
        · rw [decide_eq_true s0]
          rcases h with h | h | h | h | h | h
          · omega
          · omega
          · simp at h; simp [h]
          · simp at h; simp [h]
          · omega
          · omega
        · rw [decide_eq_false s0]; rfl
      · by_cases k4 : x.f0 = 4
        · simp only [k4] at h ⊢
          by_cases s0 : x.f1.size ≤ 200
          · rw [decide_eq_true s0]
            rcases h with h | h | h | h | h | h
            · omega
            · omega
            · simp at h; simp [h]
            · simp at h; simp [h]
            · exact absurd rfl h.1
            · omega
          · rw [decide_eq_false s0]; rfl
        · rw [if_neg k1, if_neg k2, if_neg k3, if_neg k4]
theorem mayF_good {x : Fm} {k : Int} (h0 : ¬ x.f0 < 1) (h1 : ¬ 4 < x.f0) (ha : mayA x k = true) (hb : mayB' x k = true) (h2 : x.f0 = 4 ∨ ¬ 0 < (x.f1.size : Int)) (h3 : ¬ 200 < (x.f1.size : Int)) : mayF x k = true := by
  unfold mayF mayA mayB' at *
  rw [noT_size]
  by_cases k1 : x.f0 = 1
  · simp only [k1] at *
    have : x.f1.size = 0 := by omega
    simp at ha hb
    simp [this, ha, hb]
  · by_cases k2 : x.f0 = 2
    · simp only [k2] at *
      have : x.f1.size = 0 := by omega
      simp at ha hb
      simp [this, ha, hb]
    · by_cases k3 : x.f0 = 3
      · simp only [k3] at *
        have : x.f1.size = 0 := by omega
        simp at ha hb
        simp [this, ha, hb]
      · have k4 : x.f0 = 4 := by omega
        simp only [k4] at *
        have : x.f1.size ≤ 200 := by omega
        simp at ha hb
        simp [this, ha, hb]
theorem inL_yes {i k : Int} (h : 0 ≤ i) (h2 : i < k) : inL i k = true := decide_eq_true ⟨h, h2⟩
theorem inL_no {i k : Int} (h : ¬ 0 ≤ i ∨ ¬ i < k) : inL i k = false := decide_eq_false (fun e => by omega)

theorem num_succ {k : Nat} (h : (k : Int) + 1 ≤ 9223372036854775807) : Value.int IntKind.i64 (wrap64 ((k : Int) + 1)) = Value.int IntKind.i64 ((k + 1 : Nat) : Int) := by
  congr 1
  unfold wrap64
  omega
theorem nonempty_size {s : ByteArray} (h : ¬ s = ByteArray.empty) : 0 < (s.size : Int) := by
  rcases Nat.eq_zero_or_pos s.size with e | e
  · exact absurd (ByteArray.size_eq_zero_iff.1 e) h
  · omega
theorem mayFs_bad {fs : List Fm} {k : Nat} (hk : k < fs.length) (h : mayF (fs.getD k z97) k = false) : mayFs fs = false := by
  unfold mayFs
  have : ((List.range fs.length).all fun k => mayF (fs.getD k z97) k) = false := by
    rw [List.all_eq_false]
    exact ⟨k, List.mem_range.2 hk, by rw [h]; simp⟩
  rw [this, Bool.and_false, Bool.and_false]
set_option maxHeartbeats 8000000 in
set_option maxRecDepth 100000 in
theorem may37_any (fs : List Fm) (r : Bool) (hr0 : mayFs fs = r) (A : Option Addr) (c : Nat) (w : World) (hr : Kd.C k97 w A fs.length fs) :
    Calls Try.prog 29 #[.slice A fs.length c] w fun e w' => e = .returned (.bool r) ∧ Below w.heap.size w w' := by
  have hl := C_len hr
  have HR := Aside0.mk hr
  have HB := Aside0.mk (Below.refl w.heap.size w)
  have H0 := Aside0.mk hr0
  clear hr hr0
  go_enter Try.func29, Try.ntmps29
  go_wp2
  go_loopg [3] fs.length (fun g i wr => ∃ k : Nat, g + k = fs.length ∧ i = .int .i64 k ∧ Aside0 (∀ j, j < k → mayF (fs.getD j z97) j = true) ∧ Aside0 (Below w.heap.size w wr))
  case atStart => exact ⟨0, rfl, rfl, ⟨fun j hj => by omega⟩, HB⟩
  case round =>
    obtain ⟨k, hg, rfl, hz, HBr⟩ := hrel
    by_cases hlt : k < fs.length
    · have i0 : (k : Int) < (fs.length : Int) := by omega
      obtain ⟨ad, hA, g0, g1, g2, g3⟩ := atFm HR.out k hlt
      subst hA
      replace g0 := later HBr.out g0
      replace g1 := later HBr.out g1
      replace g2 := later HBr.out g2
      replace g3 := later HBr.out g3
      obtain ⟨x, hx⟩ : ∃ x, x = fs.getD k z97 := ⟨_, rfl⟩
      rw [← hx] at g0 g1 g2 g3
      have HX := Aside0.mk hx
      have HG := Aside0.mk hg
      have HLt := Aside0.mk hlt
      have hNum := Aside0.mk (num_succ (k := k) (by omega))
      clear hx hg hlt
      have HB1 := Aside0.mk (below_alloc HBr.out (.cells #[.int .i64 x.f0, .string x.f1, .int .i64 x.f2, .int .i64 x.f3] 97))
      have HF := Aside0.mk (form_new wr wr.heap.size x rfl)
      obtain ⟨xk, hxk⟩ : ∃ xk : Int, xk = (k : Int) := ⟨_, rfl⟩
      go_upto_region 5 with fail
      clear g0 g1 g2 g3
      generalize (wr.alloc (Obj.cells #[Value.int IntKind.i64 x.f0, Value.string x.f1, Value.int IntKind.i64 x.f2, Value.int IntKind.i64 x.f3] 97)) = W at HB1 HF ⊢
      generalize wr.heap.size = b at HF ⊢
      clear i0
      go_cut [5, 6] (fun s5 s6 wx => s5 = .bool (inL x.f2 k) ∧ s6 = .bool (inL x.f3 k) ∧ Aside0 (Below w.heap.size w wx) ∧ Aside0 (FormAt wx b x))
      case first =>
        have b2 := HF.out.c2
        have b3 := HF.out.c3
        by_cases a0 : 0 ≤ x.f2
        · by_cases a1 : x.f2 < (k : Int)
          · have I2 := Aside0.mk (inL_yes a0 a1)
            by_cases c0 : 0 ≤ x.f3
            · by_cases c1 : x.f3 < (k : Int)
              · have I3 := Aside0.mk (inL_yes c0 c1)
                go_quiet (fail)
                go_wp2
                go_meet
                case rel => exact ⟨congrArg Value.bool (I2.out).symm, congrArg Value.bool (I3.out).symm, ⟨below_drewN HB1.out _⟩, ⟨HF.out.below (below_drewN (Below.refl _ _) _)⟩⟩
              · have I3 := Aside0.mk (inL_no (.inr c1) : inL x.f3 k = false)
                have d1 : decide (x.f3 < (k : Int)) = false := decide_eq_false c1
                clear c1
                go_quiet (fail)
                go_wp2
                go_meet
                case rel => exact ⟨congrArg Value.bool (I2.out).symm, congrArg Value.bool (I3.out).symm, ⟨below_drewN HB1.out _⟩, ⟨HF.out.below (below_drewN (Below.refl _ _) _)⟩⟩
            · have I3 := Aside0.mk (inL_no (.inl c0) : inL x.f3 k = false)
              have d1 : decide (0 ≤ x.f3) = false := decide_eq_false c0
              clear c0
              go_quiet (fail)
              go_wp2
              go_meet
              case rel => exact ⟨congrArg Value.bool (I2.out).symm, congrArg Value.bool (I3.out).symm, ⟨below_drewN HB1.out _⟩, ⟨HF.out.below (below_drewN (Below.refl _ _) _)⟩⟩
          · have I2 := Aside0.mk (inL_no (.inr a1) : inL x.f2 k = false)
            have e1 : decide (x.f2 < (k : Int)) = false := decide_eq_false a1
            clear a1
            by_cases c0 : 0 ≤ x.f3
            · by_cases c1 : x.f3 < (k : Int)
              · have I3 := Aside0.mk (inL_yes c0 c1)
                go_quiet (fail)
                go_wp2
                go_meet
                case rel => exact ⟨congrArg Value.bool (I2.out).symm, congrArg Value.bool (I3.out).symm, ⟨below_drewN HB1.out _⟩, ⟨HF.out.below (below_drewN (Below.refl _ _) _)⟩⟩
              · have I3 := Aside0.mk (inL_no (.inr c1) : inL x.f3 k = false)
                have d1 : decide (x.f3 < (k : Int)) = false := decide_eq_false c1
                clear c1
                go_quiet (fail)
                go_wp2
                go_meet
                case rel => exact ⟨congrArg Value.bool (I2.out).symm, congrArg Value.bool (I3.out).symm, ⟨below_drewN HB1.out _⟩, ⟨HF.out.below (below_drewN (Below.refl _ _) _)⟩⟩
            · have I3 := Aside0.mk (inL_no (.inl c0) : inL x.f3 k = false)
              have d1 : decide (0 ≤ x.f3) = false := decide_eq_false c0
              clear c0
              go_quiet (fail)
              go_wp2
              go_meet
              case rel => exact ⟨congrArg Value.bool (I2.out).symm, congrArg Value.bool (I3.out).symm, ⟨below_drewN HB1.out _⟩, ⟨HF.out.below (below_drewN (Below.refl _ _) _)⟩⟩
        · have I2 := Aside0.mk (inL_no (.inl a0) : inL x.f2 k = false)
          have e1 : decide (0 ≤ x.f2) = false := decide_eq_false a0
          clear a0
          by_cases c0 : 0 ≤ x.f3
          · by_cases c1 : x.f3 < (k : Int)
            · have I3 := Aside0.mk (inL_yes c0 c1)
              go_quiet (fail)
              go_wp2
              go_meet
              case rel => exact ⟨congrArg Value.bool (I2.out).symm, congrArg Value.bool (I3.out).symm, ⟨below_drewN HB1.out _⟩, ⟨HF.out.below (below_drewN (Below.refl _ _) _)⟩⟩
            · have I3 := Aside0.mk (inL_no (.inr c1) : inL x.f3 k = false)
              have d1 : decide (x.f3 < (k : Int)) = false := decide_eq_false c1
              clear c1
              go_quiet (fail)
              go_wp2
              go_meet
              case rel => exact ⟨congrArg Value.bool (I2.out).symm, congrArg Value.bool (I3.out).symm, ⟨below_drewN HB1.out _⟩, ⟨HF.out.below (below_drewN (Below.refl _ _) _)⟩⟩
          · have I3 := Aside0.mk (inL_no (.inl c0) : inL x.f3 k = false)
            have d1 : decide (0 ≤ x.f3) = false := decide_eq_false c0
            clear c0
            go_quiet (fail)
            go_wp2
            go_meet
            case rel => exact ⟨congrArg Value.bool (I2.out).symm, congrArg Value.bool (I3.out).symm, ⟨below_drewN HB1.out _⟩, ⟨HF.out.below (below_drewN (Below.refl _ _) _)⟩⟩
      case rest =>
        obtain ⟨rfl, rfl, HB2, HF2⟩ := hcut
        clear HB1 HF
        have b0 := HF2.out.c0
        have b2 := HF2.out.c2
        have b3 := HF2.out.c3
        obtain ⟨P2, hP2⟩ : ∃ p, p = inL x.f2 k := ⟨_, rfl⟩
        obtain ⟨P3, hP3⟩ : ∃ p, p = inL x.f3 k := ⟨_, rfl⟩
        rw [← hP2, ← hP3]
        have HP2 := Aside0.mk hP2
        have HP3 := Aside0.mk hP3
        clear hP2 hP3
        go_upto_if 37 with fail
        go_cut [6] (fun s6 wx => s6 = .bool (mayB' x k) ∧ Aside0 (Below w.heap.size w wx) ∧ Aside0 (FormAt wx b x))
        case first =>
          by_cases k3 : x.f0 = 3
          · have HQ := Aside0.mk (show mayB' x k = P3 by unfold mayB'; rw [if_pos k3, HP3.out])
            have p3 : (x.f0 != 3) = false := by simp [k3]
            clear k3
            go_wp2
            go_meet
            case rel => exact ⟨congrArg Value.bool HQ.out.symm, HB2, HF2⟩
          · have HQ := Aside0.mk (show mayB' x k = (x.f3 == 0) by unfold mayB'; rw [if_neg k3])
            have p3 : (x.f0 != 3) = true := by simp [k3]
            clear k3
            go_wp2
            go_meet
            case rel => exact ⟨congrArg Value.bool HQ.out.symm, HB2, HF2⟩
        case rest =>
        obtain ⟨rfl, HB2', HF2'⟩ := hcut
        clear HB2 HF2 b0 b2 b3 HP3
        have b0 := HF2'.out.c0
        have b2 := HF2'.out.c2
        obtain ⟨P3, hP3⟩ : ∃ p, p = mayB' x k := ⟨_, rfl⟩
        rw [← hP3]
        have HP3 := Aside0.mk hP3
        clear hP3
        go_upto_if 43 with fail
        go_cut [5] (fun s5 wx => s5 = .bool (mayA x k) ∧ Aside0 (Below w.heap.size w wx) ∧ Aside0 (FormAt wx b x))
        case first =>
          by_cases k1 : x.f0 = 1
          · have HQ := Aside0.mk (show mayA x k = (x.f2 == 0) by unfold mayA; rw [if_pos k1])
            have p1 : (x.f0 == 1) = true := by simp [k1]
            clear k1
            go_wp2
            go_meet
            case rel => exact ⟨congrArg Value.bool HQ.out.symm, HB2', HF2'⟩
          · have HQ := Aside0.mk (show mayA x k = P2 by unfold mayA; rw [if_neg k1, HP2.out])
            have p1 : (x.f0 == 1) = false := by simp [k1]
            clear k1
            go_wp2
            go_meet
            case rel => exact ⟨congrArg Value.bool HQ.out.symm, HB2', HF2'⟩
        case rest =>
          obtain ⟨rfl, HB3, HF3⟩ := hcut
          clear HB2' HF2' b0 b2 HP2
          have b0 := HF3.out.c0
          have b1 := HF3.out.c1
          obtain ⟨P2, hP2⟩ : ∃ p, p = mayA x k := ⟨_, rfl⟩
          rw [← hP2]
          have HP2 := Aside0.mk hP2
          clear hP2
          by_cases q0 : x.f0 < 1
          · skip
            have HM := Aside0.mk (mayF_bad (x := x) (k := (k : Int)) (.inl q0))
            have HN := Aside0.mk (show r = false by rw [← H0.out]; exact mayFs_bad HLt.out (by rw [← HX.out]; exact HM.out))
            go_wp2
            go_ret
            exact ⟨ret_bool HN.out.symm, HB3.out⟩
          · by_cases q1 : 4 < x.f0
            · skip
              have HM := Aside0.mk (mayF_bad (x := x) (k := (k : Int)) (.inr (.inl q1)))
              have HN := Aside0.mk (show r = false by rw [← H0.out]; exact mayFs_bad HLt.out (by rw [← HX.out]; exact HM.out))
              go_wp2
              go_ret
              exact ⟨ret_bool HN.out.symm, HB3.out⟩
            · cases P2 with
              | false =>
                have HM := Aside0.mk (mayF_bad (x := x) (k := (k : Int)) (.inr (.inr (.inl HP2.out.symm))))
                have HN := Aside0.mk (show r = false by rw [← H0.out]; exact mayFs_bad HLt.out (by rw [← HX.out]; exact HM.out))
                go_wp2
                go_ret
                exact ⟨ret_bool HN.out.symm, HB3.out⟩
              | true =>
                cases P3 with
                | false =>
                  have HM := Aside0.mk (mayF_bad (x := x) (k := (k : Int)) (.inr (.inr (.inr (.inl HP3.out.symm)))))
                  have HN := Aside0.mk (show r = false by rw [← H0.out]; exact mayFs_bad HLt.out (by rw [← HX.out]; exact HM.out))
                  go_wp2
                  go_ret
                  exact ⟨ret_bool HN.out.symm, HB3.out⟩
                | true =>
                  by_cases k4 : x.f0 = 4
                  · have p4 : (x.f0 != 4) = false := by simp [k4]
                    have HK4 := Aside0.mk k4
                    clear k4
                    by_cases q3 : 200 < (x.f1.size : Int)
                    · skip
                      have HM := Aside0.mk (mayF_bad (x := x) (k := (k : Int)) (.inr (.inr (.inr (.inr (.inr q3))))))
                      have HN := Aside0.mk (show r = false by rw [← H0.out]; exact mayFs_bad HLt.out (by rw [← HX.out]; exact HM.out))
                      go_wp2
                      go_ret
                      exact ⟨ret_bool HN.out.symm, HB3.out⟩
                    · skip
                      have HM := Aside0.mk (mayF_good (x := x) (k := (k : Int)) q0 q1 HP2.out.symm HP3.out.symm (.inl HK4.out) q3)
                      go_wp2
                      go_roundg (gk - 1)
                      case measure => have := HG.out; have := HLt.out; omega
                      case rel =>
                        have h1 := HG.out
                        have h2 := HLt.out
                        exact ⟨k + 1, by omega, hNum.out, ⟨fun j hj => by rcases Nat.lt_succ_iff_lt_or_eq.1 hj with h | rfl; exact hz.out j h; rw [← HX.out]; exact HM.out⟩, HB3⟩
                  · have p4 : (x.f0 != 4) = true := by simp [k4]
                    have HK4 := Aside0.mk k4
                    clear k4
                    by_cases q2 : ¬ x.f1 = ByteArray.empty
                    · skip
                      have HM := Aside0.mk (mayF_bad (x := x) (k := (k : Int)) (.inr (.inr (.inr (.inr (.inl ⟨HK4.out, nonempty_size q2⟩))))))
                      have HN := Aside0.mk (show r = false by rw [← H0.out]; exact mayFs_bad HLt.out (by rw [← HX.out]; exact HM.out))
                      have q2n : 0 < x.f1.size := by have := nonempty_size q2; omega
                      go_wp2
                      go_ret
                      exact ⟨ret_bool HN.out.symm, HB3.out⟩
                    · skip
                      have q2' : ¬ 0 < (x.f1.size : Int) := by
                        rw [Classical.not_not.1 q2]; decide
                      by_cases q3 : 200 < (x.f1.size : Int)
                      · exact absurd q3 (by omega)
                      · skip
                        have HM := Aside0.mk (mayF_good (x := x) (k := (k : Int)) q0 q1 HP2.out.symm HP3.out.symm (.inr q2') q3)
                        go_wp2
                        go_roundg (gk - 1)
                        case measure => have := HG.out; have := HLt.out; omega
                        case rel =>
                          have h1 := HG.out
                          have h2 := HLt.out
                          exact ⟨k + 1, by omega, hNum.out, ⟨fun j hj => by rcases Nat.lt_succ_iff_lt_or_eq.1 hj with h | rfl; exact hz.out j h; rw [← HX.out]; exact HM.out⟩, HB3⟩
    · have i0 : ¬ (k : Int) < (fs.length : Int) := by omega
      obtain rfl : k = fs.length := by omega
      have hall : ((List.range fs.length).all fun k => mayF (fs.getD k z97) k) = true := List.all_eq_true.2 fun j hj => hz.out j (List.mem_range.1 hj)
      have hr := H0.out
      unfold mayFs at hr
      rw [hall, Bool.and_true] at hr
      by_cases q0 : 0 < fs.length
      · have q0' : (0 : Int) < (fs.length : Int) := by omega
        rw [decide_eq_true q0, Bool.true_and] at hr
        have HN := Aside0.mk (show decide ((fs.length : Int) ≤ 65536) = r by rw [← hr]; exact decide_eq_decide.2 (by omega))
        clear hall hr q0
        go_wp2
        go_ret
        exact ⟨ret_bool HN.out, HBr.out⟩
      · have q0' : ¬ (0 : Int) < (fs.length : Int) := by omega
        have HN := Aside0.mk (show r = false by rw [← hr, decide_eq_false q0]; rfl)
        clear hall hr q0
        go_wp2
        go_ret
        exact ⟨ret_bool HN.out.symm, HBr.out⟩

end Go.Proofs.Ytmpiokdomjchiaa.H
