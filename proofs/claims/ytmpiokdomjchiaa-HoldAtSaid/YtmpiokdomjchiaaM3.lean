/-
  Formulas in plain words: what a line says of a node; the walk of semblanceref38.Is.
  Walks: semblancelaw37.Light, semblancelaw38.light (some Bool), semblancelaw38.awake.
  The walk of semblancelaw38.HoldAt: it is always true.
-/
import Derived.Test.YtmpiokdomjchiaaM2
import Derived.Test.YtmpiokdomjchiaaPk
import Derived.Test.YtmpiokdomjchiaaSq
set_option linter.unusedVariables false
set_option linter.unnecessarySimpa false
set_option linter.unusedSimpArgs false
namespace Go.Proofs.Ytmpiokdomjchiaa.H
open Go.RowKit Go.Proofs.Ytmpiokdomjchiaa.Pr Go.Proofs.YtmpiokdomjchiaaW.PrintWords Go.Proofs.Ytmpiokdomjchiaa.Sem Go.Proofs.YtmpiokdomjchiaaW.PrintLast

/-- Where line i of a formula holds. -/
def lineAt (ls : List ByteArray) (es : List Ed) (fs : List Fm) (i : Nat) : Nat → Bool := (linesS ls es fs).getD i fun _ => false
theorem linesS_take (ls : List ByteArray) (es : List Ed) (fs : List Fm) : ∀ k, k ≤ fs.length → linesS ls es (fs.take k) = (linesS ls es fs).take k := by
  have h : ∀ (r : List Fm) (acc : List (Nat → Bool)), ∃ t, r.foldl (fun acc x => acc ++ [lineS ls es x acc]) acc = acc ++ t := by
    intro r
    induction r with
    | nil => intro acc; exact ⟨[], by simp⟩
    | cons x r ih =>
      intro acc
      obtain ⟨t, ht⟩ := ih (acc ++ [lineS ls es x acc])
      exact ⟨lineS ls es x acc :: t, by rw [List.foldl_cons, ht, List.append_assoc]; rfl⟩
  intro k hk
  have e : linesS ls es fs = (fs.drop k).foldl (fun acc x => acc ++ [lineS ls es x acc]) (linesS ls es (fs.take k)) := by
    unfold linesS
    rw [← List.foldl_append, List.take_append_drop]
  obtain ⟨t, ht⟩ := h (fs.drop k) (linesS ls es (fs.take k))
  have hl : (linesS ls es (fs.take k)).length = k := by rw [linesS_len, List.length_take]; omega
  rw [e, ht, List.take_append_of_le_length (Nat.le_of_eq hl.symm), List.take_of_length_le (Nat.le_of_eq hl)]
theorem lineAt_eq (ls : List ByteArray) (es : List Ed) (fs : List Fm) {i : Nat} (hi : i < fs.length) : lineAt ls es fs i = lineS ls es (fs.getD i z97) (linesS ls es (fs.take i)) := by
  unfold lineAt
  have h := linesS_take ls es fs (i + 1) (by omega)
  rw [take_snoc z97 hi, linesS_snoc] at h
  have h2 : (linesS ls es fs).getD i (fun _ => false) = ((linesS ls es fs).take (i + 1)).getD i (fun _ => false) := by
    simp only [List.getD_eq_getElem?_getD, List.getElem?_take]
    rw [if_pos (by omega)]
  rw [h2, ← h]
  have hl : (linesS ls es (fs.take i)).length = i := by rw [linesS_len, List.length_take]; omega
  rw [List.getD_eq_getElem?_getD, List.getElem?_append_right (by omega), hl]
  simp
theorem lineAt_ahead (ls : List ByteArray) (es : List Ed) (fs : List Fm) {i a : Nat} (hi : i ≤ fs.length) (ha : a < i) : (linesS ls es (fs.take i)).getD a (fun _ => false) = lineAt ls es fs a := by
  unfold lineAt
  rw [linesS_take ls es fs i hi]
  simp only [List.getD_eq_getElem?_getD, List.getElem?_take]
  rw [if_pos ha]
theorem idxP_holds {α : Type} (p : α → Bool) (d : α) : ∀ (xs : List α) (k : Nat), idxP p xs = (k : Int) → p (xs.getD k d) = true
  | [], k, h => by simp only [idxP] at h; omega
  | x :: r, k, h => by
    simp only [idxP] at h
    by_cases hp : p x = true
    · rw [if_pos hp] at h
      obtain rfl : k = 0 := by omega
      exact hp
    · rw [if_neg hp] at h
      split at h
      · omega
      · obtain ⟨m, rfl⟩ : ∃ m, k = m + 1 := ⟨k - 1, by omega⟩
        exact idxP_holds p d r m (by omega)
/-- A label's place tells the label. -/
theorem place_tell {n : Int} {ls : List ByteArray} {es : List Ed} (hm : mayR n ls es = true) (lab : ByteArray) {q : Nat} (hq : q < ls.length) : teq (ls.getD q ByteArray.empty) lab = decide ((q : Int) = placeS ls lab) := by
  rw [Bool.eq_iff_iff, decide_eq_true_eq]
  constructor
  · intro h
    have h' : (ls.getD q ByteArray.empty).toList = lab.toList := by unfold teq at h; exact beq_iff_eq.1 h
    have e : placeS ls lab = placeS ls (ls.getD q ByteArray.empty) := by unfold placeS teq; rw [h']
    rw [e, place_lab hm hq]
  · intro h
    have h0 : 0 ≤ placeS ls lab := by omega
    exact idxP_holds (fun x => teq x lab) ByteArray.empty ls q h.symm
theorem dia_law {n : Int} {ls : List ByteArray} {es : List Ed} (hm : mayR n ls es = true) (lab : ByteArray) (S : Nat → Bool) (x : Nat) : diaS ls es lab S x = (succL es x (placeS ls lab)).any fun s => S s.toNat := by
  unfold diaS succL
  rw [List.any_map, List.any_filter, Bool.eq_iff_iff]
  simp only [List.any_eq_true, Function.comp]
  constructor
  · rintro ⟨e, he, h⟩
    refine ⟨e, he, ?_⟩
    obtain ⟨l0, l1⟩ := es_lab hm he
    rw [place_tell hm lab (show e.f1.toNat < ls.length by omega), Int.toNat_of_nonneg l0] at h
    simp only [Bool.and_eq_true, decide_eq_true_eq] at h ⊢
    exact ⟨⟨h.2.2, h.1⟩, h.2.1⟩
  · rintro ⟨e, he, h⟩
    refine ⟨e, he, ?_⟩
    obtain ⟨l0, l1⟩ := es_lab hm he
    rw [place_tell hm lab (show e.f1.toNat < ls.length by omega), Int.toNat_of_nonneg l0]
    simp only [Bool.and_eq_true, decide_eq_true_eq] at h ⊢
    exact ⟨h.1.2, h.2, h.1.1⟩
theorem succ_node {n : Int} {ls : List ByteArray} {es : List Ed} (hm : mayR n ls es = true) {a b s : Int} (h : s ∈ succL es a b) : 0 ≤ s ∧ s < n := by
  unfold succL at h
  obtain ⟨e, he, rfl⟩ := List.mem_map.1 h
  exact (es_mem hm (List.mem_filter.1 he).1).2
/-- semblanceref38.Is: the calls ahead. -/
def IsIH (n : Nat) (ls : List ByteArray) (es : List Ed) (fs : List Fm) (A1 A2 A3 : Option Addr) (c1 c2 c3 : Nat) (w : World) (i : Nat) : Prop :=
  ∀ a, a < i → ∀ x, x < n → ∀ W, Below w.heap.size w W → Calls Try.prog 32 #[.agg #[Value.int IntKind.i64 (n : Int), Value.slice A1 ls.length c1, Value.slice A2 es.length c2], .slice A3 fs.length c3, .int .i64 (a : Int), .int .i64 (x : Int)] W fun e w' => e = .returned (.bool (lineAt ls es fs a x)) ∧ Below W.heap.size W w'
/-- The variables of semblanceref38.Is. -/
structure IsSt (w W : World) (n : Int) (v1 v2 : Value) (x : Fm) : Prop where
  box : BoxL W w.heap.size n v1 v2
  form : FormAt W (w.heap.size + 1) x
  below : Below w.heap.size w W
theorem IsSt.on {w W W1 : World} {n : Int} {v1 v2 : Value} {x : Fm} (h : IsSt w W n v1 v2 x) (hb : Below W.heap.size W W1) : IsSt w W1 n v1 v2 x :=
  ⟨h.box.below hb, h.form.below hb, below_then h.below h.below.size hb⟩

set_option maxHeartbeats 16000000 in
set_option maxRecDepth 100000 in
theorem ref38_step (n : Nat) (ls : List ByteArray) (es : List Ed) (fs : List Fm) (A1 A2 A3 : Option Addr) (c1 c2 c3 : Nat) (w : World) (hr1 : Kd.C Kd.string w A1 ls.length ls) (hr2 : Kd.C k81 w A2 es.length es) (hr3 : Kd.C k97 w A3 fs.length fs) (hm : mayR n ls es = true) (i : Nat) (hi : i < fs.length) (hx : mayF (fs.getD i z97) i = true) (x : Nat) (hxn : x < n) (hih : IsIH n ls es fs A1 A2 A3 c1 c2 c3 w i) :
    Calls Try.prog 32 #[.agg #[Value.int IntKind.i64 (n : Int), Value.slice A1 ls.length c1, Value.slice A2 es.length c2], .slice A3 fs.length c3, .int .i64 (i : Int), .int .i64 (x : Int)] w fun e w' => e = .returned (.bool (lineAt ls es fs i x)) ∧ Below w.heap.size w w' := by
  have HB := Aside0.mk (Below.refl w.heap.size w)
  have HR1 := Aside0.mk hr1
  have HR2 := Aside0.mk hr2
  have HM := Aside0.mk hm
  have HIH := Aside0.mk hih
  have hl := C_len hr3
  have hel := es_le hm
  obtain ⟨ad, hA, g0, g1, g2, g3⟩ := atFm hr3 i hi
  subst hA
  have hL := lineAt_eq ls es fs hi
  have hAh := fun a ha => lineAt_ahead ls es fs (Nat.le_of_lt hi) (a := a) ha
  obtain ⟨f, hf⟩ : ∃ f, f = fs.getD i z97 := ⟨_, rfl⟩
  rw [← hf] at g0 g1 g2 g3 hx hL
  obtain ⟨r, hr⟩ : ∃ r, r = lineAt ls es fs i x := ⟨_, rfl⟩
  rw [hL] at hr
  rw [hL, ← hr]
  obtain ⟨Ss, hSs⟩ : ∃ Ss, Ss = linesS ls es (fs.take i) := ⟨_, rfl⟩
  rw [← hSs] at hr hAh
  have HR := Aside0.mk hr
  have HAh := Aside0.mk hAh
  have i0 : (i : Int) < (fs.length : Int) := by omega
  have i1 : (0 : Int) ≤ (i : Int) := by omega
  clear hih hr1 hr2 hr3 hf hL hr hSs hAh hm hi
  have hw1 := below_alloc (Below.refl w.heap.size w) (Obj.cells #[Value.int IntKind.i64 (n : Int), Value.slice A1 ls.length c1, Value.slice A2 es.length c2] 25)
  have hw2 := below_alloc (Below.refl (w.alloc (Obj.cells #[Value.int IntKind.i64 (n : Int), Value.slice A1 ls.length c1, Value.slice A2 es.length c2] 25)).heap.size (w.alloc (Obj.cells #[Value.int IntKind.i64 (n : Int), Value.slice A1 ls.length c1, Value.slice A2 es.length c2] 25))) (.cells #[.int .i64 f.f0, .string f.f1, .int .i64 f.f2, .int .i64 f.f3] 97)
  have HS := Aside0.mk (show IsSt w _ (n : Int) (.slice A1 ls.length c1) (.slice A2 es.length c2) f from ⟨BoxL.below (blk_new w _) hw2, form_new _ (w.heap.size + 1) f (by simp), below_then hw1 hw1.size hw2⟩)
  replace g0 := later hw1 g0
  replace g1 := later hw1 g1
  replace g2 := later hw1 g2
  replace g3 := later hw1 g3
  clear hw1 hw2
  go_enter Try.func32, Try.ntmps32
  go_upto_region 2 with fail
  clear g0 g1 g2 g3
  generalize ((w.alloc (Obj.cells #[Value.int IntKind.i64 (n : Int), Value.slice A1 ls.length c1, Value.slice A2 es.length c2] 25)).alloc (Obj.cells #[Value.int IntKind.i64 f.f0, Value.string f.f1, Value.int IntKind.i64 f.f2, Value.int IntKind.i64 f.f3] 97)) = W at HS ⊢
  have b0 := HS.out.box.c0
  have b1 := HS.out.box.c1
  have b2 := HS.out.box.c2
  have b3 := HS.out.form.c0
  have b4 := HS.out.form.c1
  have b5 := HS.out.form.c2
  have b6 := HS.out.form.c3
  unfold mayF at hx
  by_cases k1 : f.f0 = 1
  · have p2 : (f.f0 == 2) = false := by simp [k1]
    have p3 : (f.f0 == 3) = false := by simp [k1]
    have p4 : (f.f0 == 4) = false := by simp [k1]
    have HN := Aside0.mk (show r = true by rw [HR.out]; unfold lineS; rw [if_neg (by omega), if_pos k1])
    clear k1 hx
    go_wp2
    go_ret
    exact ⟨ret_bool HN.out.symm, HS.out.below⟩
  · rw [if_neg k1] at hx
    by_cases k2 : f.f0 = 2
    · have p2 : (f.f0 == 2) = true := by simp [k2]
      rw [if_pos k2] at hx
      simp only [Bool.and_eq_true, inL, decide_eq_true_eq] at hx
      obtain ⟨a, ha⟩ := Int.eq_ofNat_of_zero_le hx.2.2.1
      have ha2 : a < i := by omega
      have HN := Aside0.mk (show r = !lineAt ls es fs a x by rw [HR.out]; unfold lineS; rw [if_neg (by omega), if_neg k1, if_pos k2, ha, Int.toNat_natCast, HAh.out a ha2])
      rw [ha] at b5
      have hq := HIH.out a ha2 x hxn W HS.out.below
      have HQ := Aside0.mk hq
      clear k1 k2 hx ha ha2 hq
      go_wp2_with fail
      refine HQ.out.mono ?_
      rintro e w3 ⟨rfl, hB⟩
      have HS3 := Aside0.mk (HS.out.on hB)
      clear hB
      go_wp2
      go_ret
      exact ⟨ret_bool HN.out.symm, HS3.out.below⟩
    · have p2 : (f.f0 == 2) = false := by simp [k2]
      rw [if_neg k2] at hx
      by_cases k3 : f.f0 = 3
      · have p3 : (f.f0 == 3) = true := by simp [k3]
        rw [if_pos k3] at hx
        simp only [Bool.and_eq_true, inL, decide_eq_true_eq] at hx
        obtain ⟨a, ha⟩ := Int.eq_ofNat_of_zero_le hx.2.1.1
        obtain ⟨b, hb⟩ := Int.eq_ofNat_of_zero_le hx.2.2.1
        have ha2 : a < i := by omega
        have hb2 : b < i := by omega
        have hN : r = (lineAt ls es fs a x && lineAt ls es fs b x) := by rw [HR.out]; unfold lineS; rw [if_neg (by omega), if_neg k1, if_neg k2, if_pos k3, ha, hb, Int.toNat_natCast, Int.toNat_natCast, HAh.out a ha2, HAh.out b hb2]
        rw [ha] at b5
        rw [hb] at b6
        have HQ := Aside0.mk (HIH.out a ha2 x hxn W HS.out.below)
        have HQ2 := Aside0.mk (HIH.out b hb2 x hxn)
        have HB6 := Aside0.mk hb
        clear k1 k2 k3 hx ha hb ha2 hb2
        cases qa : lineAt ls es fs a x with
        | false =>
          rw [qa] at HQ hN
          have HN := Aside0.mk (show r = false from hN)
          clear qa hN
          go_wp2_with fail
          refine HQ.out.mono ?_
          rintro e w3 ⟨rfl, hB⟩
          have HS3 := Aside0.mk (HS.out.on hB)
          clear hB
          go_wp2
          go_ret
          exact ⟨ret_bool HN.out.symm, HS3.out.below⟩
        | true =>
          rw [qa] at HQ hN
          rw [Bool.true_and] at hN
          have HN := Aside0.mk hN
          clear qa hN
          go_wp2_with fail
          refine HQ.out.mono ?_
          rintro e w3 ⟨rfl, hB⟩
          have HS3 := Aside0.mk (HS.out.on hB)
          clear hB b0 b1 b2 b3 b4 b5 b6
          have b0 := HS3.out.box.c0
          have b1 := HS3.out.box.c1
          have b2 := HS3.out.box.c2
          have b6 := HS3.out.form.c3
          rw [HB6.out] at b6
          go_wp2_with fail
          refine (HQ2.out _ HS3.out.below).mono ?_
          rintro e w5 ⟨rfl, hB⟩
          have HS5 := Aside0.mk (HS3.out.on hB)
          clear hB
          go_wp2
          go_ret
          exact ⟨ret_bool HN.out.symm, HS5.out.below⟩
      · have p3 : (f.f0 == 3) = false := by simp [k3]
        rw [if_neg k3] at hx
        have k4 : f.f0 = 4 := by
          by_cases h : f.f0 = 4
          · exact h
          · rw [if_neg h] at hx; cases hx
        have p4 : (f.f0 == 4) = true := by simp [k4]
        rw [if_pos k4] at hx
        simp only [Bool.and_eq_true, inL, decide_eq_true_eq] at hx
        obtain ⟨a, ha⟩ := Int.eq_ofNat_of_zero_le hx.2.2.1
        have ha2 : a < i := by omega
        have HN := Aside0.mk (show r = (succL es x (placeS ls f.f1)).any fun s => lineAt ls es fs a s.toNat by rw [HR.out]; unfold lineS; rw [if_pos k4, ha, Int.toNat_natCast, HAh.out a ha2, dia_law HM.out])
        have ha0 := ha
        rw [ha] at b5
        have HIa := Aside0.mk (HIH.out a ha2)
        have HP := Aside0.mk (place02_any ls f.f1 A1 c1 W (Kd.C_below HR1.out HS.out.below))
        have HSu : ∀ p W', Below w.heap.size w W' → Calls Try.prog 64 #[.agg #[.int .i64 (n : Int), .slice A1 ls.length c1, .slice A2 es.length c2], .int .i64 (x : Int), .int .i64 p] W' (MadeI W' (succL es x p)) := fun p W' hW => succ_any n ls es x p _ A2 c2 W' (Kd.C_below HR2.out hW) hel
        have HSu' := Lib.hid HSu
        have HNd := Aside0.mk (fun s (hs : s ∈ succL es x (placeS ls f.f1)) => succ_node HM.out hs)
        generalize placeS ls f.f1 = p at HN HP HNd
        have HSp := Aside0.mk (HSu'.out p)
        have hLl : (succL es x p).length ≤ 1000000 := Nat.le_trans (succL_len es x p) hel
        obtain ⟨L, hL⟩ : ∃ L, L = succL es x p := ⟨_, rfl⟩
        rw [← hL] at HN HNd HSp hLl
        clear k1 k2 k3 k4 hx ha ha2 HSu HSu' hL hel
        go_wp2_with fail
        refine HP.out.mono ?_
        rintro e w3 ⟨rfl, rfl⟩
        go_wp2_with fail
        refine (HSp.out _ HS.out.below).mono ?_
        rintro e w4 ⟨v, rfl, hRr, hB⟩
        obtain ⟨Aa, ca, rfl, _, hCa⟩ := Kd.R_reads hRr
        have HCa := Aside0.mk hCa
        have HS4 := Aside0.mk (HS.out.on hB)
        have HA5 := Aside0.mk b5
        have HAe := Aside0.mk ha0
        clear hB hRr hCa b0 b1 b2 b3 b4 b5 b6 HP HSp HS ha0
        go_wp2
        go_loopw [12] (fun v wr => ∃ k : Nat, k ≤ L.length ∧ v = .int .i64 k ∧ Aside0 (∀ j, j < k → lineAt ls es fs a (L.getD j 0).toNat = false) ∧ Aside0 (Below w4.heap.size w4 wr)) (fun v _ => L.length - (intOf v).toNat)
        case atStart => exact ⟨0, Nat.zero_le _, rfl, ⟨fun j hj => by omega⟩, ⟨Below.refl _ _⟩⟩
        case round =>
          obtain ⟨k, hk, rfl, hz, HBr⟩ := hrel
          have HSr := Aside0.mk (HS4.out.on HBr.out)
          by_cases hlt : k < L.length
          · obtain ⟨al, hA, q0⟩ := atI (Kd.C_below HCa.out HBr.out) k hlt
            subst hA
            have j0 : (k : Int) < (L.length : Int) := by omega
            have hs := HNd.out (L.getD k 0) (by rw [List.getD_eq_getElem?_getD, List.getElem?_eq_getElem hlt]; exact List.getElem_mem _)
            obtain ⟨y, hy⟩ := Int.eq_ofNat_of_zero_le hs.1
            have hy2 : y < n := by omega
            have HY := Aside0.mk hy
            rw [hy] at q0
            have HC := Aside0.mk (HIa.out y hy2)
            have b2' := HSr.out.form.c2
            rw [HAe.out] at b2'
            clear hs hy hy2
            cases qs : lineAt ls es fs a y with
            | true =>
              rw [qs] at HC
              have HN2 := Aside0.mk (show r = true by
                rw [HN.out, List.any_eq_true]
                exact ⟨L.getD k 0, by rw [List.getD_eq_getElem?_getD, List.getElem?_eq_getElem hlt]; exact List.getElem_mem _, by rw [HY.out, Int.toNat_natCast]; exact qs⟩)
              clear qs
              go_wp2_with fail
              refine start_ (n := 9) (S := fun w' => w'.cell? ⟨w.heap.size, 0, none⟩ = some (.int .i64 (n : Int)) ∧ w'.cell? ⟨w.heap.size, 1, none⟩ = some (.slice A1 ls.length c1) ∧ w'.cell? ⟨w.heap.size, 2, none⟩ = some (.slice A2 es.length c2) ∧ w'.cell? ⟨w.heap.size + 1, 2, none⟩ = some (.int .i64 (a : Int)) ∧ w'.cell? (al.add k) = some (.int .i64 (y : Int))) (ds := []) #[false, false, false, false, false, false, false, false, false] (by kernel_rfl) rfl rfl ⟨HSr.out.box.c0, HSr.out.box.c1, HSr.out.box.c2, b2', q0⟩ (fun hHeld => ?_)
              have HS1 := Aside0.mk (HSr.out.on (below_drew1 (Below.refl wr.heap.size wr)))
              clear b2' q0
              generalize wr.drew = V at HS1 hHeld ⊢
              refine pure_ (i := 1) (N := some 62) (v := ?_) (a' := ?_) #[false, true, false, false, false, false, false, false, false] rfl rfl (by kernel_rfl) (fun _ _ _ h => h) (Or.inl ⟨by rfl, ?_⟩) ?_ ?_
              rotate_left
              · intro w'
                go_simp
                with_reducible rfl
              rotate_left
              · simp only [Act.put, List.setIfInBounds_toArray, List.set_cons_zero, List.set_cons_succ, i64_w, i32_w]
                rfl
              refine pure_ (i := 2) (N := some 63) (v := ?_) (a' := ?_) #[false, true, true, false, false, false, false, false, false] rfl rfl (by kernel_rfl) (fun _ _ _ h => h) (Or.inl ⟨by rfl, ?_⟩) ?_ ?_
              rotate_left
              · intro w'
                go_simp
                with_reducible rfl
              rotate_left
              · simp only [Act.put, List.setIfInBounds_toArray, List.set_cons_zero, List.set_cons_succ, i64_w, i32_w]
                rfl
              refine pure_ (i := 4) (N := some 65) (v := ?_) (a' := ?_) #[false, true, true, false, true, false, false, false, false] rfl rfl (by kernel_rfl) (fun _ _ _ h => h) (Or.inl ⟨by rfl, ?_⟩) ?_ ?_
              rotate_left
              · intro w'
                go_simp
                with_reducible rfl
              rotate_left
              · simp only [Act.put, List.setIfInBounds_toArray, List.set_cons_zero, List.set_cons_succ, i64_w, i32_w]
                rfl
              refine pure_ (i := 5) (N := some 66) (v := ?_) (a' := ?_) #[false, true, true, false, true, true, false, false, false] rfl rfl (by kernel_rfl) (fun _ _ _ h => h) (Or.inl ⟨by rfl, ?_⟩) ?_ ?_
              rotate_left
              · intro w'
                go_simp
                with_reducible rfl
              rotate_left
              · simp only [Act.put, List.setIfInBounds_toArray, List.set_cons_zero, List.set_cons_succ, i64_w, i32_w]
                rfl
              refine pure_ (i := 6) (N := some 67) (v := ?_) (a' := ?_) #[false, true, true, false, true, true, true, false, false] rfl rfl (by kernel_rfl) (fun _ _ _ h => h) (Or.inl ⟨by rfl, ?_⟩) ?_ ?_
              rotate_left
              · intro w'
                go_simp
                with_reducible rfl
              rotate_left
              · simp only [Act.put, List.setIfInBounds_toArray, List.set_cons_zero, List.set_cons_succ, i64_w, i32_w]
                rfl
              refine take_ (i := 0) (N := some 61) (v := ?_) (a' := ?_) #[true, true, true, false, true, true, true, false, false] rfl rfl (by kernel_rfl) (fun _ _ _ h => h) (Or.inl ⟨by rfl, ?_⟩) hHeld ?_ ?_
              rotate_left
              · rintro w' ⟨s0, s1, s2, s3, s4⟩
                go_simp
                with_reducible rfl
              rotate_left
              · simp only [Act.put, List.setIfInBounds_toArray, List.set_cons_zero, List.set_cons_succ, i64_w, i32_w]
                rfl
              refine take_ (i := 3) (N := some 64) (v := ?_) (a' := ?_) #[true, true, true, true, true, true, true, false, false] rfl rfl (by kernel_rfl) (fun _ _ _ h => h) (Or.inl ⟨by rfl, ?_⟩) hHeld ?_ ?_
              rotate_left
              · rintro w' ⟨s0, s1, s2, s3, s4⟩
                go_simp
                with_reducible rfl
              rotate_left
              · simp only [Act.put, List.setIfInBounds_toArray, List.set_cons_zero, List.set_cons_succ, i64_w, i32_w]
                rfl
              refine take_ (i := 7) (N := some 68) (v := ?_) (a' := ?_) #[true, true, true, true, true, true, true, true, false] rfl rfl (by kernel_rfl) (fun _ _ _ h => h) (Or.inl ⟨by rfl, ?_⟩) hHeld ?_ ?_
              rotate_left
              · rintro w' ⟨s0, s1, s2, s3, s4⟩
                go_simp
                with_reducible rfl
              rotate_left
              · simp only [Act.put, List.setIfInBounds_toArray, List.set_cons_zero, List.set_cons_succ, i64_w, i32_w]
                rfl
              refine one_ (i := 8) (N := some 69) #[true, true, true, true, true, true, true, true, true] rfl rfl (by kernel_rfl) (by decide) (fun K hK => ?_)
              refine goes_ Try.func32 (by kernel_rfl) rfl #[.agg #[Value.int IntKind.i64 (n : Int), Value.slice A1 ls.length c1, Value.slice A2 es.length c2], .slice (some ad) fs.length c3, .int .i64 (a : Int), .int .i64 (y : Int)] (by rfl) rfl rfl (by simp only [List.map_toArray, List.map_cons, List.map_nil]; rfl) ?_
              refine (HC.out V HS1.out.below).mono ?_
              rintro e w5 ⟨rfl, hB⟩
              refine ⟨_, rfl, ?_⟩
              have HB5 := Aside0.mk hB
              have HS5 := Aside0.mk (HS1.out.on hB)
              clear hB
              refine hK.out _ _ ⟨H.later HB5.out hHeld.1, H.later HB5.out hHeld.2.1, H.later HB5.out hHeld.2.2.1, H.later HB5.out hHeld.2.2.2.1, H.later HB5.out hHeld.2.2.2.2⟩ (fun hHeld => ?_)
              clear hK K
              refine norm_ (a' := ?_) ?_ ?_
              rotate_left
              · show Act.put _ (some 69) _ = _
                simp only [Act.put, List.setIfInBounds_toArray, List.set_cons_zero, List.set_cons_succ, i64_w, i32_w]
                rfl
              refine done_ (by kernel_rfl) ?_
              go_wp2
              go_ret
              exact ⟨ret_bool HN2.out.symm, HS5.out.below⟩
            | false =>
              rw [qs] at HC
              have HQs := Aside0.mk qs
              clear qs
              go_wp2_with fail
              refine start_ (n := 9) (S := fun w' => w'.cell? ⟨w.heap.size, 0, none⟩ = some (.int .i64 (n : Int)) ∧ w'.cell? ⟨w.heap.size, 1, none⟩ = some (.slice A1 ls.length c1) ∧ w'.cell? ⟨w.heap.size, 2, none⟩ = some (.slice A2 es.length c2) ∧ w'.cell? ⟨w.heap.size + 1, 2, none⟩ = some (.int .i64 (a : Int)) ∧ w'.cell? (al.add k) = some (.int .i64 (y : Int))) (ds := []) #[false, false, false, false, false, false, false, false, false] (by kernel_rfl) rfl rfl ⟨HSr.out.box.c0, HSr.out.box.c1, HSr.out.box.c2, b2', q0⟩ (fun hHeld => ?_)
              have hd := below_drew1 (Below.refl wr.heap.size wr)
              have HS1 := Aside0.mk (HSr.out.on hd)
              have HB1 := Aside0.mk (below_then HBr.out HBr.out.size hd)
              clear b2' q0 hd
              generalize wr.drew = V at HS1 HB1 hHeld ⊢
              refine pure_ (i := 1) (N := some 62) (v := ?_) (a' := ?_) #[false, true, false, false, false, false, false, false, false] rfl rfl (by kernel_rfl) (fun _ _ _ h => h) (Or.inl ⟨by rfl, ?_⟩) ?_ ?_
              rotate_left
              · intro w'
                go_simp
                with_reducible rfl
              rotate_left
              · simp only [Act.put, List.setIfInBounds_toArray, List.set_cons_zero, List.set_cons_succ, i64_w, i32_w]
                rfl
              refine pure_ (i := 2) (N := some 63) (v := ?_) (a' := ?_) #[false, true, true, false, false, false, false, false, false] rfl rfl (by kernel_rfl) (fun _ _ _ h => h) (Or.inl ⟨by rfl, ?_⟩) ?_ ?_
              rotate_left
              · intro w'
                go_simp
                with_reducible rfl
              rotate_left
              · simp only [Act.put, List.setIfInBounds_toArray, List.set_cons_zero, List.set_cons_succ, i64_w, i32_w]
                rfl
              refine pure_ (i := 4) (N := some 65) (v := ?_) (a' := ?_) #[false, true, true, false, true, false, false, false, false] rfl rfl (by kernel_rfl) (fun _ _ _ h => h) (Or.inl ⟨by rfl, ?_⟩) ?_ ?_
              rotate_left
              · intro w'
                go_simp
                with_reducible rfl
              rotate_left
              · simp only [Act.put, List.setIfInBounds_toArray, List.set_cons_zero, List.set_cons_succ, i64_w, i32_w]
                rfl
              refine pure_ (i := 5) (N := some 66) (v := ?_) (a' := ?_) #[false, true, true, false, true, true, false, false, false] rfl rfl (by kernel_rfl) (fun _ _ _ h => h) (Or.inl ⟨by rfl, ?_⟩) ?_ ?_
              rotate_left
              · intro w'
                go_simp
                with_reducible rfl
              rotate_left
              · simp only [Act.put, List.setIfInBounds_toArray, List.set_cons_zero, List.set_cons_succ, i64_w, i32_w]
                rfl
              refine pure_ (i := 6) (N := some 67) (v := ?_) (a' := ?_) #[false, true, true, false, true, true, true, false, false] rfl rfl (by kernel_rfl) (fun _ _ _ h => h) (Or.inl ⟨by rfl, ?_⟩) ?_ ?_
              rotate_left
              · intro w'
                go_simp
                with_reducible rfl
              rotate_left
              · simp only [Act.put, List.setIfInBounds_toArray, List.set_cons_zero, List.set_cons_succ, i64_w, i32_w]
                rfl
              refine take_ (i := 0) (N := some 61) (v := ?_) (a' := ?_) #[true, true, true, false, true, true, true, false, false] rfl rfl (by kernel_rfl) (fun _ _ _ h => h) (Or.inl ⟨by rfl, ?_⟩) hHeld ?_ ?_
              rotate_left
              · rintro w' ⟨s0, s1, s2, s3, s4⟩
                go_simp
                with_reducible rfl
              rotate_left
              · simp only [Act.put, List.setIfInBounds_toArray, List.set_cons_zero, List.set_cons_succ, i64_w, i32_w]
                rfl
              refine take_ (i := 3) (N := some 64) (v := ?_) (a' := ?_) #[true, true, true, true, true, true, true, false, false] rfl rfl (by kernel_rfl) (fun _ _ _ h => h) (Or.inl ⟨by rfl, ?_⟩) hHeld ?_ ?_
              rotate_left
              · rintro w' ⟨s0, s1, s2, s3, s4⟩
                go_simp
                with_reducible rfl
              rotate_left
              · simp only [Act.put, List.setIfInBounds_toArray, List.set_cons_zero, List.set_cons_succ, i64_w, i32_w]
                rfl
              refine take_ (i := 7) (N := some 68) (v := ?_) (a' := ?_) #[true, true, true, true, true, true, true, true, false] rfl rfl (by kernel_rfl) (fun _ _ _ h => h) (Or.inl ⟨by rfl, ?_⟩) hHeld ?_ ?_
              rotate_left
              · rintro w' ⟨s0, s1, s2, s3, s4⟩
                go_simp
                with_reducible rfl
              rotate_left
              · simp only [Act.put, List.setIfInBounds_toArray, List.set_cons_zero, List.set_cons_succ, i64_w, i32_w]
                rfl
              refine one_ (i := 8) (N := some 69) #[true, true, true, true, true, true, true, true, true] rfl rfl (by kernel_rfl) (by decide) (fun K hK => ?_)
              refine goes_ Try.func32 (by kernel_rfl) rfl #[.agg #[Value.int IntKind.i64 (n : Int), Value.slice A1 ls.length c1, Value.slice A2 es.length c2], .slice (some ad) fs.length c3, .int .i64 (a : Int), .int .i64 (y : Int)] (by rfl) rfl rfl (by simp only [List.map_toArray, List.map_cons, List.map_nil]; rfl) ?_
              refine (HC.out V HS1.out.below).mono ?_
              rintro e w5 ⟨rfl, hB⟩
              refine ⟨_, rfl, ?_⟩
              have HB5 := Aside0.mk hB
              have HB6 := Aside0.mk (below_then HB1.out HB1.out.size hB)
              clear hB
              refine hK.out _ _ ⟨H.later HB5.out hHeld.1, H.later HB5.out hHeld.2.1, H.later HB5.out hHeld.2.2.1, H.later HB5.out hHeld.2.2.2.1, H.later HB5.out hHeld.2.2.2.2⟩ (fun hHeld => ?_)
              clear hK K
              refine norm_ (a' := ?_) ?_ ?_
              rotate_left
              · show Act.put _ (some 69) _ = _
                simp only [Act.put, List.setIfInBounds_toArray, List.set_cons_zero, List.set_cons_succ, i64_w, i32_w]
                rfl
              refine done_ (by kernel_rfl) ?_
              go_wp2
              go_roundw
              case rel => exact ⟨k + 1, by omega, by go_num, ⟨fun j hj => by rcases Nat.lt_succ_iff_lt_or_eq.1 hj with h | rfl; exact hz.out j h; rw [HY.out, Int.toNat_natCast]; exact HQs.out⟩, HB6⟩
              case measure => simp [intOf]; omega
          · have j0 : ¬ (k : Int) < (L.length : Int) := by omega
            have HN2 := Aside0.mk (show r = false by
              rw [HN.out, List.any_eq_false]
              intro s hs
              obtain ⟨j, hj, e⟩ := List.getElem_of_mem hs
              have := hz.out j (by omega)
              rw [List.getD_eq_getElem?_getD, List.getElem?_eq_getElem hj] at this
              simp only [Option.getD_some] at this
              rw [← e, this]
              simp)
            go_wp2
            go_ret
            exact ⟨ret_bool HN2.out.symm, HSr.out.below⟩
theorem mayFs_at {fs : List Fm} (h : mayFs fs = true) {k : Nat} (hk : k < fs.length) : mayF (fs.getD k z97) k = true := by
  unfold mayFs at h
  simp only [Bool.and_eq_true] at h
  exact List.all_eq_true.1 h.2.2 k (List.mem_range.2 hk)
theorem ref38_is (n : Nat) (ls : List ByteArray) (es : List Ed) (fs : List Fm) (A1 A2 A3 : Option Addr) (c1 c2 c3 : Nat) (hm : mayR n ls es = true) (hf : mayFs fs = true) (i : Nat) : ∀ (w : World) (hr1 : Kd.C Kd.string w A1 ls.length ls) (hr2 : Kd.C k81 w A2 es.length es) (hr3 : Kd.C k97 w A3 fs.length fs) (hi : i < fs.length) (x : Nat) (hxn : x < n),
    Calls Try.prog 32 #[.agg #[Value.int IntKind.i64 (n : Int), Value.slice A1 ls.length c1, Value.slice A2 es.length c2], .slice A3 fs.length c3, .int .i64 (i : Int), .int .i64 (x : Int)] w fun e w' => e = .returned (.bool (lineAt ls es fs i x)) ∧ Below w.heap.size w w' := by
  induction i using Nat.strongRecOn with
  | _ i ih =>
    intro w hr1 hr2 hr3 hi x hxn
    exact ref38_step n ls es fs A1 A2 A3 c1 c2 c3 w hr1 hr2 hr3 hm i hi (mayFs_at hf hi) x hxn (fun a ha y hy W hW => ih a ha W (Kd.C_below hr1 hW) (Kd.C_below hr2 hW) (Kd.C_below hr3 hW) (by omega) y hy)

end Go.Proofs.Ytmpiokdomjchiaa.H

set_option linter.unusedVariables false
set_option linter.unnecessarySimpa false
set_option linter.unusedSimpArgs false
namespace Go.Proofs.Ytmpiokdomjchiaa.H
open Go.RowKit Go.Proofs.Ytmpiokdomjchiaa.Pr Go.Proofs.YtmpiokdomjchiaaW.PrintWords Go.Proofs.Ytmpiokdomjchiaa.Sem Go.Proofs.YtmpiokdomjchiaaW.PrintLast

/-- A truth value came back. -/
def SomeB (e : Ending) : Prop := ∃ r, e = .returned (.bool r)
set_option maxRecDepth 100000 in
theorem light37_some (fs : List Fm) (A : Option Addr) (c : Nat) (w : World) (hr : Kd.C k97 w A fs.length fs) :
    Calls Try.prog 70 #[.slice A fs.length c] w fun e w' => SomeB e ∧ Below w.heap.size w w' := by
  have hl := C_len hr
  have HR := Aside0.mk hr
  have HB := Aside0.mk (Below.refl w.heap.size w)
  clear hr
  go_enter Try.func70, Try.ntmps70
  go_wp2
  go_loopw [3] (fun i wr => ∃ k : Nat, k ≤ fs.length ∧ i = .int .i64 k ∧ Aside0 (Below w.heap.size w wr)) (fun i _ => fs.length - (intOf i).toNat)
  case atStart => exact ⟨0, Nat.zero_le _, rfl, HB⟩
  case round =>
    obtain ⟨k, hk, rfl, HBr⟩ := hrel
    by_cases hlt : k < fs.length
    · have i0 : (k : Int) < (fs.length : Int) := by omega
      by_cases h20 : (k : Int) < 20
      · obtain ⟨ad, hA, g0, g1, g2, g3⟩ := atFm HR.out k hlt
        subst hA
        replace g1 := later HBr.out g1
        generalize (fs.getD k z97).f1 = s at g1
        clear g0 g2 g3
        by_cases hs : 300 < (s.size : Int)
        · go_wp2
          go_ret
          exact ⟨⟨_, rfl⟩, HBr.out⟩
        · go_wp2
          go_roundw
          case rel => exact ⟨k + 1, by omega, by go_num, HBr⟩
          case measure => simp [intOf]; omega
      · go_wp2
        go_ret
        exact ⟨⟨_, rfl⟩, HBr.out⟩
    · have i0 : ¬ (k : Int) < (fs.length : Int) := by omega
      go_wp2
      go_ret
      exact ⟨⟨_, rfl⟩, HBr.out⟩

set_option maxHeartbeats 2000000 in
set_option maxRecDepth 100000 in
theorem light38_some (n : Int) (ls : List ByteArray) (es : List Ed) (fs : List Fm) (A1 A2 A3 : Option Addr) (c1 c2 c3 : Nat) (w : World) (hr1 : Kd.C Kd.string w A1 ls.length ls) (hl2 : es.length ≤ 9223372036854775807) (hr3 : Kd.C k97 w A3 fs.length fs) :
    Calls Try.prog 26 #[.agg #[.int .i64 n, .slice A1 ls.length c1, .slice A2 es.length c2], .slice A3 fs.length c3] w fun e w' => SomeB e ∧ Below w.heap.size w w' := by
  have HB := Aside0.mk (Below.refl w.heap.size w)
  have hl3 := C_len hr3
  have HLt : ∀ W, Below w.heap.size w W → Calls Try.prog 15 #[.agg #[.int .i64 n, .slice A1 ls.length c1, .slice A2 es.length c2]] W fun e w' => e = .returned (.bool (light33 n ls es)) ∧ Below W.heap.size W w' := fun W hW => light33_any n ls es A1 A2 c1 c2 W (Kd.C_below hr1 hW) hl2
  have HL7 : ∀ W, Below w.heap.size w W → Calls Try.prog 70 #[.slice A3 fs.length c3] W fun e w' => SomeB e ∧ Below W.heap.size W w' := fun W hW => light37_some fs A3 c3 W (Kd.C_below hr3 hW)
  have HLt' := Lib.hid HLt
  have HL7' := Lib.hid HL7
  have HX := Aside0.mk (show BoxL _ w.heap.size n (.slice A1 ls.length c1) (.slice A2 es.length c2) from blk_new w _)
  clear HLt HL7 hr1 hr3
  go_enter Try.func26, Try.ntmps26
  go_wp2_with fail
  refine (HLt'.out _ (below_alloc HB.out _)).mono ?_
  rintro e w1 ⟨rfl, hB⟩
  have HX1 := Aside0.mk (blk_below HX.out hB)
  have HB1 := Aside0.mk (below_then (below_alloc HB.out _) (by simp) hB)
  clear hB HX HLt'
  cases light33 n ls es with
  | false =>
    go_wp2
    go_ret
    exact ⟨⟨_, rfl⟩, HB1.out⟩
  | true =>
    go_wp2_with fail
    refine (HL7'.out _ HB1.out).mono ?_
    rintro e w2 ⟨⟨r7, rfl⟩, hB⟩
    have HX2 := Aside0.mk (blk_below HX1.out hB)
    have HB2 := Aside0.mk (below_then HB1.out HB1.out.size hB)
    have b0 := BoxL.c0 HX2.out
    have b2 := BoxL.c2 HX2.out
    clear hB HX1 HL7' HX2
    cases r7 with
    | false =>
      go_wp2
      go_ret
      exact ⟨⟨_, rfl⟩, HB2.out⟩
    | true =>
      by_cases q0 : n ≤ 10
      · by_cases q2 : (es.length : Int) ≤ 25
        · go_wp2
          go_ret
          exact ⟨⟨_, rfl⟩, HB2.out⟩
        · go_wp2
          go_ret
          exact ⟨⟨_, rfl⟩, HB2.out⟩
      · by_cases q1 : 2048 < n
        · by_cases q2 : (es.length : Int) ≤ 25
          · go_wp2
            go_ret
            exact ⟨⟨_, rfl⟩, HB2.out⟩
          · go_wp2
            go_ret
            exact ⟨⟨_, rfl⟩, HB2.out⟩
        · go_wp2
          go_ret
          exact ⟨⟨_, rfl⟩, HB2.out⟩

def fsB : List Fm := [⟨1, ⟨#[]⟩, 0, 0⟩, ⟨4, ⟨#[97]⟩, 0, 0⟩]
theorem aw38_at : atL 2 lsA esB fsB = ([0], 0) := by kernel_rfl
theorem aw38_is0 : holdIs 2 lsA esB fsB 0 = true := by kernel_rfl
theorem aw38_is1 : holdIs 2 lsA esB fsB 1 = false := by kernel_rfl
theorem aw38_t01 : holdTells 2 lsA esB fsB 0 1 = true := by kernel_rfl
theorem aw38_t10 : holdTells 2 lsA esB fsB 1 0 = false := by kernel_rfl
theorem aw38_t02 : holdTells 2 lsA esB fsB 0 2 = false := by kernel_rfl
theorem C_fsB (W : World) : Kd.C k97 (W.alloc (.cells #[.int .i64 1, .string ⟨#[]⟩, .int .i64 0, .int .i64 0, .int .i64 4, .string ⟨#[97]⟩, .int .i64 0, .int .i64 0] 97)) (some ⟨W.heap.size, 0, none⟩) 2 fsB :=
  C_of_blk (ps := fsB) (cells := [.int .i64 1, .string ⟨#[]⟩, .int .i64 0, .int .i64 0, .int .i64 4, .string ⟨#[97]⟩, .int .i64 0, .int .i64 0]) (blk_new W _) (Reps.snoc (Reps.snoc (Reps.none _ _) (k97_mk _ (⟨1, ⟨#[]⟩, 0, 0⟩ : Fm)) rfl) (k97_mk _ (⟨4, ⟨#[97]⟩, 0, 0⟩ : Fm)) rfl) (by simp [fsB])

set_option maxHeartbeats 8000000 in
set_option maxRecDepth 100000 in
theorem awake38 (w : World) : Calls Try.prog 27 #[] w fun e w' => e = .returned (.bool true) ∧ Below w.heap.size w w' := by
  have HB := Aside0.mk (Below.refl w.heap.size w)
  go_enter Try.func27, Try.ntmps27
  go_wp2_with fail
  have HS : Aside0 (LSt w (((w.alloc (Obj.cells #[Value.string ⟨#[97]⟩] 9)).alloc (Obj.cells #[Value.int IntKind.i64 0, Value.int IntKind.i64 0, Value.int IntKind.i64 1] 81)).alloc (Obj.cells #[Value.int IntKind.i64 2, Value.slice (some ⟨w.heap.size, 0, none⟩) 1 1, Value.slice (some ⟨w.heap.size + 1, 0, none⟩) 1 1] 25)) (w.heap.size + 1 + 1) 2 lsA esB (some ⟨w.heap.size, 0, none⟩) (some ⟨w.heap.size + 1, 0, none⟩) 1 1) := by
    refine ⟨⟨?_, ?_, ?_, by repeat (first | exact HB.out | apply below_alloc)⟩⟩
    · exact box_new _ _ _ _ _ (by simp)
    · exact Kd.C_below (w := w.alloc (Obj.cells #[Value.string ⟨#[97]⟩] 9)) (C_lsA w) (below_alloc (below_alloc (Below.refl _ _) _) _)
    · refine Kd.C_below (w := (w.alloc (Obj.cells #[Value.string ⟨#[97]⟩] 9)).alloc (Obj.cells #[Value.int IntKind.i64 0, Value.int IntKind.i64 0, Value.int IntKind.i64 1] 81)) ?_ (below_alloc (Below.refl _ _) _)
      have := C_of_blk (d := k81) (ps := esB) (cells := [.int .i64 0, .int .i64 0, .int .i64 1]) (blk_new (w.alloc (Obj.cells #[Value.string ⟨#[97]⟩] 9)) (Obj.cells #[Value.int IntKind.i64 0, Value.int IntKind.i64 0, Value.int IntKind.i64 1] 81)) (Reps.snoc (Reps.none _ _) (k81_mk _ (⟨0, 0, 1⟩ : Ed)) rfl) (by simp [esB])
      simpa using this
  have HS1 := Aside0.mk (HS.out.on (below_alloc (Below.refl _ _) (Obj.cells #[Value.int IntKind.i64 1, Value.string ⟨#[]⟩, Value.int IntKind.i64 0, Value.int IntKind.i64 0, Value.int IntKind.i64 4, Value.string ⟨#[97]⟩, Value.int IntKind.i64 0, Value.int IntKind.i64 0] 97)))
  have HF1 : Aside0 (Kd.C k97 ((((w.alloc (Obj.cells #[Value.string ⟨#[97]⟩] 9)).alloc (Obj.cells #[Value.int IntKind.i64 0, Value.int IntKind.i64 0, Value.int IntKind.i64 1] 81)).alloc (Obj.cells #[Value.int IntKind.i64 2, Value.slice (some ⟨w.heap.size, 0, none⟩) 1 1, Value.slice (some ⟨w.heap.size + 1, 0, none⟩) 1 1] 25)).alloc (Obj.cells #[Value.int IntKind.i64 1, Value.string ⟨#[]⟩, Value.int IntKind.i64 0, Value.int IntKind.i64 0, Value.int IntKind.i64 4, Value.string ⟨#[97]⟩, Value.int IntKind.i64 0, Value.int IntKind.i64 0] 97)) (some ⟨w.heap.size + 1 + 1 + 1, 0, none⟩) 2 fsB) := ⟨by have := C_fsB (((w.alloc (Obj.cells #[Value.string ⟨#[97]⟩] 9)).alloc (Obj.cells #[Value.int IntKind.i64 0, Value.int IntKind.i64 0, Value.int IntKind.i64 1] 81)).alloc (Obj.cells #[Value.int IntKind.i64 2, Value.slice (some ⟨w.heap.size, 0, none⟩) 1 1, Value.slice (some ⟨w.heap.size + 1, 0, none⟩) 1 1] 25)); simpa using this⟩
  clear HS
  generalize ((((w.alloc (Obj.cells #[Value.string ⟨#[97]⟩] 9)).alloc (Obj.cells #[Value.int IntKind.i64 0, Value.int IntKind.i64 0, Value.int IntKind.i64 1] 81)).alloc (Obj.cells #[Value.int IntKind.i64 2, Value.slice (some ⟨w.heap.size, 0, none⟩) 1 1, Value.slice (some ⟨w.heap.size + 1, 0, none⟩) 1 1] 25)).alloc (Obj.cells #[Value.int IntKind.i64 1, Value.string ⟨#[]⟩, Value.int IntKind.i64 0, Value.int IntKind.i64 0, Value.int IntKind.i64 4, Value.string ⟨#[97]⟩, Value.int IntKind.i64 0, Value.int IntKind.i64 0] 97)) = W1 at HS1 HF1 ⊢
  -- hold.At
  have hq := hold_at_any 2 lsA esB fsB (some ⟨w.heap.size, 0, none⟩) (some ⟨w.heap.size + 1, 0, none⟩) (some ⟨w.heap.size + 1 + 1 + 1, 0, none⟩) 1 1 2 W1 HS1.out.cl HS1.out.ce HF1.out
  rw [aw38_at] at hq
  refine hq.mono ?_
  clear hq
  rintro e w2 ⟨v, rfl, hR, hB⟩
  obtain ⟨Aw, cw, rfl, _, hC⟩ := Kd.R_reads hR
  have HS2 := Aside0.mk (HS1.out.on hB)
  have HF2 := Aside0.mk (Kd.C_below HF1.out hB)
  have HC2 := Aside0.mk hC
  clear hB hR hC HS1 HF1
  -- the list
  have hbn := below_alloc (Below.refl w2.heap.size w2) (Obj.cells #[Value.int IntKind.i64 0] 3)
  have HS3 := Aside0.mk (HS2.out.on hbn)
  have HF3 := Aside0.mk (Kd.C_below HF2.out hbn)
  have HC3 := Aside0.mk (Kd.C_below HC2.out hbn)
  have HL3 := Aside0.mk (Kd.R_reads (oneI w2 w2.heap.size 0 (Nat.le_refl _)))
  clear hbn HS2 HF2 HC2
  go_wp2_with fail
  obtain ⟨Al, cl, hl, _, hCl⟩ := HL3.out
  injection hl with e1 e2 e3
  subst e1
  have hq := same01_any [0] [0] Aw (some ⟨w2.heap.size, 0, none⟩) cw 1 _ HC3.out hCl
  refine hq.mono ?_
  clear hq e2 e3 hCl
  rintro e w4 ⟨rfl, hD⟩
  have HS4 := Aside0.mk (HS3.out.on hD.below)
  have HF4 := Aside0.mk (Kd.C_below HF3.out hD.below)
  clear hD HS3 HF3 HC3 HL3
  rw [decide_eq_true rfl]
  have b0 := HS4.out.box.c0
  have b1 := HS4.out.box.c1
  have b2 := HS4.out.box.c2
  go_wp2_with fail
  clear b0 b1 b2
  have hq := hold_is_any 2 lsA esB fsB 0 true aw38_is0 (some ⟨w.heap.size, 0, none⟩) (some ⟨w.heap.size + 1, 0, none⟩) (some ⟨w.heap.size + 1 + 1 + 1, 0, none⟩) 1 1 2 _ HS4.out.cl HS4.out.ce HF4.out
  refine hq.mono ?_
  clear hq
  rintro e w5 ⟨rfl, hB⟩
  have HS5 := Aside0.mk (HS4.out.on hB)
  have HF5 := Aside0.mk (Kd.C_below HF4.out hB)
  clear hB HS4 HF4
  have b0 := HS5.out.box.c0
  have b1 := HS5.out.box.c1
  have b2 := HS5.out.box.c2
  go_wp2_with fail
  clear b0 b1 b2
  have hq := hold_is_any 2 lsA esB fsB 1 false aw38_is1 (some ⟨w.heap.size, 0, none⟩) (some ⟨w.heap.size + 1, 0, none⟩) (some ⟨w.heap.size + 1 + 1 + 1, 0, none⟩) 1 1 2 _ HS5.out.cl HS5.out.ce HF5.out
  refine hq.mono ?_
  clear hq
  rintro e w6 ⟨rfl, hB⟩
  have HS6 := Aside0.mk (HS5.out.on hB)
  have HF6 := Aside0.mk (Kd.C_below HF5.out hB)
  clear hB HS5 HF5
  have b0 := HS6.out.box.c0
  have b1 := HS6.out.box.c1
  have b2 := HS6.out.box.c2
  go_wp2_with fail
  clear b0 b1 b2
  have hq := hold_tells_any 2 lsA esB fsB 0 1 true aw38_t01 (some ⟨w.heap.size, 0, none⟩) (some ⟨w.heap.size + 1, 0, none⟩) (some ⟨w.heap.size + 1 + 1 + 1, 0, none⟩) 1 1 2 _ HS6.out.cl HS6.out.ce HF6.out
  refine hq.mono ?_
  clear hq
  rintro e w7 ⟨rfl, hB⟩
  have HS7 := Aside0.mk (HS6.out.on hB)
  have HF7 := Aside0.mk (Kd.C_below HF6.out hB)
  clear hB HS6 HF6
  have b0 := HS7.out.box.c0
  have b1 := HS7.out.box.c1
  have b2 := HS7.out.box.c2
  go_wp2_with fail
  clear b0 b1 b2
  have hq := hold_tells_any 2 lsA esB fsB 1 0 false aw38_t10 (some ⟨w.heap.size, 0, none⟩) (some ⟨w.heap.size + 1, 0, none⟩) (some ⟨w.heap.size + 1 + 1 + 1, 0, none⟩) 1 1 2 _ HS7.out.cl HS7.out.ce HF7.out
  refine hq.mono ?_
  clear hq
  rintro e w8 ⟨rfl, hB⟩
  have HS8 := Aside0.mk (HS7.out.on hB)
  have HF8 := Aside0.mk (Kd.C_below HF7.out hB)
  clear hB HS7 HF7
  have b0 := HS8.out.box.c0
  have b1 := HS8.out.box.c1
  have b2 := HS8.out.box.c2
  go_wp2_with fail
  clear b0 b1 b2
  have hq := hold_tells_any 2 lsA esB fsB 0 2 false aw38_t02 (some ⟨w.heap.size, 0, none⟩) (some ⟨w.heap.size + 1, 0, none⟩) (some ⟨w.heap.size + 1 + 1 + 1, 0, none⟩) 1 1 2 _ HS8.out.cl HS8.out.ce HF8.out
  refine hq.mono ?_
  clear hq
  rintro e w9 ⟨rfl, hB⟩
  have HS9 := Aside0.mk (HS8.out.on hB)
  have HF9 := Aside0.mk (Kd.C_below HF8.out hB)
  clear hB HS8 HF8
  go_wp2
  go_ret
  exact ⟨rfl, HS9.out.below⟩

end Go.Proofs.Ytmpiokdomjchiaa.H

set_option linter.unusedVariables false
set_option linter.unnecessarySimpa false
set_option linter.unusedSimpArgs false
namespace Go.Proofs.Ytmpiokdomjchiaa.H
open Go.RowKit Go.Proofs.Ytmpiokdomjchiaa.Pr Go.Proofs.YtmpiokdomjchiaaW.PrintWords Go.Proofs.Ytmpiokdomjchiaa.Sem Go.Proofs.YtmpiokdomjchiaaW.PrintLast

/-- Is a number a node of a set? -/
def inN (n : Nat) (S : Nat → Bool) (a : Int) : Bool := decide (0 ≤ a) && (decide (a < n) && S a.toNat)
theorem inI_elems (n : Nat) (S : Nat → Bool) (a : Int) : inI (elems n S) a = inN n S a := by
  unfold inI inN
  rw [Bool.eq_iff_iff, List.any_eq_true]
  simp only [Bool.and_eq_true, decide_eq_true_eq, beq_iff_eq]
  constructor
  · rintro ⟨y, hy, rfl⟩
    obtain ⟨i, h1, h2, e⟩ := mem_elems.1 hy
    subst e
    exact ⟨by omega, by omega, by rw [Int.toNat_natCast]; exact h2⟩
  · rintro ⟨h1, h2, h3⟩
    exact ⟨a, mem_elems.2 ⟨a.toNat, by omega, h3, by omega⟩, rfl⟩
theorem atL_yes {N : Nat} {ls : List ByteArray} {es : List Ed} {fs : List Fm} (hm : mayR (N : Int) ls es = true) (hf : mayFs fs = true) : atL (N : Int) ls es fs = (elems N (lineAt ls es fs (fs.length - 1)), 0) := by
  unfold atL
  rw [if_pos ⟨hm, hf⟩, Int.toNat_natCast]
  rfl
theorem holdIs_yes {N : Nat} {ls : List ByteArray} {es : List Ed} {fs : List Fm} (hm : mayR (N : Int) ls es = true) (hf : mayFs fs = true) (a : Int) : holdIs (N : Int) ls es fs a = inN N (lineAt ls es fs (fs.length - 1)) a := by
  unfold holdIs
  rw [atL_yes hm hf]
  exact inI_elems _ _ _
theorem holdTells_yes {N : Nat} {ls : List ByteArray} {es : List Ed} {fs : List Fm} (hm : mayR (N : Int) ls es = true) (hf : mayFs fs = true) (a b : Int) : holdTells (N : Int) ls es fs a b = (inN N (lineAt ls es fs (fs.length - 1)) a && inN N (fun x => !lineAt ls es fs (fs.length - 1) x) b) := by
  unfold holdTells
  rw [atL_yes hm hf, if_pos rfl, inI_elems, inI_elems]
  unfold inN
  by_cases h0 : 0 ≤ b
  · by_cases h1 : b < N
    · rw [if_pos h0, if_pos h1, decide_eq_true h0, decide_eq_true h1]
      simp
    · rw [if_pos h0, if_neg h1, decide_eq_false h1]
      simp
  · rw [if_neg h0, decide_eq_false h0]
    simp
theorem atL_no {n : Int} {ls : List ByteArray} {es : List Ed} {fs : List Fm} (h : ¬ (mayR n ls es = true ∧ mayFs fs = true)) : atL n ls es fs = ([], 1) := by
  unfold atL
  rw [if_neg h]
theorem holdIs_no {n : Int} {ls : List ByteArray} {es : List Ed} {fs : List Fm} (h : ¬ (mayR n ls es = true ∧ mayFs fs = true)) (a : Int) : holdIs n ls es fs a = false := by
  unfold holdIs
  rw [atL_no h]
  rfl
theorem holdTells_no {n : Int} {ls : List ByteArray} {es : List Ed} {fs : List Fm} (h : ¬ (mayR n ls es = true ∧ mayFs fs = true)) (a b : Int) : holdTells n ls es fs a b = false := by
  unfold holdTells
  rw [atL_no h, if_neg (by decide)]
theorem inN_lo {n : Nat} {S : Nat → Bool} {a : Int} (h : ¬ 0 ≤ a) : inN n S a = false := by unfold inN; rw [decide_eq_false h]; rfl
theorem inN_hi {n : Nat} {S : Nat → Bool} {a : Int} (h : ¬ a < n) : inN n S a = false := by unfold inN; rw [decide_eq_false h]; simp
theorem inN_in {n : Nat} {S : Nat → Bool} {i : Nat} (h : i < n) : inN n S (i : Int) = S i := by unfold inN; rw [decide_eq_true (show (0 : Int) ≤ (i : Int) by omega), decide_eq_true (show (i : Int) < n by omega), Int.toNat_natCast]; rfl

set_option maxHeartbeats 16000000 in
set_option maxRecDepth 100000 in
theorem holdAt_true (n : Int) (ls : List ByteArray) (es : List Ed) (fs : List Fm) (a b : Int) (A1 A2 A3 : Option Addr) (c1 c2 c3 : Nat) (w : World) (hr1 : Kd.C Kd.string w A1 ls.length ls) (hr2 : Kd.C k81 w A2 es.length es) (hr3 : Kd.C k97 w A3 fs.length fs) (hwf1 : (Lit.int .i64 a).wf = true) (hwf2 : (Lit.int .i64 b).wf = true) :
    Calls Try.prog 5 #[.agg #[.int .i64 n, .slice A1 ls.length c1, .slice A2 es.length c2], .slice A3 fs.length c3, .agg #[.int .i64 a, .int .i64 b]] w fun e w' => e = .returned (.bool true) ∧ Below w.heap.size w w' := by
  have HB := Aside0.mk (Below.refl w.heap.size w)
  have hl2 := C_len hr2
  have hl3 := C_len hr3
  have HLt : ∀ W, Below w.heap.size w W → Calls Try.prog 26 #[.agg #[.int .i64 n, .slice A1 ls.length c1, .slice A2 es.length c2], .slice A3 fs.length c3] W fun e w' => SomeB e ∧ Below W.heap.size W w' := fun W hW => light38_some n ls es fs A1 A2 A3 c1 c2 c3 W (Kd.C_below hr1 hW) hl2 (Kd.C_below hr3 hW)
  have HAt : ∀ W, Below w.heap.size w W → Calls Try.prog 28 #[.agg #[.int .i64 n, .slice A1 ls.length c1, .slice A2 es.length c2], .slice A3 fs.length c3] W (AtPost W (atL n ls es fs)) := fun W hW => hold_at_any n ls es fs A1 A2 A3 c1 c2 c3 W (Kd.C_below hr1 hW) (Kd.C_below hr2 hW) (Kd.C_below hr3 hW)
  have HMy : ∀ W, Below w.heap.size w W → Calls Try.prog 21 #[.agg #[.int .i64 n, .slice A1 ls.length c1, .slice A2 es.length c2]] W fun e w' => e = .returned (.bool (mayR n ls es)) ∧ Below W.heap.size W w' := fun W hW => may_any n ls es A1 A2 c1 c2 W (Kd.C_below hr1 hW) (Kd.C_below hr2 hW)
  have HM7 : ∀ W, Below w.heap.size w W → Calls Try.prog 29 #[.slice A3 fs.length c3] W fun e w' => e = .returned (.bool (mayFs fs)) ∧ Below W.heap.size W w' := fun W hW => may37_any fs _ rfl A3 c3 W (Kd.C_below hr3 hW)
  have HIs : ∀ W, Below w.heap.size w W → Calls Try.prog 30 #[.agg #[.int .i64 n, .slice A1 ls.length c1, .slice A2 es.length c2], .slice A3 fs.length c3, .int .i64 a] W fun e w' => e = .returned (.bool (holdIs n ls es fs a)) ∧ Below W.heap.size W w' := fun W hW => hold_is_any n ls es fs a _ rfl A1 A2 A3 c1 c2 c3 W (Kd.C_below hr1 hW) (Kd.C_below hr2 hW) (Kd.C_below hr3 hW)
  have HTe : ∀ W, Below w.heap.size w W → Calls Try.prog 31 #[.agg #[.int .i64 n, .slice A1 ls.length c1, .slice A2 es.length c2], .slice A3 fs.length c3, .int .i64 a, .int .i64 b] W fun e w' => e = .returned (.bool (holdTells n ls es fs a b)) ∧ Below W.heap.size W w' := fun W hW => hold_tells_any n ls es fs a b _ rfl A1 A2 A3 c1 c2 c3 W (Kd.C_below hr1 hW) (Kd.C_below hr2 hW) (Kd.C_below hr3 hW)
  have HR1 := Aside0.mk hr1
  have HR2 := Aside0.mk hr2
  have HR3 := Aside0.mk hr3
  have hbox : Below (w.alloc (Obj.cells #[Value.int IntKind.i64 n, Value.slice A1 ls.length c1, Value.slice A2 es.length c2] 25)).heap.size (w.alloc (Obj.cells #[Value.int IntKind.i64 n, Value.slice A1 ls.length c1, Value.slice A2 es.length c2] 25)) ((w.alloc (Obj.cells #[Value.int IntKind.i64 n, Value.slice A1 ls.length c1, Value.slice A2 es.length c2] 25)).alloc (Obj.cells #[Value.int IntKind.i64 a, Value.int IntKind.i64 b] 31)) := below_alloc (Below.refl _ _) _
  have HX0 := Aside0.mk (show BoxL _ w.heap.size n (.slice A1 ls.length c1) (.slice A2 es.length c2) from blk_below (blk_new w _) hbox)
  have HP0 := Aside0.mk (show ((w.alloc (Obj.cells #[Value.int IntKind.i64 n, Value.slice A1 ls.length c1, Value.slice A2 es.length c2] 25)).alloc (Obj.cells #[Value.int IntKind.i64 a, Value.int IntKind.i64 b] 31)).heap[w.heap.size + 1]? = some (.cells #[.int .i64 a, .int .i64 b] 31 (0, 0)) by have := blk_new (w.alloc (Obj.cells #[Value.int IntKind.i64 n, Value.slice A1 ls.length c1, Value.slice A2 es.length c2] 25)) (Obj.cells #[Value.int IntKind.i64 a, Value.int IntKind.i64 b] 31); simpa using this)
  have HB0 := Aside0.mk (below_alloc (below_alloc HB.out (Obj.cells #[Value.int IntKind.i64 n, Value.slice A1 ls.length c1, Value.slice A2 es.length c2] 25)) (Obj.cells #[Value.int IntKind.i64 a, Value.int IntKind.i64 b] 31))
  have HLt' := Lib.hid HLt
  clear HLt hr1 hr2 hr3 hwf1 hwf2 hbox
  have b0 := HX0.out.c0
  have b1 := HX0.out.c1
  have b2 := HX0.out.c2
  have HAt' := Lib.hid HAt
  have HMy' := Lib.hid HMy
  have HM7' := Lib.hid HM7
  have HIs' := Lib.hid HIs
  have HTe' := Lib.hid HTe
  clear HAt HMy HM7 HIs HTe
  go_enter Try.func5, Try.ntmps5
  go_wp2_with fail
  clear b0 b1 b2
  refine (HLt'.out _ HB0.out).mono ?_
  rintro e w2 ⟨⟨q, rfl⟩, hB⟩
  have HX2 := Aside0.mk (HX0.out.below hB)
  have HP2 := Aside0.mk (blk_below HP0.out hB)
  have HB2 := Aside0.mk (below_then HB0.out HB0.out.size hB)
  clear hB HX0 HP0 HB0 HLt'
  cases q with
  | false =>
    go_wp2_with fail
    refine (awake38 _).mono ?_
    rintro e w3 ⟨rfl, hB⟩
    have HB3 := Aside0.mk (below_then HB2.out HB2.out.size hB)
    clear hB
    go_wp2
    go_ret
    exact ⟨rfl, HB3.out⟩
  | true =>
    by_cases hmain : mayR n ls es = true ∧ mayFs fs = true
    · obtain ⟨hm, hf⟩ := hmain
      obtain ⟨N, rfl⟩ := Int.eq_ofNat_of_zero_le (show 0 ≤ n by have := (n_le hm).1; omega)
      have hN : N ≤ 2048 := by have := (n_le hm).2; omega
      have hfl : 0 < fs.length := by unfold mayFs at hf; simp only [Bool.and_eq_true, decide_eq_true_eq] at hf; exact hf.1
      have hIsF : ∀ (i : Nat), i < N → ∀ W, Below w.heap.size w W → Calls Try.prog 32 #[.agg #[Value.int IntKind.i64 (N : Int), Value.slice A1 ls.length c1, Value.slice A2 es.length c2], .slice A3 fs.length c3, .int .i64 ((fs.length : Int) - 1), .int .i64 (i : Int)] W fun e w' => e = .returned (.bool (lineAt ls es fs (fs.length - 1) i)) ∧ Below W.heap.size W w' := fun i hi W hW => by
        have := ref38_is N ls es fs A1 A2 A3 c1 c2 c3 hm hf (fs.length - 1) W (Kd.C_below HR1.out hW) (Kd.C_below HR2.out hW) (Kd.C_below HR3.out hW) (by omega) i hi
        rwa [show ((fs.length - 1 : Nat) : Int) = (fs.length : Int) - 1 by omega] at this
      have HIf := Aside0.mk hIsF
      rw [atL_yes hm hf] at HAt'
      rw [hm] at HMy'
      rw [hf] at HM7'
      rw [holdIs_yes hm hf] at HIs'
      rw [holdTells_yes hm hf] at HTe'
      generalize lineAt ls es fs (fs.length - 1) = S at HIf HAt' HIs' HTe'
      clear hIsF hm hf
      have b0 := HX2.out.c0
      have b1 := HX2.out.c1
      have b2 := HX2.out.c2
      go_wp2_with fail
      clear b0 b1 b2
      refine (HAt'.out _ HB2.out).mono ?_
      rintro e w3 ⟨v, rfl, hR, hB⟩
      obtain ⟨Aw, cw, rfl, _, hC⟩ := Kd.R_reads hR
      have HX3 := Aside0.mk (HX2.out.below hB)
      have HP3 := Aside0.mk (blk_below HP2.out hB)
      have HB3 := Aside0.mk (below_then HB2.out HB2.out.size hB)
      have HC3 := Aside0.mk hC
      clear hR hC hB HX2 HP2 HB2 HAt'
      go_wp2_with fail
      refine start_ (n := 6) (S := fun w' => w'.cell? ⟨w.heap.size + 1, 0, none⟩ = some (.int .i64 a) ∧ w'.cell? ⟨w.heap.size + 1, 1, none⟩ = some (.int .i64 b)) (ds := []) #[false, false, false, false, false, false] (by kernel_rfl) rfl rfl ⟨(blk_cell HP3.out 0).trans rfl, (blk_cell HP3.out 1).trans rfl⟩ (fun hHeld => ?_)
      refine pure_ (i := 0) (N := some 26) (v := ?_) (a' := ?_) #[true, false, false, false, false, false] rfl rfl (by kernel_rfl) (fun _ _ _ h => h) (Or.inl ⟨by rfl, ?_⟩) ?_ ?_
      rotate_left
      · intro w'
        go_simp
        with_reducible rfl
      rotate_left
      · simp only [Act.put, List.setIfInBounds_toArray, List.set_cons_zero, List.set_cons_succ, i64_w, i32_w]
        rfl
      refine pure_ (i := 2) (N := some 28) (v := ?_) (a' := ?_) #[true, false, true, false, false, false] rfl rfl (by kernel_rfl) (fun _ _ _ h => h) (Or.inl ⟨by rfl, ?_⟩) ?_ ?_
      rotate_left
      · intro w'
        go_simp
        with_reducible rfl
      rotate_left
      · simp only [Act.put, List.setIfInBounds_toArray, List.set_cons_zero, List.set_cons_succ, i64_w, i32_w]
        rfl
      refine take_ (i := 1) (N := some 27) (v := ?_) (a' := ?_) #[true, true, true, false, false, false] rfl rfl (by kernel_rfl) (fun _ _ _ h => h) (Or.inl ⟨by rfl, ?_⟩) hHeld ?_ ?_
      rotate_left
      · rintro w' ⟨s0, s1⟩
        go_simp
        with_reducible rfl
      rotate_left
      · simp only [Act.put, List.setIfInBounds_toArray, List.set_cons_zero, List.set_cons_succ, i64_w, i32_w]
        rfl
      refine pure_ (i := 4) (N := some 9) (v := ?_) (a' := ?_) #[true, true, true, false, true, false] rfl rfl (by kernel_rfl) (fun _ _ _ h => h) (Or.inl ⟨by rfl, ?_⟩) ?_ ?_
      rotate_left
      · intro w'
        go_simp
        with_reducible rfl
      rotate_left
      · simp only [Act.put, List.setIfInBounds_toArray, List.set_cons_zero, List.set_cons_succ, i64_w, i32_w]
        rfl
      refine take_ (i := 3) (N := some 29) (v := ?_) (a' := ?_) #[true, true, true, true, true, false] rfl rfl (by kernel_rfl) (fun _ _ _ h => h) (Or.inl ⟨by rfl, ?_⟩) hHeld ?_ ?_
      rotate_left
      · rintro w' ⟨s0, s1⟩
        go_simp
        with_reducible rfl
      rotate_left
      · simp only [Act.put, List.setIfInBounds_toArray, List.set_cons_zero, List.set_cons_succ, i64_w, i32_w]
        rfl
      refine pure_ (i := 5) (N := some 10) (v := ?_) (a' := ?_) #[true, true, true, true, true, true] rfl rfl (by kernel_rfl) (fun _ _ _ h => h) (Or.inl ⟨by rfl, ?_⟩) ?_ ?_
      rotate_left
      · intro w'
        go_simp
        with_reducible rfl
      rotate_left
      · simp only [Act.put, List.setIfInBounds_toArray, List.set_cons_zero, List.set_cons_succ, i64_w, i32_w]
        rfl
      refine done_ (by kernel_rfl) ?_
      have hd := below_drew1 (Below.refl w3.heap.size w3)
      have HX4 := Aside0.mk (HX3.out.below hd)
      have HB4 := Aside0.mk (below_then HB3.out HB3.out.size hd)
      have HC4 := Aside0.mk (Kd.C_below HC3.out hd)
      clear hd HX3 HP3 HB3 HC3 hHeld
      generalize w3.drew = W4 at HX4 HB4 HC4 ⊢
      have b0 := HX4.out.c0
      have b1 := HX4.out.c1
      have b2 := HX4.out.c2
      go_wp2_with fail
      clear b0 b1 b2
      refine (HMy'.out _ HB4.out).mono ?_
      rintro e w5 ⟨rfl, hB⟩
      have HX5 := Aside0.mk (HX4.out.below hB)
      have HB5 := Aside0.mk (below_then HB4.out HB4.out.size hB)
      have HC5 := Aside0.mk (Kd.C_below HC4.out hB)
      clear hB HX4 HB4 HC4
      go_wp2_with fail
      refine (HM7'.out _ HB5.out).mono ?_
      rintro e w6 ⟨rfl, hB⟩
      have HX6 := Aside0.mk (HX5.out.below hB)
      have HB6 := Aside0.mk (below_then HB5.out HB5.out.size hB)
      have HC6 := Aside0.mk (Kd.C_below HC5.out hB)
      clear hB HX5 HB5 HC5
      go_upto_block 0 with fail
      go_cut [11] (fun s11 wx => ∃ Al cl, s11 = .slice Al (elems N S).length cl ∧ Aside0 (Kd.C (Kd.int .i64) wx Al (elems N S).length (elems N S)) ∧ Aside0 (Below w6.heap.size w6 wx))
      case first =>
        go_wp2
        go_loopw [11, 12] (fun v i wr => ∃ k : Nat, k ≤ N ∧ i = .int .i64 k ∧ Aside0 (Kd.R (Kd.int .i64) 3 wr w6.heap.size (fun _ => True) v (elems k S)) ∧ Aside0 (Below w6.heap.size w6 wr)) (fun _ i _ => N - (intOf i).toNat)
        case atStart => exact ⟨0, Nat.zero_le _, rfl, ⟨by have := emptyI w6 w6.heap.size (Nat.le_refl _); simpa [elems] using this⟩, ⟨below_alloc (Below.refl _ _) _⟩⟩
        case round =>
          obtain ⟨k, hk, rfl, HO, HBr⟩ := hrel
          have HXr := Aside0.mk (HX6.out.below HBr.out)
          have HBw := Aside0.mk (below_then HB6.out HB6.out.size HBr.out)
          have b0 := HXr.out.c0
          have b1 := HXr.out.c1
          have b2 := HXr.out.c2
          by_cases hlt : k < N
          · have j0 : (k : Int) < (N : Int) := by omega
            have HSu := Aside0.mk (elems_succ k S)
            have hll := elems_len k S
            have HF := Aside0.mk (HIf.out k hlt)
            obtain ⟨L, hL⟩ : ∃ L, L = elems k S := ⟨_, rfl⟩
            rw [← hL] at HO HSu hll
            clear hL
            go_wp2_with fail
            clear b0 b1 b2
            refine (HF.out _ HBw.out).mono ?_
            rintro e w7 ⟨rfl, hB⟩
            have HO7 := Aside0.mk (Kd.R_below HO.out hB)
            have HB7 := Aside0.mk (below_then HBr.out HBr.out.size hB)
            clear hB
            cases hSk : S k with
            | false =>
              rw [hSk] at HSu
              clear hSk
              go_wp2
              go_roundw
              case rel => exact ⟨k + 1, by omega, by go_num, ⟨by rw [HSu.out]; simpa using HO7.out⟩, HB7⟩
              case measure => simp [intOf]; omega
            | true =>
              rw [hSk] at HSu
              clear hSk
              go_wp2_with (at_builtin; refine Kd.R_append (Kd.int .i64) (w0 := w6) w6.heap.size rfl (.tmp 77) (.tmp 79) 42 3 (.int .i64 0) 8 rfl Try.underlying42 info3 rfl (by decide) (by omega) u11 L (k : Int) [.int .i64 (k : Int)] (fun _ => True) (fun _ => False) rfl rfl rfl (fun _ hk => hk.elim) (fun _ _ => trivial) HO7.out HB7.out HB7.out.size (by omega) ?_; intro v9 w9 ho hb hg hat; have HO9 := Aside0.mk ho; have HB9 := Aside0.mk hb; clear ho hb hg hat)
              go_roundw
              case rel => exact ⟨k + 1, by omega, by go_num, ⟨by rw [HSu.out]; exact HO9.out⟩, HB9⟩
              case measure => simp [intOf]; omega
          · have j0 : ¬ (k : Int) < (N : Int) := by omega
            obtain rfl : k = N := by omega
            go_wp2
            go_meet
            case rel =>
              obtain ⟨Al, cl, e, _, hCl⟩ := Kd.R_reads HO.out
              exact ⟨Al, cl, e, ⟨hCl⟩, HBr⟩
      case rest =>
      obtain ⟨Al, cl, rfl, HCl, HBr⟩ := hcut
      have HXr := Aside0.mk (HX6.out.below HBr.out)
      have HBw := Aside0.mk (below_then HB6.out HB6.out.size HBr.out)
      have HC8 := Aside0.mk (Kd.C_below HC6.out HBr.out)
      clear HX6 HB6 HC6 HBr
      obtain ⟨wc1, hwc1⟩ : ∃ v, v = wc := ⟨_, rfl⟩
      subst hwc1
      go_upto_region 13 with fail
      go_cut [13] (fun s13 wx => s13 = .bool (inN N S a) ∧ Aside0 (Below wc1.heap.size wc1 wx))
      case first =>
        have b0 := HXr.out.c0
        have b1 := HXr.out.c1
        have b2 := HXr.out.c2
        by_cases a0 : 0 ≤ a
        · by_cases a1 : a < (N : Int)
          · obtain ⟨i, rfl⟩ := Int.eq_ofNat_of_zero_le a0
            have hik : i < N := by omega
            have HV := Aside0.mk (inN_in (S := S) hik)
            have HF := Aside0.mk (HIf.out i hik)
            go_wp2_with fail
            refine (HF.out _ HBw.out).mono ?_
            rintro e w7 ⟨rfl, hB⟩
            have HB7 := Aside0.mk hB
            clear hB
            go_wp2
            go_meet
            case rel => exact ⟨congrArg Value.bool HV.out.symm, HB7⟩
          · have HV := Aside0.mk (inN_hi (S := S) a1)
            go_wp2
            go_meet
            case rel => exact ⟨congrArg Value.bool HV.out.symm, ⟨Below.refl _ _⟩⟩
        · have HV := Aside0.mk (inN_lo (n := N) (S := S) a0)
          go_wp2
          go_meet
          case rel => exact ⟨congrArg Value.bool HV.out.symm, ⟨Below.refl _ _⟩⟩
      case rest =>
      obtain ⟨rfl, HBc⟩ := hcut
      have HX9 := Aside0.mk (HXr.out.below HBc.out)
      have HB9 := Aside0.mk (below_then HBw.out HBw.out.size HBc.out)
      have HC9 := Aside0.mk (Kd.C_below HC8.out HBc.out)
      have HCl9 := Aside0.mk (Kd.C_below HCl.out HBc.out)
      clear HXr HBw HC8 HCl HBc
      go_upto_region 14 with fail
      go_cut [14] (fun s14 wx => s14 = .bool (inN N (fun x => !S x) b) ∧ Aside0 (Below wc.heap.size wc wx))
      case first =>
        have b0 := HX9.out.c0
        have b1 := HX9.out.c1
        have b2 := HX9.out.c2
        by_cases a0 : 0 ≤ b
        · by_cases a1 : b < (N : Int)
          · obtain ⟨i, rfl⟩ := Int.eq_ofNat_of_zero_le a0
            have hik : i < N := by omega
            have HV := Aside0.mk (inN_in (S := fun x => !S x) hik)
            have HF := Aside0.mk (HIf.out i hik)
            go_wp2_with fail
            refine (HF.out _ HB9.out).mono ?_
            rintro e w7 ⟨rfl, hB⟩
            have HB7 := Aside0.mk hB
            clear hB
            go_wp2
            go_meet
            case rel => exact ⟨congrArg Value.bool HV.out.symm, HB7⟩
          · have HV := Aside0.mk (inN_hi (S := fun x => !S x) a1)
            go_wp2
            go_meet
            case rel => exact ⟨congrArg Value.bool HV.out.symm, ⟨Below.refl _ _⟩⟩
        · have HV := Aside0.mk (inN_lo (n := N) (S := fun x => !S x) a0)
          go_wp2
          go_meet
          case rel => exact ⟨congrArg Value.bool HV.out.symm, ⟨Below.refl _ _⟩⟩
      case rest =>
      obtain ⟨rfl, HBc⟩ := hcut
      have HX10 := Aside0.mk (HX9.out.below HBc.out)
      have HB10 := Aside0.mk (below_then HB9.out HB9.out.size HBc.out)
      have HC10 := Aside0.mk (Kd.C_below HC9.out HBc.out)
      have HCl10 := Aside0.mk (Kd.C_below HCl9.out HBc.out)
      clear HX9 HB9 HC9 HCl9 HBc
      generalize inN N S a = va at HIs' HTe' ⊢
      generalize inN N (fun x => !S x) b = vb at HTe' ⊢
      go_wp2_with fail
      refine (same01_any _ _ _ _ _ _ _ HC10.out HCl10.out).mono ?_
      rw [decide_eq_true rfl]
      rintro e w11 ⟨rfl, hD⟩
      have HX11 := Aside0.mk (HX10.out.below hD.below)
      have HB11 := Aside0.mk (below_then HB10.out HB10.out.size hD.below)
      clear hD HX10 HB10 HC10 HCl10
      have b0 := HX11.out.c0
      have b1 := HX11.out.c1
      have b2 := HX11.out.c2
      go_wp2_with fail
      clear b0 b1 b2
      refine (HIs'.out _ HB11.out).mono ?_
      rintro e w12 ⟨rfl, hB⟩
      have HX12 := Aside0.mk (HX11.out.below hB)
      have HB12 := Aside0.mk (below_then HB11.out HB11.out.size hB)
      clear hB HX11 HB11
      have b0 := HX12.out.c0
      have b1 := HX12.out.c1
      have b2 := HX12.out.c2
      cases va with
      | false =>
        rw [Bool.false_and] at HTe'
        go_wp2_with fail
        clear b0 b1 b2
        refine (HTe'.out _ HB12.out).mono ?_
        rintro e w13 ⟨rfl, hB⟩
        have HB13 := Aside0.mk (below_then HB12.out HB12.out.size hB)
        clear hB
        go_wp2_with fail
        refine (awake38 _).mono ?_
        rintro e w14 ⟨rfl, hB⟩
        have HB14 := Aside0.mk (below_then HB13.out HB13.out.size hB)
        clear hB
        go_wp2
        go_ret
        exact ⟨rfl, HB14.out⟩
      | true =>
        rw [Bool.true_and] at HTe'
        go_wp2_with fail
        clear b0 b1 b2
        refine (HTe'.out _ HB12.out).mono ?_
        rintro e w13 ⟨rfl, hB⟩
        have HB13 := Aside0.mk (below_then HB12.out HB12.out.size hB)
        clear hB
        go_wp2_with fail
        refine (awake38 _).mono ?_
        rintro e w14 ⟨rfl, hB⟩
        have HB14 := Aside0.mk (below_then HB13.out HB13.out.size hB)
        clear hB
        go_wp2
        go_ret
        exact ⟨rfl, HB14.out⟩
    · rw [atL_no hmain] at HAt'
      rw [holdIs_no hmain] at HIs'
      rw [holdTells_no hmain] at HTe'
      have HMn := Aside0.mk hmain
      clear hmain
      have b0 := HX2.out.c0
      have b1 := HX2.out.c1
      have b2 := HX2.out.c2
      go_wp2_with fail
      clear b0 b1 b2
      refine (HAt'.out _ HB2.out).mono ?_
      rintro e w3 ⟨v, rfl, hR, hB⟩
      obtain ⟨Aw, cw, rfl, _, hC⟩ := Kd.R_reads hR
      have HX3 := Aside0.mk (HX2.out.below hB)
      have HP3 := Aside0.mk (blk_below HP2.out hB)
      have HB3 := Aside0.mk (below_then HB2.out HB2.out.size hB)
      have HC3 := Aside0.mk hC
      clear hR hC hB HX2 HP2 HB2 HAt'
      go_wp2_with fail
      refine start_ (n := 6) (S := fun w' => w'.cell? ⟨w.heap.size + 1, 0, none⟩ = some (.int .i64 a) ∧ w'.cell? ⟨w.heap.size + 1, 1, none⟩ = some (.int .i64 b)) (ds := []) #[false, false, false, false, false, false] (by kernel_rfl) rfl rfl ⟨(blk_cell HP3.out 0).trans rfl, (blk_cell HP3.out 1).trans rfl⟩ (fun hHeld => ?_)
      refine pure_ (i := 0) (N := some 26) (v := ?_) (a' := ?_) #[true, false, false, false, false, false] rfl rfl (by kernel_rfl) (fun _ _ _ h => h) (Or.inl ⟨by rfl, ?_⟩) ?_ ?_
      rotate_left
      · intro w'
        go_simp
        with_reducible rfl
      rotate_left
      · simp only [Act.put, List.setIfInBounds_toArray, List.set_cons_zero, List.set_cons_succ, i64_w, i32_w]
        rfl
      refine pure_ (i := 2) (N := some 28) (v := ?_) (a' := ?_) #[true, false, true, false, false, false] rfl rfl (by kernel_rfl) (fun _ _ _ h => h) (Or.inl ⟨by rfl, ?_⟩) ?_ ?_
      rotate_left
      · intro w'
        go_simp
        with_reducible rfl
      rotate_left
      · simp only [Act.put, List.setIfInBounds_toArray, List.set_cons_zero, List.set_cons_succ, i64_w, i32_w]
        rfl
      refine take_ (i := 1) (N := some 27) (v := ?_) (a' := ?_) #[true, true, true, false, false, false] rfl rfl (by kernel_rfl) (fun _ _ _ h => h) (Or.inl ⟨by rfl, ?_⟩) hHeld ?_ ?_
      rotate_left
      · rintro w' ⟨s0, s1⟩
        go_simp
        with_reducible rfl
      rotate_left
      · simp only [Act.put, List.setIfInBounds_toArray, List.set_cons_zero, List.set_cons_succ, i64_w, i32_w]
        rfl
      refine pure_ (i := 4) (N := some 9) (v := ?_) (a' := ?_) #[true, true, true, false, true, false] rfl rfl (by kernel_rfl) (fun _ _ _ h => h) (Or.inl ⟨by rfl, ?_⟩) ?_ ?_
      rotate_left
      · intro w'
        go_simp
        with_reducible rfl
      rotate_left
      · simp only [Act.put, List.setIfInBounds_toArray, List.set_cons_zero, List.set_cons_succ, i64_w, i32_w]
        rfl
      refine take_ (i := 3) (N := some 29) (v := ?_) (a' := ?_) #[true, true, true, true, true, false] rfl rfl (by kernel_rfl) (fun _ _ _ h => h) (Or.inl ⟨by rfl, ?_⟩) hHeld ?_ ?_
      rotate_left
      · rintro w' ⟨s0, s1⟩
        go_simp
        with_reducible rfl
      rotate_left
      · simp only [Act.put, List.setIfInBounds_toArray, List.set_cons_zero, List.set_cons_succ, i64_w, i32_w]
        rfl
      refine pure_ (i := 5) (N := some 10) (v := ?_) (a' := ?_) #[true, true, true, true, true, true] rfl rfl (by kernel_rfl) (fun _ _ _ h => h) (Or.inl ⟨by rfl, ?_⟩) ?_ ?_
      rotate_left
      · intro w'
        go_simp
        with_reducible rfl
      rotate_left
      · simp only [Act.put, List.setIfInBounds_toArray, List.set_cons_zero, List.set_cons_succ, i64_w, i32_w]
        rfl
      refine done_ (by kernel_rfl) ?_
      have hd := below_drew1 (Below.refl w3.heap.size w3)
      have HX4 := Aside0.mk (HX3.out.below hd)
      have HB4 := Aside0.mk (below_then HB3.out HB3.out.size hd)
      have HC4 := Aside0.mk (Kd.C_below HC3.out hd)
      clear hd HX3 HP3 HB3 HC3 hHeld
      generalize w3.drew = W4 at HX4 HB4 HC4 ⊢
      have b0 := HX4.out.c0
      have b1 := HX4.out.c1
      have b2 := HX4.out.c2
      go_wp2_with fail
      clear b0 b1 b2
      refine (HMy'.out _ HB4.out).mono ?_
      rintro e w5 ⟨rfl, hB⟩
      have HX5 := Aside0.mk (HX4.out.below hB)
      have HB5 := Aside0.mk (below_then HB4.out HB4.out.size hB)
      have HC5 := Aside0.mk (Kd.C_below HC4.out hB)
      clear hB HX4 HB4 HC4
      cases q3 : mayR n ls es with
      | false =>
        clear HMn q3
        have HX6 := HX5
        have HB6 := HB5
        clear HX5 HB5
        have b0 := HX6.out.c0
        have b1 := HX6.out.c1
        have b2 := HX6.out.c2
        go_wp2_with fail
        clear b0 b1 b2
        refine (HIs'.out _ HB6.out).mono ?_
        rintro e w7 ⟨rfl, hB⟩
        have HX7 := Aside0.mk (HX6.out.below hB)
        have HB7 := Aside0.mk (below_then HB6.out HB6.out.size hB)
        clear hB HX6 HB6
        have b0 := HX7.out.c0
        have b1 := HX7.out.c1
        have b2 := HX7.out.c2
        go_wp2_with fail
        clear b0 b1 b2
        refine (HTe'.out _ HB7.out).mono ?_
        rintro e w8 ⟨rfl, hB⟩
        have HB8 := Aside0.mk (below_then HB7.out HB7.out.size hB)
        clear hB
        go_wp2_with fail
        refine (awake38 _).mono ?_
        rintro e w9 ⟨rfl, hB⟩
        have HB9 := Aside0.mk (below_then HB8.out HB8.out.size hB)
        clear hB
        go_wp2
        go_ret
        exact ⟨rfl, HB9.out⟩
      | true =>
        have q4 : mayFs fs = false := by
          cases h : mayFs fs with
          | false => rfl
          | true => exact absurd ⟨q3, h⟩ HMn.out
        rw [q4] at HM7'
        clear HMn q3 q4
        go_wp2_with fail
        refine (HM7'.out _ HB5.out).mono ?_
        rintro e w6 ⟨rfl, hB⟩
        have HX6 := Aside0.mk (HX5.out.below hB)
        have HB6 := Aside0.mk (below_then HB5.out HB5.out.size hB)
        clear hB HX5 HB5
        have b0 := HX6.out.c0
        have b1 := HX6.out.c1
        have b2 := HX6.out.c2
        go_wp2_with fail
        clear b0 b1 b2
        refine (HIs'.out _ HB6.out).mono ?_
        rintro e w7 ⟨rfl, hB⟩
        have HX7 := Aside0.mk (HX6.out.below hB)
        have HB7 := Aside0.mk (below_then HB6.out HB6.out.size hB)
        clear hB HX6 HB6
        have b0 := HX7.out.c0
        have b1 := HX7.out.c1
        have b2 := HX7.out.c2
        go_wp2_with fail
        clear b0 b1 b2
        refine (HTe'.out _ HB7.out).mono ?_
        rintro e w8 ⟨rfl, hB⟩
        have HB8 := Aside0.mk (below_then HB7.out HB7.out.size hB)
        clear hB
        go_wp2_with fail
        refine (awake38 _).mono ?_
        rintro e w9 ⟨rfl, hB⟩
        have HB9 := Aside0.mk (below_then HB8.out HB8.out.size hB)
        clear hB
        go_wp2
        go_ret
        exact ⟨rfl, HB9.out⟩

end Go.Proofs.Ytmpiokdomjchiaa.H
