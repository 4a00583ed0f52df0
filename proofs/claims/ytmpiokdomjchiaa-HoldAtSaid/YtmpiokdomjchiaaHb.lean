/-
  Walks: texts put behind each other, sorted, each once (slices.Grow, Concat; names.Union).
-/
import Derived.Test.YtmpiokdomjchiaaHa
import Derived.Test.YtmpiokdomjchiaaWZeros
import Derived.Test.YtmpiokdomjchiaaSh
import Derived.Sort.OwnSorted
import Derived.Lib.OwnBridge
import Derived.Outline
set_option linter.unusedVariables false
set_option linter.unusedSimpArgs false
namespace Go.Proofs.Ytmpiokdomjchiaa.H
open Go.RowKit Go.Proofs Go.Sort Go.Proofs.Ytmpiokdomjchiaa.Pr Go.Proofs.YtmpiokdomjchiaaW.PrintWords Go.Proofs.Ytmpiokdomjchiaa.Sem

def MadeS (w : World) (xs : List ByteArray) (e : Ending) (w' : World) : Prop := ∃ v : Value, e = .returned v ∧ Kd.R Kd.string 9 w' w.heap.size (fun _ => True) v xs ∧ Below w.heap.size w w'

theorem growNil0 (w : World) : Calls Try.prog 146 #[.slice none 0 0, .int .i64 0] w (MadeS w []) := by
  go_enter Try.func146, Try.ntmps146
  go_wp2
  go_ret
  exact ⟨_, rfl, Kd.R_nil _ _ _ _ _, Below.refl _ _⟩
set_option maxRecDepth 100000 in
theorem growNil1 (n : Int) (h0 : 0 < n) (hb : n ≤ 1000000000000) (w : World) : Calls Try.prog 146 #[.slice none 0 0, .int .i64 n] w (MadeS w []) := by
  have HB := Aside0.mk (Below.refl w.heap.size w)
  have h0' : 0 ≤ n := by omega
  obtain ⟨i9, hi9, hi90, hi91, hi92⟩ := info_parts info9
  go_enter Try.func146, Try.ntmps146
  go_wp2_with (at_builtin; refine Kd.R_append_zeros Kd.string (w0 := w) w.heap.size rfl (.tmp 20) (.tmp 21) 22 3 9 (.string ⟨#[]⟩) 16 rfl Try.underlying22 Try.underlying3 info9 rfl (by decide) (by omega) (.slice none 0 0) ([] : List ByteArray) (⟨#[]⟩ : ByteArray) n (fun _ => True) rfl rfl rfl (fun _ _ => trivial) (Kd.R_nil _ _ _ _ _) h0' HB.out (Nat.le_refl _) (by simp; omega) ?_; intro v1 w1 hR hB hG hat; obtain ⟨A1, c1, hv1, hle, _⟩ := Kd.R_reads hR; have H := Aside0.mk (And.intro hR hB); clear hR hB hG hat; subst hv1; have hcut := cut_to (P := Try.prog) 22 9 .i64 Try.underlying22 hi9 A1 ([] ++ List.replicate n.toNat (⟨#[]⟩ : ByteArray)).length c1 0 (by omega) (by omega) hle)
  go_ret
  exact ⟨_, rfl, by have := Kd.R_take (m := 0) H.out.1 (by simp); simpa using this, H.out.2⟩
theorem growNil (n : Int) (h0 : 0 ≤ n) (hb : n ≤ 1000000000000) (w : World) : Calls Try.prog 146 #[.slice none 0 0, .int .i64 n] w (MadeS w []) := by
  by_cases h : n = 0
  · subst h; exact growNil0 w
  · exact growNil1 n (by omega) hb w

/-- slices.Concat of two lists of texts. -/
theorem concat2 (xs ys : List ByteArray) (A1 A2 : Option Addr) (c1 c2 g : Nat) (w : World) (hx : Kd.C Kd.string w A1 xs.length xs) (hy : Kd.C Kd.string w A2 ys.length ys) (hb : xs.length + ys.length ≤ 1000000000000)
    (h0 : w.cell? ⟨g, 0, none⟩ = some (.slice A1 xs.length c1)) (h1 : w.cell? ⟨g, 1, none⟩ = some (.slice A2 ys.length c2)) :
    Calls Try.prog 138 #[.slice (some ⟨g, 0, none⟩) 2 2] w (MadeS w (xs ++ ys)) := by
  have HX := Lib.hid hx; clear hx
  have HY := Lib.hid hy; clear hy
  have HB := Aside0.mk (Below.refl w.heap.size w)
  go_enter Try.func138, Try.ntmps138
  go_wp2
  go_loop [3, 11] (fun s i => ∃ k : Nat, k ≤ 2 ∧ i = .int .i64 k ∧ s = .int .i64 (if k = 0 then 0 else if k = 1 then (xs.length : Int) else xs.length + ys.length)) (fun _ i => 2 - (intOf i).toNat)
  case atStart => exact ⟨0, by omega, rfl, rfl⟩
  case round =>
    obtain ⟨k, hk, rfl, rfl⟩ := hrel
    match k, hk with
    | 0, _ =>
      go_wp2
      go_round
      case rel => exact ⟨1, by omega, by go_num, by simp⟩
      case measure => simp [intOf]
    | 1, _ =>
      go_wp2
      go_round
      case rel => exact ⟨2, by omega, by go_num, by simp⟩
      case measure => simp [intOf]
    | 2, _ =>
      have hg : (0 : Int) ≤ (xs.length : Int) + (ys.length : Int) := by omega
      have hg2 : (xs.length : Int) + (ys.length : Int) ≤ 1000000000000 := by omega
      go_wp2_with (go_at_call 146; refine (growNil _ hg hg2 _).mono ?_; rintro e w1 ⟨v, rfl, hR, hB⟩; have HR := Aside0.mk hR; have HB1 := Aside0.mk hB; clear hR hB)
      go_loopw [6, 27] (fun v i wr => ∃ k : Nat, k ≤ 2 ∧ i = .int .i64 k ∧ Aside0 (Kd.R Kd.string 9 wr w.heap.size (fun _ => True) v (if k = 0 then [] else if k = 1 then xs else xs ++ ys)) ∧ Aside0 (Below w.heap.size w wr)) (fun _ i _ => 2 - (intOf i).toNat)
      case atStart => exact ⟨0, by omega, rfl, HR, HB1⟩
      case round =>
        obtain ⟨k, hk, rfl, HRr, HBr⟩ := hrel
        clear HR HB1
        have c0 := later HBr.out h0
        have c1' := later HBr.out h1
        match k, hk with
        | 0, _ =>
          have HR0 : Aside0 (Kd.R Kd.string 9 wr w.heap.size (fun _ => True) u6 []) := HRr
          clear HRr
          go_wp2_with (at_builtin; refine Kd.R_append_row Value.string ByteArray.empty (w0 := w) w.heap.size rfl (.tmp 31) (.tmp 32) 22 9 (.string ⟨#[]⟩) 16 rfl Try.underlying22 info9 rfl (by omega) _ [] xs A1 xs.length c1 (fun _ => True) rfl rfl (fun _ _ => trivial) HR0.out (Kd.C_below HX.out HBr.out) HBr.out (HBr.out.size) (by simp; omega) ?_; intro v1 w2 hR2 hB2 _ _; have HR2 := Aside0.mk hR2; have HB2 := Aside0.mk hB2; clear hR2 hB2)
          go_roundw
          case rel => exact ⟨1, by omega, by go_num, ⟨HR2.out⟩, HB2⟩
          case measure => simp [intOf]
        | 1, _ =>
          have HR0 : Aside0 (Kd.R Kd.string 9 wr w.heap.size (fun _ => True) u6 xs) := HRr
          clear HRr
          go_wp2_with (at_builtin; refine Kd.R_append_row Value.string ByteArray.empty (w0 := w) w.heap.size rfl (.tmp 31) (.tmp 32) 22 9 (.string ⟨#[]⟩) 16 rfl Try.underlying22 info9 rfl (by omega) _ xs ys A2 ys.length c2 (fun _ => True) rfl rfl (fun _ _ => trivial) HR0.out (Kd.C_below HY.out HBr.out) HBr.out (HBr.out.size) (by omega) ?_; intro v1 w2 hR2 hB2 _ _; have HR2 := Aside0.mk hR2; have HB2 := Aside0.mk hB2; clear hR2 hB2)
          go_roundw
          case rel => exact ⟨2, by omega, by go_num, ⟨HR2.out⟩, HB2⟩
          case measure => simp [intOf]
        | 2, _ =>
          have HR0 : Aside0 (Kd.R Kd.string 9 wr w.heap.size (fun _ => True) u6 (xs ++ ys)) := HRr
          clear HRr
          go_wp2
          go_ret
          exact ⟨_, rfl, HR0.out, HBr.out⟩

/-- What slices.Sort makes of texts. -/
def srt (xs : List ByteArray) : List ByteArray := ((xs.map fun s => s.data.toList).mergeSort fun x y => decide (x ≤ y)).map fun l => ⟨l.toArray⟩
/-- Each once, of what stands side by side. -/
def cmpt (xs : List ByteArray) : List ByteArray := (Lib.compact (xs.map fun s => s.data.toList)).map fun l => ⟨l.toArray⟩
theorem srt_length (xs : List ByteArray) : (srt xs).length = xs.length := by simp [srt]
theorem enc_bytes (xs : List ByteArray) : (xs.map fun s => s.data.toList).map encStr = xs.map Value.string := by
  rw [List.map_map]
  apply List.map_congr_left
  intro s _
  simp [encStr]
theorem enc_back (ls : List (List UInt8)) : ls.map encStr = (ls.map fun l => (⟨l.toArray⟩ : ByteArray)).map Value.string := by
  rw [List.map_map]
  rfl
theorem own_of_RS {w : World} {base e : Nat} {ok : Nat → Prop} {v : Value} {xs : List ByteArray} (h : Kd.R Kd.string e w base ok v xs) : w.ownsRow base e 1 v (xs.map fun s => s.data.toList).length ((xs.map fun s => s.data.toList).map encStr) := by
  rw [enc_bytes, List.length_map]
  exact Kd.own_of_R h
theorem RS_of_own {w : World} {base e n : Nat} {v : Value} {ls : List (List UInt8)} (hn : n = ls.length) (h : w.ownsRow base e 1 v n (ls.map encStr)) : Kd.R Kd.string e w base (fun _ => True) v (ls.map fun l => ⟨l.toArray⟩) :=
  Kd.R_of_own (enc := Value.string) (by rw [enc_back, hn] at h; rw [List.length_map]; exact h) (fun _ _ => trivial)
/-- slices.Sort of texts of the call's own. -/
theorem sortR (base e : Nat) (v : Value) (xs : List ByteArray) (w : World) (h : Kd.R Kd.string e w base (fun _ => True) v xs) (hl : xs.length < 1000000000000) :
    Calls Try.prog 139 #[v] w fun e' w' => e' = .returned (.tuple #[]) ∧ Kd.R Kd.string e w' base (fun _ => True) v (srt xs) ∧ w.grownBy w' v.ownBlock := by
  have ho := own_of_RS h
  rcases ho.2 with ⟨hv, h0⟩ | ⟨g, cap, cur, hv, hb, hg, h1, h2, h3, h4⟩
  · subst hv
    have hx : xs = [] := by simpa using h0
    subst hx
    refine (Try.slices_Sort_string_none none 0 w).mono ?_
    rintro e' w' ⟨rfl, rfl⟩
    refine ⟨rfl, by simpa [srt] using h, ?_⟩
    exact grown_of_below (Below.refl _ _) _
  · subst hv
    have hH := holds_of_block (ss := xs.map fun s => s.data.toList) hg (by rw [← h4, Nat.mul_one])
    refine (Try.slices_Sort_string g 0 cap _ w hH (Array.getElem?_eq_some_iff.1 hg).1 (by rw [List.length_map]; omega)).mono ?_
    rintro e' w' ⟨rfl, n, os, rfl⟩
    refine ⟨rfl, ?_, grownBy_sorted _⟩
    have hs := ownsRow_sorted (n := n) (os := os) (ts := (xs.map fun s => s.data.toList).mergeSort fun x y => decide (x ≤ y)) (List.length_mergeSort _) hb hg h1 h2 h3
    exact RS_of_own (List.length_mergeSort _).symm hs
/-- slices.Compact of texts of the call's own. -/
theorem compactR (base e : Nat) (v : Value) (xs : List ByteArray) (w : World) (h : Kd.R Kd.string e w base (fun _ => True) v xs) (hl : xs.length < 1000000000000) :
    Calls Try.prog 140 #[v] w fun e' w' => ∃ v', e' = .returned v' ∧ Kd.R Kd.string e w' base (fun _ => True) v' (cmpt xs) ∧ w.grownBy w' v.ownBlock := by
  have ho := own_of_RS h
  rcases ho.2 with ⟨hv, h0⟩ | ⟨g, cap, cur, hv, hb, hg, h1, h2, h3, h4⟩
  · subst hv
    have hx : xs = [] := by simpa using h0
    subst hx
    refine (Try.slices_Compact_string_empty none 0 w).mono ?_
    rintro e' w' ⟨rfl, rfl⟩
    refine ⟨_, rfl, h, grown_of_below (Below.refl _ _) _⟩
  · subst hv
    have hH := holds_of_block (ss := xs.map fun s => s.data.toList) hg (by rw [← h4, Nat.mul_one])
    refine (Try.slices_Compact_string g 0 cap _ w hH (by rw [List.length_map]; omega) h1).mono ?_
    rintro e' w' ⟨rfl, q, rfl⟩
    have hle := Lib.compact_length_le (xs.map fun s => s.data.toList)
    have hc := Lib.ownsRow_putRow (q := q) (k := (Lib.compact (xs.map fun s => s.data.toList)).length) (ys := Lib.compact (xs.map fun s => s.data.toList) ++ List.replicate ((xs.map fun s => s.data.toList).length - (Lib.compact (xs.map fun s => s.data.toList)).length) []) ho (by simp at hle ⊢; omega) hle
    rw [List.take_left] at hc
    refine ⟨_, rfl, RS_of_own rfl hc, ?_⟩
    exact grownBy_sorted (os := #[]) _

/-- names.Union. -/
def unionS (xs ys : List ByteArray) : List ByteArray := cmpt (srt (xs ++ ys))
theorem union_any (xs ys : List ByteArray) (A1 A2 : Option Addr) (c1 c2 : Nat) (w : World) (hx : Kd.C Kd.string w A1 xs.length xs) (hy : Kd.C Kd.string w A2 ys.length ys) (hb : xs.length + ys.length < 1000000000000) :
    Calls Try.prog 122 #[.slice A1 xs.length c1, .slice A2 ys.length c2] w (MadeS w (unionS xs ys)) := by
  have HX := Lib.hid hx; clear hx
  have HY := Lib.hid hy; clear hy
  have HB := Aside0.mk (Below.refl w.heap.size w)
  go_enter Try.func122, Try.ntmps122
  go_wp2_with fail
  refine (concat2 xs ys A1 A2 c1 c2 _ _ (Kd.C_below HX.out ?_) (Kd.C_below HY.out ?_) (by omega) ?_ ?_).mono ?_
  rotate_right
  · rintro e w1 ⟨v, rfl, hR, hB⟩
    have hR0 := Kd.R_lower (base' := w.heap.size) hR (by simp)
    have HB1 := Aside0.mk (below_then (below_alloc HB.out _) (by simp) hB)
    have HR := Aside0.mk hR0
    clear hR hB hR0
    go_wp2_with fail
    refine (sortR _ _ _ _ _ HR.out (by simp; omega)).mono ?_
    rintro e w2 ⟨rfl, hR, hG⟩
    have HR2 := Aside0.mk hR
    have HB2 := Aside0.mk (HB1.out.grown hG HB1.out.size (own_base (Kd.own_of_R HR.out)))
    clear hR hG
    go_wp2_with fail
    refine (compactR _ _ _ _ _ HR2.out (by simp [srt_length]; omega)).mono ?_
    rintro e w3 ⟨v3, rfl, hR, hG⟩
    have HR3 := Aside0.mk hR
    have HB3 := Aside0.mk (HB2.out.grown hG HB2.out.size (own_base (Kd.own_of_R HR2.out)))
    clear hR hG
    go_wp2
    go_ret
    exact ⟨_, rfl, HR3.out, HB3.out⟩
  all_goals (first | exact below_alloc HB.out _ | go_simp)

theorem list_ext_getD {α : Type} (d : α) {xs ys : List α} (hl : xs.length = ys.length) (h : ∀ j, j < xs.length → xs.getD j d = ys.getD j d) : xs = ys := by
  apply List.ext_getElem hl
  intro j h1 h2
  have := h j h1
  simpa [List.getD_eq_getElem?_getD, List.getElem?_eq_getElem h1, List.getElem?_eq_getElem h2] using this
/-- slices.Equal of texts. -/
theorem equalS (xs ys : List ByteArray) (A1 A2 : Option Addr) (c1 c2 : Nat) (w : World) (hx : Kd.C Kd.string w A1 xs.length xs) (hy : Kd.C Kd.string w A2 ys.length ys) :
    Calls Try.prog 119 #[.slice A1 xs.length c1, .slice A2 ys.length c2] w fun e w' => e = .returned (.bool (decide (xs = ys))) ∧ Drawn0 w w' := by
  by_cases hl : xs.length = ys.length
  · have hm := C_len hx
    have hq : ((xs.length : Int) != (ys.length : Int)) = false := by rw [hl]; simp
    have HX := Lib.hid hx; clear hx
    have HY := Lib.hid hy; clear hy
    have HLn := Aside0.mk hl; clear hl
    go_enter Try.func119, Try.ntmps119
    go_wp2
    go_loopw [13] (fun i wr => ∃ k : Nat, k ≤ xs.length ∧ i = .int .i64 k ∧ Aside0 (∀ j, j < k → xs.getD j ByteArray.empty = ys.getD j ByteArray.empty) ∧ Drawn0 w wr) (fun i _ => xs.length - (intOf i).toNat)
    case atStart => exact ⟨0, Nat.zero_le _, rfl, ⟨fun j hj => by omega⟩, Drawn0.refl _⟩
    case round =>
      obtain ⟨k, hk, rfl, hz, hD⟩ := hrel
      by_cases hlt : k < xs.length
      · obtain ⟨a1, hA1, h1⟩ := atS HX.out k hlt
        obtain ⟨a2, hA2, h2⟩ := atS HY.out k (by rw [← HLn.out]; exact hlt)
        subst hA1 hA2
        have g1 := later hD.below h1
        have g2 := later hD.below h2
        clear h1 h2
        have hlt2 : k < ys.length := by rw [← HLn.out]; exact hlt
        obtain ⟨s, hs⟩ : ∃ s, s = xs.getD k ByteArray.empty := ⟨_, rfl⟩
        obtain ⟨t, ht⟩ : ∃ t, t = ys.getD k ByteArray.empty := ⟨_, rfl⟩
        rw [← hs] at g1
        rw [← ht] at g2
        have HS := Aside0.mk hs; clear hs
        have HT := Aside0.mk ht; clear ht
        have i1 : (k : Int) < (xs.length : Int) := by omega
        have i2 : (k : Int) < (ys.length : Int) := by omega
        have i0 : (0 : Int) ≤ (k : Int) := by omega
        cases hb : (s.toList == t.toList) with
        | false =>
          go_wp2_with fail
          go_quiet (fail)
          go_wp2
          go_ret
          refine ⟨ret_bool (decide_eq_false fun he => ?_).symm, hD.step _⟩
          rw [HS.out, HT.out, he] at hb
          simp at hb
        | true =>
          go_wp2_with fail
          go_quiet (fail)
          go_wp2
          go_roundw
          case rel => exact ⟨k + 1, by omega, by go_num, ⟨fun j hj => by
            rcases Nat.lt_succ_iff_lt_or_eq.1 hj with h | rfl
            · exact hz.out j h
            · rw [← HS.out, ← HT.out]
              exact ByteArray.ext (Array.toList_inj.1 (by simpa [ByteArray.toList_eq] using hb))⟩, hD.step _⟩
          case measure => simp [intOf]; omega
      · go_wp2
        go_ret
        exact ⟨ret_bool (decide_eq_true (list_ext_getD ByteArray.empty HLn.out (fun j hj => hz.out j (by omega)))).symm, hD⟩
  · have hq : ((xs.length : Int) != (ys.length : Int)) = true := by simp; omega
    have hn : decide (xs = ys) = false := decide_eq_false fun h => hl (by rw [h])
    rw [hn]
    clear hx hy hl hn
    go_enter Try.func119, Try.ntmps119
    go_wp2
    go_ret
    exact ⟨rfl, Drawn0.refl _⟩

/-- lts.named. -/
def namedB (ls : List ByteArray) : Bool := decide (ls.length ≤ 64) && (!ls.any tooLong && decide (ls = unionS ls []))
theorem named_any (ls : List ByteArray) (A : Option Addr) (c : Nat) (w : World) (hr : Kd.C Kd.string w A ls.length ls) :
    Calls Try.prog 100 #[.slice A ls.length c] w fun e w' => e = .returned (.bool (namedB ls)) ∧ Below w.heap.size w w' := by
  have HB := Aside0.mk (Below.refl w.heap.size w)
  have hnil := Kd.C_nil Kd.string w
  by_cases h1 : (64 : Int) < (ls.length : Int)
  · have e1 : namedB ls = false := by unfold namedB; rw [decide_eq_false (by omega)]; rfl
    rw [e1]
    clear hr hnil e1
    go_enter Try.func100, Try.ntmps100
    go_wp2
    go_ret
    exact ⟨rfl, HB.out⟩
  · have e0 : namedB ls = (!ls.any tooLong && decide (ls = unionS ls [])) := by unfold namedB; rw [decide_eq_true (by omega)]; rfl
    have HR := Lib.hid hr; clear hr
    have HC := Lib.hid hnil; clear hnil
    have HL := Lib.hid (anyLong ls A c w HR.out)
    cases hb : ls.any tooLong with
    | true =>
      have e1 : namedB ls = false := by rw [e0, hb]; rfl
      rw [e1]
      clear e0 e1
      rw [hb] at HL
      clear hb
      go_enter Try.func100, Try.ntmps100
      go_wp2_with (go_at_call 120; refine HL.out.mono ?_; rintro e w' ⟨rfl, rfl⟩)
      go_ret
      exact ⟨rfl, HB.out⟩
    | false =>
      have e1 : namedB ls = decide (ls = unionS ls []) := by rw [e0, hb]; rfl
      rw [e1]
      clear e0 e1
      rw [hb] at HL
      clear hb
      go_enter Try.func100, Try.ntmps100
      go_wp2_with (go_at_call 120; refine HL.out.mono ?_; rintro e w' ⟨rfl, rfl⟩)
      refine (union_any ls [] A none c 0 _ HR.out HC.out (by simp; omega)).mono ?_
      rintro e w1 ⟨v, rfl, hR, hB⟩
      obtain ⟨B1, c1, hv, hle, hC⟩ := Kd.R_reads hR
      subst hv
      have HB1 := Aside0.mk hB
      have HC1 := Aside0.mk hC
      clear hR hB hC
      go_wp2_with fail
      refine (equalS ls (unionS ls []) A B1 c c1 _ (Kd.C_below HR.out HB1.out) HC1.out).mono ?_
      rintro e w2 ⟨rfl, hD⟩
      have HB2 := Aside0.mk (below_then HB1.out HB1.out.size hD.below)
      clear hD
      go_wp2
      go_ret
      exact ⟨rfl, HB2.out⟩

end Go.Proofs.Ytmpiokdomjchiaa.H
