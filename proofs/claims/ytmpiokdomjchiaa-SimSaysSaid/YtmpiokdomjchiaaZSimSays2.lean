/-
  Parts of the proof of SimSays (joined by wip/tools/bundle.py), part 2: plain words and walks of the functions that the law reaches.
-/
import Derived.Test.YtmpiokdomjchiaaZSimSays1
set_option linter.unusedVariables false
set_option linter.unusedSimpArgs false
namespace Go.Proofs.Ytmpiokdomjchiaa.H
open Go.RowKit Go.Proofs.Ytmpiokdomjchiaa.Pr Go.Proofs.YtmpiokdomjchiaaW.PrintWords Go.Proofs.Ytmpiokdomjchiaa.Sem Go.Proofs.YtmpiokdomjchiaaW.PrintLast
theorem Fol.at_ {W : World} {base : Nat} {vf : Value} {bs : List Nat} {F : Nat → Nat → Bool} (h : Fol W base vf bs F) (h0 : 0 < bs.length) : ∃ gf cf, vf = .slice (some ⟨gf, 0, none⟩) bs.length cf ∧ (∀ i, i < bs.length → W.cell? ⟨gf, i, none⟩ = some (.slice (some ⟨bs.getD i 0, 0, none⟩) 1 1)) ∧ ∀ i, i < bs.length → W.cell? ⟨bs.getD i 0, 0, none⟩ = some (.int .u64 (wordOf (F i) 0 : Int)) := by
 obtain ⟨g, c, e, _⟩ := Kd.R_form h.row h0
 refine ⟨g, c, e, fun i hi => ?_, fun i hi => (h.set i hi).cell⟩
 have hr := h.row
 rw [e] at hr
 have := (Kd.R_celln 0 hr (i : Int) (by omega) (by omega)).1
 simpa [rdOf, encB] using this
theorem shas_is (b i c : Nat) (S : Nat → Bool) (r : Bool) (hr : S i = r) (w : World) (hS : w.cell? ⟨b, 0, none⟩ = some (.int .u64 (wordOf S 0 : Int))) (hi : i < 64) : Calls Try.prog 89 #[.slice (some ⟨b, 0, none⟩) 1 c, .int .i64 i] w fun e w' => e = .returned (.bool r) ∧ w = w' := by
 subst hr
 exact shas_any b i c S w hS hi
def leadsB (es : List Ed) (F : Nat → Nat → Bool) (v : Nat) (label : Int) (tt : Nat) : Bool := (outE es (v : Int)).any fun e => (e.f1 == label) && F tt e.f2.toNat
theorem outE_mem {es : List Ed} {i : Int} {e : Ed} (h : e ∈ outE es i) : e ∈ es ∧ e.f0 = i := by
 unfold outE at h
 simpa using h
set_option maxHeartbeats 8000000 in
set_option maxRecDepth 100000 in
theorem sleads_any {base gi go T n : Nat} {v1 v2 vf : Value} {e1 es : List Ed} {bs : List Nat} {F : Nat → Nat → Bool} (v : Nat) (label : Int) (tt : Nat) (w : World) (hS : SimT base w gi go T n v1 v2 e1 es vf bs F) (hbs : bs.length = n) (hn : n ≤ 63) (hv : v < n) (hto : tt < n) (hes : ∀ e ∈ es, 0 ≤ e.f2 ∧ e.f2 < n) (hel : es.length ≤ 1000000) (r : Bool) (hr : leadsB es F v label tt = r) :
  Calls Try.prog 131 #[.pointer (some ⟨T, 0, none⟩), .int .i64 v, .int .i64 label, .int .i64 tt] w fun e w' => e = .returned (.bool r) ∧ Below w.heap.size w w' := by
 obtain ⟨vs, us, _, hU, _⟩ := hS.two
 obtain ⟨A, c, hvr, hc1, hC⟩ := hU.read v (by rw [outs_length]; exact hv)
 rw [outs_at es hv, show (es.filter fun e => decide (e.f0 = (v : Int))) = outE es (v : Int) from rfl] at hc1 hC
 obtain ⟨L, hL⟩ : ∃ L, L = outE es (v : Int) := ⟨_, rfl⟩
 unfold leadsB at hr
 rw [← hL] at hc1 hC hr
 have HL := Aside0.mk (show ∀ e ∈ L, 0 ≤ e.f2 ∧ e.f2 < n from fun e he => hes e (outE_mem (by rw [← hL]; exact he)).1)
 have hll := C_len hC
 have HC := Aside0.mk hC
 have HR := Aside0.mk hr
 obtain ⟨gf, cf, hvf, hrow, hword⟩ := hS.fol.at_ (by omega)
 rw [hbs] at hvf hrow hword
 have t4 := hS.t4
 have HT5 := Aside0.mk (by rw [← hvf]; exact hS.t5 : w.cell? ⟨T, 5, none⟩ = some (.slice (some ⟨gf, 0, none⟩) n cf))
 have HRow := Aside0.mk (hrow tt hto)
 have HWord := Aside0.mk (hword tt hto)
 have v0 : (0 : Int) ≤ (v : Int) := by omega
 have v1' : (v : Int) < (n : Int) := by omega
 have o0 : (0 : Int) ≤ (tt : Int) := by omega
 have o1 : (tt : Int) < (n : Int) := by omega
 have HBr := Aside0.mk (Below.refl w.heap.size w)
 obtain ⟨bb, hbb⟩ : ∃ bb, bb = bs.getD tt 0 := ⟨_, rfl⟩
 rw [← hbb] at HRow HWord
 clear hvf hrow hword hS hU hL hr hC hbs hes hvr hbb
 clear hv hto
 go_enter Try.func131, Try.ntmps131
 go_wp2
 clear t4 hc1
 go_loopw [19] (fun i wr => ∃ k : Nat, k ≤ L.length ∧ i = .int .i64 k ∧ Aside0 (∀ j, j < k → ((L.getD j z81).f1 == label && F tt (L.getD j z81).f2.toNat) = false) ∧ Aside0 (Below w.heap.size w wr)) (fun i _ => L.length - (intOf i).toNat)
 case atStart => exact ⟨0, Nat.zero_le _, rfl, ⟨fun j hj => by omega⟩, HBr⟩
 case round =>
  clear HBr
  obtain ⟨k, hk, rfl, hz, HBr⟩ := hrel
  by_cases hlt : k < L.length
  ·obtain ⟨ad, hA, g0, g1, g2⟩ := atE HC.out k hlt
   subst hA
   replace g0 := later HBr.out g0
   replace g1 := later HBr.out g1
   replace g2 := later HBr.out g2
   obtain ⟨x, hx⟩ : ∃ x, x = L.getD k z81 := ⟨_, rfl⟩
   have hxn : 0 ≤ x.f2 ∧ x.f2 < n := by
    rw [hx]
    refine HL.out _ ?_
    rw [List.getD_eq_getElem?_getD, List.getElem?_eq_getElem hlt]
    exact List.getElem_mem hlt
   rw [← hx] at g0 g1 g2
   have hx' := Aside0.mk hx
   clear hx
   obtain ⟨j, hj⟩ : ∃ j : Nat, x.f2 = (j : Int) := ⟨x.f2.toNat, by omega⟩
   have j2 : j < 64 := by omega
   rw [hj] at g2
   have HJ := Aside0.mk hj
   have t5 := fun o m => later (below_then HBr.out HBr.out.size (pw_below_drewN (below_alloc (Below.refl _ _) o) m)) HT5.out
   have rw_ := fun o m => later (below_then HBr.out HBr.out.size (pw_below_drewN (below_alloc (Below.refl _ _) o) m)) HRow.out
   have wd := Aside0.mk (fun o m => later (below_then HBr.out HBr.out.size (pw_below_drewN (below_alloc (Below.refl _ _) o) m)) HWord.out)
   clear hxn hj
   cases hq : (x.f1 == label) with
   | false =>
    have hq2 : decide (x.f1 = label) = false := by simpa using hq
    have HQ := Aside0.mk hq
    go_wp2_with fail
    go_quiet (fail)
    clear hq hq2
    go_wp2
    go_roundw
    case rel =>
     refine ⟨k + 1, by omega, by go_num, ⟨fun i hi => ?_⟩, ⟨below_then HBr.out HBr.out.size (pw_below_drewN (below_alloc (Below.refl _ _) _) _)⟩⟩
     rcases Nat.lt_succ_iff_lt_or_eq.1 hi with h | rfl
     ·exact hz.out i h
     ·rw [← hx'.out, HQ.out]; rfl
    case measure => simp [intOf]; omega
   | true =>
    have hq2 : decide (x.f1 = label) = true := by simpa using hq
    have HQ := Aside0.mk hq
    cases hF : F tt j with
    | false =>
     have HF := Aside0.mk hF
     clear hF
     go_wp2_with fail
     go_quiet ((go_at_call 89; exact quiet_same (shas_is _ j 1 (F tt) _ HF.out _ (wd.out _ _) j2)))
     clear hq hq2
     go_wp2
     go_roundw
     case rel =>
      refine ⟨k + 1, by omega, by go_num, ⟨fun i hi => ?_⟩, ⟨below_then HBr.out HBr.out.size (pw_below_drewN (below_alloc (Below.refl _ _) _) _)⟩⟩
      rcases Nat.lt_succ_iff_lt_or_eq.1 hi with h | rfl
      ·exact hz.out i h
      ·rw [← hx'.out, HJ.out, Int.toNat_natCast, HF.out, Bool.and_false]
     case measure => simp [intOf]; omega
    | true =>
     have HF := Aside0.mk hF
     clear hF
     have HFin := Aside0.mk (any_yes (p := fun e : Ed => e.f1 == label && F tt e.f2.toNat) z81 hlt (by rw [← hx'.out, HQ.out, HJ.out]; simpa using HF.out))
     go_wp2_with fail
     go_quiet ((go_at_call 89; exact quiet_same (shas_is _ j 1 (F tt) _ HF.out _ (wd.out _ _) j2)))
     clear hq hq2
     go_wp2
     go_ret
     exact ⟨ret_bool (by rw [← HR.out, HFin.out]), below_then HBr.out HBr.out.size (pw_below_drewN (below_alloc (Below.refl _ _) _) _)⟩
  ·have HFin := Aside0.mk (any_no (p := fun e : Ed => e.f1 == label && F tt e.f2.toNat) z81 hlt hz.out)
   go_wp2
   go_ret
   exact ⟨ret_bool (by rw [← HR.out, HFin.out]), HBr.out⟩
def dropF (F : Nat → Nat → Bool) (s v : Nat) : Nat → Nat → Bool := fun a => if a = s then lessN (F s) v else F a
def passV (es : List Ed) (s : Nat) (label : Int) (t : Nat) (F : Nat → Nat → Bool) : Nat → (Nat → Nat → Bool) × Bool
 | 0 => (F, false)
 | k + 1 => if (passV es s label t F k).1 s k && !leadsB es (passV es s label t F k).1 k label t then (dropF (passV es s label t F k).1 s k, true) else passV es s label t F k
def lookF (es : List Ed) (n t : Nat) (F : Nat → Nat → Bool) (l : List Ed) : (Nat → Nat → Bool) × List Int :=
 l.foldl (fun a e => ((passV es e.f0.toNat e.f1 t a.1 n).1, a.2 ++ if (passV es e.f0.toNat e.f1 t a.1 n).2 then [e.f0] else [])) (F, [])
theorem lookF_snoc (es : List Ed) (n t : Nat) (F : Nat → Nat → Bool) (l : List Ed) (e : Ed) : lookF es n t F (l ++ [e]) = ((passV es e.f0.toNat e.f1 t (lookF es n t F l).1 n).1, (lookF es n t F l).2 ++ if (passV es e.f0.toNat e.f1 t (lookF es n t F l).1 n).2 then [e.f0] else []) := by
 unfold lookF
 rw [List.foldl_append]
 rfl
theorem lookF_len (es : List Ed) (n t : Nat) (F : Nat → Nat → Bool) (l : List Ed) : (lookF es n t F l).2.length ≤ l.length := by
 unfold lookF
 have : ∀ (l : List Ed) (a : (Nat → Nat → Bool) × List Int), (l.foldl (fun a e => ((passV es e.f0.toNat e.f1 t a.1 n).1, a.2 ++ if (passV es e.f0.toNat e.f1 t a.1 n).2 then [e.f0] else [])) a).2.length ≤ a.2.length + l.length := by
  intro l
  induction l with
  | nil => intro a; simp
  | cons x l ih =>
   intro a
   refine Nat.le_trans (ih _) ?_
   simp only [List.length_append, List.length_cons]
   split <;> simp <;> omega
 simpa using this l (F, [])
section
variable {base : Nat} {w wr wr' : World} {gi go T n : Nat} {v1 v2 vf : Value} {e1 e2 : List Ed} {bs : List Nat} {F : Nat → Nat → Bool}
theorem Fol.drop (h : Fol wr base vf bs F) {s v : Nat} (hs : s < bs.length) : Fol (wr.setCell ⟨bs.getD s 0, 0, none⟩ (.int .u64 (wordOf (lessN (F s) v) 0 : Int))) base vf bs (dropF F s v) := by
 have hb : wr.heap[bs.getD s 0]? = some (.cells #[.int .u64 (wordOf (F s) 0 : Int)] 100 (0, 0)) := h.set s hs
 refine ⟨?_, fun a ha => ?_, h.base, h.apart⟩
 ·refine Kd.R_mono (Kd.R_far (Kd.R_far1 h.row rfl ?_) (fun k hk => hk.2) _) (fun _ _ => trivial)
  intro hh
  obtain ⟨cells, hc⟩ := Kd.R_typed h.row _ hh.symm
  rw [hb] at hc
  cases hc
 ·unfold dropF
  by_cases e : a = s
  ·subst e
   rw [if_pos rfl]
   exact (h.set a ha).set _
  ·rw [if_neg e]
   exact (Below.heap_setCell _ _ _ _ (fun h2 => e (h.apart a s ha hs h2))).trans (h.set a ha)
theorem Tab.far {α : Type} {d : Kd α} {e Ty : Nat} {g : Nat} {vs : List Value} {X : List (List α)} (hE : d.E = []) (h : Tab d e Ty wr base g vs X) {p : Addr} {cs : Array Value} {t : Nat} {fr : Nat × Nat} (hb : wr.heap[p.block]? = some (.cells cs t fr)) (h1 : t ≠ Ty) (h2 : t ≠ e) (v : Value) : Tab d e Ty (wr.setCell p v) base g vs X := by
 refine ⟨h.len, (Below.heap_setCell _ _ _ _ ?_).trans h.blk, fun j hj => ?_, h.apart⟩
 ·intro e0
  have := h.blk
  rw [e0, hb] at this
  cases this
  exact h1 rfl
 ·refine Kd.R_mono (Kd.R_far (Kd.R_far1 (h.row j hj) hE ?_) (fun k hk => hk.2) v) (fun _ _ => trivial)
  intro hh
  obtain ⟨cells, hc⟩ := Kd.R_typed (h.row j hj) _ hh.symm
  rw [hb] at hc
  cases hc
  exact h2 rfl
theorem SimT.drop (h : SimT base wr gi go T n v1 v2 e1 e2 vf bs F) {s v : Nat} (hs : s < bs.length) : SimT base (wr.setCell ⟨bs.getD s 0, 0, none⟩ (.int .u64 (wordOf (lessN (F s) v) 0 : Int))) gi go T n v1 v2 e1 e2 vf bs (dropF F s v) := by
 have hb : wr.heap[bs.getD s 0]? = some (.cells #[.int .u64 (wordOf (F s) 0 : Int)] 100 (0, 0)) := h.fol.set s hs
 obtain ⟨vs, us, t1, t2, t3⟩ := h.two
 refine ⟨(Below.heap_setCell _ _ _ _ ?_).trans h.tb, ⟨vs, us, t1.far rfl (p := ⟨bs.getD s 0, 0, none⟩) hb (by decide) (by decide) _, t2.far rfl (p := ⟨bs.getD s 0, 0, none⟩) hb (by decide) (by decide) _, t3⟩, h.fol.drop hs, h.bi, h.bo, h.bt, h.ne⟩
 intro e0
 have := h.tb
 rw [e0, hb] at this
 cases this
end
structure Kx (w w' : World) : Prop where
  size : w.heap.size ≤ w'.heap.size
  keep : ∀ (k : Nat) (c : Array Value) (t : Nat), w.heap[k]? = some (.cells c t (0, 0)) → t ≠ 100 → w'.heap[k]? = some (.cells c t (0, 0))
theorem Kx.refl (w : World) : Kx w w := ⟨Nat.le_refl _, fun _ _ _ h _ => h⟩
theorem Kx.trans {w w1 w2 : World} (h : Kx w w1) (k : Kx w1 w2) : Kx w w2 := ⟨Nat.le_trans h.size k.size, fun i c t hi ht => k.keep i c t (h.keep i c t hi ht) ht⟩
theorem Kx.of_below {w w1 : World} (h : Below w.heap.size w w1) : Kx w w1 := ⟨h.size, fun k c t hk _ => blk_below hk h⟩
theorem Kx.set {w : World} {b : Nat} {c : Array Value} (h : w.heap[b]? = some (.cells c 100 (0, 0))) (i : Nat) (v : Value) : Kx w (w.setCell ⟨b, i, none⟩ v) := by
 refine ⟨by simp [World.setCell], fun k c' t hk ht => (Below.heap_setCell _ _ _ _ ?_).trans hk⟩
 intro e
 have e' : k = b := e
 rw [e', h] at hk
 cases hk
 exact ht rfl
theorem Kx.grown {w w1 w2 : World} (h : Kx w w1) {row : Option Nat} (hg : w1.grownBy w2 row) (hr : ∀ b, row = some b → w.heap.size ≤ b) : Kx w w2 := by
 refine ⟨Nat.le_trans h.size hg.size, fun k c t hk ht => ?_⟩
 have h1 := h.keep k c t hk ht
 refine (hg.block k (blk_lt h1) ?_).trans h1
 intro e
 have := hr k e.symm
 have := blk_lt hk
 omega
theorem Kx.cell {w w1 : World} (h : Kx w w1) {a : Addr} {v : Value} (hc : w.cell? a = some v) {c : Array Value} {t : Nat} (hb : w.heap[a.block]? = some (.cells c t (0, 0))) (ht : t ≠ 100) : w1.cell? a = some v := by
 have := h.keep _ _ _ hb ht
 have e : w1.heap[a.block]? = w.heap[a.block]? := by rw [this, hb]
 simpa [World.cell?, e] using hc
theorem SimT.grown {base : Nat} {wr w3 : World} {gi go T n : Nat} {v1 v2 vf : Value} {e1 e2 : List Ed} {bs : List Nat} {F : Nat → Nat → Bool} (h : SimT base wr gi go T n v1 v2 e1 e2 vf bs F) {row : Option Nat} (hg : wr.grownBy w3 row) {t0 : Nat} (hrow : ∀ k, row = some k → ∃ cells, wr.heap[k]? = some (.cells cells t0 (0, 0))) (h1 : t0 ≠ 100) (h2 : t0 ≠ 138) (h3 : t0 ≠ 141) (h4 : t0 ≠ 81) (h5 : t0 ≠ 23) : SimT base w3 gi go T n v1 v2 e1 e2 vf bs F := by
 cases row with
 | none => exact h.on ⟨hg.os, hg.tape, hg.output, hg.size, fun k hk => hg.block k hk (by simp)⟩
 | some b =>
  obtain ⟨cs, hb⟩ := hrow b rfl
  obtain ⟨vs, us, t1, t2, t3⟩ := h.two
  refine ⟨(hg.block T (blk_lt h.tb) ?_).trans h.tb, ⟨vs, us, t1.grown rfl hb (fun c t fr e => by cases e; exact ⟨h5, h4⟩) hg, t2.grown rfl hb (fun c t fr e => by cases e; exact ⟨h5, h4⟩) hg, t3⟩, h.fol.growE hg hrow h1 h2, h.bi, h.bo, h.bt, h.ne⟩
  intro e
  cases e
  rw [h.tb] at hb
  cases hb
  exact h3 rfl
def LookPost (base : Nat) (w0 w : World) (gi go T n : Nat) (v1 v2 vf : Value) (es : List Ed) (bs : List Nat) (R : (Nat → Nat → Bool) × List Int) (e : Ending) (w' : World) : Prop :=
 ∃ v, e = .returned v ∧ Kd.R (Kd.int .i64) 3 w' base (fun _ => True) v R.2 ∧ SimT base w' gi go T n v1 v2 es es vf bs R.1 ∧ Below base w0 w' ∧ Kx w w' ∧ (∀ b, v.ownBlock = some b → w.heap.size ≤ b)
theorem Fol.cells {W : World} {base gf n cf : Nat} {bs : List Nat} {F : Nat → Nat → Bool} (h : Fol W base (.slice (some ⟨gf, 0, none⟩) n cf) bs F) (hb : bs.length = n) {i : Nat} (hi : i < n) : W.cell? ⟨gf, i, none⟩ = some (.slice (some ⟨bs.getD i 0, 0, none⟩) 1 1) ∧ W.cell? ⟨bs.getD i 0, 0, none⟩ = some (.int .u64 (wordOf (F i) 0 : Int)) := by
 obtain ⟨g, c, e, h1, h2⟩ := h.at_ (by omega)
 cases e
 exact ⟨h1 i (by omega), h2 i (by omega)⟩
theorem addr_block (ad : Addr) (k : Nat) : (ad.add k).block = ad.block := by unfold Addr.add; split <;> rfl
theorem passV_step {es : List Ed} {s : Nat} {label : Int} {t : Nat} {F : Nat → Nat → Bool} {k : Nat} {b : Bool} (h : ((passV es s label t F k).1 s k && !leadsB es (passV es s label t F k).1 k label t) = b) : passV es s label t F (k + 1) = if b then (dropF (passV es s label t F k).1 s k, true) else passV es s label t F k := by
 rw [passV, h]
set_option maxHeartbeats 16000000 in
set_option maxRecDepth 100000 in
theorem look_any {base gi go T n gf cf : Nat} {v1 v2 : Value} {es : List Ed} {bs : List Nat} {F : Nat → Nat → Bool} (tt : Nat) (w0 w : World) (hS : SimT base w gi go T n v1 v2 es es (.slice (some ⟨gf, 0, none⟩) n cf) bs F) (hbs : bs.length = n) (hn : n ≤ 63) (ht : tt < n) (hes : ∀ e ∈ es, (0 ≤ e.f0 ∧ e.f0 < n) ∧ (0 ≤ e.f2 ∧ e.f2 < n)) (hel : es.length ≤ 1000000) (hw0 : base = w0.heap.size) (hBw : Below base w0 w) :
  Calls Try.prog 115 #[.pointer (some ⟨T, 0, none⟩), .int .i64 tt] w (LookPost base w0 w gi go T n v1 v2 (.slice (some ⟨gf, 0, none⟩) n cf) es bs (lookF es n tt F (es.filter fun e => decide (e.f2 = (tt : Int))))) := by
 subst hw0
 obtain ⟨vs, us, hT, hU, hX⟩ := hS.two
 obtain ⟨A, c, hvr, hc1, hC⟩ := hT.read tt (by rw [ins_length]; exact ht)
 have hrow := hT.row tt (by rw [hT.len, ins_length]; exact ht)
 rw [ins_at es ht] at hc1 hC hvr
 obtain ⟨I, hI⟩ : ∃ I, I = es.filter fun e => decide (e.f2 = (tt : Int)) := ⟨_, rfl⟩
 rw [← hI] at hc1 hC hvr ⊢
 have HI := Aside0.mk (show ∀ e ∈ I, 0 ≤ e.f0 ∧ e.f0 < n from fun e he => by rw [hI] at he; exact (hes e (List.mem_filter.1 he).1).1)
 have hIl : I.length ≤ 1000000 := by rw [hI]; exact Nat.le_trans (List.length_filter_le _ _) hel
 have HTy := Aside0.mk (show ∀ ad, A = some ad → ∃ cs, w.heap[ad.block]? = some (.cells cs 81 (0, 0)) from fun ad had => Kd.R_typed hrow ad.block (by rw [hvr, had]; rfl))
 have hll := C_len hC
 have HC := Aside0.mk hC
 have t3 := hS.t3
 have HES := Aside0.mk (show ∀ e ∈ es, 0 ≤ e.f2 ∧ e.f2 < n from fun e he => (hes e he).2)
 have HT1 := Aside0.mk hS
 have HBs := Aside0.mk hbs
 have HB0 := Aside0.mk hBw
 have HK0 := Aside0.mk (Kx.refl w)
 have o0 : (0 : Int) ≤ (tt : Int) := by omega
 have o1 : (tt : Int) < (n : Int) := by omega
 have HTT := Aside0.mk ht
 clear hS hbs hT hU hX hvr hrow hI hC hes hBw ht
 go_enter Try.func115, Try.ntmps115
 go_wp2
 clear t3 hc1
 go_loopw [5, 18] (fun v i wr => ∃ k : Nat, k ≤ I.length ∧ i = .int .i64 k ∧ Aside0 (Kd.R (Kd.int .i64) 3 wr w0.heap.size (fun _ => True) v (lookF es n tt F (I.take k)).2) ∧ Aside0 (SimT w0.heap.size wr gi go T n v1 v2 es es (.slice (some ⟨gf, 0, none⟩) n cf) bs (lookF es n tt F (I.take k)).1) ∧ Aside0 (Below w0.heap.size w0 wr) ∧ Aside0 (Kx w wr) ∧ Aside0 (∀ b, v.ownBlock = some b → w.heap.size ≤ b)) (fun _ i _ => I.length - (intOf i).toNat)
 case atStart => exact ⟨0, Nat.zero_le _, rfl, ⟨Kd.R_nil _ _ _ _ _⟩, HT1, HB0, HK0, ⟨fun b hb => by simp [Value.ownBlock] at hb⟩⟩
 case round =>
  clear HT1 HB0 HK0
  obtain ⟨k, hk, rfl, HR, HS, HB, HK, HV⟩ := hrel
  by_cases hlt : k < I.length
  ·obtain ⟨ad, hA, g0, g1, g2⟩ := atE HC.out k hlt
   subst hA
   obtain ⟨cs, hcs⟩ := HTy.out ad rfl
   replace g0 := HK.out.cell g0 (by rw [addr_block]; exact hcs) (by decide)
   replace g1 := HK.out.cell g1 (by show w.heap[(ad.add (k * 3)).block]? = _; rw [addr_block]; exact hcs) (by decide)
   replace g2 := HK.out.cell g2 (by show w.heap[(ad.add (k * 3)).block]? = _; rw [addr_block]; exact hcs) (by decide)
   obtain ⟨x, hx⟩ : ∃ x, x = I.getD k z81 := ⟨_, rfl⟩
   have hxn : 0 ≤ x.f0 ∧ x.f0 < n := by
    rw [hx]
    refine HI.out _ ?_
    rw [List.getD_eq_getElem?_getD, List.getElem?_eq_getElem hlt]
    exact List.getElem_mem hlt
   rw [← hx] at g0 g1 g2
   have hx' := Aside0.mk hx
   clear hx hcs cs
   obtain ⟨s, hs⟩ : ∃ s : Nat, x.f0 = (s : Int) := ⟨x.f0.toNat, by omega⟩
   have s2 : s < n := by omega
   have s0 : (0 : Int) ≤ (s : Int) := by omega
   have s1 : (s : Int) < (n : Int) := by omega
   rw [hs] at g0
   have HSx := Aside0.mk hs
   clear hxn hs
   have t0 := fun o => later (below_alloc (Below.refl _ _) o) HS.out.t0
   go_wp2
   clear t0 g0 g1 g2
   obtain ⟨wo, hwo⟩ : ∃ wo, wo = wr := ⟨_, rfl⟩
   subst hwo
   obtain ⟨E, hE⟩ : ∃ E, E = wo.heap.size := ⟨_, rfl⟩
   rw [← hE]
   have hB4 := below_alloc (Below.refl wo.heap.size wo) (Obj.cells #[Value.int IntKind.i64 (s : Int), Value.int IntKind.i64 x.f1, Value.int IntKind.i64 x.f2] 81)
   have HE1 := Aside0.mk (blk_new wo (Obj.cells #[Value.int IntKind.i64 (s : Int), Value.int IntKind.i64 x.f1, Value.int IntKind.i64 x.f2] 81))
   rw [← hE] at HE1
   have HS1 := Aside0.mk (HS.out.on hB4)
   have HR1 := Aside0.mk (Kd.R_below HR.out hB4)
   have HB1 := Aside0.mk (below_then HB.out HB.out.size hB4)
   have HK1 := Aside0.mk (HK.out.trans (Kx.of_below hB4))
   obtain ⟨F1, hF1⟩ : ∃ F1, F1 = (lookF es n tt F (I.take k)).1 := ⟨_, rfl⟩
   obtain ⟨L1, hL1⟩ : ∃ L1, L1 = (lookF es n tt F (I.take k)).2 := ⟨_, rfl⟩
   have hLl : L1.length ≤ 1000000 := by
    rw [hL1]
    exact Nat.le_trans (lookF_len _ _ _ _ _) (by rw [List.length_take]; omega)
   rw [← hF1] at HS1
   rw [← hL1] at HR1
   have HF1 := Aside0.mk hF1
   have HL1 := Aside0.mk hL1
   clear hF1 hL1 hB4 hE HR HS HB HK
   generalize (wo.alloc (Obj.cells #[Value.int IntKind.i64 (s : Int), Value.int IntKind.i64 x.f1, Value.int IntKind.i64 x.f2] 81)) = W0 at HE1 HS1 HR1 HB1 HK1 ⊢
   go_loopw [8, 27] (fun l i wr => ∃ j : Nat, j ≤ n ∧ i = .int .i64 j ∧ l = .bool (passV es s x.f1 tt F1 j).2 ∧ Aside0 (wr.heap[E]? = some (.cells #[.int .i64 (s : Int), .int .i64 x.f1, .int .i64 x.f2] 81 (0, 0))) ∧ Aside0 (Kd.R (Kd.int .i64) 3 wr w0.heap.size (fun _ => True) u5 L1) ∧ Aside0 (SimT w0.heap.size wr gi go T n v1 v2 es es (.slice (some ⟨gf, 0, none⟩) n cf) bs (passV es s x.f1 tt F1 j).1) ∧ Aside0 (Below w0.heap.size w0 wr) ∧ Aside0 (Kx w wr)) (fun _ i _ => n - (intOf i).toNat)
   case atStart => exact ⟨0, Nat.zero_le _, rfl, rfl, HE1, HR1, HS1, HB1, HK1⟩
   case round =>
    clear HE1 HS1 HR1 HB1 HK1
    obtain ⟨j, hj, rfl, rfl, HE, HR, HS, HB, HK⟩ := hrel
    by_cases hlt2 : j < n
    ·have j64 : j < 64 := by omega
     obtain ⟨F2, hF2⟩ : ∃ F2, F2 = (passV es s x.f1 tt F1 j).1 := ⟨_, rfl⟩
     obtain ⟨l2, hl2⟩ : ∃ l2, l2 = (passV es s x.f1 tt F1 j).2 := ⟨_, rfl⟩
     rw [← hF2] at HS
     rw [← hl2]
     have HF2 := Aside0.mk hF2
     have HL2 := Aside0.mk hl2
     obtain ⟨hrow, hword⟩ := HS.out.fol.cells HBs.out s2
     obtain ⟨bb, hbb⟩ : ∃ bb, bb = bs.getD s 0 := ⟨_, rfl⟩
     rw [← hbb] at hrow hword
     have HBb := Aside0.mk hbb
     clear hF2 hl2 hbb
     cases hF : F2 s j with
     | false =>
      have HStep := Aside0.mk (passV_step (es := es) (s := s) (label := x.f1) (t := tt) (F := F1) (k := j) (b := false) (by rw [← HF2.out, hF]; rfl))
      have HF := Aside0.mk hF
      have t5 := fun m => later (pw_below_drewN (Below.refl wr.heap.size wr) m) HS.out.t5
      have e0 := fun m => later (pw_below_drewN (Below.refl wr.heap.size wr) m) ((blk_cell HE.out 0).trans rfl)
      have e1 := fun m => later (pw_below_drewN (Below.refl wr.heap.size wr) m) ((blk_cell HE.out 1).trans rfl)
      have rw_ := fun m => later (pw_below_drewN (Below.refl wr.heap.size wr) m) hrow
      have wd := Aside0.mk (fun m => later (pw_below_drewN (Below.refl wr.heap.size wr) m) hword)
      clear hF hrow hword
      go_wp2_with fail
      go_quiet ((go_at_call 89; exact quiet_same (shas_is _ j 1 (F2 s) _ HF.out _ (wd.out _) j64)))
      clear t5 e0 e1 rw_
      go_wp2
      go_roundw
      case rel =>
       refine ⟨j + 1, by omega, by go_num, by rw [HStep.out, HL2.out]; rfl, ⟨blk_below HE.out (pw_below_drewN (Below.refl _ _) _)⟩, ⟨Kd.R_below HR.out (pw_below_drewN (Below.refl _ _) _)⟩, ⟨?_⟩, ⟨below_then HB.out HB.out.size (pw_below_drewN (Below.refl _ _) _)⟩, ⟨HK.out.trans (Kx.of_below (pw_below_drewN (Below.refl _ _) _))⟩⟩
       rw [HStep.out, if_neg (by simp), ← HF2.out]
       exact HS.out.on (pw_below_drewN (Below.refl _ _) _)
      case measure => simp [intOf]; omega
     | true =>
      obtain ⟨r, hr⟩ : ∃ r, leadsB es F2 j x.f1 tt = r := ⟨_, rfl⟩
      have HStep := Aside0.mk (passV_step (es := es) (s := s) (label := x.f1) (t := tt) (F := F1) (k := j) (b := !r) (by rw [← HF2.out, hF, hr]; rfl))
      have HF := Aside0.mk hF
      have HRr := Aside0.mk hr
      have t5 := HS.out.t5
      have e0 := (blk_cell HE.out 0).trans rfl
      have e1 := (blk_cell HE.out 1).trans rfl
      have hj0 : (0 : Int) ≤ (j : Int) := by omega
      clear hF hr hword
      go_wp2_with fail
      refine start_ (n := 19) (S := fun w' => w'.cell? ⟨T, 5, none⟩ = some (.slice (some ⟨gf, 0, none⟩) n cf) ∧ w'.cell? ⟨E, 0, none⟩ = some (.int .i64 (s : Int)) ∧ w'.cell? ⟨E, 1, none⟩ = some (.int .i64 x.f1) ∧ w'.cell? ⟨gf, s, none⟩ = some (.slice (some ⟨bb, 0, none⟩) 1 1)) (ds := []) #[false, false, false, false, false, false, false, false, false, false, false, false, false, false, false, false, false, false, false] (by kernel_rfl) rfl rfl ⟨t5, e0, e1, hrow⟩ (fun hHeld => ?_)
      have hB0 := below_drew1 (Below.refl wr.heap.size wr)
      have HS2 := Aside0.mk (HS.out.on hB0)
      have HE2 := Aside0.mk (blk_below HE.out hB0)
      have HR2 := Aside0.mk (Kd.R_below HR.out hB0)
      have HB2 := Aside0.mk (below_then HB.out HB.out.size hB0)
      have HK2 := Aside0.mk (HK.out.trans (Kx.of_below hB0))
      clear hB0 t5 e0 e1 hrow
      generalize wr.drew = V at HS2 HE2 HR2 HB2 HK2 hHeld ⊢
      have HWd := Aside0.mk (show V.cell? ⟨bb, 0, none⟩ = some (.int .u64 (wordOf (F2 s) 0 : Int)) by rw [HBb.out]; exact (HS2.out.fol.cells HBs.out s2).2)
      refine pure_ (i := 0) (N := some 30) (v := ?_) (a' := ?_) #[true, false, false, false, false, false, false, false, false, false, false, false, false, false, false, false, false, false, false] rfl rfl (by kernel_rfl) (fun _ _ _ h => h) (Or.inl ⟨by rfl, ?_⟩) ?_ ?_
      rotate_left
      ·intro w'
       go_simp
       with_reducible rfl
      rotate_left
      ·simp only [Act.put, List.setIfInBounds_toArray, List.set_cons_zero, List.set_cons_succ, i64_w, i32_w]
       rfl
      refine pure_ (i := 1) (N := some 31) (v := ?_) (a' := ?_) #[true, true, false, false, false, false, false, false, false, false, false, false, false, false, false, false, false, false, false] rfl rfl (by kernel_rfl) (fun _ _ _ h => h) (Or.inl ⟨by rfl, ?_⟩) ?_ ?_
      rotate_left
      ·intro w'
       go_simp
       with_reducible rfl
      rotate_left
      ·simp only [Act.put, List.setIfInBounds_toArray, List.set_cons_zero, List.set_cons_succ, i64_w, i32_w]
       rfl
      refine pure_ (i := 2) (N := some 32) (v := ?_) (a' := ?_) #[true, true, true, false, false, false, false, false, false, false, false, false, false, false, false, false, false, false, false] rfl rfl (by kernel_rfl) (fun _ _ _ h => h) (Or.inl ⟨by rfl, ?_⟩) ?_ ?_
      rotate_left
      ·intro w'
       go_simp
       with_reducible rfl
      rotate_left
      ·simp only [Act.put, List.setIfInBounds_toArray, List.set_cons_zero, List.set_cons_succ, i64_w, i32_w]
       rfl
      refine pure_ (i := 4) (N := some 34) (v := ?_) (a' := ?_) #[true, true, true, false, true, false, false, false, false, false, false, false, false, false, false, false, false, false, false] rfl rfl (by kernel_rfl) (fun _ _ _ h => h) (Or.inl ⟨by rfl, ?_⟩) ?_ ?_
      rotate_left
      ·intro w'
       go_simp
       with_reducible rfl
      rotate_left
      ·simp only [Act.put, List.setIfInBounds_toArray, List.set_cons_zero, List.set_cons_succ, i64_w, i32_w]
       rfl
      refine pure_ (i := 8) (N := some 38) (v := ?_) (a' := ?_) #[true, true, true, false, true, false, false, false, true, false, false, false, false, false, false, false, false, false, false] rfl rfl (by kernel_rfl) (fun _ _ _ h => h) (Or.inl ⟨by rfl, ?_⟩) ?_ ?_
      rotate_left
      ·intro w'
       go_simp
       with_reducible rfl
      rotate_left
      ·simp only [Act.put, List.setIfInBounds_toArray, List.set_cons_zero, List.set_cons_succ, i64_w, i32_w]
       rfl
      refine take_ (i := 3) (N := some 33) (v := ?_) (a' := ?_) #[true, true, true, true, true, false, false, false, true, false, false, false, false, false, false, false, false, false, false] rfl rfl (by kernel_rfl) (fun _ _ _ h => h) (Or.inl ⟨by rfl, ?_⟩) hHeld ?_ ?_
      rotate_left
      ·rintro w' ⟨s0, s1, s2, s3⟩
       go_simp
       with_reducible rfl
      rotate_left
      ·simp only [Act.put, List.setIfInBounds_toArray, List.set_cons_zero, List.set_cons_succ, i64_w, i32_w]
       rfl
      refine take_ (i := 5) (N := some 35) (v := ?_) (a' := ?_) #[true, true, true, true, true, true, false, false, true, false, false, false, false, false, false, false, false, false, false] rfl rfl (by kernel_rfl) (fun _ _ _ h => h) (Or.inl ⟨by rfl, ?_⟩) hHeld ?_ ?_
      rotate_left
      ·rintro w' ⟨s0, s1, s2, s3⟩
       go_simp
       with_reducible rfl
      rotate_left
      ·simp only [Act.put, List.setIfInBounds_toArray, List.set_cons_zero, List.set_cons_succ, i64_w, i32_w]
       rfl
      refine pure_ (i := 6) (N := some 36) (v := ?_) (a' := ?_) #[true, true, true, true, true, true, true, false, true, false, false, false, false, false, false, false, false, false, false] rfl rfl (by kernel_rfl) (fun _ _ _ h => h) (Or.inl ⟨by rfl, ?_⟩) ?_ ?_
      rotate_left
      ·intro w'
       go_simp
       with_reducible rfl
      rotate_left
      ·simp only [Act.put, List.setIfInBounds_toArray, List.set_cons_zero, List.set_cons_succ, i64_w, i32_w]
       rfl
      refine take_ (i := 7) (N := some 37) (v := ?_) (a' := ?_) #[true, true, true, true, true, true, true, true, true, false, false, false, false, false, false, false, false, false, false] rfl rfl (by kernel_rfl) (fun _ _ _ h => h) (Or.inl ⟨by rfl, ?_⟩) hHeld ?_ ?_
      rotate_left
      ·rintro w' ⟨s0, s1, s2, s3⟩
       go_simp
       with_reducible rfl
      rotate_left
      ·simp only [Act.put, List.setIfInBounds_toArray, List.set_cons_zero, List.set_cons_succ, i64_w, i32_w]
       rfl
      refine one_ (i := 9) (N := some 39) #[true, true, true, true, true, true, true, true, true, true, false, false, false, false, false, false, false, false, false] rfl rfl (by kernel_rfl) (by decide) (fun K hK => ?_)
      refine goes_ Try.func89 (by kernel_rfl) rfl #[.slice (some ⟨bb, 0, none⟩) 1 1, .int .i64 (j : Int)] (by rfl) rfl rfl (by simp only [List.map_toArray, List.map_cons, List.map_nil]; rfl) ?_
      refine (shas_is bb j 1 (F2 s) true HF.out _ HWd.out j64).mono ?_
      rintro e w3 ⟨rfl, rfl⟩
      refine ⟨_, rfl, ?_⟩
      refine hK.out _ _ ⟨hHeld.1, hHeld.2.1, hHeld.2.2.1, hHeld.2.2.2⟩ (fun hHeld => ?_)
      clear hK K
      refine norm_ (a' := ?_) ?_ ?_
      rotate_left
      ·show Act.put _ (some 39) _ = _
       simp only [Act.put, List.setIfInBounds_toArray, List.set_cons_zero, List.set_cons_succ, i64_w, i32_w]
       rfl
      refine pure_ (i := 10) (N := some 40) (v := ?_) (a' := ?_) #[true, true, true, true, true, true, true, true, true, true, true, false, false, false, false, false, false, false, false] rfl rfl (by kernel_rfl) (fun _ _ _ h => h) (Or.inl ⟨by rfl, ?_⟩) ?_ ?_
      rotate_left
      ·intro w'
       go_simp
       with_reducible rfl
      rotate_left
      ·simp only [Act.put, List.setIfInBounds_toArray, List.set_cons_zero, List.set_cons_succ, i64_w, i32_w]
       rfl
      refine pure_ (i := 11) (N := some 41) (v := ?_) (a' := ?_) #[true, true, true, true, true, true, true, true, true, true, true, true, false, false, false, false, false, false, false] rfl rfl (by kernel_rfl) (fun _ _ _ h => h) (Or.inl ⟨by rfl, ?_⟩) ?_ ?_
      rotate_left
      ·intro w'
       go_simp
       with_reducible rfl
      rotate_left
      ·simp only [Act.put, List.setIfInBounds_toArray, List.set_cons_zero, List.set_cons_succ, i64_w, i32_w]
       rfl
      refine pure_ (i := 12) (N := some 42) (v := ?_) (a' := ?_) #[true, true, true, true, true, true, true, true, true, true, true, true, true, false, false, false, false, false, false] rfl rfl (by kernel_rfl) (fun _ _ _ h => h) (Or.inl ⟨by rfl, ?_⟩) ?_ ?_
      rotate_left
      ·intro w'
       go_simp
       with_reducible rfl
      rotate_left
      ·simp only [Act.put, List.setIfInBounds_toArray, List.set_cons_zero, List.set_cons_succ, i64_w, i32_w]
       rfl
      refine pure_ (i := 13) (N := some 43) (v := ?_) (a' := ?_) #[true, true, true, true, true, true, true, true, true, true, true, true, true, true, false, false, false, false, false] rfl rfl (by kernel_rfl) (fun _ _ _ h => h) (Or.inl ⟨by rfl, ?_⟩) ?_ ?_
      rotate_left
      ·intro w'
       go_simp
       with_reducible rfl
      rotate_left
      ·simp only [Act.put, List.setIfInBounds_toArray, List.set_cons_zero, List.set_cons_succ, i64_w, i32_w]
       rfl
      refine pure_ (i := 15) (N := some 45) (v := ?_) (a' := ?_) #[true, true, true, true, true, true, true, true, true, true, true, true, true, true, false, true, false, false, false] rfl rfl (by kernel_rfl) (fun _ _ _ h => h) (Or.inl ⟨by rfl, ?_⟩) ?_ ?_
      rotate_left
      ·intro w'
       go_simp
       with_reducible rfl
      rotate_left
      ·simp only [Act.put, List.setIfInBounds_toArray, List.set_cons_zero, List.set_cons_succ, i64_w, i32_w]
       rfl
      refine take_ (i := 14) (N := some 44) (v := ?_) (a' := ?_) #[true, true, true, true, true, true, true, true, true, true, true, true, true, true, true, true, false, false, false] rfl rfl (by kernel_rfl) (fun _ _ _ h => h) (Or.inl ⟨by rfl, ?_⟩) hHeld ?_ ?_
      rotate_left
      ·rintro w' ⟨s0, s1, s2, s3⟩
       go_simp
       with_reducible rfl
      rotate_left
      ·simp only [Act.put, List.setIfInBounds_toArray, List.set_cons_zero, List.set_cons_succ, i64_w, i32_w]
       rfl
      refine one_ (i := 16) (N := some 46) #[true, true, true, true, true, true, true, true, true, true, true, true, true, true, true, true, true, false, false] rfl rfl (by kernel_rfl) (by decide) (fun K hK => ?_)
      refine goes_ Try.func131 (by kernel_rfl) rfl #[.pointer (some ⟨T, 0, none⟩), .int .i64 (j : Int), .int .i64 x.f1, .int .i64 (tt : Int)] (by rfl) rfl rfl (by simp only [List.map_toArray, List.map_cons, List.map_nil]; rfl) ?_
      refine (sleads_any j x.f1 tt _ HS2.out HBs.out hn hlt2 HTT.out HES.out hel r HRr.out).mono ?_
      rintro e w4 ⟨rfl, hB⟩
      refine ⟨_, rfl, ?_⟩
      have HB4 := Aside0.mk hB
      clear hB
      refine hK.out _ _ ⟨later HB4.out hHeld.1, later HB4.out hHeld.2.1, later HB4.out hHeld.2.2.1, later HB4.out hHeld.2.2.2⟩ (fun hHeld => ?_)
      clear hK K
      refine norm_ (a' := ?_) ?_ ?_
      rotate_left
      ·show Act.put _ (some 46) _ = _
       simp only [Act.put, List.setIfInBounds_toArray, List.set_cons_zero, List.set_cons_succ, i64_w, i32_w]
       rfl
      refine pure_ (i := 17) (N := some 47) (v := ?_) (a' := ?_) #[true, true, true, true, true, true, true, true, true, true, true, true, true, true, true, true, true, true, false] rfl rfl (by kernel_rfl) (fun _ _ _ h => h) (Or.inl ⟨by rfl, ?_⟩) ?_ ?_
      rotate_left
      ·intro w'
       go_simp
       with_reducible rfl
      rotate_left
      ·simp only [Act.put, List.setIfInBounds_toArray, List.set_cons_zero, List.set_cons_succ, i64_w, i32_w]
       rfl
      refine pure_ (i := 18) (N := some 48) (v := ?_) (a' := ?_) #[true, true, true, true, true, true, true, true, true, true, true, true, true, true, true, true, true, true, true] rfl rfl (by kernel_rfl) (fun _ _ _ h => h) (Or.inl ⟨by rfl, ?_⟩) ?_ ?_
      rotate_left
      ·intro w'
       go_simp
       with_reducible rfl
      rotate_left
      ·simp only [Act.put, List.setIfInBounds_toArray, List.set_cons_zero, List.set_cons_succ, i64_w, i32_w]
       rfl
      refine done_ (by kernel_rfl) ?_
      have HS4 := Aside0.mk (HS2.out.on HB4.out)
      have HE4 := Aside0.mk (blk_below HE2.out HB4.out)
      have HR4 := Aside0.mk (Kd.R_below HR2.out HB4.out)
      have HB5 := Aside0.mk (below_then HB2.out HB2.out.size HB4.out)
      have HK4 := Aside0.mk (HK2.out.trans (Kx.of_below HB4.out))
      clear HS2 HE2 HR2 HB2 HK2 HWd hHeld HB4
      cases r with
      | true =>
       go_wp2
       go_roundw
       case rel =>
        refine ⟨j + 1, by omega, by go_num, by rw [HStep.out, HL2.out]; rfl, HE4, HR4, ⟨?_⟩, HB5, HK4⟩
        rw [HStep.out, if_neg (by simp), ← HF2.out]
        exact HS4.out
       case measure => simp [intOf]; omega
      | false =>
       go_wp2_with fail
       obtain ⟨hrow, _⟩ := HS4.out.fol.cells HBs.out s2
       rw [← HBb.out] at hrow
       have t5 := HS4.out.t5
       have e0 := (blk_cell HE4.out 0).trans rfl
       refine start_ (n := 10) (S := fun w' => w'.cell? ⟨T, 5, none⟩ = some (.slice (some ⟨gf, 0, none⟩) n cf) ∧ w'.cell? ⟨E, 0, none⟩ = some (.int .i64 (s : Int)) ∧ w'.cell? ⟨gf, s, none⟩ = some (.slice (some ⟨bb, 0, none⟩) 1 1)) (ds := [9]) #[false, false, false, false, false, false, false, false, false, false] (by kernel_rfl) rfl rfl ⟨t5, e0, hrow⟩ (fun hHeld => ?_)
       have hB0 := below_drew1 (Below.refl w4.heap.size w4)
       have HS6 := Aside0.mk (HS4.out.on hB0)
       have HE6 := Aside0.mk (blk_below HE4.out hB0)
       have HR6 := Aside0.mk (Kd.R_below HR4.out hB0)
       have HB6 := Aside0.mk (below_then HB5.out HB5.out.size hB0)
       have HK6 := Aside0.mk (HK4.out.trans (Kx.of_below hB0))
       clear hB0 t5 e0 hrow HS4 HE4 HR4 HB5 HK4
       generalize w4.drew = V2 at HS6 HE6 HR6 HB6 HK6 hHeld ⊢
       have HWd := Aside0.mk (show OneW V2 bb (F2 s) by rw [HBb.out]; exact HS6.out.fol.set s (by rw [HBs.out]; exact s2))
       refine pure_ (i := 0) (N := some 49) (v := ?_) (a' := ?_) #[true, false, false, false, false, false, false, false, false, false] rfl rfl (by kernel_rfl) (fun _ _ _ h => h) (Or.inl ⟨by rfl, ?_⟩) ?_ ?_
       rotate_left
       ·intro w'
        go_simp
        with_reducible rfl
       rotate_left
       ·simp only [Act.put, List.setIfInBounds_toArray, List.set_cons_zero, List.set_cons_succ, i64_w, i32_w]
        rfl
       refine pure_ (i := 1) (N := some 50) (v := ?_) (a' := ?_) #[true, true, false, false, false, false, false, false, false, false] rfl rfl (by kernel_rfl) (fun _ _ _ h => h) (Or.inl ⟨by rfl, ?_⟩) ?_ ?_
       rotate_left
       ·intro w'
        go_simp
        with_reducible rfl
       rotate_left
       ·simp only [Act.put, List.setIfInBounds_toArray, List.set_cons_zero, List.set_cons_succ, i64_w, i32_w]
        rfl
       refine pure_ (i := 2) (N := some 51) (v := ?_) (a' := ?_) #[true, true, true, false, false, false, false, false, false, false] rfl rfl (by kernel_rfl) (fun _ _ _ h => h) (Or.inl ⟨by rfl, ?_⟩) ?_ ?_
       rotate_left
       ·intro w'
        go_simp
        with_reducible rfl
       rotate_left
       ·simp only [Act.put, List.setIfInBounds_toArray, List.set_cons_zero, List.set_cons_succ, i64_w, i32_w]
        rfl
       refine pure_ (i := 4) (N := some 53) (v := ?_) (a' := ?_) #[true, true, true, false, true, false, false, false, false, false] rfl rfl (by kernel_rfl) (fun _ _ _ h => h) (Or.inl ⟨by rfl, ?_⟩) ?_ ?_
       rotate_left
       ·intro w'
        go_simp
        with_reducible rfl
       rotate_left
       ·simp only [Act.put, List.setIfInBounds_toArray, List.set_cons_zero, List.set_cons_succ, i64_w, i32_w]
        rfl
       refine pure_ (i := 8) (N := some 57) (v := ?_) (a' := ?_) #[true, true, true, false, true, false, false, false, true, false] rfl rfl (by kernel_rfl) (fun _ _ _ h => h) (Or.inl ⟨by rfl, ?_⟩) ?_ ?_
       rotate_left
       ·intro w'
        go_simp
        with_reducible rfl
       rotate_left
       ·simp only [Act.put, List.setIfInBounds_toArray, List.set_cons_zero, List.set_cons_succ, i64_w, i32_w]
        rfl
       refine take_ (i := 3) (N := some 52) (v := ?_) (a' := ?_) #[true, true, true, true, true, false, false, false, true, false] rfl rfl (by kernel_rfl) (fun _ _ _ h => h) (Or.inl ⟨by rfl, ?_⟩) hHeld ?_ ?_
       rotate_left
       ·rintro w' ⟨s0, s1, s2⟩
        go_simp
        with_reducible rfl
       rotate_left
       ·simp only [Act.put, List.setIfInBounds_toArray, List.set_cons_zero, List.set_cons_succ, i64_w, i32_w]
        rfl
       refine take_ (i := 5) (N := some 54) (v := ?_) (a' := ?_) #[true, true, true, true, true, true, false, false, true, false] rfl rfl (by kernel_rfl) (fun _ _ _ h => h) (Or.inl ⟨by rfl, ?_⟩) hHeld ?_ ?_
       rotate_left
       ·rintro w' ⟨s0, s1, s2⟩
        go_simp
        with_reducible rfl
       rotate_left
       ·simp only [Act.put, List.setIfInBounds_toArray, List.set_cons_zero, List.set_cons_succ, i64_w, i32_w]
        rfl
       refine pure_ (i := 6) (N := some 55) (v := ?_) (a' := ?_) #[true, true, true, true, true, true, true, false, true, false] rfl rfl (by kernel_rfl) (fun _ _ _ h => h) (Or.inl ⟨by rfl, ?_⟩) ?_ ?_
       rotate_left
       ·intro w'
        go_simp
        with_reducible rfl
       rotate_left
       ·simp only [Act.put, List.setIfInBounds_toArray, List.set_cons_zero, List.set_cons_succ, i64_w, i32_w]
        rfl
       refine take_ (i := 7) (N := some 56) (v := ?_) (a' := ?_) #[true, true, true, true, true, true, true, true, true, false] rfl rfl (by kernel_rfl) (fun _ _ _ h => h) (Or.inl ⟨by rfl, ?_⟩) hHeld ?_ ?_
       rotate_left
       ·rintro w' ⟨s0, s1, s2⟩
        go_simp
        with_reducible rfl
       rotate_left
       ·simp only [Act.put, List.setIfInBounds_toArray, List.set_cons_zero, List.set_cons_succ, i64_w, i32_w]
        rfl
       refine last_ (i := 9) (N := some 58) #[true, true, true, true, true, true, true, true, true, true] rfl rfl (by kernel_rfl) (by decide) (fun K hK => ?_)
       refine goes_ Try.func132 (by kernel_rfl) rfl #[.slice (some ⟨bb, 0, none⟩) 1 1, .int .i64 (j : Int)] (by rfl) rfl rfl (by simp only [List.map_toArray, List.map_cons, List.map_nil]; rfl) ?_
       refine (sdrop_any bb j 1 (F2 s) _ HWd.out j64).mono ?_
       rintro e w7 ⟨rfl, rfl⟩
       refine ⟨_, rfl, ?_⟩
       refine hK.out _ _ ?_
       clear hK K
       refine norm_ (a' := ?_) ?_ ?_
       rotate_left
       ·show Act.put _ (some 58) _ = _
        simp only [Act.put, List.setIfInBounds_toArray, List.set_cons_zero, List.set_cons_succ, i64_w, i32_w]
        rfl
       refine done_ (by kernel_rfl) ?_
       have hsd : SimT w0.heap.size (V2.setCell ⟨bb, 0, none⟩ (.int .u64 (wordOf (lessN (F2 s) j) 0 : Int))) gi go T n v1 v2 es es (.slice (some ⟨gf, 0, none⟩) n cf) bs (dropF F2 s j) := by
        rw [HBb.out]
        exact HS6.out.drop (by rw [HBs.out]; exact s2)
       have hbase : w0.heap.size ≤ bb := by rw [HBb.out]; exact HS6.out.fol.base s (by rw [HBs.out]; exact s2)
       have hEb : E ≠ bb := blk_ne HE6.out HWd.out (by decide)
       have HS7 := Aside0.mk hsd
       have HE7 := Aside0.mk ((Below.heap_setCell V2 ⟨bb, 0, none⟩ (.int .u64 (wordOf (lessN (F2 s) j) 0 : Int)) E hEb).trans HE6.out)
       have HR7 := Aside0.mk (show Kd.R (Kd.int .i64) 3 (V2.setCell ⟨bb, 0, none⟩ (.int .u64 (wordOf (lessN (F2 s) j) 0 : Int))) w0.heap.size (fun _ => True) u5 L1 from Kd.R_mono (Kd.R_far (Kd.R_far1 HR6.out rfl (Kd.R_ne HR6.out HWd.out (by decide))) (fun k hk => hk.2) _) (fun _ _ => trivial))
       have HB7 := Aside0.mk (show Below w0.heap.size w0 (V2.setCell ⟨bb, 0, none⟩ (.int .u64 (wordOf (lessN (F2 s) j) 0 : Int))) from below_set HB6.out hbase)
       have HK7 := Aside0.mk (HK6.out.trans (Kx.set (show V2.heap[bb]? = _ from HWd.out) 0 (.int .u64 (wordOf (lessN (F2 s) j) 0 : Int))))
       clear hsd hbase hEb HS6 HE6 HR6 HB6 HK6 HWd hHeld
       go_wp2
       go_roundw
       case rel =>
        refine ⟨j + 1, by omega, by go_num, by rw [HStep.out]; rfl, HE7, HR7, ⟨?_⟩, HB7, HK7⟩
        rw [HStep.out, if_pos (by simp), ← HF2.out]
        exact HS7.out
       case measure => simp [intOf]; omega
    ·have ej : j = n := by omega
     subst ej
     obtain ⟨b, hb⟩ : ∃ b, b = (passV es s x.f1 tt F1 j).2 := ⟨_, rfl⟩
     rw [← hb]
     have HBl := Aside0.mk hb
     have HSt := Aside0.mk (show (lookF es j tt F (I.take (k + 1))) = ((passV es s x.f1 tt F1 j).1, L1 ++ if b then [x.f0] else []) by
      rw [show I.take (k + 1) = I.take k ++ [x] by rw [hx'.out]; exact take_snoc z81 hlt, lookF_snoc, ← HF1.out, ← HL1.out, HSx.out, Int.toNat_natCast, hb])
     clear hb hj
     cases b with
     | false =>
      go_wp2
      go_roundw
      case rel =>
       refine ⟨k + 1, by omega, by go_num, ⟨?_⟩, ⟨?_⟩, HB, HK, HV⟩
       ·rw [HSt.out, if_neg (by simp), List.append_nil]; exact HR.out
       ·rw [HSt.out]; exact HS.out
      case measure => simp [intOf]; omega
     | true =>
      have e0 := (blk_cell HE.out 0).trans rfl
      go_wp2_with (at_builtin; refine Kd.R_append (Kd.int .i64) (w0 := w0) w0.heap.size rfl (.tmp 61) (.tmp 64) 42 3 (.int .i64 0) 8 rfl Try.underlying42 info3 rfl (by decide) (by omega) u5 L1 (s : Int) [.int .i64 (s : Int)] (fun _ => True) (fun _ => False) rfl rfl rfl (fun _ hk => hk.elim) (fun _ _ => trivial) HR.out HB.out HB.out.size (by omega) ?_; intro v9 w9 ho hb hg hat; have HO9 := Aside0.mk ho; have HB9 := Aside0.mk hb; have HS9 := Aside0.mk (HS.out.grown hg (t0 := 3) (fun q hq => Kd.R_typed HR.out q hq) (by decide) (by decide) (by decide) (by decide) (by decide)); have HK9 := Aside0.mk (HK.out.grown hg HV.out); have HV9 := Aside0.mk (show ∀ b, v9.ownBlock = some b → w.heap.size ≤ b from fun b hb => by rcases hat with hat | ⟨b', hb', hle⟩; exact HV.out b (by rw [← hat]; exact hb); rw [hb] at hb'; cases hb'; exact Nat.le_trans HK.out.size hle); clear ho hb hg hat e0)
      go_roundw
      case rel =>
       refine ⟨k + 1, by omega, by go_num, ⟨?_⟩, ⟨?_⟩, HB9, HK9, HV9⟩
       ·rw [HSt.out, if_pos rfl, HSx.out]; exact HO9.out
       ·rw [HSt.out]; exact HS9.out
      case measure => simp [intOf]; omega
  ·have ek : I.take k = I := List.take_of_length_le (by omega)
   rw [ek] at HR HS
   clear ek
   go_wp2
   go_ret
   exact ⟨u5, rfl, HR.out, HS.out, HB.out, HK.out, HV.out⟩
end Go.Proofs.Ytmpiokdomjchiaa.H
set_option linter.unusedVariables false
set_option linter.unusedSimpArgs false
namespace Go.Proofs.Ytmpiokdomjchiaa.H
open Go.RowKit Go.Proofs.Ytmpiokdomjchiaa.Pr Go.Proofs.YtmpiokdomjchiaaW.PrintWords Go.Proofs.Ytmpiokdomjchiaa.Sem
def cntF (n : Nat) (F : Nat → Nat → Bool) : Nat := ((List.range n).map fun s => ((List.range n).filter (F s)).length).sum
theorem sum_drop {f g : Nat → Nat} {s : Nat} : ∀ (l : List Nat), l.Nodup → s ∈ l → (∀ x ∈ l, x ≠ s → g x = f x) → g s + 1 ≤ f s → (l.map g).sum + 1 ≤ (l.map f).sum
 | [], _, h, _, _ => by simp at h
 | x :: l, hn, h, he, hs => by
  have hn' := List.nodup_cons.1 hn
  simp only [List.map_cons, List.sum_cons]
  by_cases e : x = s
  ·subst e
   have : l.map g = l.map f := List.map_congr_left fun y hy => he y (List.mem_cons_of_mem _ hy) (fun e2 => hn'.1 (e2 ▸ hy))
   rw [this]
   omega
  ·have h2 : s ∈ l := by
    rcases List.mem_cons.1 h with h | h
    ·exact absurd h.symm e
    ·exact h
   have := sum_drop l hn'.2 h2 (fun y hy hne => he y (List.mem_cons_of_mem _ hy) hne) hs
   rw [he x (List.mem_cons_self ..) e]
   omega
theorem filter_drop {p q : Nat → Bool} {v : Nat} : ∀ (l : List Nat), l.Nodup → v ∈ l → (∀ x, q x = (p x && !decide (x = v))) → p v = true → (l.filter q).length + 1 ≤ (l.filter p).length
 | [], _, h, _, _ => by simp at h
 | x :: l, hn, h, he, hp => by
  have hn' := List.nodup_cons.1 hn
  by_cases e : x = v
  ·subst e
   have hq : q x = false := by rw [he x]; simp
   have : l.filter q = l.filter p := List.filter_congr fun y hy => by rw [he y, decide_eq_false (fun e2 : y = x => hn'.1 (e2 ▸ hy))]; simp
   rw [List.filter_cons, List.filter_cons, hq, hp, this]
   simp
  ·have h2 : v ∈ l := by
    rcases List.mem_cons.1 h with h | h
    ·exact absurd h.symm e
    ·exact h
   have ih := filter_drop l hn'.2 h2 he hp
   have hq : q x = p x := by rw [he x, decide_eq_false e]; simp
   rw [List.filter_cons, List.filter_cons, hq]
   split <;> simp <;> omega
theorem cnt_drop {n : Nat} {F : Nat → Nat → Bool} {s v : Nat} (hs : s < n) (hv : v < n) (h : F s v = true) : cntF n (dropF F s v) + 1 ≤ cntF n F := by
 unfold cntF
 refine sum_drop (s := s) _ List.nodup_range (List.mem_range.2 hs) (fun x _ hx => by unfold dropF; rw [if_neg hx]) ?_
 have : dropF F s v s = lessN (F s) v := by unfold dropF; rw [if_pos rfl]
 rw [this]
 exact filter_drop _ List.nodup_range (List.mem_range.2 hv) (fun x => rfl) h
theorem passV_cnt (es : List Ed) {n s : Nat} (label : Int) (t : Nat) (F : Nat → Nat → Bool) (hs : s < n) : ∀ k, k ≤ n → cntF n (passV es s label t F k).1 + (if (passV es s label t F k).2 then 1 else 0) ≤ cntF n F
 | 0, _ => by simp [passV]
 | k + 1, hk => by
  have ih := passV_cnt es label t F hs k (by omega)
  rw [passV]
  split
  ·rename_i h
   have h1 : (passV es s label t F k).1 s k = true := by
    rw [Bool.and_eq_true] at h
    exact h.1
   have := cnt_drop hs (show k < n by omega) h1
   simp only [if_true]
   split at ih <;> omega
  ·exact ih
theorem lookF_cnt (es : List Ed) {n : Nat} (t : Nat) (F : Nat → Nat → Bool) (l : List Ed) (hl : ∀ e ∈ l, 0 ≤ e.f0 ∧ e.f0 < n) : cntF n (lookF es n t F l).1 + (lookF es n t F l).2.length ≤ cntF n F := by
 unfold lookF
 have key : ∀ (l : List Ed) (a : (Nat → Nat → Bool) × List Int), (∀ e ∈ l, 0 ≤ e.f0 ∧ e.f0 < n) → cntF n (l.foldl (fun a e => ((passV es e.f0.toNat e.f1 t a.1 n).1, a.2 ++ if (passV es e.f0.toNat e.f1 t a.1 n).2 then [e.f0] else [])) a).1 + (l.foldl (fun a e => ((passV es e.f0.toNat e.f1 t a.1 n).1, a.2 ++ if (passV es e.f0.toNat e.f1 t a.1 n).2 then [e.f0] else [])) a).2.length ≤ cntF n a.1 + a.2.length := by
  intro l
  induction l with
  | nil => intro a _; simp
  | cons x l ih =>
   intro a h
   have hx := h x (List.mem_cons_self ..)
   refine Nat.le_trans (ih _ fun e he => h e (List.mem_cons_of_mem _ he)) ?_
   have := passV_cnt es (n := n) (s := x.f0.toNat) x.f1 t a.1 (by omega) n (Nat.le_refl _)
   simp only [List.length_append]
   split at this
   ·rename_i h2; rw [if_pos h2]; simp; omega
   ·rename_i h2; rw [if_neg h2]; simp; omega
 simpa using key l (F, []) hl
def runF (es : List Ed) (n : Nat) : Nat → (Nat → Nat → Bool) → List Int → (Nat → Nat → Bool)
 | 0, F, _ => F
 | _ + 1, F, [] => F
 | f + 1, F, t :: r => runF es n f (lookF es n t.toNat F (es.filter fun e => decide (e.f2 = t))).1 (r ++ (lookF es n t.toNat F (es.filter fun e => decide (e.f2 = t))).2)
def nodesL (n : Nat) : List Int := (List.range n).map Int.ofNat
def simF (n : Nat) (es : List Ed) : Nat → Nat → Bool := runF es n (2 * cntF n (fun _ _ => true) + n + 1) (fun _ _ => true) (nodesL n)
theorem runF_nil (es : List Ed) (n f : Nat) (F : Nat → Nat → Bool) : runF es n f F [] = F := by cases f <;> rfl
def Answered (es : List Ed) (n : Nat) (F : Nat → Nat → Bool) (e : Ed) : Prop := ∀ v, v < n → F e.f0.toNat v = true → leadsB es F v e.f1 e.f2.toNat = true
theorem leads_mono {es : List Ed} {F G : Nat → Nat → Bool} (h : ∀ a b, F a b = true → G a b = true) {v t : Nat} {label : Int} (hl : leadsB es F v label t = true) : leadsB es G v label t = true := by
 unfold leadsB at hl ⊢
 rw [List.any_eq_true] at hl ⊢
 obtain ⟨e, he, h2⟩ := hl
 rw [Bool.and_eq_true] at h2
 exact ⟨e, he, by rw [Bool.and_eq_true]; exact ⟨h2.1, h _ _ h2.2⟩⟩
theorem leads_congr {es : List Ed} {F G : Nat → Nat → Bool} {t : Nat} (h : F t = G t) (v : Nat) (label : Int) : leadsB es F v label t = leadsB es G v label t := by
 unfold leadsB
 rw [h]
theorem drop_sub (F : Nat → Nat → Bool) (s v : Nat) : ∀ a b, dropF F s v a b = true → F a b = true := by
 intro a b h
 unfold dropF at h
 split at h
 ·rename_i e
  subst e
  unfold lessN at h
  rw [Bool.and_eq_true] at h
  exact h.1
 ·exact h
theorem pass_sub (es : List Ed) (s : Nat) (label : Int) (t : Nat) (F : Nat → Nat → Bool) : ∀ k a b, (passV es s label t F k).1 a b = true → F a b = true
 | 0, a, b, h => h
 | k + 1, a, b, h => by
  rw [passV] at h
  split at h
  ·exact pass_sub es s label t F k a b (drop_sub _ _ _ a b h)
  ·exact pass_sub es s label t F k a b h
theorem pass_other (es : List Ed) (s : Nat) (label : Int) (t : Nat) (F : Nat → Nat → Bool) {a : Nat} (ha : a ≠ s) : ∀ k, (passV es s label t F k).1 a = F a
 | 0 => rfl
 | k + 1 => by
  rw [passV]
  split
  ·show dropF _ s k a = _
   unfold dropF
   rw [if_neg ha]
   exact pass_other es s label t F ha k
  ·exact pass_other es s label t F ha k
theorem pass_no (es : List Ed) (s : Nat) (label : Int) (t : Nat) (F : Nat → Nat → Bool) : ∀ k, (passV es s label t F k).2 = false → (passV es s label t F k).1 = F ∧ ∀ v, v < k → F s v = true → leadsB es F v label t = true
 | 0, _ => ⟨rfl, fun v hv => by omega⟩
 | k + 1, h => by
  rw [passV] at h ⊢
  split at h
  ·cases h
  ·rename_i h1
   rw [if_neg h1]
   obtain ⟨h2, h3⟩ := pass_no es s label t F k h
   refine ⟨h2, fun v hv hF => ?_⟩
   by_cases e : v < k
   ·exact h3 v e hF
   ·obtain rfl : v = k := by omega
    rw [h2, hF] at h1
    simpa using h1
theorem pass_yes (es : List Ed) {s : Nat} (label : Int) {t : Nat} (F : Nat → Nat → Bool) (hst : s ≠ t) : ∀ k v, v < k → (passV es s label t F k).1 s v = true → leadsB es (passV es s label t F k).1 v label t = true
 | 0, v, hv, _ => by omega
 | k + 1, v, hv, h => by
  have e1 : (passV es s label t F (k + 1)).1 t = F t := pass_other es s label t F (Ne.symm hst) (k + 1)
  have e2 : (passV es s label t F k).1 t = F t := pass_other es s label t F (Ne.symm hst) k
  rw [leads_congr (e1.trans e2.symm)]
  rw [passV] at h
  by_cases e : v < k
  ·refine pass_yes es label F hst k v e ?_
   split at h
   ·exact drop_sub _ _ _ _ _ h
   ·exact h
  ·obtain rfl : v = k := by omega
   split at h
   ·have h2 : dropF (passV es s label t F v).1 s v s v = true := h
    unfold dropF at h2
    rw [if_pos rfl] at h2
    unfold lessN at h2
    simp at h2
   ·rename_i h1
    rw [h] at h1
    simpa using h1
theorem snoc_ind {α : Type} {P : List α → Prop} (h0 : P []) (h1 : ∀ l x, P l → P (l ++ [x])) (l : List α) : P l := by
 have : ∀ r : List α, P r.reverse := by
  intro r
  induction r with
  | nil => exact h0
  | cons x r ih => rw [List.reverse_cons]; exact h1 _ _ ih
 simpa using this l.reverse
theorem look_spec (es : List Ed) {n : Nat} (t : Nat) (F : Nat → Nat → Bool) : ∀ (l : List Ed), (∀ e ∈ l, (0 ≤ e.f0 ∧ e.f0 < n) ∧ e.f2 = (t : Int)) →
  (∀ a b, (lookF es n t F l).1 a b = true → F a b = true) ∧
  (∀ a, (lookF es n t F l).1 a = F a ∨ (a : Int) ∈ (lookF es n t F l).2) ∧
  (∀ e ∈ l, Answered es n (lookF es n t F l).1 e ∨ (t : Int) ∈ (lookF es n t F l).2) := by
 intro l
 refine snoc_ind (P := fun l : List Ed => (∀ e ∈ l, (0 ≤ e.f0 ∧ e.f0 < (n : Int)) ∧ e.f2 = (t : Int)) → (∀ a b, (lookF es n t F l).1 a b = true → F a b = true) ∧ (∀ a, (lookF es n t F l).1 a = F a ∨ (a : Int) ∈ (lookF es n t F l).2) ∧ (∀ e ∈ l, Answered es n (lookF es n t F l).1 e ∨ (t : Int) ∈ (lookF es n t F l).2)) ?_ ?_ l
 ·exact fun _ => ⟨fun _ _ h => h, fun _ => .inl rfl, fun e he => by simp at he⟩
 ·intro l x ih hl
  obtain ⟨i1, i2, i3⟩ := ih fun e he => hl e (List.mem_append_left _ he)
  have hx := hl x (List.mem_append_right _ (List.mem_singleton.2 rfl))
  rw [lookF_snoc]
  simp only
  obtain ⟨G, hG⟩ : ∃ G, G = (lookF es n t F l).1 := ⟨_, rfl⟩
  obtain ⟨L, hL⟩ : ∃ L, L = (lookF es n t F l).2 := ⟨_, rfl⟩
  rw [← hG] at i1 i2 i3 ⊢
  rw [← hL] at i2 i3 ⊢
  obtain ⟨s, hs⟩ : ∃ s : Nat, x.f0 = (s : Int) := ⟨x.f0.toNat, by omega⟩
  rw [hs, Int.toNat_natCast]
  cases hb : (passV es s x.f1 t G n).2 with
  | false =>
   obtain ⟨p1, p2⟩ := pass_no es s x.f1 t G n hb
   rw [p1]
   simp only [Bool.false_eq_true, if_false, List.append_nil]
   refine ⟨i1, i2, fun e he => ?_⟩
   rcases List.mem_append.1 he with he | he
   ·exact i3 e he
   ·rw [List.mem_singleton.1 he]
    refine .inl fun v hv hF => ?_
    rw [hs, Int.toNat_natCast] at hF
    rw [hx.2, Int.toNat_natCast]
    exact p2 v hv hF
  | true =>
   simp only [if_true]
   refine ⟨fun a b h => i1 a b (pass_sub es s x.f1 t G n a b h), fun a => ?_, fun e he => ?_⟩
   ·by_cases e : a = s
    ·exact .inr (List.mem_append_right _ (List.mem_singleton.2 (by rw [e])))
    ·rcases i2 a with h | h
     ·exact .inl ((pass_other es s x.f1 t G e n).trans h)
     ·exact .inr (List.mem_append_left _ h)
   ·by_cases hst : s = t
    ·exact .inr (List.mem_append_right _ (List.mem_singleton.2 (by rw [hst])))
    ·have hte : (passV es s x.f1 t G n).1 t = G t := pass_other es s x.f1 t G (Ne.symm hst) n
     rcases List.mem_append.1 he with he | he
     ·rcases i3 e he with h | h
      ·refine .inl fun v hv hF => ?_
       have := h v hv (pass_sub es s x.f1 t G n _ _ hF)
       have e2 : e.f2 = (t : Int) := (hl e (List.mem_append_left _ he)).2
       rw [e2, Int.toNat_natCast] at this ⊢
       rw [leads_congr hte]
       exact this
      ·exact .inr (List.mem_append_left _ h)
     ·rw [List.mem_singleton.1 he]
      refine .inl fun v hv hF => ?_
      rw [hs, Int.toNat_natCast] at hF
      rw [hx.2, Int.toNat_natCast]
      exact pass_yes es x.f1 G hst n v hv hF
def Sim (es : List Ed) (n : Nat) (X : Nat → Nat → Bool) : Prop := ∀ e ∈ es, Answered es n X e
theorem pass_keep' {es : List Ed} {n : Nat} {X : Nat → Nat → Bool} (hX : Sim es n X) (hN : ∀ a b, X a b = true → b < n) {e : Ed} (he : e ∈ es) {F : Nat → Nat → Bool} (h : ∀ a b, X a b = true → F a b = true) : ∀ k a b, X a b = true → (passV es e.f0.toNat e.f1 e.f2.toNat F k).1 a b = true
 | 0, a, b, hab => h a b hab
 | k + 1, a, b, hab => by
  have ih := pass_keep' hX hN he h k
  rw [passV]
  split
  ·rename_i h1
   rw [Bool.and_eq_true] at h1
   show dropF _ _ _ a b = true
   unfold dropF
   by_cases e1 : a = e.f0.toNat
   ·subst e1
    rw [if_pos rfl]
    unfold lessN
    rw [ih _ b hab, Bool.true_and]
    have : b ≠ k := by
     intro e2
     subst e2
     have h3 := leads_mono ih (hX e he b (hN _ _ hab) hab)
     rw [h3] at h1
     simp at h1
    simpa using this
   ·rw [if_neg e1]
    exact ih a b hab
  ·exact ih a b hab
theorem look_keep {es : List Ed} {n : Nat} {X : Nat → Nat → Bool} (hX : Sim es n X) (hN : ∀ a b, X a b = true → b < n) (t : Nat) {F : Nat → Nat → Bool} (h : ∀ a b, X a b = true → F a b = true) (l : List Ed) : (∀ e ∈ l, e ∈ es ∧ e.f2 = (t : Int)) → ∀ a b, X a b = true → (lookF es n t F l).1 a b = true := by
 refine snoc_ind (P := fun l : List Ed => (∀ e ∈ l, e ∈ es ∧ e.f2 = (t : Int)) → ∀ a b, X a b = true → (lookF es n t F l).1 a b = true) ?_ ?_ l
 ·exact fun _ => h
 ·intro l x ih hl a b hab
  have hx := hl x (List.mem_append_right _ (List.mem_singleton.2 rfl))
  rw [lookF_snoc]
  have := pass_keep' hX hN hx.1 (ih fun e he => hl e (List.mem_append_left _ he)) n a b hab
  rwa [hx.2, Int.toNat_natCast] at this
def Rest (es : List Ed) (n : Nat) (F : Nat → Nat → Bool) (L : List Int) : Prop := ∀ e ∈ es, Answered es n F e ∨ e.f2 ∈ L
theorem run_spec {es : List Ed} {n : Nat} (hes : ∀ e ∈ es, (0 ≤ e.f0 ∧ e.f0 < n) ∧ (0 ≤ e.f2 ∧ e.f2 < n)) : ∀ (f : Nat) (F : Nat → Nat → Bool) (L : List Int), (∀ t ∈ L, 0 ≤ t ∧ t < n) → 2 * cntF n F + L.length < f → Rest es n F L →
  Sim es n (runF es n f F L) ∧ (∀ a b, runF es n f F L a b = true → F a b = true) ∧ ∀ X, Sim es n X → (∀ a b, X a b = true → b < n) → (∀ a b, X a b = true → F a b = true) → ∀ a b, X a b = true → runF es n f F L a b = true
 | 0, F, L, _, hf, _ => by omega
 | f + 1, F, [], hL, hf, hR => by
  refine ⟨fun e he => ?_, fun _ _ h => h, fun X _ _ h => h⟩
  rcases hR e he with h | h
  ·exact h
  ·simp at h
 | f + 1, F, t :: r, hL, hf, hR => by
  have ht := hL t (List.mem_cons_self ..)
  obtain ⟨j, rfl⟩ : ∃ j : Nat, t = (j : Int) := ⟨t.toNat, by omega⟩
  rw [runF]
  simp only [Int.toNat_natCast]
  obtain ⟨I, hI⟩ : ∃ I, I = es.filter fun e => decide (e.f2 = (j : Int)) := ⟨_, rfl⟩
  have hIm : ∀ e ∈ I, e ∈ es ∧ e.f2 = (j : Int) := fun e he => by rw [hI] at he; simpa using he
  rw [← hI]
  have hc := lookF_cnt es (n := n) j F I fun e he => (hes e (hIm e he).1).1
  obtain ⟨s1, s2, s3⟩ := look_spec es (n := n) j F I fun e he => ⟨(hes e (hIm e he).1).1, (hIm e he).2⟩
  have hmem : ∀ t ∈ (lookF es n j F I).2, 0 ≤ t ∧ t < n := by
   have key : ∀ l : List Ed, (∀ e ∈ l, e ∈ es) → ∀ t ∈ (lookF es n j F l).2, 0 ≤ t ∧ t < n := by
    intro l
    refine snoc_ind (P := fun l : List Ed => (∀ e ∈ l, e ∈ es) → ∀ t ∈ (lookF es n j F l).2, 0 ≤ t ∧ t < n) ?_ ?_ l
    ·intro _ t ht; simp [lookF] at ht
    ·intro l x ih hl t ht
     rw [lookF_snoc] at ht
     rcases List.mem_append.1 ht with h | h
     ·exact ih (fun e he => hl e (List.mem_append_left _ he)) t h
     ·split at h
      ·rw [List.mem_singleton.1 h]
       exact (hes x (hl x (List.mem_append_right _ (List.mem_singleton.2 rfl)))).1
      ·simp at h
   exact key I fun e he => (hIm e he).1
  have hR2 : Rest es n (lookF es n j F I).1 (r ++ (lookF es n j F I).2) := by
   intro e he
   by_cases e1 : e.f2 = (j : Int)
   ·have : e ∈ I := by rw [hI]; simpa using ⟨he, e1⟩
    rcases s3 e this with h | h
    ·exact .inl h
    ·exact .inr (List.mem_append_right _ (by rw [e1]; exact h))
   ·rcases hR e he with h | h
    ·obtain ⟨k, hk⟩ : ∃ k : Nat, e.f2 = (k : Int) := ⟨e.f2.toNat, by have := (hes e he).2; omega⟩
     rcases s2 k with h2 | h2
     ·refine .inl fun v hv hF => ?_
      have := h v hv (s1 _ _ hF)
      rw [hk, Int.toNat_natCast] at this ⊢
      rw [leads_congr h2]
      exact this
     ·exact .inr (List.mem_append_right _ (by rw [hk]; exact h2))
    ·rcases List.mem_cons.1 h with h | h
     ·exact absurd h e1
     ·exact .inr (List.mem_append_left _ h)
  have hlen : (r ++ (lookF es n j F I).2).length = r.length + (lookF es n j F I).2.length := List.length_append
  simp only [List.length_cons] at hf
  obtain ⟨g1, g2, g3⟩ := run_spec hes f (lookF es n j F I).1 (r ++ (lookF es n j F I).2) (fun t ht => by
   rcases List.mem_append.1 ht with h | h
   ·exact hL t (List.mem_cons_of_mem _ h)
   ·exact hmem t h) (by rw [hlen]; omega) hR2
  exact ⟨g1, fun a b h => s1 a b (g2 a b h), fun X hX hN h => g3 X hX hN (look_keep hX hN j h I hIm)⟩
theorem nodes_in {n : Nat} {t : Int} : t ∈ nodesL n ↔ 0 ≤ t ∧ t < n := by
 unfold nodesL
 rw [List.mem_map]
 constructor
 ·rintro ⟨i, hi, rfl⟩
  have := List.mem_range.1 hi
  exact ⟨Int.natCast_nonneg _, by show (i : Int) < n; omega⟩
 ·rintro ⟨h0, h1⟩
  exact ⟨t.toNat, List.mem_range.2 (by omega), by show (t.toNat : Int) = t; omega⟩
theorem simF_spec {es : List Ed} {n : Nat} (hes : ∀ e ∈ es, (0 ≤ e.f0 ∧ e.f0 < n) ∧ (0 ≤ e.f2 ∧ e.f2 < n)) : Sim es n (simF n es) ∧ ∀ X, Sim es n X → (∀ a b, X a b = true → b < n) → ∀ a b, X a b = true → simF n es a b = true := by
 obtain ⟨h1, _, h3⟩ := run_spec hes (2 * cntF n (fun _ _ => true) + n + 1) (fun _ _ => true) (nodesL n) (fun t ht => nodes_in.1 ht) (by simp [nodesL]) (fun e he => .inr (nodes_in.2 (hes e he).2))
 exact ⟨h1, fun X hX hN => h3 X hX hN fun _ _ _ => rfl⟩
end Go.Proofs.Ytmpiokdomjchiaa.H
set_option linter.unusedVariables false
set_option linter.unusedSimpArgs false
namespace Go.Proofs.Ytmpiokdomjchiaa.H
open Go.RowKit Go.Proofs.Ytmpiokdomjchiaa.Pr Go.Proofs.YtmpiokdomjchiaaW.PrintWords Go.Proofs.Ytmpiokdomjchiaa.Sem Go.Proofs.YtmpiokdomjchiaaW.PrintLast
abbrev QI (w : World) (base : Nat) (v : Value) (xs : List Int) : Prop := Kd.Q (Kd.int .i64) 3 w base (fun _ => True) v xs
theorem C_cells {w : World} {A : Option Addr} {n : Nat} {ys : List Int} (h : Kd.C (Kd.int .i64) w A n ys) (ad : Addr) (hA : A = some ad) : ∀ j u, (nums .i64 ys)[j]? = some u → w.cell? (ad.add j) = some u := by
 intro j u hu
 have hj : j < ys.length := by
  have := (List.getElem?_eq_some_iff.1 hu).1
  simpa [nums] using this
 have hn : ys.length = n := h.1
 obtain ⟨ad', e, hc⟩ := Kd.at_int h (j : Int) (by omega) (by omega)
 rw [hA] at e
 cases e
 have e2 : u = .int .i64 (rd ys (j : Int)) := by
  simp only [nums, List.getElem?_map, List.getElem?_eq_getElem hj, Option.map_some, Option.some.injEq] at hu
  rw [← hu]
  simp [rd, List.getD_eq_getElem?_getD, List.getElem?_eq_getElem hj]
 rw [e2]
 simpa using hc
theorem qi_run {w0 W : World} (base : Nat) (ty : TypeId) (v : Value) (xs ys : List Int) (A : Option Addr) (m c : Nat) (HO : QI W base v xs) (HR : Kd.C (Kd.int .i64) W A m ys) (HB : Below base w0 W) (hbase : base ≤ W.heap.size) (hl : xs.length + m ≤ 10000000) :
  ∃ v1 w1, (Builtin.append_ #[42, 42] ty #[v, .slice A m c]).run Try.prog W = .ok v1 w1 ∧ QI w1 base v1 (xs ++ ys) ∧ Below base w0 w1 ∧ W.grownBy w1 v.ownBlock ∧ (v1.ownBlock = v.ownBlock ∨ ∃ b, v1.ownBlock = some b ∧ W.heap.size ≤ b) := by
 obtain ⟨i0, hi, hzz⟩ := Option.map_eq_some_iff.1 info3
 simp only [Prod.mk.injEq] at hzz
 obtain ⟨hz0, hz1, hz2⟩ := hzz
 have hm : ys.length = m := HR.1
 obtain ⟨A1, c1, hv, hc1⟩ := Kd.Q_slice HO
 by_cases h0 : m = 0
 ·subst h0
  obtain rfl : ys = [] := List.eq_nil_of_length_eq_zero hm
  refine ⟨v, W, ?_, by rw [List.append_nil]; exact HO, HB, World.grownBy.refl W _, .inl rfl⟩
  subst hv
  have hrun : ∀ A : Option Addr, (Builtin.append_ #[42, 42] ty #[.slice A1 xs.length c1, .slice A 0 c]).run Try.prog W = .ok (.slice A1 xs.length c1) W := by
   intro A
   cases A1 with
   | none =>
    have hx0 : xs.length = 0 := by
     rcases Nat.eq_zero_or_pos xs.length with h | h
     ·exact h
     ·obtain ⟨_, _, hC⟩ := Kd.Q_reads' HO
      obtain ⟨ad, e, _⟩ := Kd.at_int hC 0 (by omega) (by omega)
      cases e
    have hc0 : c1 = 0 := by
     obtain ⟨_, inner, hq, _⟩ := HO
     rcases hq.2 with ⟨_, A', e, _⟩ | ⟨g, off, cap, cur, e, _⟩
     ·simp only [Value.slice.injEq] at e
      exact e.2.2
     ·simp at e
    rw [hx0, hc0]
    cases A <;> simp [Builtin.append_, run_underlying Try.underlying42, sizeOf, typeInfo, hi, Builtin.lenOf, Builtin.firstCells, loadCells, loadCellsFrom]
   | some ad => cases A <;> simp [Builtin.append_, run_underlying Try.underlying42, sizeOf, typeInfo, hi, Builtin.lenOf, Builtin.firstCells, hc1, storeCells, loadCells, loadCellsFrom]
  exact hrun A
 ·obtain ⟨hq0, inner, hown, hr⟩ := HO
  obtain ⟨ad, hA, _⟩ := HR.2.2 (by omega)
  subst hA
  have hin : inner = nums .i64 xs := by
   apply List.ext_getElem?
   intro j
   have hl := hr.1
   have hl' : inner.length = xs.length * 1 := hl
   rcases Nat.lt_or_ge j xs.length with hj | hj
   ·have h2 := hr.2 j _ (List.getElem?_eq_getElem hj)
    have hjl : j < inner.length := by omega
    have h3 : (inner.drop (j * 1)).take 1 = [.int .i64 xs[j]] := h2
    rw [Nat.mul_one, List.drop_eq_getElem_cons hjl] at h3
    have h5 := congrArg List.head? h3
    rw [List.take_succ_cons] at h5
    simp only [List.head?_cons, Option.some.injEq] at h5
    rw [List.getElem?_eq_getElem hjl, h5]
    simp [nums, List.getElem?_eq_getElem hj]
   ·rw [List.getElem?_eq_none (by omega), List.getElem?_eq_none (by simp [nums]; omega)]
  subst hin
  obtain ⟨v1, w1, hrun, hq1, hg1, hat⟩ := q_append (P := Try.prog) W base 42 ty 3 i0 (.int .i64 0) 1 8 Try.underlying42 hi hz0 hz1 hz2 rfl (by omega) v xs.length (nums .i64 xs) hown ad m c (nums .i64 ys) (by simp [nums, hm]) (C_cells HR ad rfl) (by intro u hu; obtain ⟨x, _, rfl⟩ := List.mem_map.1 hu; rfl) (by omega) (by unfold maxLen; omega) (by omega) hbase
  refine ⟨v1, w1, hrun, ?_, HB.grown hg1 hbase (fun k hk => (q_typed hown k hk).1), hg1, hat⟩
  refine ⟨fun _ _ => trivial, nums .i64 (xs ++ ys), ?_, Kd.reps_scalar (enc := Value.int .i64) (xs ++ ys)⟩
  rw [List.length_append, hm, nums_append]
  exact hq1
theorem qi_step {ops : Array Oper} {o : Oper} {a : Act} {Q' : Exit → Act → World → Prop} {Kc : Act → World → Prop} {w0 W : World} (base : Nat) (hw : Region.wanted o (yielded ops a.tmps) = true) (s x : Operand)
  (ho : o.op = .call { callee := .builtin .append, args := #[s, x], argTypes := #[42, 42] }) (v : Value) (xs ys : List Int) (A : Option Addr) (m c : Nat) (hs : a.eval s = v) (hx : a.eval x = .slice A m c) (HO : QI W base v xs) (HR : Kd.C (Kd.int .i64) W A m ys) (HB : Below base w0 W) (hbase : base ≤ W.heap.size) (hl : xs.length + m ≤ 10000000)
  (h : ∀ v1 w1, QI w1 base v1 (xs ++ ys) → Below base w0 w1 → W.grownBy w1 v.ownBlock → (v1.ownBlock = v.ownBlock ∨ ∃ b, v1.ownBlock = some b ∧ W.heap.size ≤ b) → Kc (a.put o.dst v1) w1) :
  if Region.wanted o (yielded ops a.tmps) = true then Oper.wp Try.prog o a W Kc Q' else Kc (a.put o.dst undef) W := by
 obtain ⟨v1, w1, hr, h1, h2, h3, h4⟩ := qi_run base o.type v xs ys A m c HO HR HB hbase hl
 rw [if_pos hw]
 unfold Oper.wp execOp
 simp only [ho, resolve, invoke, builtin, Sem.run_bind, Sem.run_pure, Result.andThen_ok, List.map_toArray, List.map_cons, List.map_nil, hs, hx, hr]
 exact h v1 w1 h1 h2 h3 h4
theorem sum_le (f : Nat → Nat) (b : Nat) : ∀ l : List Nat, (∀ x ∈ l, f x ≤ b) → (l.map f).sum ≤ l.length * b
 | [], _ => by simp
 | x :: l, h => by
  have h1 := h x (List.mem_cons_self ..)
  have h2 := sum_le f b l fun y hy => h y (List.mem_cons_of_mem _ hy)
  simp only [List.map_cons, List.sum_cons, List.length_cons, Nat.succ_mul]
  omega
theorem cnt_le (n : Nat) (F : Nat → Nat → Bool) : cntF n F ≤ n * n := by
 unfold cntF
 have := sum_le (fun s => ((List.range n).filter (F s)).length) n (List.range n) fun x _ => Nat.le_trans (List.length_filter_le _ _) (by simp)
 simpa using this
theorem range_snocI (k : Nat) : nodesL (k + 1) = nodesL k ++ [(k : Int)] := by
 unfold nodesL
 rw [List.range_succ, List.map_append]
 rfl
theorem add_zero' (ad : Addr) : ad.add 0 = ad := by cases ad; unfold Addr.add; split <;> simp_all
theorem QI.kx {w w1 : World} {base : Nat} {v : Value} {xs : List Int} (h : QI w base v xs) (hk : Kx w w1) : QI w1 base v xs := by
 refine Kd.Q_mono (Kd.Q_move (Kd.Q_bound h) fun k hk2 => ?_) (fun _ _ => trivial)
 obtain ⟨_, _, _, q, hq, cells, hc⟩ := hk2
 have e : q = 3 := by simpa [Kd.int, Kd.scalar] using hq
 subst e
 rw [hc]
 exact hk.keep _ _ _ hc (by decide)
def RunPost (base : Nat) (w0 w : World) (gi go T n : Nat) (v1 v2 vf : Value) (es : List Ed) (bs : List Nat) (e : Ending) (w' : World) : Prop :=
 e = .returned (.tuple #[]) ∧ SimT base w' gi go T n v1 v2 es es vf bs (simF n es) ∧ Below base w0 w' ∧ Kx w w'
def ToSim (es : List Ed) (n : Nat) (F : Nat → Nat → Bool) (L : List Int) : Prop := ∃ f, runF es n f F L = simF n es ∧ 2 * cntF n F + L.length < f
theorem ToSim.step {es : List Ed} {n : Nat} {F : Nat → Nat → Bool} {t : Int} {r : List Int} (h : ToSim es n F (t :: r)) (hes : ∀ e ∈ es, (0 ≤ e.f0 ∧ e.f0 < n) ∧ (0 ≤ e.f2 ∧ e.f2 < n)) : ToSim es n (lookF es n t.toNat F (es.filter fun e => decide (e.f2 = t))).1 (r ++ (lookF es n t.toNat F (es.filter fun e => decide (e.f2 = t))).2) ∧ 2 * cntF n (lookF es n t.toNat F (es.filter fun e => decide (e.f2 = t))).1 + (r ++ (lookF es n t.toNat F (es.filter fun e => decide (e.f2 = t))).2).length < 2 * cntF n F + (t :: r).length := by
 obtain ⟨f, h1, h2⟩ := h
 have hc := lookF_cnt es (n := n) t.toNat F (es.filter fun e => decide (e.f2 = t)) fun e he => (hes e (List.mem_filter.1 he).1).1
 have hlen : (r ++ (lookF es n t.toNat F (es.filter fun e => decide (e.f2 = t))).2).length = r.length + (lookF es n t.toNat F (es.filter fun e => decide (e.f2 = t))).2.length := List.length_append
 simp only [List.length_cons] at h2 ⊢
 refine ⟨?_, by omega⟩
 cases f with
 | zero => omega
 | succ f =>
  rw [runF] at h1
  exact ⟨f, h1, by omega⟩
theorem look_in {es : List Ed} {n : Nat} (hes : ∀ e ∈ es, (0 ≤ e.f0 ∧ e.f0 < n) ∧ (0 ≤ e.f2 ∧ e.f2 < n)) (j : Nat) (F : Nat → Nat → Bool) (l : List Ed) : (∀ e ∈ l, e ∈ es) → ∀ t ∈ (lookF es n j F l).2, 0 ≤ t ∧ t < n := by
 refine snoc_ind (P := fun l : List Ed => (∀ e ∈ l, e ∈ es) → ∀ t ∈ (lookF es n j F l).2, 0 ≤ t ∧ t < n) ?_ ?_ l
 ·intro _ t ht; simp [lookF] at ht
 ·intro l x ih hl t ht
  rw [lookF_snoc] at ht
  rcases List.mem_append.1 ht with h | h
  ·exact ih (fun e he => hl e (List.mem_append_left _ he)) t h
  ·split at h
   ·rw [List.mem_singleton.1 h]
    exact (hes x (hl x (List.mem_append_right _ (List.mem_singleton.2 rfl)))).1
   ·simp at h
set_option maxHeartbeats 16000000 in
set_option maxRecDepth 100000 in
theorem srun_any {base gi go T n gf cf : Nat} {v1 v2 : Value} {es : List Ed} {bs : List Nat} (w0 w : World) (hS : SimT base w gi go T n v1 v2 es es (.slice (some ⟨gf, 0, none⟩) n cf) bs (fun _ _ => true)) (hbs : bs.length = n) (hn : n ≤ 63) (hes : ∀ e ∈ es, (0 ≤ e.f0 ∧ e.f0 < n) ∧ (0 ≤ e.f2 ∧ e.f2 < n)) (hel : es.length ≤ 1000000) (hw0 : base = w0.heap.size) (hBw : Below base w0 w) :
  Calls Try.prog 88 #[.pointer (some ⟨T, 0, none⟩)] w (RunPost base w0 w gi go T n v1 v2 (.slice (some ⟨gf, 0, none⟩) n cf) es bs) := by
 subst hw0
 have t0 := hS.t0
 have HT1 := Aside0.mk hS
 have HBs := Aside0.mk hbs
 have HB0 := Aside0.mk hBw
 have HES := Aside0.mk hes
 have HK0 := Aside0.mk (Kx.refl w)
 clear hS hbs hBw hes
 go_enter Try.func88, Try.ntmps88
 go_wp2
 clear t0
 go_loopw [2, 10] (fun v i wr => ∃ k : Nat, k ≤ n ∧ i = .int .i64 k ∧ Aside0 (Kd.R (Kd.int .i64) 3 wr w0.heap.size (fun _ => True) v (nodesL k)) ∧ Aside0 (SimT w0.heap.size wr gi go T n v1 v2 es es (.slice (some ⟨gf, 0, none⟩) n cf) bs (fun _ _ => true)) ∧ Aside0 (Below w0.heap.size w0 wr) ∧ Aside0 (Kx w wr) ∧ Aside0 (∀ b, v.ownBlock = some b → w.heap.size ≤ b)) (fun _ i _ => n - (intOf i).toNat)
 case atStart => exact ⟨0, Nat.zero_le _, rfl, ⟨Kd.R_nil _ _ _ _ _⟩, HT1, HB0, HK0, ⟨fun b hb => by simp [Value.ownBlock] at hb⟩⟩
 case round =>
  clear HT1 HB0 HK0
  obtain ⟨k, hk, rfl, HR, HS, HB, HK, HV⟩ := hrel
  by_cases hlt : k < n
  ·obtain ⟨L, hL⟩ : ∃ L, L = nodesL k := ⟨_, rfl⟩
   rw [← hL] at HR
   have hll : L.length = k := by rw [hL]; simp [nodesL]
   have HL := Aside0.mk hL
   clear hL
   go_wp2_with (at_builtin; refine Kd.R_append (Kd.int .i64) (w0 := w0) w0.heap.size rfl (.tmp 13) (.tmp 15) 42 3 (.int .i64 0) 8 rfl Try.underlying42 info3 rfl (by decide) (by omega) u2 L (k : Int) [.int .i64 (k : Int)] (fun _ => True) (fun _ => False) rfl rfl rfl (fun _ hk => hk.elim) (fun _ _ => trivial) HR.out HB.out HB.out.size (by omega) ?_; intro v9 w9 ho hb hg hat; have HO9 := Aside0.mk ho; have HB9 := Aside0.mk hb; have HS9 := Aside0.mk (HS.out.grown hg (t0 := 3) (fun q hq => Kd.R_typed HR.out q hq) (by decide) (by decide) (by decide) (by decide) (by decide)); have HK9 := Aside0.mk (HK.out.grown hg HV.out); have HV9 := Aside0.mk (show ∀ b, v9.ownBlock = some b → w.heap.size ≤ b from fun b hb => by rcases hat with hat | ⟨b', hb', hle⟩; exact HV.out b (by rw [← hat]; exact hb); rw [hb] at hb'; cases hb'; exact Nat.le_trans HK.out.size hle); clear ho hb hg hat)
   go_roundw
   case rel => exact ⟨k + 1, by omega, by go_num, ⟨by rw [range_snocI, ← HL.out]; exact HO9.out⟩, HS9, HB9, HK9, HV9⟩
   case measure => simp [intOf]; omega
  ·have ek : k = n := by omega
   subst ek
   have HQ := Aside0.mk (Kd.Q_of_R HR.out)
   have hc0 := cnt_le k (fun _ _ => true)
   have hkk : k * k ≤ 63 * 63 := Nat.mul_le_mul hn hn
   have HTo := Aside0.mk (show ToSim es k (fun _ _ => true) (nodesL k) from ⟨_, rfl, by simp [nodesL]⟩)
   have HIn := Aside0.mk (show ∀ t ∈ nodesL k, 0 ≤ t ∧ t < k from fun t ht => nodes_in.1 ht)
   go_wp2
   clear hlt hk HR
   go_loopg [2] (2 * cntF k (fun _ _ => true) + k) (fun q v wr => ∃ (F : Nat → Nat → Bool) (L : List Int), Aside0 (2 * cntF k F + L.length ≤ q ∧ q ≤ 2 * cntF k (fun _ _ => true) + k) ∧ Aside0 (ToSim es k F L) ∧ Aside0 (∀ t ∈ L, 0 ≤ t ∧ t < k) ∧ Aside0 (QI wr w0.heap.size v L) ∧ Aside0 (SimT w0.heap.size wr gi go T k v1 v2 es es (.slice (some ⟨gf, 0, none⟩) k cf) bs F) ∧ Aside0 (Below w0.heap.size w0 wr) ∧ Aside0 (Kx w wr) ∧ Aside0 (∀ b, v.ownBlock = some b → w.heap.size ≤ b))
   case atStart => exact ⟨_, nodesL k, ⟨by simp [nodesL], Nat.le_refl _⟩, HTo, HIn, HQ, HS, HB, HK, HV⟩
   case round =>
    clear HTo HIn HQ HS HB HK HV
    obtain ⟨F, L, HM, HTo, HIn, HQ, HS, HB, HK, HV⟩ := hrel
    obtain ⟨A, c, hv, hcap, hC⟩ := Kd.Q_reads HQ.out
    subst hv
    cases L with
    | nil =>
     have HFin := Aside0.mk (show F = simF k es by obtain ⟨f, h1, _⟩ := HTo.out; rw [← h1, runF_nil])
     go_wp2
     go_end0
     exact ⟨rfl, by rw [← HFin.out]; exact HS.out, HB.out, HK.out⟩
    | cons t r =>
     have ht := HIn.out t (List.mem_cons_self ..)
     obtain ⟨j, hj⟩ : ∃ j : Nat, t = (j : Int) := ⟨t.toNat, by omega⟩
     subst hj
     have j2 : j < k := by omega
     obtain ⟨ad, hA, h0⟩ := atI hC 0 (by simp)
     subst hA
     have h0' : wr.cell? (ad.add 0) = some (.int .i64 (j : Int)) := h0
     have h0'' : wr.cell? ad = some (.int .i64 (j : Int)) := by rwa [add_zero'] at h0'
     have hQ := HQ.out
     have hlen : ((j : Int) :: r).length = r.length + 1 := rfl
     rw [hlen] at hcap hQ ⊢
     have hmm := HM.out
     rw [hlen] at hmm
     have HQ1 := Aside0.mk hQ
     obtain ⟨m, hm⟩ : ∃ m, m = r.length := ⟨_, rfl⟩
     rw [← hm] at hcap HQ1 hmm ⊢
     have HMl := Aside0.mk hm
     clear h0 hC ht hlen hQ hm HQ
     have HStep := Aside0.mk (HTo.out.step HES.out)
     rw [Int.toNat_natCast] at HStep
     have HIn5 := Aside0.mk (show ∀ t ∈ r ++ (lookF es k j F (es.filter fun e => decide (e.f2 = (j : Int)))).2, 0 ≤ t ∧ t < k from fun t ht => by
      rcases List.mem_append.1 ht with h | h
      ·exact HIn.out t (List.mem_cons_of_mem _ h)
      ·exact look_in HES.out j F _ (fun e he => (List.mem_filter.1 he).1) t h)
     have hcs := Aside0.mk (show r.length + (lookF es k j F (es.filter fun e => decide (e.f2 = (j : Int)))).2.length ≤ 10000000 by
      have h1 := HStep.out.2
      have h2 := HM.out
      rw [List.length_append] at h1
      omega)
     by_cases hc1 : c = 1
     ·subst hc1
      have m0 : m = 0 := by omega
      subst m0
      have HQd := Aside0.mk (show QI wr w0.heap.size (.slice (some ad) 0 0) r by
       have := Kd.Q_drop (k := 1) HQ1.out (by simp)
       simpa using this)
      have HVd := Aside0.mk (show ∀ b, (Value.slice (some ad) 0 0).ownBlock = some b → w.heap.size ≤ b from HV.out)
      go_wp2_with fail
      refine start_ (n := 7) (S := fun w' => w'.cell? ⟨T, 0, none⟩ = some (.int .i64 (k : Int))) (ds := []) #[false, false, false, false, false, false, false] (by kernel_rfl) rfl rfl (HS.out.t0) (fun hHeld => ?_)
      have hB0 := below_drew1 (Below.refl wr.heap.size wr)
      have HS2 := Aside0.mk (HS.out.on hB0)
      have HB2 := Aside0.mk (below_then HB.out HB.out.size hB0)
      have HK2 := Aside0.mk (HK.out.trans (Kx.of_below hB0))
      have HQ2 := Aside0.mk (Kd.Q_below HQd.out hB0)
      clear hB0 h0' h0''
      generalize wr.drew = V at HS2 HB2 HK2 HQ2 hHeld ⊢
      refine pure_ (i := 0) (N := some 24) (v := ?_) (a' := ?_) #[true, false, false, false, false, false, false] rfl rfl (by kernel_rfl) (fun _ _ _ h => h) (Or.inl ⟨by rfl, ?_⟩) ?_ ?_
      rotate_left
      ·intro w'
       go_simp
       with_reducible rfl
      rotate_left
      ·simp only [Act.put, List.setIfInBounds_toArray, List.set_cons_zero, List.set_cons_succ, i64_w, i32_w]
       rfl
      refine pure_ (i := 1) (N := some 25) (v := ?_) (a' := ?_) #[true, true, false, false, false, false, false] rfl rfl (by kernel_rfl) (fun _ _ _ h => h) (Or.inl ⟨by rfl, ?_⟩) ?_ ?_
      rotate_left
      ·intro w'
       go_simp
       with_reducible rfl
      rotate_left
      ·simp only [Act.put, List.setIfInBounds_toArray, List.set_cons_zero, List.set_cons_succ, i64_w, i32_w]
       rfl
      refine pure_ (i := 2) (N := some 26) (v := ?_) (a' := ?_) #[true, true, true, false, false, false, false] rfl rfl (by kernel_rfl) (fun _ _ _ h => h) (Or.inl ⟨by rfl, ?_⟩) ?_ ?_
      rotate_left
      ·intro w'
       go_simp
       with_reducible rfl
      rotate_left
      ·simp only [Act.put, List.setIfInBounds_toArray, List.set_cons_zero, List.set_cons_succ, i64_w, i32_w]
       rfl
      refine pure_ (i := 3) (N := some 27) (v := ?_) (a' := ?_) #[true, true, true, true, false, false, false] rfl rfl (by kernel_rfl) (fun _ _ _ h => h) (Or.inl ⟨by rfl, ?_⟩) ?_ ?_
      rotate_left
      ·intro w'
       go_simp
       with_reducible rfl
      rotate_left
      ·simp only [Act.put, List.setIfInBounds_toArray, List.set_cons_zero, List.set_cons_succ, i64_w, i32_w]
       rfl
      refine one_ (i := 4) (N := some 28) #[true, true, true, true, true, false, false] rfl rfl (by kernel_rfl) (by decide) (fun K hK => ?_)
      refine goes_ Try.func115 (by kernel_rfl) rfl #[.pointer (some ⟨T, 0, none⟩), .int .i64 (j : Int)] (by rfl) rfl rfl (by simp only [List.map_toArray, List.map_cons, List.map_nil]; rfl) ?_
      refine (look_any j w0 _ HS2.out HBs.out hn j2 HES.out hel rfl HB2.out).mono ?_
      rintro e w4 ⟨vt, rfl, hR4, hS4, hB4, hK4, hV4⟩
      obtain ⟨At, ct, hvt, hct, hCt⟩ := Kd.R_reads hR4
      subst hvt
      refine ⟨_, rfl, ?_⟩
      have HS4 := Aside0.mk hS4
      have HB4 := Aside0.mk hB4
      have HK4 := Aside0.mk (HK2.out.trans hK4)
      have HQ4 := Aside0.mk (QI.kx HQ2.out hK4)
      have HC4 := Aside0.mk hCt
      clear hR4 hB4 hK4 hV4 hCt hct
      refine hK.out _ _ (HS4.out.t0) (fun hHeld => ?_)
      clear hK K
      refine norm_ (a' := ?_) ?_ ?_
      rotate_left
      ·show Act.put _ (some 28) _ = _
       simp only [Act.put, List.setIfInBounds_toArray, List.set_cons_zero, List.set_cons_succ, i64_w, i32_w]
       rfl
      refine one_ (i := 5) (N := some 29) #[true, true, true, true, true, true, false] rfl rfl (by kernel_rfl) (by decide) (fun K hK => ?_)
      refine qi_step w0.heap.size (w0 := w0) (by rfl) (.tmp 25) (.tmp 28) rfl (.slice (some ad) 0 0) r (lookF es k j F (es.filter fun e => decide (e.f2 = (j : Int)))).2 At _ ct rfl rfl HQ4.out HC4.out HB4.out HB4.out.size ?aL1 ?_
      (case aL1 => have := hcs.out; omega)
      intro v5 w5 hq hb hg hat
      have HQ5 := Aside0.mk hq
      have HB5 := Aside0.mk hb
      have HS5 := Aside0.mk (HS4.out.grown hg (t0 := 3) (fun q hq => Kd.Q_typed HQ4.out q hq) (by decide) (by decide) (by decide) (by decide) (by decide))
      have HK5 := Aside0.mk (HK4.out.grown hg HVd.out)
      have HV5 := Aside0.mk (show ∀ b, v5.ownBlock = some b → w.heap.size ≤ b from fun b hb => by rcases hat with hat | ⟨b', hb', hle⟩; exact HVd.out b (by rw [← hat]; exact hb); rw [hb] at hb'; cases hb'; exact Nat.le_trans HK4.out.size hle)
      clear hq hb hg hat
      refine hK.out _ _ (HS5.out.t0) (fun hHeld => ?_)
      clear hK K
      refine norm_ (a' := ?_) ?_ ?_
      rotate_left
      ·show Act.put _ (some 29) _ = _
       simp only [Act.put, List.setIfInBounds_toArray, List.set_cons_zero, List.set_cons_succ, i64_w, i32_w]
       rfl
      refine pure_ (i := 6) (N := some 2) (v := ?_) (a' := ?_) #[true, true, true, true, true, true, true] rfl rfl (by kernel_rfl) (fun _ _ _ h => h) (Or.inl ⟨by rfl, ?_⟩) ?_ ?_
      rotate_left
      ·intro w'
       go_simp
       with_reducible rfl
      rotate_left
      ·simp only [Act.put, List.setIfInBounds_toArray, List.set_cons_zero, List.set_cons_succ, i64_w, i32_w]
       rfl
      refine done_ (by kernel_rfl) ?_
      go_wp2
      go_roundg (2 * cntF k (lookF es k j F (es.filter fun e => decide (e.f2 = (j : Int)))).1 + (r ++ (lookF es k j F (es.filter fun e => decide (e.f2 = (j : Int)))).2).length)
      case measure => have := HStep.out.2; have := HM.out.1; omega
      case rel => exact ⟨_, _, ⟨Nat.le_refl _, by have := HStep.out.2; have := HM.out; omega⟩, ⟨HStep.out.1⟩, ⟨HIn5.out⟩, HQ5, HS5, HB5, HK5, HV5⟩
     ·have hc2 : ¬ c = 1 := hc1
      have HQd := Aside0.mk (show QI wr w0.heap.size (.slice (some ⟨ad.block, ad.off + 1, none⟩) m (c - 1)) r by
       have := Kd.Q_drop (k := 1) HQ1.out (by simp)
       rw [if_neg hc2] at this
       have e : ad.add (Kd.int .i64).sz = ⟨ad.block, ad.off + 1, none⟩ := by
        have := add_field ad 0 1 (by omega)
        rw [add_zero'] at this
        exact this
       simpa [e] using this)
      have HVd := Aside0.mk (show ∀ b, (Value.slice (some ⟨ad.block, ad.off + 1, none⟩) m (c - 1)).ownBlock = some b → w.heap.size ≤ b from HV.out)
      have h1m : (1 : Int) ≤ (m : Int) + 1 := by omega
      go_wp2_with fail
      refine start_ (n := 7) (S := fun w' => w'.cell? ⟨T, 0, none⟩ = some (.int .i64 (k : Int))) (ds := []) #[false, false, false, false, false, false, false] (by kernel_rfl) rfl rfl (HS.out.t0) (fun hHeld => ?_)
      have hB0 := below_drew1 (Below.refl wr.heap.size wr)
      have HS2 := Aside0.mk (HS.out.on hB0)
      have HB2 := Aside0.mk (below_then HB.out HB.out.size hB0)
      have HK2 := Aside0.mk (HK.out.trans (Kx.of_below hB0))
      have HQ2 := Aside0.mk (Kd.Q_below HQd.out hB0)
      clear hB0 h0' h0''
      generalize wr.drew = V at HS2 HB2 HK2 HQ2 hHeld ⊢
      refine pure_ (i := 0) (N := some 24) (v := ?_) (a' := ?_) #[true, false, false, false, false, false, false] rfl rfl (by kernel_rfl) (fun _ _ _ h => h) (Or.inl ⟨by rfl, ?_⟩) ?_ ?_
      rotate_left
      ·intro w'
       go_simp
       with_reducible rfl
      rotate_left
      ·simp only [Act.put, List.setIfInBounds_toArray, List.set_cons_zero, List.set_cons_succ, i64_w, i32_w]
       rfl
      refine pure_ (i := 1) (N := some 25) (v := ?_) (a' := ?_) #[true, true, false, false, false, false, false] rfl rfl (by kernel_rfl) (fun _ _ _ h => h) (Or.inl ⟨by rfl, ?_⟩) ?_ ?_
      rotate_left
      ·intro w'
       go_simp
       with_reducible rfl
      rotate_left
      ·simp only [Act.put, List.setIfInBounds_toArray, List.set_cons_zero, List.set_cons_succ, i64_w, i32_w]
       rfl
      refine pure_ (i := 2) (N := some 26) (v := ?_) (a' := ?_) #[true, true, true, false, false, false, false] rfl rfl (by kernel_rfl) (fun _ _ _ h => h) (Or.inl ⟨by rfl, ?_⟩) ?_ ?_
      rotate_left
      ·intro w'
       go_simp
       with_reducible rfl
      rotate_left
      ·simp only [Act.put, List.setIfInBounds_toArray, List.set_cons_zero, List.set_cons_succ, i64_w, i32_w]
       rfl
      refine pure_ (i := 3) (N := some 27) (v := ?_) (a' := ?_) #[true, true, true, true, false, false, false] rfl rfl (by kernel_rfl) (fun _ _ _ h => h) (Or.inl ⟨by rfl, ?_⟩) ?_ ?_
      rotate_left
      ·intro w'
       go_simp
       with_reducible rfl
      rotate_left
      ·simp only [Act.put, List.setIfInBounds_toArray, List.set_cons_zero, List.set_cons_succ, i64_w, i32_w]
       rfl
      refine one_ (i := 4) (N := some 28) #[true, true, true, true, true, false, false] rfl rfl (by kernel_rfl) (by decide) (fun K hK => ?_)
      refine goes_ Try.func115 (by kernel_rfl) rfl #[.pointer (some ⟨T, 0, none⟩), .int .i64 (j : Int)] (by rfl) rfl rfl (by simp only [List.map_toArray, List.map_cons, List.map_nil]; rfl) ?_
      refine (look_any j w0 _ HS2.out HBs.out hn j2 HES.out hel rfl HB2.out).mono ?_
      rintro e w4 ⟨vt, rfl, hR4, hS4, hB4, hK4, hV4⟩
      obtain ⟨At, ct, hvt, hct, hCt⟩ := Kd.R_reads hR4
      subst hvt
      refine ⟨_, rfl, ?_⟩
      have HS4 := Aside0.mk hS4
      have HB4 := Aside0.mk hB4
      have HK4 := Aside0.mk (HK2.out.trans hK4)
      have HQ4 := Aside0.mk (QI.kx HQ2.out hK4)
      have HC4 := Aside0.mk hCt
      clear hR4 hB4 hK4 hV4 hCt hct
      refine hK.out _ _ (HS4.out.t0) (fun hHeld => ?_)
      clear hK K
      refine norm_ (a' := ?_) ?_ ?_
      rotate_left
      ·show Act.put _ (some 28) _ = _
       simp only [Act.put, List.setIfInBounds_toArray, List.set_cons_zero, List.set_cons_succ, i64_w, i32_w]
       rfl
      refine one_ (i := 5) (N := some 29) #[true, true, true, true, true, true, false] rfl rfl (by kernel_rfl) (by decide) (fun K hK => ?_)
      refine qi_step w0.heap.size (w0 := w0) (by rfl) (.tmp 25) (.tmp 28) rfl (.slice (some ⟨ad.block, ad.off + 1, none⟩) m (c - 1)) r (lookF es k j F (es.filter fun e => decide (e.f2 = (j : Int)))).2 At _ ct rfl rfl HQ4.out HC4.out HB4.out HB4.out.size ?aL2 ?_
      (case aL2 => have := hcs.out; omega)
      intro v5 w5 hq hb hg hat
      have HQ5 := Aside0.mk hq
      have HB5 := Aside0.mk hb
      have HS5 := Aside0.mk (HS4.out.grown hg (t0 := 3) (fun q hq => Kd.Q_typed HQ4.out q hq) (by decide) (by decide) (by decide) (by decide) (by decide))
      have HK5 := Aside0.mk (HK4.out.grown hg HVd.out)
      have HV5 := Aside0.mk (show ∀ b, v5.ownBlock = some b → w.heap.size ≤ b from fun b hb => by rcases hat with hat | ⟨b', hb', hle⟩; exact HVd.out b (by rw [← hat]; exact hb); rw [hb] at hb'; cases hb'; exact Nat.le_trans HK4.out.size hle)
      clear hq hb hg hat
      refine hK.out _ _ (HS5.out.t0) (fun hHeld => ?_)
      clear hK K
      refine norm_ (a' := ?_) ?_ ?_
      rotate_left
      ·show Act.put _ (some 29) _ = _
       simp only [Act.put, List.setIfInBounds_toArray, List.set_cons_zero, List.set_cons_succ, i64_w, i32_w]
       rfl
      refine pure_ (i := 6) (N := some 2) (v := ?_) (a' := ?_) #[true, true, true, true, true, true, true] rfl rfl (by kernel_rfl) (fun _ _ _ h => h) (Or.inl ⟨by rfl, ?_⟩) ?_ ?_
      rotate_left
      ·intro w'
       go_simp
       with_reducible rfl
      rotate_left
      ·simp only [Act.put, List.setIfInBounds_toArray, List.set_cons_zero, List.set_cons_succ, i64_w, i32_w]
       rfl
      refine done_ (by kernel_rfl) ?_
      go_wp2
      go_roundg (2 * cntF k (lookF es k j F (es.filter fun e => decide (e.f2 = (j : Int)))).1 + (r ++ (lookF es k j F (es.filter fun e => decide (e.f2 = (j : Int)))).2).length)
      case measure => have := HStep.out.2; have := HM.out.1; omega
      case rel => exact ⟨_, _, ⟨Nat.le_refl _, by have := HStep.out.2; have := HM.out; omega⟩, ⟨HStep.out.1⟩, ⟨HIn5.out⟩, HQ5, HS5, HB5, HK5, HV5⟩
end Go.Proofs.Ytmpiokdomjchiaa.H
set_option linter.unusedVariables false
set_option linter.unusedSimpArgs false
namespace Go.Proofs.Ytmpiokdomjchiaa.H
open Go.RowKit Go.Proofs.Ytmpiokdomjchiaa.Pr Go.Proofs.YtmpiokdomjchiaaW.PrintWords Go.Proofs.Ytmpiokdomjchiaa.Sem Go.Proofs.YtmpiokdomjchiaaW.PrintLast
theorem follows_is (base : Nat) (n : Nat) (ls : List ByteArray) (es : List Ed) (cnt : Nat) (S : Int → Int → Bool) (H : Nat) (a b : Int) (t : Bool) (r : Bool) (hr : followsB es S t a b = r) (w : World) (hT : TableAt base w H n es cnt S) (hm : mayR n ls es = true) (ha : 0 ≤ a ∧ a < n) (hb : 0 ≤ b ∧ b < n) :
  Calls Try.prog 63 #[.pointer (some ⟨H + 1 + 1, 0, none⟩), .agg #[.int .i64 a, .int .i64 b], .bool t] w fun e w' => e = .returned (.bool r) ∧ Below w.heap.size w w' := by
 obtain ⟨i, rfl⟩ := Int.eq_ofNat_of_zero_le ha.1
 obtain ⟨j, rfl⟩ := Int.eq_ofNat_of_zero_le hb.1
 subst hr
 cases t with
 | false => exact follows_false base n ls es cnt S H i j w hT hm (by omega) (by omega)
 | true => exact follows_true base n ls es cnt S H i j w hT hm (by omega) (by omega)
theorem inP_nodes {n : Int} {x : Pair} (h : inP n x = true) : (0 ≤ x.f0 ∧ x.f0 < n) ∧ (0 ≤ x.f1 ∧ x.f1 < n) := by
 unfold inP at h
 simp only [Bool.and_eq_true, decide_eq_true_eq] at h
 omega
end Go.Proofs.Ytmpiokdomjchiaa.H
set_option linter.unusedVariables false
set_option linter.unusedSimpArgs false
namespace Go.Proofs.Ytmpiokdomjchiaa.H
open Go.RowKit Go.Proofs.Ytmpiokdomjchiaa.Pr Go.Proofs.YtmpiokdomjchiaaW.PrintWords Go.Proofs.Ytmpiokdomjchiaa.Sem Go.Proofs.YtmpiokdomjchiaaW.PrintLast
def MadeI (w : World) (xs : List Int) (e : Ending) (w' : World) : Prop := ∃ v, e = .returned v ∧ Kd.R (Kd.int .i64) 3 w' w.heap.size (fun _ => True) v xs ∧ Below w.heap.size w w'
theorem eqPair (a0 a1 b0 b1 : Int) (w : World) : (Op.equalIn 10000 31 (.agg #[.int .i64 a0, .int .i64 a1]) (.agg #[.int .i64 b0, .int .i64 b1])).run Try.prog w = .ok (a0 == b0 && a1 == b1) w := by
 have hs : (sizeOf 3).run Try.prog w = .ok 1 w := by kernel_rfl
 have hu : (underlying 31).run Try.prog w = .ok (.array 2 3) w := by kernel_rfl
 have hu3 : (underlying 3).run Try.prog w = .ok (.int .i64) w := by kernel_rfl
 have p0 : ∀ x y : Int, (part 3 #[.int .i64 x, .int .i64 y] 0).run Try.prog w = .ok (.int .i64 x) w := fun x y => by kernel_rfl
 have p1 : ∀ x y : Int, (part 3 #[.int .i64 x, .int .i64 y] 1).run Try.prog w = .ok (.int .i64 y) w := fun x y => by kernel_rfl
 have e3 : ∀ x y : Int, (Op.equalIn 9999 3 (.int .i64 x) (.int .i64 y)).run Try.prog w = .ok (x == y) w := by
  intro x y
  unfold Op.equalIn
  simp [hu3, Result.andThen]
 unfold Op.equalIn
 simp only [Sem.run_bind, hu, Result.andThen_ok, hs]
 simp [Std.Legacy.Range.forIn_eq_forIn_range', List.range', p0, p1, e3, Result.andThen]
 by_cases h0 : a0 = b0 <;> by_cases h1 : a1 = b1 <;> simp [h0, h1, p1, e3, Result.andThen]
theorem pair_ne {x : Pair} {a b : Int} (h : ¬ (x.f0 = a ∧ x.f1 = b)) : (decide (x.f0 = a) && decide (x.f1 = b)) = false := by simpa using h
end Go.Proofs.Ytmpiokdomjchiaa.H
set_option linter.unusedVariables false
set_option linter.unusedSimpArgs false
namespace Go.Proofs.Ytmpiokdomjchiaa.H
open Go.RowKit Go.Proofs.Ytmpiokdomjchiaa.Pr Go.Proofs.YtmpiokdomjchiaaW.PrintWords Go.Proofs.Ytmpiokdomjchiaa.Sem Go.Proofs.YtmpiokdomjchiaaW.PrintLast
theorem pair_eq {x y : Pair} : x = y ↔ x.f0 = y.f0 ∧ x.f1 = y.f1 := by
 obtain ⟨a, b⟩ := x
 obtain ⟨c, d⟩ := y
 simp
instance : DecidableEq Pair := fun x y => decidable_of_iff _ (pair_eq (x := x) (y := y)).symm
end Go.Proofs.Ytmpiokdomjchiaa.H
set_option linter.unusedVariables false
set_option linter.unusedSimpArgs false
namespace Go.Proofs.Ytmpiokdomjchiaa.H
open Go.RowKit Go.Proofs.Ytmpiokdomjchiaa.Pr Go.Proofs.YtmpiokdomjchiaaW.PrintWords Go.Proofs.Ytmpiokdomjchiaa.Sem Go.Proofs.YtmpiokdomjchiaaW.PrintLast
def pairsTo (n k : Nat) : List Pair := (List.range k).flatMap fun s : Nat => (List.range n).map fun t : Nat => (⟨(s : Int), (t : Int)⟩ : Pair)
theorem pairsTo_succ (n k : Nat) : pairsTo n (k + 1) = pairsTo n k ++ (List.range n).map fun t : Nat => (⟨(k : Int), (t : Int)⟩ : Pair) := by
 unfold pairsTo
 rw [List.range_succ, List.flatMap_append]
 simp
theorem pairsTo_length (n k : Nat) : (pairsTo n k).length = k * n := by
 induction k with
 | zero => simp [pairsTo]
 | succ k ih => rw [pairsTo_succ, List.length_append, ih]; simp [Nat.succ_mul]
theorem pairsTo_in (n k : Nat) (hk : k ≤ n) : (pairsTo n k).all (inP (n : Int)) = true := by
 rw [List.all_eq_true]
 intro p hp
 unfold pairsTo at hp
 obtain ⟨s, hs, hp⟩ := List.mem_flatMap.1 hp
 obtain ⟨t, ht, rfl⟩ := List.mem_map.1 hp
 have h1 := List.mem_range.1 hs
 have h2 := List.mem_range.1 ht
 unfold inP
 simp only [Bool.and_eq_true, decide_eq_true_eq]
 omega
def bothB (es : List Ed) (S : Int → Int → Bool) (p : Pair) : Bool := followsB es S false p.f0 p.f1 && followsB es S true p.f0 p.f1
def passK (es : List Ed) : List Pair → (Int → Int → Bool) → List Pair
 | [], _ => []
 | p :: r, S => if bothB es S p then p :: passK es r S else passK es r (lessP S p.f0 p.f1)
def passS (es : List Ed) : List Pair → (Int → Int → Bool) → (Int → Int → Bool)
 | [], S => S
 | p :: r, S => if bothB es S p then passS es r S else passS es r (lessP S p.f0 p.f1)
theorem passK_snoc (es : List Ed) (p : Pair) : ∀ (r : List Pair) (S : Int → Int → Bool), passK es (r ++ [p]) S = passK es r S ++ (if bothB es (passS es r S) p then [p] else [])
 | [], S => by simp only [List.nil_append, passK, passS]; rfl
 | x :: r, S => by
  cases h : bothB es S x
  ·simp [passK, passS, h, passK_snoc es p r]
  ·simp [passK, passS, h, passK_snoc es p r]
theorem passS_snoc (es : List Ed) (p : Pair) : ∀ (r : List Pair) (S : Int → Int → Bool), passS es (r ++ [p]) S = (if bothB es (passS es r S) p then passS es r S else lessP (passS es r S) p.f0 p.f1)
 | [], S => by simp only [List.nil_append, passS]; rfl
 | x :: r, S => by
  cases h : bothB es S x
  ·simp [passS, h, passS_snoc es p r]
  ·simp [passS, h, passS_snoc es p r]
theorem passK_sub (es : List Ed) : ∀ (r : List Pair) (S : Int → Int → Bool), List.Sublist (passK es r S) r
 | [], S => List.Sublist.refl _
 | x :: r, S => by
  unfold passK
  split
  ·exact (passK_sub es r S).cons_cons x
  ·exact (passK_sub es r _).cons x
def rounds (es : List Ed) : Nat → List Pair → (Int → Int → Bool) → List Pair
 | 0, rel, _ => rel
 | f + 1, rel, S => if (passK es rel S).length = rel.length then passK es rel S else rounds es f (passK es rel S) (passS es rel S)
def greatL (n : Nat) (es : List Ed) : List Pair := rounds es (n * n + 1) (pairsTo n n) (relS (pairsTo n n))
theorem below_of_grown_none {w w1 : World} (hg : w.grownBy w1 none) : Below w.heap.size w w1 := ⟨hg.os, hg.tape, hg.output, hg.size, fun k hk => hg.block k hk (by simp)⟩
theorem TableAt.grown {base : Nat} {w w1 : World} {H n : Nat} {es : List Ed} {cnt : Nat} {S : Int → Int → Bool} (h : TableAt base w H n es cnt S) {row : Option Nat} (hrow : ∀ b, row = some b → ∃ cs t fr, w.heap[b]? = some (.cells cs t fr) ∧ t ≠ 93 ∧ t ≠ 23 ∧ t ≠ 81) (hg : w.grownBy w1 row) : TableAt base w1 H n es cnt S := by
 cases row with
 | none => exact h.on (below_of_grown_none hg)
 | some b =>
  obtain ⟨cs, t, fr, hb, h1, h2, h3⟩ := hrow b rfl
  refine ⟨(hg.block _ (Array.getElem?_eq_some_iff.1 h.tb).1 ?_).trans h.tb, ?_, h.pm.grown ?_ hg, h.base⟩
  ·intro e
   cases e
   rw [h.tb] at hb
   cases hb
   exact h1 rfl
  ·obtain ⟨vs, ht⟩ := h.tab
   exact ⟨vs, ht.grown rfl hb (fun c t' fr' e => by cases e; exact ⟨h2, h3⟩) hg⟩
  ·intro k hk
   cases hk
   exact ⟨_, _, _, hb⟩
theorem TableAt.mapped {base : Nat} {w w1 : World} {H n : Nat} {es : List Ed} {cnt cnt' : Nat} {S S' : Int → Int → Bool} (h : TableAt base w H n es cnt S) (hp : PM w1 (H + 1) cnt' S') (hg : w.grownBy w1 (some (H + 1))) : TableAt base w1 H n es cnt' S' := by
 obtain ⟨es', c', hm⟩ := h.pm.blk
 obtain ⟨vs, ht⟩ := h.tab
 refine ⟨(hg.block _ (Array.getElem?_eq_some_iff.1 h.tb).1 ?_).trans h.tb, ⟨vs, ht.grown rfl hm (by intro c t fr e; cases e) hg⟩, hp, h.base⟩
 simp
theorem step_delete {P : Program} {ops : Array Oper} {o : Oper} {a : Act} {Q : Exit → Act → World → Prop} {K : Act → World → Prop} {W w1 : World} (hw : Region.wanted o (yielded ops a.tmps) = true) (m x : Operand) (t k : TypeId)
  (hop : o.op = Op.call { callee := Callee.builtin Builtin.delete, args := #[m, x], argTypes := #[t, k] }) {b : Nat} {key : Value} (hm : a.eval m = .map (some b)) (hx : a.eval x = key)
  (hrun : (Builtin.delete_ #[t, k] o.type #[.map (some b), key]).run P W = .ok (.tuple #[]) w1) (h : K (a.put o.dst (.tuple #[])) w1) :
  if Region.wanted o (yielded ops a.tmps) = true then Oper.wp P o a W K Q else K (a.put o.dst undef) W := by
 rw [if_pos hw]
 unfold Oper.wp
 simp [execOp, hop, resolve, invoke, builtin, hm, hx, hrun, Result.andThen]
 exact h
def lenS : Value → Nat
 | .slice _ n _ => n
 | _ => 0
abbrev RP (w : World) (base : Nat) (ok : Nat → Prop) (v : Value) (xs : List Pair) : Prop := Kd.R k31 31 w base ok v xs
theorem RP.mapped {w w1 : World} {base : Nat} {ok : Nat → Prop} {v : Value} {xs : List Pair} (h : RP w base ok v xs) {m : Nat} {es : Array MapEntry} {c : Nat} (hm : w.heap[m]? = some (.map es c)) (hg : w.grownBy w1 (some m)) : RP w1 base ok v xs := by
 refine Kd.R_grown2 h rfl hg ?_
 intro k hk hh
 cases hk
 obtain ⟨cells, hc⟩ := Kd.R_typed h m hh.symm
 rw [hm] at hc
 cases hc
theorem rows31 {w : World} {base : Nat} {ok : Nat → Prop} {v : Value} {xs : List Pair} (h : RP w base ok v xs) : ∀ b, v.ownBlock = some b → ∃ cs t fr, w.heap[b]? = some (.cells cs t fr) ∧ t ≠ 93 ∧ t ≠ 23 ∧ t ≠ 81 := fun b hb => by
 obtain ⟨cells, hc⟩ := Kd.R_typed h b hb
 exact ⟨_, _, _, hc, by decide, by decide, by decide⟩
set_option maxHeartbeats 16000000 in
set_option maxRecDepth 100000 in
theorem greatest_yes (n : Nat) (ls : List ByteArray) (es : List Ed) (A1 A2 : Option Addr) (c1 c2 : Nat) (w : World) (hr1 : Kd.C Kd.string w A1 ls.length ls) (hr2 : Kd.C k81 w A2 es.length es) (hm : mayR n ls es = true) :
  Calls Try.prog 20 #[.agg #[.int .i64 n, .slice A1 ls.length c1, .slice A2 es.length c2]] w fun e w' => ∃ v, e = .returned (.tuple #[v, .int .i64 0]) ∧ RP w' w.heap.size (fun _ => True) v (greatL n es) ∧ Below w.heap.size w w' := by
 have HB := Aside0.mk (Below.refl w.heap.size w)
 have HC : ∀ W, Below w.heap.size w W → Calls Try.prog 66 #[.agg #[.int .i64 n, .slice A1 ls.length c1, .slice A2 es.length c2]] W fun e w' => e = .returned (.int .i64 0) ∧ Below W.heap.size W w' := fun W hW =>
  check_yes n ls es A1 A2 c1 c2 W (Kd.C_below hr1 hW) (Kd.C_below hr2 hW) (by rw [may_same]; exact hm)
 have HC' := Lib.hid HC
 have HO : ∀ (rel : List Pair) (A3 : Option Addr) (c3 : Nat) (W : World), Below w.heap.size w W → Kd.C k31 W A3 rel.length rel → Calls Try.prog 60 #[.agg #[.int .i64 n, .slice A1 ls.length c1, .slice A2 es.length c2], .slice A3 rel.length c3] W (OpenPost W n es rel (rel.all (inP n))) := fun rel A3 c3 W hW h3 =>
  open_main n ls es rel A1 A2 A3 c1 c2 c3 W (Kd.C_below hr1 hW) (Kd.C_below hr2 hW) h3 hm
 have HO' := Lib.hid HO
 have HM := Aside0.mk hm
 have hn := n_le hm
 have hnn : n * n ≤ 2048 * 2048 := Nat.mul_le_mul (by omega) (by omega)
 clear HC HO hr1 hr2 hm
 go_enter Try.func20, Try.ntmps20
 go_wp2_with fail
 refine (HC'.out _ (below_alloc HB.out _)).mono ?_
 rintro e w1 ⟨rfl, hB⟩
 have HX := Aside0.mk (show BoxL w1 w.heap.size n (.slice A1 ls.length c1) (.slice A2 es.length c2) from blk_below (blk_new w _) hB)
 have HB1 := Aside0.mk (below_then (below_alloc HB.out _) (by simp) hB)
 have b0 := HX.out.c0
 clear hB
 go_wp2
 clear b0
 go_loopw [5, 20] (fun v i wr => ∃ k : Nat, k ≤ n ∧ i = .int .i64 k ∧ Aside0 (RP wr w.heap.size (fun _ => True) v (pairsTo n k)) ∧ Aside0 (BoxL wr w.heap.size n (.slice A1 ls.length c1) (.slice A2 es.length c2)) ∧ Aside0 (Below w.heap.size w wr)) (fun _ i _ => n - (intOf i).toNat)
 case atStart => exact ⟨0, Nat.zero_le _, rfl, ⟨Kd.R_nil _ _ _ _ _⟩, HX, HB1⟩
 case round =>
  clear HX HB1
  obtain ⟨k, hk, rfl, HO1, HX1, HB1⟩ := hrel
  have b0 := HX1.out.c0
  by_cases hlt : k < n
  ·go_wp2
   clear b0
   go_loopw [5, 25] (fun v i wr => ∃ j : Nat, j ≤ n ∧ i = .int .i64 j ∧ Aside0 (RP wr w.heap.size (fun _ => True) v (pairsTo n k ++ (List.range j).map fun t : Nat => (⟨(k : Int), (t : Int)⟩ : Pair))) ∧ Aside0 (BoxL wr w.heap.size n (.slice A1 ls.length c1) (.slice A2 es.length c2)) ∧ Aside0 (Below w.heap.size w wr)) (fun _ i _ => n - (intOf i).toNat)
   case atStart => exact ⟨0, Nat.zero_le _, rfl, ⟨by simpa using HO1.out⟩, HX1, HB1⟩
   case round =>
    clear HO1 HX1 HB1
    obtain ⟨j, hj, rfl, HO1, HX1, HB1⟩ := hrel
    by_cases hlt2 : j < n
    ·have hle : (pairsTo n k ++ (List.range j).map fun t : Nat => (⟨(k : Int), (t : Int)⟩ : Pair)).length ≤ 2048 * 2048 := by
      rw [List.length_append, pairsTo_length, List.length_map, List.length_range]
      have h1 : k * n + j ≤ (k + 1) * n := by rw [Nat.succ_mul]; omega
      exact Nat.le_trans (Nat.le_trans h1 (Nat.mul_le_mul_right n hlt)) hnn
     have HN := Aside0.mk (show pairsTo n k ++ (List.range (j + 1)).map (fun t : Nat => (⟨(k : Int), (t : Int)⟩ : Pair)) = (pairsTo n k ++ (List.range j).map fun t : Nat => (⟨(k : Int), (t : Int)⟩ : Pair)) ++ [⟨(k : Int), (j : Int)⟩] by rw [List.range_succ, List.map_append, List.append_assoc]; rfl)
     obtain ⟨L, hL⟩ : ∃ L, L = pairsTo n k ++ (List.range j).map fun t : Nat => (⟨(k : Int), (t : Int)⟩ : Pair) := ⟨_, rfl⟩
     rw [← hL] at HO1 hle HN
     clear hL
     go_wp2_with (at_builtin; refine Kd.R_append k31 (w0 := w) w.heap.size rfl (.tmp 28) (.tmp 32) 26 31 (.agg #[(.int .i64 0), (.int .i64 0)]) 16 rfl Try.underlying26 info31 rfl (by decide) (by omega) u5 L (⟨(k : Int), (j : Int)⟩ : Pair) [.int .i64 (k : Int), .int .i64 (j : Int)] (fun _ => True) (fun _ => False) rfl rfl (k31_mkM _ _ _ (⟨(k : Int), (j : Int)⟩ : Pair)) (fun _ hk => hk.elim) (fun _ _ => trivial) HO1.out HB1.out HB1.out.size (by omega) ?_; intro v2 w2 ho hb hg hat; have HO2 := Aside0.mk ho; have HB2 := Aside0.mk hb; have HX2 := Aside0.mk (blk_grown (g := w.heap.size) HX1.out hg (Kd.R_ne HO1.out HX1.out (by decide))); clear ho hb hg hat)
     go_roundw
     case rel => exact ⟨j + 1, by omega, by go_num, ⟨by rw [HN.out]; exact HO2.out⟩, HX2, HB2⟩
     case measure => simp [intOf]; omega
    ·have ej : j = n := by omega
     have HN := Aside0.mk (show pairsTo n (k + 1) = pairsTo n k ++ (List.range j).map fun t : Nat => (⟨(k : Int), (t : Int)⟩ : Pair) by rw [pairsTo_succ, ej])
     clear ej
     go_wp2
     go_roundw
     case rel => exact ⟨k + 1, by omega, by go_num, ⟨by rw [HN.out]; exact HO1.out⟩, HX1, HB1⟩
     case measure => simp [intOf]; omega
  ·have ek : k = n := by omega
   rw [ek] at HO1
   have b1 := HX1.out.c1
   have b2 := HX1.out.c2
   obtain ⟨A3, c3, hv, hle3, hC3⟩ := Kd.R_reads HO1.out
   subst hv
   have HC3 := Aside0.mk hC3
   have hpl : (pairsTo n n).length ≤ 2048 * 2048 := by rw [pairsTo_length]; exact hnn
   have HAll := Aside0.mk (pairsTo_in n n (Nat.le_refl _))
   have HG := Aside0.mk (show rounds es (n * n + 1) (pairsTo n n) (relS (pairsTo n n)) = greatL n es from rfl)
   have HLen := Aside0.mk (show (pairsTo n n).length < n * n + 1 by rw [pairsTo_length]; omega)
   obtain ⟨G, hG⟩ : ∃ G, G = greatL n es := ⟨_, rfl⟩
   rw [← hG] at HG
   have HGL := Aside0.mk hG
   generalize pairsTo n n = rel at HO1 HC3 hpl HAll HG HLen
   go_wp2_with fail
   refine (HO'.out rel A3 c3 _ HB1.out HC3.out).mono ?_
   rw [HAll.out]
   rintro e w2 ⟨⟨H, rfl, hT⟩, hB⟩
   have HT := Aside0.mk hT
   have HB2 := Aside0.mk (below_then HB1.out HB1.out.size hB)
   have HO2 := Aside0.mk (Kd.R_below HO1.out hB)
   have HB1' := Aside0.mk HB1.out
   clear hB hT HO1 HX1 HB1 HC3 hC3 hG
   obtain ⟨cnt, hc⟩ : ∃ cnt, cnt = rel.length := ⟨_, rfl⟩
   rw [← hc] at HT
   clear hc hle3
   obtain ⟨BT, hBT⟩ : ∃ BT, BT = wr.heap.size := ⟨_, rfl⟩
   rw [← hBT] at HT
   have HTB := Aside0.mk (show w.heap.size ≤ H + 1 by have h1 := HT.out.base; have h2 := HB1'.out.size; omega)
   clear hBT
   have HF := Aside0.mk (show ∃ f, rounds es f rel (relS rel) = G ∧ rel.length < f ∧ rel.all (inP n) = true from ⟨_, HG.out, HLen.out, HAll.out⟩)
   go_wp2
   clear hk hlt ek b0 b1 b2 HG HLen HAll
   go_loopw [5] (fun v wr => ∃ (rel : List Pair) (S : Int → Int → Bool), rel.length ≤ 2048 * 2048 ∧ Aside0 (∃ f, rounds es f rel S = G ∧ rel.length < f ∧ rel.all (inP n) = true) ∧ Aside0 (RP wr w.heap.size (fun _ => True) v rel) ∧ Aside0 (TableAt BT wr H n es cnt S) ∧ Aside0 (Below w.heap.size w wr)) (fun v _ => lenS v)
   case atStart => exact ⟨rel, relS rel, hpl, HF, HO2, HT, HB2⟩
   case round =>
    clear HF HO2 HT HB2 hpl
    obtain ⟨rel, S, hpl, HF, HO2, HT, HB2⟩ := hrel
    obtain ⟨A3, c3, hv, hle3, hC3⟩ := Kd.R_reads HO2.out
    subst hv
    clear hC3
    obtain ⟨B0, hB0⟩ : ∃ B0, B0 = wr.heap.size := ⟨_, rfl⟩
    have HRel := Aside0.mk (show RP wr w.heap.size (fun b => b < B0) (.slice A3 rel.length c3) rel from Kd.R_reok rfl HO2.out (fun k hk => by rw [hB0]; exact Kd.R_lt HO2.out k hk))
    have HB0 := Aside0.mk (show B0 ≤ wr.heap.size ∧ w.heap.size ≤ B0 by rw [hB0]; exact ⟨Nat.le_refl _, HB2.out.size⟩)
    clear hB0 HO2
    have hrl : rel.length ≤ 4194304 := hpl
    go_wp2
    go_loopw [10, 44] (fun v i wr2 => ∃ k : Nat, k ≤ rel.length ∧ i = .int .i64 k ∧ Aside0 (RP wr2 B0 (fun _ => True) v (passK es (rel.take k) S)) ∧ Aside0 (RP wr2 w.heap.size (fun b => b < B0) (.slice A3 rel.length c3) rel) ∧ Aside0 (TableAt BT wr2 H n es cnt (passS es (rel.take k) S)) ∧ Aside0 (Below w.heap.size w wr2) ∧ Aside0 (B0 ≤ wr2.heap.size ∧ w.heap.size ≤ B0)) (fun _ i _ => rel.length - (intOf i).toNat)
    case atStart => exact ⟨0, Nat.zero_le _, rfl, ⟨by simpa [passK] using Kd.R_nil _ _ _ _ _⟩, HRel, ⟨by simpa [passS] using HT.out⟩, HB2, HB0⟩
    case round =>
     clear HRel HT HB2 HB0
     obtain ⟨k, hk, rfl, HK, HRel, HT, HB2, HB0⟩ := hrel
     by_cases hlt : k < rel.length
     ·obtain ⟨ad, hA, g0, g1⟩ := atP (Kd.R_reads' HRel.out).2.2 k hlt
      subst hA
      obtain ⟨x, hx⟩ : ∃ x, x = rel.getD k z31 := ⟨_, rfl⟩
      rw [← hx] at g0 g1
      have HXin := Aside0.mk (show inP n x = true by
       obtain ⟨f, _, _, ha⟩ := HF.out
       rw [hx, List.getD_eq_getElem?_getD, List.getElem?_eq_getElem hlt]
       exact List.all_eq_true.1 ha _ (List.getElem_mem hlt))
      have HE := Aside0.mk (show rel.take (k + 1) = rel.take k ++ [x] by rw [hx]; exact take_snoc z31 hlt)
      clear hx
      obtain ⟨Kp, hKp⟩ : ∃ Kp, Kp = passK es (rel.take k) S := ⟨_, rfl⟩
      obtain ⟨Sp, hSp⟩ : ∃ Sp, Sp = passS es (rel.take k) S := ⟨_, rfl⟩
      have hKl : Kp.length ≤ 4194304 := by
       rw [hKp]
       refine Nat.le_trans (passK_sub es _ S).length_le ?_
       rw [List.length_take]; omega
      have HKn := Aside0.mk (show passK es (rel.take (k + 1)) S = Kp ++ (if bothB es Sp x then [x] else []) by rw [HE.out, passK_snoc, hKp, hSp])
      have HSn := Aside0.mk (show passS es (rel.take (k + 1)) S = (if bothB es Sp x then Sp else lessP Sp x.f0 x.f1) by rw [HE.out, passS_snoc, hSp])
      rw [← hKp] at HK
      rw [← hSp] at HT
      clear hKp hSp
      go_wp2_with fail
      have HT1 := Aside0.mk (HT.out.on (below_alloc (Below.refl _ _) (Obj.cells #[Value.int IntKind.i64 x.f0, Value.int IntKind.i64 x.f1] 31)))
      have HNodes := Aside0.mk (inP_nodes HXin.out)
      obtain ⟨X, hX⟩ : ∃ X, X = wr.heap.size := ⟨_, rfl⟩
      have x0 := (blk_cell (blk_new wr (Obj.cells #[Value.int IntKind.i64 x.f0, Value.int IntKind.i64 x.f1] 31)) 0).trans rfl
      have x1 := (blk_cell (blk_new wr (Obj.cells #[Value.int IntKind.i64 x.f0, Value.int IntKind.i64 x.f1] 31)) 1).trans rfl
      have HBx := Aside0.mk (below_alloc (Below.refl wr.heap.size wr) (Obj.cells #[Value.int IntKind.i64 x.f0, Value.int IntKind.i64 x.f1] 31))
      rw [← hX] at x0 x1 ⊢
      clear hX
      generalize (wr.alloc (Obj.cells #[Value.int IntKind.i64 x.f0, Value.int IntKind.i64 x.f1] 31)) = U at HT1 HBx x0 x1 ⊢
      cases q1 : followsB es Sp false x.f0 x.f1 with
      | false =>
       have HNo := Aside0.mk (show bothB es Sp x = false by unfold bothB; rw [q1]; rfl)
       refine (follows_is BT n ls es cnt Sp H x.f0 x.f1 false false q1 _ HT1.out HM.out HNodes.out.1 HNodes.out.2).mono ?_
       rintro e w3 ⟨rfl, hB⟩
       have HTf := Aside0.mk (HT1.out.on hB)
       have HBf := Aside0.mk (below_then HBx.out HBx.out.size hB)
       have d0 := later hB x0
       have d1 := later hB x1
       clear hB q1 x0 x1 HT1 HBx
       go_wp2_with fail
       have HKf := Aside0.mk (Kd.R_below HK.out HBf.out)
       have HRf := Aside0.mk (Kd.R_below HRel.out HBf.out)
       have HBw := Aside0.mk (below_then HB2.out HB2.out.size HBf.out)
       have HS0 := Aside0.mk (Nat.le_trans HB0.out.1 HBf.out.size)
       have HSn2 := Aside0.mk (show passS es (rel.take (k + 1)) S = lessP Sp x.f0 x.f1 by rw [HSn.out, HNo.out]; rfl)
       have HKn2 := Aside0.mk (show passK es (rel.take (k + 1)) S = Kp by rw [HKn.out, HNo.out]; simp)
       clear HBf HK HRel HB2 HNo
       refine start_ (n := 6) (S := fun w' => w'.cell? ⟨H + 1 + 1, 1, none⟩ = some (.map (some (H + 1))) ∧ w'.cell? ⟨X, 0, none⟩ = some (.int .i64 x.f0) ∧ w'.cell? ⟨X, 1, none⟩ = some (.int .i64 x.f1)) (ds := [5]) #[false, false, false, false, false, false] (by kernel_rfl) rfl rfl ⟨HTf.out.t1, d0, d1⟩ (fun hHeld => ?_)
       replace HTf := Aside0.mk (HTf.out.on (below_drew1 (Below.refl _ _)))
       replace HKf := Aside0.mk (Kd.R_below HKf.out (below_drew1 (Below.refl _ _)))
       replace HRf := Aside0.mk (Kd.R_below HRf.out (below_drew1 (Below.refl _ _)))
       replace HBw := Aside0.mk (below_drew1 HBw.out)
       replace HS0 := Aside0.mk (show B0 ≤ w3.drew.heap.size from HS0.out)
       generalize w3.drew = V at HTf HKf HRf HBw HS0 hHeld ⊢
       refine pure_ (i := 0) (N := some 60) (v := ?_) (a' := ?_) #[true, false, false, false, false, false] rfl rfl (by kernel_rfl) (fun _ _ _ h => h) (Or.inl ⟨by rfl, ?_⟩) ?_ ?_
       rotate_left
       ·intro w'
        go_simp
        with_reducible rfl
       rotate_left
       ·simp only [Act.put, List.setIfInBounds_toArray, List.set_cons_zero, List.set_cons_succ, i64_w, i32_w]
        rfl
       refine pure_ (i := 1) (N := some 61) (v := ?_) (a' := ?_) #[true, true, false, false, false, false] rfl rfl (by kernel_rfl) (fun _ _ _ h => h) (Or.inl ⟨by rfl, ?_⟩) ?_ ?_
       rotate_left
       ·intro w'
        go_simp
        with_reducible rfl
       rotate_left
       ·simp only [Act.put, List.setIfInBounds_toArray, List.set_cons_zero, List.set_cons_succ, i64_w, i32_w]
        rfl
       refine pure_ (i := 2) (N := some 62) (v := ?_) (a' := ?_) #[true, true, true, false, false, false] rfl rfl (by kernel_rfl) (fun _ _ _ h => h) (Or.inl ⟨by rfl, ?_⟩) ?_ ?_
       rotate_left
       ·intro w'
        go_simp
        with_reducible rfl
       rotate_left
       ·simp only [Act.put, List.setIfInBounds_toArray, List.set_cons_zero, List.set_cons_succ, i64_w, i32_w]
        rfl
       refine take_ (i := 3) (N := some 63) (v := ?_) (a' := ?_) #[true, true, true, true, false, false] rfl rfl (by kernel_rfl) (fun _ _ _ h => h) (Or.inl ⟨by rfl, ?_⟩) hHeld ?_ ?_
       rotate_left
       ·rintro w' ⟨s0, s1, s2⟩
        go_simp
        with_reducible rfl
       rotate_left
       ·simp only [Act.put, List.setIfInBounds_toArray, List.set_cons_zero, List.set_cons_succ, i64_w, i32_w]
        rfl
       refine take_ (i := 4) (N := some 64) (v := ?_) (a' := ?_) #[true, true, true, true, true, false] rfl rfl (by kernel_rfl) (fun _ _ _ h => h) (Or.inl ⟨by rfl, ?_⟩) hHeld ?_ ?_
       rotate_left
       ·rintro w' ⟨s0, s1, s2⟩
        go_simp
        with_reducible rfl
       rotate_left
       ·simp only [Act.put, List.setIfInBounds_toArray, List.set_cons_zero, List.set_cons_succ, i64_w, i32_w]
        rfl
       refine last_ (i := 5) (N := none) #[true, true, true, true, true, true] rfl rfl (by kernel_rfl) (by decide) (fun K hK => ?_)
       obtain ⟨w6, hrun, hpm, hg⟩ := HTf.out.pm.del (okNode HNodes.out.1.1 HNodes.out.1.2 hn.2) (okNode HNodes.out.2.1 HNodes.out.2.2 hn.2) 0
       obtain ⟨es', c', hmb⟩ := HTf.out.pm.blk
       have HT5 := Aside0.mk (HTf.out.mapped hpm hg)
       have HK5 := Aside0.mk (RP.mapped HKf.out hmb hg)
       have HR5 := Aside0.mk (RP.mapped HRf.out hmb hg)
       have HB5 := Aside0.mk (HBw.out.grown hg HBw.out.size (fun k hk => by cases hk; exact HTB.out))
       have HS5 := Aside0.mk (Nat.le_trans HS0.out hg.size)
       refine step_delete (by rfl) (.tmp 63) (.tmp 64) 91 31 rfl rfl rfl hrun ?_
       clear hrun hpm hg hmb
       refine hK.out _ _ ?_
       clear hK K
       refine done_ (by kernel_rfl) ?_
       go_wp2
       go_roundw
       case rel => exact ⟨k + 1, by omega, by go_num, ⟨by rw [HKn2.out]; exact HK5.out⟩, HR5, ⟨by rw [HSn2.out]; exact HT5.out⟩, HB5, ⟨HS5.out, HB0.out.2⟩⟩
       case measure => simp [intOf]; omega
      | true =>
       refine (follows_is BT n ls es cnt Sp H x.f0 x.f1 false true q1 _ HT1.out HM.out HNodes.out.1 HNodes.out.2).mono ?_
       rintro e w3 ⟨rfl, hB⟩
       have HT2 := Aside0.mk (HT1.out.on hB)
       have HBy := Aside0.mk (below_then HBx.out HBx.out.size hB)
       have y0 := later hB x0
       have y1 := later hB x1
       clear hB x0 x1 HT1 HBx
       go_wp2_with fail
       cases q2 : followsB es Sp true x.f0 x.f1 with
       | false =>
        have HNo := Aside0.mk (show bothB es Sp x = false by unfold bothB; rw [q1, q2]; rfl)
        refine (follows_is BT n ls es cnt Sp H x.f0 x.f1 true false q2 _ HT2.out HM.out HNodes.out.1 HNodes.out.2).mono ?_
        rintro e w4 ⟨rfl, hB⟩
        have HTf := Aside0.mk (HT2.out.on hB)
        have HBf := Aside0.mk (below_then HBy.out HBy.out.size hB)
        have d0 := later hB y0
        have d1 := later hB y1
        clear hB q1 q2 y0 y1 HT2 HBy
        go_wp2_with fail
        have HKf := Aside0.mk (Kd.R_below HK.out HBf.out)
        have HRf := Aside0.mk (Kd.R_below HRel.out HBf.out)
        have HBw := Aside0.mk (below_then HB2.out HB2.out.size HBf.out)
        have HS0 := Aside0.mk (Nat.le_trans HB0.out.1 HBf.out.size)
        have HSn2 := Aside0.mk (show passS es (rel.take (k + 1)) S = lessP Sp x.f0 x.f1 by rw [HSn.out, HNo.out]; rfl)
        have HKn2 := Aside0.mk (show passK es (rel.take (k + 1)) S = Kp by rw [HKn.out, HNo.out]; simp)
        clear HBf HK HRel HB2 HNo
        refine start_ (n := 6) (S := fun w' => w'.cell? ⟨H + 1 + 1, 1, none⟩ = some (.map (some (H + 1))) ∧ w'.cell? ⟨X, 0, none⟩ = some (.int .i64 x.f0) ∧ w'.cell? ⟨X, 1, none⟩ = some (.int .i64 x.f1)) (ds := [5]) #[false, false, false, false, false, false] (by kernel_rfl) rfl rfl ⟨HTf.out.t1, d0, d1⟩ (fun hHeld => ?_)
        replace HTf := Aside0.mk (HTf.out.on (below_drew1 (Below.refl _ _)))
        replace HKf := Aside0.mk (Kd.R_below HKf.out (below_drew1 (Below.refl _ _)))
        replace HRf := Aside0.mk (Kd.R_below HRf.out (below_drew1 (Below.refl _ _)))
        replace HBw := Aside0.mk (below_drew1 HBw.out)
        replace HS0 := Aside0.mk (show B0 ≤ w4.drew.heap.size from HS0.out)
        generalize w4.drew = V at HTf HKf HRf HBw HS0 hHeld ⊢
        refine pure_ (i := 0) (N := some 60) (v := ?_) (a' := ?_) #[true, false, false, false, false, false] rfl rfl (by kernel_rfl) (fun _ _ _ h => h) (Or.inl ⟨by rfl, ?_⟩) ?_ ?_
        rotate_left
        ·intro w'
         go_simp
         with_reducible rfl
        rotate_left
        ·simp only [Act.put, List.setIfInBounds_toArray, List.set_cons_zero, List.set_cons_succ, i64_w, i32_w]
         rfl
        refine pure_ (i := 1) (N := some 61) (v := ?_) (a' := ?_) #[true, true, false, false, false, false] rfl rfl (by kernel_rfl) (fun _ _ _ h => h) (Or.inl ⟨by rfl, ?_⟩) ?_ ?_
        rotate_left
        ·intro w'
         go_simp
         with_reducible rfl
        rotate_left
        ·simp only [Act.put, List.setIfInBounds_toArray, List.set_cons_zero, List.set_cons_succ, i64_w, i32_w]
         rfl
        refine pure_ (i := 2) (N := some 62) (v := ?_) (a' := ?_) #[true, true, true, false, false, false] rfl rfl (by kernel_rfl) (fun _ _ _ h => h) (Or.inl ⟨by rfl, ?_⟩) ?_ ?_
        rotate_left
        ·intro w'
         go_simp
         with_reducible rfl
        rotate_left
        ·simp only [Act.put, List.setIfInBounds_toArray, List.set_cons_zero, List.set_cons_succ, i64_w, i32_w]
         rfl
        refine take_ (i := 3) (N := some 63) (v := ?_) (a' := ?_) #[true, true, true, true, false, false] rfl rfl (by kernel_rfl) (fun _ _ _ h => h) (Or.inl ⟨by rfl, ?_⟩) hHeld ?_ ?_
        rotate_left
        ·rintro w' ⟨s0, s1, s2⟩
         go_simp
         with_reducible rfl
        rotate_left
        ·simp only [Act.put, List.setIfInBounds_toArray, List.set_cons_zero, List.set_cons_succ, i64_w, i32_w]
         rfl
        refine take_ (i := 4) (N := some 64) (v := ?_) (a' := ?_) #[true, true, true, true, true, false] rfl rfl (by kernel_rfl) (fun _ _ _ h => h) (Or.inl ⟨by rfl, ?_⟩) hHeld ?_ ?_
        rotate_left
        ·rintro w' ⟨s0, s1, s2⟩
         go_simp
         with_reducible rfl
        rotate_left
        ·simp only [Act.put, List.setIfInBounds_toArray, List.set_cons_zero, List.set_cons_succ, i64_w, i32_w]
         rfl
        refine last_ (i := 5) (N := none) #[true, true, true, true, true, true] rfl rfl (by kernel_rfl) (by decide) (fun K hK => ?_)
        obtain ⟨w6, hrun, hpm, hg⟩ := HTf.out.pm.del (okNode HNodes.out.1.1 HNodes.out.1.2 hn.2) (okNode HNodes.out.2.1 HNodes.out.2.2 hn.2) 0
        obtain ⟨es', c', hmb⟩ := HTf.out.pm.blk
        have HT5 := Aside0.mk (HTf.out.mapped hpm hg)
        have HK5 := Aside0.mk (RP.mapped HKf.out hmb hg)
        have HR5 := Aside0.mk (RP.mapped HRf.out hmb hg)
        have HB5 := Aside0.mk (HBw.out.grown hg HBw.out.size (fun k hk => by cases hk; exact HTB.out))
        have HS5 := Aside0.mk (Nat.le_trans HS0.out hg.size)
        refine step_delete (by rfl) (.tmp 63) (.tmp 64) 91 31 rfl rfl rfl hrun ?_
        clear hrun hpm hg hmb
        refine hK.out _ _ ?_
        clear hK K
        refine done_ (by kernel_rfl) ?_
        go_wp2
        go_roundw
        case rel => exact ⟨k + 1, by omega, by go_num, ⟨by rw [HKn2.out]; exact HK5.out⟩, HR5, ⟨by rw [HSn2.out]; exact HT5.out⟩, HB5, ⟨HS5.out, HB0.out.2⟩⟩
        case measure => simp [intOf]; omega
       | true =>
        have HYes := Aside0.mk (show bothB es Sp x = true by unfold bothB; rw [q1, q2]; rfl)
        refine (follows_is BT n ls es cnt Sp H x.f0 x.f1 true true q2 _ HT2.out HM.out HNodes.out.1 HNodes.out.2).mono ?_
        rintro e w4 ⟨rfl, hB⟩
        have HTf := Aside0.mk (HT2.out.on hB)
        have HBf := Aside0.mk (below_then HBy.out HBy.out.size hB)
        have d0 := later hB y0
        have d1 := later hB y1
        have HSn2 := Aside0.mk (show passS es (rel.take (k + 1)) S = Sp by rw [HSn.out, HYes.out]; rfl)
        have HKn2 := Aside0.mk (show passK es (rel.take (k + 1)) S = Kp ++ [x] by rw [HKn.out, HYes.out]; rfl)
        have HKf := Aside0.mk (Kd.R_below HK.out HBf.out)
        have HRf := Aside0.mk (Kd.R_below HRel.out HBf.out)
        have HBw := Aside0.mk (below_then HB2.out HB2.out.size HBf.out)
        have HS0 := Aside0.mk (Nat.le_trans HB0.out.1 HBf.out.size)
        clear hB q1 q2 y0 y1 HT2 HBy HBf HK HRel HB2
        go_wp2_with (at_builtin; refine Kd.R_append k31 (w0 := w4) B0 rfl (.tmp 56) (.tmp 58) 26 31 (.agg #[(.int .i64 0), (.int .i64 0)]) 16 rfl Try.underlying26 info31 rfl (by decide) (by omega) u10 Kp x [.int .i64 x.f0, .int .i64 x.f1] (fun _ => True) (fun _ => False) rfl rfl (k31_mkM _ _ _ x) (fun _ hk => hk.elim) (fun _ _ => trivial) HKf.out (Below.refl _ _) HS0.out (by omega) ?_; intro v2 w5 ho hb hg hat; have HO5 := Aside0.mk ho; have HG5 := Aside0.mk hg; clear ho hb hg hat)
        have HB5 := Aside0.mk (HBw.out.grown HG5.out HBw.out.size (fun k hk => Nat.le_trans HB0.out.2 (Kd.R_base HKf.out k hk)))
        have HT5 := Aside0.mk (HTf.out.grown (rows31 HKf.out) HG5.out)
        have HR5 := Aside0.mk (Kd.R_grown2 HRf.out rfl HG5.out (fun k hk hh => absurd (HRf.out.1 k hh.symm) (Nat.not_lt.2 (Kd.R_base HKf.out k hk))))
        have HS5 := Aside0.mk (And.intro (Nat.le_trans HS0.out HG5.out.size) HB0.out.2)
        go_roundw
        case rel => exact ⟨k + 1, by omega, by go_num, ⟨by rw [HKn2.out]; exact HO5.out⟩, HR5, ⟨by rw [HSn2.out]; exact HT5.out⟩, HB5, HS5⟩
        case measure => simp [intOf]; omega
     ·have ek : rel.take k = rel := List.take_of_length_le (by omega)
      rw [ek] at HK HT
      obtain ⟨Ak, ck, hvk⟩ := Kd.R_slice HK.out
      subst hvk
      obtain ⟨Kp, hKp⟩ : ∃ Kp, Kp = passK es rel S := ⟨_, rfl⟩
      obtain ⟨Sp, hSp⟩ : ∃ Sp, Sp = passS es rel S := ⟨_, rfl⟩
      have hsub : Kp.length ≤ rel.length := by rw [hKp]; exact (passK_sub es rel S).length_le
      have hin : Kp.all (inP n) = true := by
       obtain ⟨f, _, _, ha⟩ := HF.out
       rw [List.all_eq_true] at ha ⊢
       intro p hp
       rw [hKp] at hp
       exact ha p ((passK_sub es rel S).subset hp)
      have hrd : ∃ f, (if Kp.length = rel.length then Kp else rounds es f Kp Sp) = G ∧ rel.length < f + 1 := by
       obtain ⟨f, hf, hl, _⟩ := HF.out
       cases f with
       | zero => omega
       | succ f => exact ⟨f, by rw [← hf, hKp, hSp]; rfl, hl⟩
      rw [← hKp] at HK ⊢
      rw [← hSp] at HT
      have HIn := Aside0.mk hin
      have HRd := Aside0.mk hrd
      clear hKp hSp ek hin hrd
      have hwb := HB0.out.2
      by_cases hq : Kp.length = rel.length
      ·have p0 : ((Kp.length : Int) == (rel.length : Int)) = true := by rw [hq]; simp
       have HGK := Aside0.mk (show Kp = G by obtain ⟨f, hf, _⟩ := HRd.out; rw [if_pos hq] at hf; exact hf)
       clear hq
       go_wp2
       go_ret2
       exact ⟨_, rfl, by rw [← HGL.out, ← HGK.out]; exact Kd.R_lower HK.out hwb, HB2.out⟩
      ·have p0 : ((Kp.length : Int) == (rel.length : Int)) = false := by simp; omega
       have HGK := Aside0.mk (show ∃ f, rounds es f Kp Sp = G ∧ Kp.length < f ∧ Kp.all (inP n) = true by
        obtain ⟨f, hf, hl⟩ := HRd.out
        rw [if_neg hq] at hf
        exact ⟨f, hf, by omega, HIn.out⟩)
       have hlt5 : Kp.length < rel.length := by omega
       clear hq
       go_wp2
       go_roundw
       case rel => exact ⟨Kp, Sp, by omega, HGK, ⟨Kd.R_lower HK.out hwb⟩, HT, HB2⟩
       case measure => simp [lenS]; omega
end Go.Proofs.Ytmpiokdomjchiaa.H
set_option linter.unusedVariables false
set_option linter.unusedSimpArgs false
namespace Go.Proofs.Ytmpiokdomjchiaa.H
open Go.RowKit Go.Proofs.Ytmpiokdomjchiaa.Pr Go.Proofs.YtmpiokdomjchiaaW.PrintWords Go.Proofs.Ytmpiokdomjchiaa.Sem Go.Proofs.YtmpiokdomjchiaaW.PrintLast
def rowF (F : Nat → Nat → Bool) (s k : Nat) : List Pair := ((List.range k).filter (F s)).map fun t : Nat => (⟨(s : Int), (t : Int)⟩ : Pair)
def pairsF (F : Nat → Nat → Bool) (n k : Nat) : List Pair := (List.range k).flatMap fun s => rowF F s n
theorem rowF_succ (F : Nat → Nat → Bool) (s k : Nat) : rowF F s (k + 1) = rowF F s k ++ if F s k then [(⟨(s : Int), (k : Int)⟩ : Pair)] else [] := by
 unfold rowF
 rw [List.range_succ, List.filter_append, List.map_append]
 congr 1
 cases h : F s k <;> simp [List.filter_cons, h]
theorem pairsF_succ (F : Nat → Nat → Bool) (n k : Nat) : pairsF F n (k + 1) = pairsF F n k ++ rowF F k n := by
 unfold pairsF
 rw [List.range_succ, List.flatMap_append]
 simp
theorem rowF_len (F : Nat → Nat → Bool) (s k : Nat) : (rowF F s k).length ≤ k := by
 unfold rowF
 rw [List.length_map]
 exact Nat.le_trans (List.length_filter_le _ _) (by simp)
theorem pairsF_len (F : Nat → Nat → Bool) (n k : Nat) : (pairsF F n k).length ≤ k * n := by
 induction k with
 | zero => simp [pairsF]
 | succ k ih =>
  rw [pairsF_succ, List.length_append, Nat.succ_mul]
  have := rowF_len F k n
  omega
def simL (n : Nat) (es : List Ed) : List Pair := pairsF (simF n es) n n
theorem es_all {n : Nat} {ls : List ByteArray} {es : List Ed} (hm : mayR n ls es = true) : ∀ e ∈ es, (0 ≤ e.f0 ∧ e.f0 < n) ∧ (0 ≤ e.f2 ∧ e.f2 < n) := fun e he => by
 obtain ⟨k, hk, rfl⟩ := List.getElem_of_mem he
 have := es_at hm hk
 rwa [List.getD_eq_getElem?_getD, List.getElem?_eq_getElem hk] at this
set_option maxHeartbeats 16000000 in
set_option maxRecDepth 100000 in
theorem sgreat_yes (n : Nat) (ls : List ByteArray) (es : List Ed) (A1 A2 : Option Addr) (c1 c2 : Nat) (w : World) (hr1 : Kd.C Kd.string w A1 ls.length ls) (hr2 : Kd.C k81 w A2 es.length es) (hm : mayR n ls es = true) (hn : n ≤ 63) :
  Calls Try.prog 48 #[.agg #[.int .i64 n, .slice A1 ls.length c1, .slice A2 es.length c2]] w fun e w' => ∃ v, e = .returned (.tuple #[v, .int .i64 0]) ∧ RP w' w.heap.size (fun _ => True) v (simL n es) ∧ Below w.heap.size w w' := by
 have HB := Aside0.mk (Below.refl w.heap.size w)
 have HC : ∀ W, Below w.heap.size w W → Calls Try.prog 66 #[.agg #[.int .i64 n, .slice A1 ls.length c1, .slice A2 es.length c2]] W fun e w' => e = .returned (.int .i64 0) ∧ Below W.heap.size W w' := fun W hW =>
  check_yes n ls es A1 A2 c1 c2 W (Kd.C_below hr1 hW) (Kd.C_below hr2 hW) (by rw [may_same]; exact hm)
 have HC' := Lib.hid HC
 have HO : ∀ W, Below w.heap.size w W → Calls Try.prog 87 #[.agg #[.int .i64 n, .slice A1 ls.length c1, .slice A2 es.length c2]] W (SOpPost W n (.slice A1 ls.length c1) (.slice A2 es.length c2) es) := fun W hW =>
  sopen_main n ls es A1 A2 c1 c2 W (Kd.C_below hr2 hW) hm hn
 have HO' := Lib.hid HO
 have HES := Aside0.mk (es_all hm)
 have hel := es_le hm
 have hn1 := n_le hm
 clear HC HO hr1 hr2 hm
 unfold simL
 obtain ⟨F, hF⟩ : ∃ F, F = simF n es := ⟨_, rfl⟩
 rw [← hF]
 have HHF := Aside0.mk hF
 clear hF
 go_enter Try.func48, Try.ntmps48
 go_wp2_with fail
 refine (HC'.out _ (below_alloc HB.out _)).mono ?_
 rintro e w1 ⟨rfl, hB⟩
 have HX1 := Aside0.mk (show BoxL w1 w.heap.size n (.slice A1 ls.length c1) (.slice A2 es.length c2) from blk_below (blk_new w _) hB)
 have HB1 := Aside0.mk (below_then (below_alloc HB.out _) (by simp) hB)
 have b0 := HX1.out.c0
 have b1 := HX1.out.c1
 have b2 := HX1.out.c2
 clear hB
 go_wp2_with fail
 refine (HO'.out _ HB1.out).mono ?_
 rintro e w2 ⟨gi, go, T, vf, bs, rfl, hS, hbs, hB⟩
 obtain ⟨gf, cf, hvf, _⟩ := hS.fol.at_ (by omega)
 rw [hbs] at hvf
 subst hvf
 have HS2 := Aside0.mk hS
 have HBs := Aside0.mk hbs
 have HX2 := Aside0.mk (HX1.out.below hB)
 have HB2 := Aside0.mk (below_then HB1.out HB1.out.size hB)
 have HBw := Aside0.mk hB
 clear hS hbs hB b0 b1 b2
 go_wp2_with fail
 refine (srun_any w1 w2 HS2.out HBs.out hn HES.out hel rfl HBw.out).mono ?_
 rintro e w3 ⟨rfl, hS, hB, hK⟩
 have HS := Aside0.mk hS
 have HX := Aside0.mk (show BoxL w3 w.heap.size n (.slice A1 ls.length c1) (.slice A2 es.length c2) from hK.keep _ _ _ HX2.out (by decide))
 have HB3 := Aside0.mk (below_then HB1.out HB1.out.size hB)
 have hb1 := HB1.out.size
 rw [← HHF.out] at HS
 have b0 := HX.out.c0
 clear hS hB hK HS2 HX1 HB1 HX2 HB2 HBw
 go_wp2
 clear b0
 go_loopw [6, 20] (fun v i wr => ∃ k : Nat, k ≤ n ∧ i = .int .i64 k ∧ Aside0 (RP wr w.heap.size (fun _ => True) v (pairsF F n k)) ∧ Aside0 (BoxL wr w.heap.size n (.slice A1 ls.length c1) (.slice A2 es.length c2)) ∧ Aside0 (SimT w1.heap.size wr gi go T n (.slice A1 ls.length c1) (.slice A2 es.length c2) es es (.slice (some ⟨gf, 0, none⟩) n cf) bs F) ∧ Aside0 (Below w.heap.size w wr)) (fun _ i _ => n - (intOf i).toNat)
 case atStart => exact ⟨0, Nat.zero_le _, rfl, ⟨Kd.R_nil _ _ _ _ _⟩, HX, HS, HB3⟩
 case round =>
  clear HX HB3 HS
  obtain ⟨k, hk, rfl, HO1, HX1, HS1, HB1⟩ := hrel
  have b0 := HX1.out.c0
  by_cases hlt : k < n
  ·go_wp2
   clear b0
   go_loopw [6, 25] (fun v i wr => ∃ j : Nat, j ≤ n ∧ i = .int .i64 j ∧ Aside0 (RP wr w.heap.size (fun _ => True) v (pairsF F n k ++ rowF F k j)) ∧ Aside0 (BoxL wr w.heap.size n (.slice A1 ls.length c1) (.slice A2 es.length c2)) ∧ Aside0 (SimT w1.heap.size wr gi go T n (.slice A1 ls.length c1) (.slice A2 es.length c2) es es (.slice (some ⟨gf, 0, none⟩) n cf) bs F) ∧ Aside0 (Below w.heap.size w wr)) (fun _ i _ => n - (intOf i).toNat)
   case atStart => exact ⟨0, Nat.zero_le _, rfl, ⟨by simpa [rowF] using HO1.out⟩, HX1, HS1, HB1⟩
   case round =>
    clear HO1 HX1 HB1 HS1
    obtain ⟨j, hj, rfl, HO1, HX1, HS1, HB1⟩ := hrel
    by_cases hlt2 : j < n
    ·have j64 : j < 64 := by omega
     have hle : (pairsF F n k ++ rowF F k j).length ≤ 63 * 63 := by
      rw [List.length_append]
      have h1 := pairsF_len F n k
      have h2 := rowF_len F k j
      have h3 : k * n + j ≤ (k + 1) * n := by rw [Nat.succ_mul]; omega
      have h4 : (k + 1) * n ≤ 63 * 63 := Nat.mul_le_mul (by omega) hn
      omega
     have HN := Aside0.mk (show pairsF F n k ++ rowF F k (j + 1) = (pairsF F n k ++ rowF F k j) ++ if F k j then [(⟨(k : Int), (j : Int)⟩ : Pair)] else [] by rw [rowF_succ, List.append_assoc])
     obtain ⟨L, hL⟩ : ∃ L, L = pairsF F n k ++ rowF F k j := ⟨_, rfl⟩
     rw [← hL] at HO1 hle HN
     have t5 := HS1.out.t5
     obtain ⟨hrow, hword⟩ := HS1.out.fol.cells HBs.out hlt
     have HWd := Aside0.mk hword
     have k0 : (0 : Int) ≤ (k : Int) := by omega
     have k1 : (k : Int) < (n : Int) := by omega
     clear hL hword
     cases hFk : F k j with
     | false =>
      have HF := Aside0.mk hFk
      clear hFk
      go_wp2_with (go_at_call 89; refine (shas_is _ j 1 (F k) false HF.out _ HWd.out j64).mono ?_; rintro e w' ⟨rfl, rfl⟩)
      go_roundw
      case rel => exact ⟨j + 1, by omega, by go_num, ⟨by rw [HN.out, HF.out, if_neg (by simp), List.append_nil]; exact HO1.out⟩, HX1, HS1, HB1⟩
      case measure => simp [intOf]; omega
     | true =>
      have HF := Aside0.mk hFk
      clear hFk
      go_wp2_with (first
       | (go_at_call 89; refine (shas_is _ j 1 (F k) true HF.out _ HWd.out j64).mono ?_; rintro e w' ⟨rfl, rfl⟩)
       | (at_builtin; refine Kd.R_append k31 (w0 := w) w.heap.size rfl (.tmp 37) (.tmp 41) 26 31 (.agg #[(.int .i64 0), (.int .i64 0)]) 16 rfl Try.underlying26 info31 rfl (by decide) (by omega) u6 L (⟨(k : Int), (j : Int)⟩ : Pair) [.int .i64 (k : Int), .int .i64 (j : Int)] (fun _ => True) (fun _ => False) rfl rfl (k31_mkM _ _ _ (⟨(k : Int), (j : Int)⟩ : Pair)) (fun _ hk => hk.elim) (fun _ _ => trivial) HO1.out HB1.out HB1.out.size (by omega) ?_; intro v2 w2 ho hb hg hat; have HO2 := Aside0.mk ho; have HB2 := Aside0.mk hb; have HX2 := Aside0.mk (blk_grown (g := w.heap.size) HX1.out hg (Kd.R_ne HO1.out HX1.out (by decide))); have HS2 := Aside0.mk (HS1.out.grown hg (t0 := 31) (fun q hq => Kd.R_typed HO1.out q hq) (by decide) (by decide) (by decide) (by decide) (by decide)); clear ho hb hg hat t5 hrow))
      go_roundw
      case rel => exact ⟨j + 1, by omega, by go_num, ⟨by rw [HN.out, HF.out, if_pos rfl]; exact HO2.out⟩, HX2, HS2, HB2⟩
      case measure => simp [intOf]; omega
    ·have ej : j = n := by omega
     have HN := Aside0.mk (show pairsF F n (k + 1) = pairsF F n k ++ rowF F k j by rw [pairsF_succ, ej])
     clear ej
     go_wp2
     go_roundw
     case rel => exact ⟨k + 1, by omega, by go_num, ⟨by rw [HN.out]; exact HO1.out⟩, HX1, HS1, HB1⟩
     case measure => simp [intOf]; omega
  ·have ek : k = n := by omega
   subst ek
   go_wp2
   go_ret2
   exact ⟨u6, rfl, HO1.out, HB1.out⟩
theorem sgreat_no (n : Int) (ls : List ByteArray) (es : List Ed) (A1 A2 : Option Addr) (c1 c2 : Nat) (w : World) (hr1 : Kd.C Kd.string w A1 ls.length ls) (hr2 : Kd.C k81 w A2 es.length es) (hm : mayR n ls es = false) :
  Calls Try.prog 48 #[.agg #[.int .i64 n, .slice A1 ls.length c1, .slice A2 es.length c2]] w fun e w' => e = .returned (.tuple #[.slice none 0 0, .int .i64 1]) ∧ Below w.heap.size w w' := by
 have HB := Aside0.mk (Below.refl w.heap.size w)
 have HC : ∀ W, Below w.heap.size w W → Calls Try.prog 66 #[.agg #[.int .i64 n, .slice A1 ls.length c1, .slice A2 es.length c2]] W fun e w' => e = .returned (.int .i64 1) ∧ Below W.heap.size W w' := fun W hW =>
  check_no n ls es A1 A2 c1 c2 W (Kd.C_below hr1 hW) (Kd.C_below hr2 hW) (by rw [may_same]; exact hm)
 have HC' := Lib.hid HC
 clear HC hr1 hr2 hm
 go_enter Try.func48, Try.ntmps48
 go_wp2_with fail
 refine (HC'.out _ (below_alloc HB.out _)).mono ?_
 rintro e w1 ⟨rfl, hB⟩
 have HB1 := Aside0.mk (below_then (below_alloc HB.out _) (by simp) hB)
 clear hB
 go_wp2
 go_ret2
 exact ⟨rfl, HB1.out⟩
def canB (n : Int) (ls : List ByteArray) (es : List Ed) (t s : Int) : Bool := mayR n ls es && (decide (0 ≤ s ∧ s < n) && (decide (0 ≤ t ∧ t < n) && simF n.toNat es s.toNat t.toNat))
theorem scan_no (n t s : Int) (ls : List ByteArray) (es : List Ed) (A1 A2 : Option Addr) (c1 c2 : Nat) (w : World) (hr1 : Kd.C Kd.string w A1 ls.length ls) (hr2 : Kd.C k81 w A2 es.length es) (hm : mayR n ls es = false) :
  Calls Try.prog 49 #[.agg #[.int .i64 n, .slice A1 ls.length c1, .slice A2 es.length c2], .int .i64 t, .int .i64 s] w fun e w' => e = .returned (.bool false) ∧ Below w.heap.size w w' := by
 have HB := Aside0.mk (Below.refl w.heap.size w)
 have HC : ∀ W, Below w.heap.size w W → Calls Try.prog 66 #[.agg #[.int .i64 n, .slice A1 ls.length c1, .slice A2 es.length c2]] W fun e w' => e = .returned (.int .i64 1) ∧ Below W.heap.size W w' := fun W hW =>
  check_no n ls es A1 A2 c1 c2 W (Kd.C_below hr1 hW) (Kd.C_below hr2 hW) (by rw [may_same]; exact hm)
 have HC' := Lib.hid HC
 clear HC hr1 hr2 hm
 go_enter Try.func49, Try.ntmps49
 go_wp2_with fail
 refine (HC'.out _ (below_alloc HB.out _)).mono ?_
 rintro e w1 ⟨rfl, hB⟩
 have HB1 := Aside0.mk (below_then (below_alloc HB.out _) (by simp) hB)
 clear hB
 go_wp2
 go_ret
 exact ⟨rfl, HB1.out⟩
theorem scan_out (n : Nat) (t s : Int) (ls : List ByteArray) (es : List Ed) (A1 A2 : Option Addr) (c1 c2 : Nat) (w : World) (hr1 : Kd.C Kd.string w A1 ls.length ls) (hr2 : Kd.C k81 w A2 es.length es) (hm : mayR n ls es = true) (h : min s t < 0 ∨ ¬ min s t < 0 ∧ (n : Int) ≤ max s t) :
  Calls Try.prog 49 #[.agg #[.int .i64 n, .slice A1 ls.length c1, .slice A2 es.length c2], .int .i64 t, .int .i64 s] w fun e w' => e = .returned (.bool false) ∧ Below w.heap.size w w' := by
 have HB := Aside0.mk (Below.refl w.heap.size w)
 have HC : ∀ W, Below w.heap.size w W → Calls Try.prog 66 #[.agg #[.int .i64 n, .slice A1 ls.length c1, .slice A2 es.length c2]] W fun e w' => e = .returned (.int .i64 0) ∧ Below W.heap.size W w' := fun W hW =>
  check_yes n ls es A1 A2 c1 c2 W (Kd.C_below hr1 hW) (Kd.C_below hr2 hW) (by rw [may_same]; exact hm)
 have HC' := Lib.hid HC
 clear HC hr1 hr2 hm
 rcases h with h | ⟨h, h2⟩
 ·go_enter Try.func49, Try.ntmps49
  go_wp2_with fail
  refine (HC'.out _ (below_alloc HB.out _)).mono ?_
  rintro e w1 ⟨rfl, hB⟩
  have HB1 := Aside0.mk (below_then (below_alloc HB.out _) (by simp) hB)
  clear hB
  go_wp2
  go_ret
  exact ⟨rfl, HB1.out⟩
 ·go_enter Try.func49, Try.ntmps49
  go_wp2_with fail
  refine (HC'.out _ (below_alloc HB.out _)).mono ?_
  rintro e w1 ⟨rfl, hB⟩
  have HB1 := Aside0.mk (below_then (below_alloc HB.out _) (by simp) hB)
  have b0 := (show BoxL w1 w.heap.size n (.slice A1 ls.length c1) (.slice A2 es.length c2) from blk_below (blk_new w _) hB).c0
  clear hB
  go_wp2
  go_ret
  exact ⟨rfl, HB1.out⟩
set_option maxHeartbeats 16000000 in
set_option maxRecDepth 100000 in
theorem scan_mid (n t s : Nat) (ls : List ByteArray) (es : List Ed) (A1 A2 : Option Addr) (c1 c2 : Nat) (w : World) (hr1 : Kd.C Kd.string w A1 ls.length ls) (hr2 : Kd.C k81 w A2 es.length es) (hm : mayR n ls es = true) (hn : n ≤ 63) (hs : s < n) (ht : t < n) (r : Bool) (hr : simF n es s t = r) :
  Calls Try.prog 49 #[.agg #[.int .i64 n, .slice A1 ls.length c1, .slice A2 es.length c2], .int .i64 t, .int .i64 s] w fun e w' => e = .returned (.bool r) ∧ Below w.heap.size w w' := by
 have HB := Aside0.mk (Below.refl w.heap.size w)
 have HC : ∀ W, Below w.heap.size w W → Calls Try.prog 66 #[.agg #[.int .i64 n, .slice A1 ls.length c1, .slice A2 es.length c2]] W fun e w' => e = .returned (.int .i64 0) ∧ Below W.heap.size W w' := fun W hW =>
  check_yes n ls es A1 A2 c1 c2 W (Kd.C_below hr1 hW) (Kd.C_below hr2 hW) (by rw [may_same]; exact hm)
 have HC' := Lib.hid HC
 have HO : ∀ W, Below w.heap.size w W → Calls Try.prog 87 #[.agg #[.int .i64 n, .slice A1 ls.length c1, .slice A2 es.length c2]] W (SOpPost W n (.slice A1 ls.length c1) (.slice A2 es.length c2) es) := fun W hW =>
  sopen_main n ls es A1 A2 c1 c2 W (Kd.C_below hr2 hW) hm hn
 have HO' := Lib.hid HO
 have HES := Aside0.mk (es_all hm)
 have hel := es_le hm
 have hn1 := n_le hm
 have HR := Aside0.mk hr
 have q0 : ¬ min (s : Int) (t : Int) < 0 := by omega
 have q1 : ¬ (n : Int) ≤ max (s : Int) (t : Int) := by omega
 have s0 : (0 : Int) ≤ (s : Int) := by omega
 have s1 : (s : Int) < (n : Int) := by omega
 have t64 : t < 64 := by omega
 clear HC HO hr1 hr2 hm hr
 go_enter Try.func49, Try.ntmps49
 go_wp2_with fail
 refine (HC'.out _ (below_alloc HB.out _)).mono ?_
 rintro e w1 ⟨rfl, hB⟩
 have HX1 := Aside0.mk (show BoxL w1 w.heap.size n (.slice A1 ls.length c1) (.slice A2 es.length c2) from blk_below (blk_new w _) hB)
 have HB1 := Aside0.mk (below_then (below_alloc HB.out _) (by simp) hB)
 have b0 := HX1.out.c0
 have b1 := HX1.out.c1
 have b2 := HX1.out.c2
 clear hB
 go_wp2_with fail
 refine (HO'.out _ HB1.out).mono ?_
 rintro e w2 ⟨gi, go, T, vf, bs, rfl, hS, hbs, hB⟩
 obtain ⟨gf, cf, hvf, _⟩ := hS.fol.at_ (by omega)
 rw [hbs] at hvf
 subst hvf
 have HS2 := Aside0.mk hS
 have HBs := Aside0.mk hbs
 have HBw := Aside0.mk hB
 clear hS hbs hB b0 b1 b2
 go_wp2_with fail
 refine (srun_any w1 w2 HS2.out HBs.out hn HES.out hel rfl HBw.out).mono ?_
 rintro e w3 ⟨rfl, hS, hB, hK⟩
 have HB3 := Aside0.mk (below_then HB1.out HB1.out.size hB)
 have t5 := hS.t5
 obtain ⟨hrow, hword⟩ := hS.fol.cells HBs.out hs
 have HWd := Aside0.mk hword
 clear hS hB hK hword
 go_wp2_with (go_at_call 89; refine (shas_is _ t 1 (simF n es s) r HR.out _ HWd.out t64).mono ?_; rintro e w' ⟨rfl, rfl⟩)
 go_ret
 exact ⟨rfl, HB3.out⟩
theorem scan_any (n t s : Int) (ls : List ByteArray) (es : List Ed) (A1 A2 : Option Addr) (c1 c2 : Nat) (w : World) (hr1 : Kd.C Kd.string w A1 ls.length ls) (hr2 : Kd.C k81 w A2 es.length es) (hn : mayR n ls es = true → n ≤ 63) :
  Calls Try.prog 49 #[.agg #[.int .i64 n, .slice A1 ls.length c1, .slice A2 es.length c2], .int .i64 t, .int .i64 s] w fun e w' => e = .returned (.bool (canB n ls es t s)) ∧ Below w.heap.size w w' := by
 unfold canB
 cases q : mayR n ls es with
 | false => exact scan_no n t s ls es A1 A2 c1 c2 w hr1 hr2 q
 | true =>
  have h1 := n_le q
  obtain ⟨m, rfl⟩ : ∃ m : Nat, n = (m : Int) := ⟨n.toNat, by omega⟩
  have hn' := hn q
  rw [Bool.true_and]
  by_cases hs : 0 ≤ s ∧ s < (m : Int)
  ·by_cases ht : 0 ≤ t ∧ t < (m : Int)
   ·rw [decide_eq_true hs, decide_eq_true ht, Bool.true_and, Bool.true_and]
    obtain ⟨a, rfl⟩ : ∃ a : Nat, s = (a : Int) := ⟨s.toNat, by omega⟩
    obtain ⟨b, rfl⟩ : ∃ b : Nat, t = (b : Int) := ⟨t.toNat, by omega⟩
    simp only [Int.toNat_natCast]
    exact scan_mid m b a ls es A1 A2 c1 c2 w hr1 hr2 q (by omega) (by omega) (by omega) _ rfl
   ·rw [decide_eq_false ht, Bool.false_and, Bool.and_false]
    exact scan_out m t s ls es A1 A2 c1 c2 w hr1 hr2 q (by omega)
  ·rw [decide_eq_false hs, Bool.false_and]
   exact scan_out m t s ls es A1 A2 c1 c2 w hr1 hr2 q (by omega)
end Go.Proofs.Ytmpiokdomjchiaa.H
set_option linter.unusedVariables false
set_option linter.unusedSimpArgs false
namespace Go.Proofs.Ytmpiokdomjchiaa.Pr
open Go.RowKit Go.Proofs.YtmpiokdomjchiaaW.PrintWords Go.Proofs.YtmpiokdomjchiaaW.PrintLast Go.Proofs.YtmpiokdomjchiaaW.PrintMore
def sim_Greatest.f (a0_0 : Int) (l0_1 : List ByteArray) (l0_2 : List S81) : Option (List S31 × Int) := if H.mayR a0_0 l0_1 l0_2 then (if a0_0 ≤ 63 then some (H.simL a0_0.toNat l0_2, 0) else none) else some ([], 1)
theorem sim_Greatest.calls (a0_0 : Int) (A0_1 : Option Addr) (c0_1 : Nat) (l0_1 : List ByteArray) (A0_2 : Option Addr) (c0_2 : Nat) (l0_2 : List S81) (r1 : List S31) (r2 : Int) (w : World) (hr0_1 : Kd.C Kd.string w A0_1 l0_1.length l0_1) (hc0_1 : l0_1.length ≤ c0_1) (hr0_2 : Kd.C k81 w A0_2 l0_2.length l0_2) (hc0_2 : l0_2.length ≤ c0_2) (h : sim_Greatest.f a0_0 l0_1 l0_2 = some (r1, r2)) :
  Calls Try.prog 48 #[.agg #[.int .i64 a0_0, .slice A0_1 l0_1.length c0_1, .slice A0_2 l0_2.length c0_2]] w fun e w' => ∃ v0_ : Value, e = .returned (.tuple #[v0_, .int .i64 r2]) ∧ Kd.R k31 31 w' w.heap.size (fun _ => True) v0_ r1 ∧ Below w.heap.size w w' := by
 unfold sim_Greatest.f at h
 cases hm : H.mayR a0_0 l0_1 l0_2 with
 | false =>
  rw [hm] at h
  simp only [Bool.false_eq_true, if_false, Option.some.injEq, Prod.mk.injEq] at h
  obtain ⟨rfl, rfl⟩ := h
  exact (H.sgreat_no a0_0 l0_1 l0_2 A0_1 A0_2 c0_1 c0_2 w hr0_1 hr0_2 hm).mono fun e w' ⟨he, hb⟩ => ⟨_, he, Kd.R_nil _ _ _ _ _, hb⟩
 | true =>
  rw [hm, if_pos rfl] at h
  split at h
  ·rename_i hn
   simp only [Option.some.injEq, Prod.mk.injEq] at h
   obtain ⟨rfl, rfl⟩ := h
   have h1 := H.n_le hm
   obtain ⟨n, rfl⟩ : ∃ n : Nat, a0_0 = (n : Int) := ⟨a0_0.toNat, by omega⟩
   rw [Int.toNat_natCast]
   exact H.sgreat_yes n l0_1 l0_2 A0_1 A0_2 c0_1 c0_2 w hr0_1 hr0_2 hm (by omega)
  ·cases h
def sim_Can.f (a0_0 : Int) (l0_1 : List ByteArray) (l0_2 : List S81) (a1 : Int) (a2 : Int) : Option Bool := if H.mayR a0_0 l0_1 l0_2 = true ∧ ¬ a0_0 ≤ 63 then none else some (H.canB a0_0 l0_1 l0_2 a1 a2)
theorem sim_Can.calls (a0_0 : Int) (A0_1 : Option Addr) (c0_1 : Nat) (l0_1 : List ByteArray) (A0_2 : Option Addr) (c0_2 : Nat) (l0_2 : List S81) (a1 : Int) (a2 : Int) (r : Bool) (w : World) (hr0_1 : Kd.C Kd.string w A0_1 l0_1.length l0_1) (hc0_1 : l0_1.length ≤ c0_1) (hr0_2 : Kd.C k81 w A0_2 l0_2.length l0_2) (hc0_2 : l0_2.length ≤ c0_2) (h : sim_Can.f a0_0 l0_1 l0_2 a1 a2 = some r) :
  Calls Try.prog 49 #[.agg #[.int .i64 a0_0, .slice A0_1 l0_1.length c0_1, .slice A0_2 l0_2.length c0_2], .int .i64 a1, .int .i64 a2] w fun e w' => e = .returned (.bool r) ∧ Below w.heap.size w w' := by
 unfold sim_Can.f at h
 split at h
 ·cases h
 ·rename_i hn
  simp only [Option.some.injEq] at h
  subst h
  exact H.scan_any a0_0 a1 a2 l0_1 l0_2 A0_1 A0_2 c0_1 c0_2 w hr0_1 hr0_2 (fun hm => by
   by_cases h : a0_0 ≤ 63
   ·exact h
   ·exact absurd ⟨hm, h⟩ hn)
end Go.Proofs.Ytmpiokdomjchiaa.Pr
