/-
  Parts of the proof of BisimBlocks (joined by wip/tools/bundle.py), part 3: plain words and walks of the functions that the law reaches.
-/
import Derived.Test.YtmcbkmfpmcbdpaaZBisimBlocks2
set_option linter.unusedVariables false
set_option linter.unusedSimpArgs false
set_option linter.unusedSectionVars false
namespace Go.Proofs.Ytmcbkmfpmcbdpaa.H
open Go.RowKit Go.Proofs.Ytmcbkmfpmcbdpaa.Pr Go.Proofs.YtmcbkmfpmcbdpaaW.PrintWords Go.Proofs.Ytmcbkmfpmcbdpaa.Sem Go.Proofs.YtmcbkmfpmcbdpaaW.PrintLast
theorem run_gupd {P : Program} {op : Oper} {a : Act} {w w1 : World} {x y z : Operand} {t m : Nat} {k u : Value} (ho : op.op = .mapUpdate t x y z) (hx : a.eval x = .map (some m)) (hy : a.eval y = k) (hz : a.eval z = u) (h : (Instr.mapUpdate t (.map (some m)) k u).run P w = .ok () w1) : (execOp a.eval op).run P w = .ok .skip w1 := by
 unfold execOp
 simp only [ho, hx, hy, hz, Sem.run_bind, Sem.run_pure, h, Result.andThen_ok]
structure MtI (N : Nat) (W : World) (M : Nat) (dl : Nat → Option Int) (g : Int → Option Value) (c : Nat) (xs : Int → List Int) : Prop where
  gm : G1 W M g c
  low : N ≤ M
  dm : dl M = none
  no : ∀ b, i64in b → g b = none → xs b = []
  yes : ∀ b v, i64in b → g b = some v → xs b ≠ [] ∧ Kd.R (Kd.int .i64) 3 W N (fun k => dl k = some b) v (xs b)
section
variable {N : Nat} {W w1 : World} {M : Nat} {dl : Nat → Option Int} {g : Int → Option Value} {c : Nat} {xs : Int → List Int}
theorem MtI.made (W : World) (N : Nat) (hN : N ≤ W.heap.size) : MtI N (W.alloc (.map #[] 0)) W.heap.size (fun _ => none) (fun _ => none) 0 (fun _ => []) :=
 ⟨GM.made _ _ _ _ _, hN, rfl, fun _ _ _ => rfl, fun _ _ _ h => by cases h⟩
theorem MtI.below (h : MtI N W M dl g c xs) (hb : Below W.heap.size W w1) : MtI N w1 M dl g c xs :=
 ⟨h.gm.below hb, h.low, h.dm, h.no, fun b v hb2 hg => ⟨(h.yes b v hb2 hg).1, Kd.R_below (h.yes b v hb2 hg).2 hb⟩⟩
def gv (g : Int → Option Value) (b : Int) : Value := (g b).getD (.slice none 0 0)
theorem MtI.row (h : MtI N W M dl g c xs) {b : Int} (hb : i64in b) : Kd.R (Kd.int .i64) 3 W N (fun k => dl k = some b) (gv g b) (xs b) := by
 unfold gv
 cases hg : g b with
 | none => rw [h.no b hb hg]; exact Kd.R_nil _ _ _ _ _
 | some v => exact (h.yes b v hb hg).2
theorem MtI.step (h : MtI N W M dl g c xs) {b x : Int} (hb : i64in b) {w9 w10 : World} {v9 : Value} {c' : Nat} (ho : Kd.R (Kd.int .i64) 3 w9 N (fun k => dl k = some b ∨ W.heap.size ≤ k) v9 (xs b ++ [x])) (hg : W.grownBy w9 (gv g b).ownBlock) (hat : v9.ownBlock = (gv g b).ownBlock ∨ ∃ k, v9.ownBlock = some k ∧ W.heap.size ≤ k)
  (hgm : G1 w10 M (putM g b v9) c') (hgg : w9.grownBy w10 (some M)) : MtI N w10 M (fun k => if v9.ownBlock = some k then some b else dl k) (putM g b v9) c' (fun b' => if b' = b then xs b ++ [x] else xs b') := by
 have hM : M < W.heap.size := h.gm.lt_
 have hv9 : ∀ k, v9.ownBlock = some k → k < W.heap.size → dl k = some b := fun k hk hl => by
  rcases hat with hat | ⟨k', hk', hle⟩
  ·exact (h.row hb).1 k (by rw [← hat]; exact hk)
  ·rw [hk] at hk'; cases hk'; omega
 have hM9 : v9.ownBlock ≠ some M := fun e => by have := hv9 M e hM; rw [h.dm] at this; cases this
 have hK : Kept W w10 (fun k => k = M ∨ dl k = some b) := Kept.of_grown hgg (kept_grown hg fun k hk => .inr ((h.row hb).1 k hk)) fun k hk => by cases hk; exact .inl (.inl rfl)
 refine ⟨hgm, h.low, by show (if v9.ownBlock = some M then some b else dl M) = none; rw [if_neg hM9]; exact h.dm, ?_, ?_⟩
 ·intro b' hb' hn
  unfold putM at hn
  split at hn
  ·cases hn
  ·rename_i e
   show (if b' = b then xs b ++ [x] else xs b') = []
   rw [if_neg e]
   exact h.no b' hb' hn
 ·intro b' v hb' hs
  unfold putM at hs
  by_cases e : b' = b
  ·rw [if_pos e] at hs
   cases hs
   subst e
   show (if b' = b' then xs b' ++ [x] else xs b') ≠ [] ∧ Kd.R _ _ _ _ _ _ (if b' = b' then xs b' ++ [x] else xs b')
   rw [if_pos rfl]
   refine ⟨by simp, ?_⟩
   have h1 := Kd.R_grown (Kd.R_tight rfl ho) hgg fun k hk e2 => hM9 (by rw [← hk]; exact e2)
   exact Kd.R_mono h1 fun k hk => by
    show (if v9.ownBlock = some k then some b' else dl k) = some b'
    rw [if_pos hk.symm]
  ·rw [if_neg e] at hs
   show (if b' = b then xs b ++ [x] else xs b') ≠ [] ∧ Kd.R _ _ _ _ _ _ (if b' = b then xs b ++ [x] else xs b')
   rw [if_neg e]
   refine ⟨(h.yes b' v hb' hs).1, ?_⟩
   refine Kd.R_mono (Kd.R_move (Kd.R_bound (h.yes b' v hb' hs).2) fun k hk => hK.2 k hk.2.2.1 ?_) fun k hk => ?_
   ·rintro (e2 | e2)
    ·rw [e2, h.dm] at hk; cases hk.1
    ·rw [hk.1] at e2; cases e2; exact e rfl
   ·show (if v9.ownBlock = some k then some b else dl k) = some b'
    rw [if_neg fun e2 => by have := hv9 k e2 hk.2.2.1; rw [hk.1] at this; cases this; exact e rfl]
    exact hk.1
end
theorem zeroS (w : World) : (zeroValue 28).run Try.prog w = .ok (.slice none 0 0) w := by kernel_rfl
theorem MtI.get {N : Nat} {W : World} {M : Nat} {dl : Nat → Option Int} {g : Int → Option Value} {c : Nat} {xs : Int → List Int} (h : MtI N W M dl g c xs) {b : Int} (hb : i64in b) : (Instr.lookup 186 (.map (some M)) (.int .i64 b) false).run Try.prog W = .ok (gv g b) W := h.gm.get intKB hb Try.underlying186 (zeroS W)
theorem MtI.getv {N : Nat} {W : World} {M : Nat} {dl : Nat → Option Int} {g : Int → Option Value} {c : Nat} {xs : Int → List Int} (h : MtI N W M dl g c xs) {b : Int} (hb : i64in b) {v : Value} (hv : gv g b = v) : (Instr.lookup 186 (.map (some M)) (.int .i64 b) false).run Try.prog W = .ok v W := hv ▸ h.get hb
theorem MtI.cnt {N : Nat} {W : World} {M : Nat} {dl : Nat → Option Int} {g : Int → Option Value} {c : Nat} {xs : Int → List Int} (h : MtI N W M dl g c xs) {nb : Nat} (hb : ∀ b x, x ∈ xs b → Nd nb b) : c ≤ nb := by
 have := h.gm.count_le intKB ((List.range nb).map fun k : Nat => (k : Int)) fun a ha hs => by
  obtain ⟨v, hv⟩ := Option.isSome_iff_exists.1 hs
  obtain ⟨x, hx⟩ := List.exists_mem_of_ne_nil _ (h.yes a v ha hv).1
  obtain ⟨k, rfl, hk⟩ := (hb a x hx).nat
  exact List.mem_map.2 ⟨k, List.mem_range.2 hk, rfl⟩
 simpa using this
structure SpI (n : Nat) (X : Int → Bool) (p p' : PSt) (left : Int → Bool) : Prop where
  pw : PW n p'
  j1 : ∀ x y, Nd n x → Nd n y → (gi p'.block x = gi p'.block y ↔ gi p.block x = gi p.block y ∧ (left (gi p.block x) = false → X x = X y))
  j2 : ∀ b, Nd p.blocks.length b → left b = true → gl p'.blocks b = gl p.blocks b ∧ ∀ x, Nd n x → (gi p'.block x = b ↔ gi p.block x = b)
  j3 : ∀ x, Nd n x → HP p' x = HP p x
  j4 : p'.heaps.length = p.heaps.length
  j5 : p.blocks.length ≤ p'.blocks.length
section
variable {n : Nat} {X : Int → Bool} {p p' : PSt} {left : Int → Bool}
theorem SpI.start (h : PW n p) (hl : ∀ x, Nd n x → X x = true → left (gi p.block x) = true) : SpI n X p p left := by
 refine ⟨h, fun x y hx hy => ⟨fun e => ⟨e, fun hn => ?_⟩, fun e => e.1⟩, fun b _ _ => ⟨rfl, fun _ _ => Iff.rfl⟩, fun _ _ => rfl, rfl, Nat.le_refl _⟩
 cases hX : X x with
 | true => rw [hl x hx hX] at hn; cases hn
 | false =>
  cases hY : X y with
  | true => rw [e, hl y hy hY] at hn; cases hn
  | false => rfl
theorem nodup_full {l l' : List Int} (hn : l.Nodup) (hn' : l'.Nodup) (hs : ∀ x ∈ l, x ∈ l') (hl : l'.length ≤ l.length) : ∀ x ∈ l', x ∈ l := by
 intro x hx
 by_cases hm : x ∈ l
 ·exact hm
 ·have := nodup_sub (l := x :: l) (l' := l') (List.nodup_cons.2 ⟨hm, hn⟩) fun y hy => by
   rcases List.mem_cons.1 hy with rfl | hy
   ·exact hx
   ·exact hs y hy
  simp at this
  omega
theorem SpI.full (h : SpI n X p p' left) {b : Int} (hb : Nd p.blocks.length b) (hl : left b = true) {ins : List Int} (hm : ∀ x, x ∈ ins ↔ Nd n x ∧ X x = true ∧ gi p.block x = b) (hn : ins.Nodup) (hp : PW n p) (hlen : ins.length = (gl p'.blocks b).length) :
  SpI n X p p' (fun z => left z && !decide (z = b)) := by
 have hall : ∀ x, Nd n x → gi p.block x = b → X x = true := fun x hx e => by
  have h1 : x ∈ gl p.blocks b := (hp.bm b hb x).2 ⟨hx, e⟩
  have h2 := nodup_full hn (hp.bn b hb) (fun y hy => (hp.bm b hb y).2 ⟨((hm y).1 hy).1, ((hm y).1 hy).2.2⟩) (by rw [hlen, (h.j2 b hb hl).1]; exact Nat.le_refl _) x h1
  exact ((hm x).1 h2).2.1
 refine ⟨h.pw, fun x y hx hy => ?_, fun c hc hcl => h.j2 c hc (by simp at hcl; exact hcl.1), h.j3, h.j4, h.j5⟩
 rw [h.j1 x y hx hy]
 refine ⟨fun ⟨e, f⟩ => ⟨e, fun hf => ?_⟩, fun ⟨e, f⟩ => ⟨e, fun hf => f (by rw [hf]; rfl)⟩⟩
 by_cases hbx : gi p.block x = b
 ·rw [hall x hx hbx, hall y hy (by rw [← e]; exact hbx)]
 ·exact f (by simp [hbx] at hf; exact hf)
theorem SpI.cut (h : SpI n X p p' left) {b : Int} (hb : Nd p.blocks.length b) (hl : left b = true) {ins : List Int} (hm : ∀ x, x ∈ ins ↔ Nd n x ∧ X x = true ∧ gi p.block x = b) (hn : ins.Nodup) (hp : PW n p) (h0 : ins ≠ []) (hlt : ins.length < (gl p'.blocks b).length) :
  SpI n X p (cutP p' b ins) (fun z => left z && !decide (z = b)) := by
 have hb' : Nd p'.blocks.length b := hb.mono h.j5
 have hsub : ∀ x ∈ ins, x ∈ gl p'.blocks b := fun x hx => by
  rw [(h.j2 b hb hl).1]
  exact (hp.bm b hb x).2 ⟨((hm x).1 hx).1, ((hm x).1 hx).2.2⟩
 have hB : ∀ x, Nd n x → gi (cutP p' b ins).block x = if x ∈ ins then (p'.blocks.length : Int) else gi p'.block x := fun x hx => cut_blk h.pw hb' hsub hx
 have hlen : (cutP p' b ins).blocks.length = p'.blocks.length + 1 := by simp [cutP]
 refine ⟨h.pw.cut hb' hn hsub h0 hlt, fun x y hx hy => ?_, fun c hc hcl => ?_, fun x hx => by rw [cut_hp h.pw hb' hsub hx, h.j3 x hx], by simp [cutP]; exact h.j4, by rw [hlen]; have := h.j5; omega⟩
 ·rw [hB x hx, hB y hy]
  have hnx := (h.pw.br x hx).2
  have hny := (h.pw.br y hy).2
  by_cases ix : x ∈ ins <;> by_cases iy : y ∈ ins
  ·rw [if_pos ix, if_pos iy]
   obtain ⟨_, a1, a2⟩ := (hm x).1 ix
   obtain ⟨_, b1, b2⟩ := (hm y).1 iy
   simp [a1, b1, a2, b2]
  ·rw [if_pos ix, if_neg iy]
   obtain ⟨_, a1, a2⟩ := (hm x).1 ix
   refine ⟨fun e => by omega, fun ⟨e, f⟩ => ?_⟩
   have hf := f (by simp [a2])
   exact absurd ((hm y).2 ⟨hy, by rw [← hf]; exact a1, by rw [← e]; exact a2⟩) iy
  ·rw [if_neg ix, if_pos iy]
   obtain ⟨_, b1, b2⟩ := (hm y).1 iy
   refine ⟨fun e => by omega, fun ⟨e, f⟩ => ?_⟩
   have hf := f (by rw [e]; simp [b2])
   exact absurd ((hm x).2 ⟨hx, by rw [hf]; exact b1, by rw [e]; exact b2⟩) ix
  ·rw [if_neg ix, if_neg iy, h.j1 x y hx hy]
   refine ⟨fun ⟨e, f⟩ => ⟨e, fun hf => ?_⟩, fun ⟨e, f⟩ => ⟨e, fun hf => f (by rw [hf]; rfl)⟩⟩
   by_cases hbx : gi p.block x = b
   ·cases hX : X x with
    | true => exact absurd ((hm x).2 ⟨hx, hX, hbx⟩) ix
    | false =>
     cases hY : X y with
     | true => exact absurd ((hm y).2 ⟨hy, hY, by rw [← e]; exact hbx⟩) iy
     | false => rfl
   ·exact f (by simp [hbx] at hf; exact hf)
 ·have hcl' : left c = true ∧ c ≠ b := by simpa using hcl
  obtain ⟨k1, k2⟩ := h.j2 c hc hcl'.1
  have hc' : Nd (p'.blocks.length + 1) c := hc.mono (by have := h.j5; omega)
  have hcn : c ≠ (p'.blocks.length : Int) := by have := hc.2; have := h.j5; omega
  refine ⟨?_, fun x hx => ?_⟩
  ·rw [← k1]
   show gl (p'.blocks.set b.toNat _ ++ [ins]) c = _
   rw [gl_snoc (by rw [List.length_set]; exact hc'), List.length_set, if_neg hcn, gl_set hb' ⟨hc.1, by have := hc'.2; omega⟩, if_neg hcl'.2]
  ·rw [hB x hx, ← k2 x hx]
   by_cases ix : x ∈ ins
   ·rw [if_pos ix]
    refine ⟨fun e => absurd e.symm hcn, fun e => ?_⟩
    have := (k2 x hx).1 e
    rw [((hm x).1 ix).2.2] at this
    exact absurd this.symm hcl'.2
   ·rw [if_neg ix]
theorem SpI.done (h : SpI n X p p' left) (hl : ∀ x, Nd n x → left (gi p.block x) = false) {x y : Int} (hx : Nd n x) (hy : Nd n y) : gi p'.block x = gi p'.block y ↔ gi p.block x = gi p.block y ∧ (X x = true ↔ X y = true) := by
 rw [h.j1 x y hx hy]
 refine ⟨fun ⟨e, f⟩ => ⟨e, by rw [f (hl x hx)]⟩, fun ⟨e, f⟩ => ⟨e, fun _ => ?_⟩⟩
 cases hX : X x <;> cases hY : X y <;> simp_all
end
set_option maxHeartbeats 16000000 in
set_option maxRecDepth 100000 in
theorem split_any {T n : Nat} {v1 v2 : Value} {s : Sg} {p : PSt} {wt : Int → Bool} {m c jm : Nat} {f : Int → Option Value} {X : Int → Bool} {cls : Nat → Cl} (w0 w : World) (hS : SP w0.heap.size T w cls s) (hD : Std n v1 v2 s p) (hP : PW n p) (hW : StdW s wt) (hWt : Wt p wt)
  (hm : G1 w m f c) (hcm : cls m = .far jm) (hf : ∀ a, i64in a → (f a).isSome = X a) (hX : ∀ a, X a = true → Nd n a) (hn0 : 0 < n) (hn : n ≤ 2048) (hB : Below w0.heap.size w0 w) :
  Calls Try.prog 148 #[.pointer (some ⟨T, 0, none⟩), .map (some m)] w fun e w' => e = .returned (.tuple #[]) ∧ ∃ s' cls' p' wt', SP w0.heap.size T w' cls' s' ∧ Std n v1 v2 s' p' ∧ PW n p' ∧ StdW s' wt' ∧ Wt p' wt' ∧
   (∀ x y, Nd n x → Nd n y → (gi p'.block x = gi p'.block y ↔ gi p.block x = gi p.block y ∧ (X x = true ↔ X y = true))) ∧ (∀ x, Nd n x → HP p' x = HP p x) ∧ p'.heaps.length = p.heaps.length ∧ Same0 s s' ∧ Fr w w' cls cls' (fun _ => False) ∧ Below w0.heap.size w0 w' := by
 have hmm := @run_makeMap Try.prog
 have HS := Aside0.mk hS
 have HD := Aside0.mk hD
 have HP := Aside0.mk hP
 have HW := Aside0.mk hW
 have HWt := Aside0.mk hWt
 have HM := Aside0.mk hm
 have HMc := Aside0.mk hcm
 have HF := Aside0.mk hf
 have HX := Aside0.mk hX
 have HB := Aside0.mk hB
 clear hS hD hP hW hWt hm hcm hf hX hB
 go_enter Try.func148, Try.ntmps148
 go_wp2_with (at_range; refine wpList_grange _ intKB rfl _ 88 rfl 3 Try.underlying88 m c f rfl (HM.out.below (below_alloc (Below.refl _ _) _)) ?_; intro w1 hgr hg hsz)
 go_frame
 clear hmm
 have HMt := Aside0.mk ((MtI.made w w.heap.size (Nat.le_refl _)).below ⟨hg.os, hg.tape, hg.output, hg.size, fun k hk => hg.block k hk (by simp)⟩)
 have HGr := Aside0.mk hgr
 have a3 := Aside0.mk (show Below w.heap.size w w1 from (below_alloc (Below.refl _ _) _).grown hg (by simp) (fun k e => by cases e))
 have e3 := Aside0.mk (GR.iter hgr)
 obtain ⟨M, hM⟩ : ∃ M, M = w.heap.size := ⟨_, rfl⟩
 obtain ⟨r, hr⟩ : ∃ r, r = (w.alloc (Obj.map #[] 0)).heap.size := ⟨_, rfl⟩
 have HrM := Aside0.mk (show w.heap.size ≤ r ∧ r ≠ M by rw [hr, hM]; simp)
 rw [← hr] at HGr e3 ⊢
 have HMt : Aside0 (MtI w.heap.size w1 M (fun _ => none) (fun _ => none) 0 (fun _ => [])) := ⟨by rw [hM]; exact HMt.out⟩
 rw [← hM]
 have HMe := Aside0.mk hM
 clear hgr hg hsz hr hM
 go_loopw [] (fun wr => ∃ (left : Int → Bool) (cnt : Nat) (dl : Nat → Option Int) (g : Int → Option Value) (c' : Nat) (xs : Int → List Int),
  Aside0 (GR Try.prog 3 ik i64in wr m r f left cnt) ∧ Aside0 (MtI w.heap.size wr M dl g c' xs) ∧ Aside0 (∀ b x, x ∈ xs b ↔ Nd n x ∧ X x = true ∧ gi p.block x = b ∧ left x = false) ∧ Aside0 (∀ b, (xs b).Nodup) ∧ Aside0 (Below w.heap.size w wr) ∧ Aside0 (∀ x, Nd n x → X x = false → left x = false)) (fun wr => wr.rangeLeft m r)
 case atStart =>
  refine ⟨_, _, _, _, _, _, HGr, HMt, ⟨fun b x => ?_⟩, ⟨fun b => List.nodup_nil⟩, a3, ⟨fun x hx he => by rw [HF.out x (by unfold i64in; have := hx.1; have := hx.2; omega), he]⟩⟩
  constructor
  ·intro h; cases h
  ·rintro ⟨h1, h2, h3, h4⟩
   rw [HF.out x (by unfold i64in; have := h1.1; have := h1.2; omega), h2] at h4
   cases h4
 case round =>
  clear HGr HMt a3 e3
  obtain ⟨left, cnt, dl, g, c', xs, HGr, HMt, HMem, HNd, a3, HLf⟩ := hrel
  go_wp2_with (at_next; refine wpList_gnext _ intKB rfl _ rfl m r f left cnt rfl HGr.out ?_ ?_)
  rotate_left
  ·intro y v w2 f7 hy hly hfy a9 hlt a5 hsz hen
   have hXy : X y = true := by rw [← HF.out y hy, hfy]; rfl
   obtain ⟨x, rfl, hxn⟩ := (HX.out y hXy).nat
   have g1 := Aside0.mk a9
   have e7 := Aside0.mk a5
   have HIt := Aside0.mk (GR.iter HGr.out)
   have e0 := Aside0.mk (a3.out.grown a5 a3.out.size (fun k e => by cases e; exact HrM.out.1))
   have HFin := Aside0.mk (And.intro hy (And.intro hly (And.intro hfy (And.intro hXy hlt))))
   clear a9 hsz a5 hly hfy hXy hlt
   go_wp2_with fail
   clear hen
   have hnb := HP.out.nb_le
   obtain ⟨y, hye, hyn⟩ := (HP.out.br (x : Int) (nd_iff.2 hxn)).nat
   obtain ⟨gB, cB, hvB, hcB⟩ := IR.slice (HS.out .blk) (by rw [HD.out.block, HP.out.bl]; exact hn0)
   rw [HD.out.block, HP.out.bl] at hvB
   have tw : w.cell? ⟨T, 4, none⟩ = some (.slice (some ⟨gB, 0, none⟩) n cB) := by rw [HS.out.cell 4 s.vB (by rw [HD.out.tc]; rfl), hvB]
   have qw : w.cell? ⟨gB, x, none⟩ = some (.int .i64 (y : Int)) := by rw [(hcB x (by rw [HD.out.block, HP.out.bl]; exact hxn)).1, HD.out.block]; show some (Value.int .i64 (gi p.block (x : Int))) = _; rw [hye]
   have hyi : i64in (y : Int) := by unfold i64in; omega
   have d2 := below_drew1 (Below.refl w2.heap.size w2)
   have a0 := Aside0.mk ((show MtI w.heap.size w2 M dl g c' xs from ⟨HMt.out.gm.same (e7.out.block M HMt.out.gm.lt_ (fun e => HrM.out.2 (by cases e; rfl))), HMt.out.low, HMt.out.dm, HMt.out.no, fun b v hb hg => ⟨(HMt.out.yes b v hb hg).1, Kd.R_grown (Kd.R_bound (HMt.out.yes b v hb hg).2) e7.out (fun k hk e => by cases e; obtain ⟨_, _, _, _, hi⟩ := HIt.out; obtain ⟨_, _, _, q, _, cs, hc⟩ := hk; rw [hi] at hc; cases hc) |> fun h => Kd.R_mono h fun k hk => hk.1⟩⟩).below d2)
   have a1 := Aside0.mk (g1.out.same (w1 := w2.drew) rfl rfl)
   have a2 := Aside0.mk (below_then e0.out e0.out.size d2)
   obtain ⟨zs, hzs⟩ : ∃ zs, zs = xs (y : Int) := ⟨_, rfl⟩
   have hrow := a0.out.row hyi
   rw [← hzs] at hrow
   obtain ⟨Az, cz, hvz⟩ := Kd.R_slice hrow
   have hlook := a0.out.get hyi
   rw [hvz] at hlook
   have hzl : zs.length ≤ n := nodup_le (by rw [hzs]; exact HNd.out _) fun a ha => ((HMem.out _ a).1 (by rw [← hzs]; exact ha)).1
   have t4 := later a2.out tw
   have q4 := later a2.out qw
   have HTw := Aside0.mk (And.intro tw qw)
   have HVz := Aside0.mk hvz
   have HZ := Aside0.mk hzs
   have HY := Aside0.mk hye
   have HYi := Aside0.mk hyi
   have k0 : (0 : Int) ≤ (x : Int) := by omega
   have k1 : (x : Int) < (n : Int) := by omega
   have hcl : c' ≤ p.blocks.length := a0.out.cnt fun b x hx => by
    obtain ⟨h1, h2, h3, _⟩ := (HMem.out b x).1 hx
    rw [← h3]
    exact HP.out.br x h1
   clear hvB hcB tw qw hrow hvz hzs hye d2 hyi
   refine start_ (n := 21) (S := fun w' => w'.cell? ⟨T, 4, none⟩ = some (.slice (some ⟨gB, 0, none⟩) n cB) ∧ w'.cell? ⟨gB, x, none⟩ = some (.int .i64 (y : Int)) ∧ (Instr.lookup 186 (.map (some M)) (.int .i64 (y : Int)) false).run Try.prog w' = .ok (.slice Az zs.length cz) w') (ds := [20]) #[false, false, false, false, false, false, false, false, false, false, false, false, false, false, false, false, false, false, false, false, false] (by kernel_rfl) rfl rfl ⟨t4, q4, hlook⟩ (fun hHeld => ?_)
   generalize w2.drew = V at a0 a1 a2 hHeld ⊢; clear t4 q4 hlook
   refine pure_ (i := 0) (N := some 15) (v := ?_) (a' := ?_) #[true, false, false, false, false, false, false, false, false, false, false, false, false, false, false, false, false, false, false, false, false] rfl rfl (by kernel_rfl) (fun _ _ _ h => h) (Or.inl ⟨by rfl, ?_⟩) ?_ ?_
   rotate_left
   ·intro w'
    go_simp
    with_reducible rfl
   rotate_left
   ·simp only [Act.put, List.setIfInBounds_toArray, List.set_cons_zero, List.set_cons_succ, i64_w, i32_w]
    rfl
   refine pure_ (i := 1) (N := some 16) (v := ?_) (a' := ?_) #[true, true, false, false, false, false, false, false, false, false, false, false, false, false, false, false, false, false, false, false, false] rfl rfl (by kernel_rfl) (fun _ _ _ h => h) (Or.inl ⟨by rfl, ?_⟩) ?_ ?_
   rotate_left
   ·intro w'
    go_simp
    with_reducible rfl
   rotate_left
   ·simp only [Act.put, List.setIfInBounds_toArray, List.set_cons_zero, List.set_cons_succ, i64_w, i32_w]
    rfl
   refine pure_ (i := 2) (N := some 17) (v := ?_) (a' := ?_) #[true, true, true, false, false, false, false, false, false, false, false, false, false, false, false, false, false, false, false, false, false] rfl rfl (by kernel_rfl) (fun _ _ _ h => h) (Or.inl ⟨by rfl, ?_⟩) ?_ ?_
   rotate_left
   ·intro w'
    go_simp
    with_reducible rfl
   rotate_left
   ·simp only [Act.put, List.setIfInBounds_toArray, List.set_cons_zero, List.set_cons_succ, i64_w, i32_w]
    rfl
   refine pure_ (i := 3) (N := some 18) (v := ?_) (a' := ?_) #[true, true, true, true, false, false, false, false, false, false, false, false, false, false, false, false, false, false, false, false, false] rfl rfl (by kernel_rfl) (fun _ _ _ h => h) (Or.inl ⟨by rfl, ?_⟩) ?_ ?_
   rotate_left
   ·intro w'
    go_simp
    with_reducible rfl
   rotate_left
   ·simp only [Act.put, List.setIfInBounds_toArray, List.set_cons_zero, List.set_cons_succ, i64_w, i32_w]
    rfl
   refine pure_ (i := 5) (N := some 20) (v := ?_) (a' := ?_) #[true, true, true, true, false, true, false, false, false, false, false, false, false, false, false, false, false, false, false, false, false] rfl rfl (by kernel_rfl) (fun _ _ _ h => h) (Or.inl ⟨by rfl, ?_⟩) ?_ ?_
   rotate_left
   ·intro w'
    go_simp
    with_reducible rfl
   rotate_left
   ·simp only [Act.put, List.setIfInBounds_toArray, List.set_cons_zero, List.set_cons_succ, i64_w, i32_w]
    rfl
   refine pure_ (i := 8) (N := some 23) (v := ?_) (a' := ?_) #[true, true, true, true, false, true, false, false, true, false, false, false, false, false, false, false, false, false, false, false, false] rfl rfl (by kernel_rfl) (fun _ _ _ h => h) (Or.inl ⟨by rfl, ?_⟩) ?_ ?_
   rotate_left
   ·intro w'
    go_simp
    with_reducible rfl
   rotate_left
   ·simp only [Act.put, List.setIfInBounds_toArray, List.set_cons_zero, List.set_cons_succ, i64_w, i32_w]
    rfl
   refine pure_ (i := 9) (N := some 24) (v := ?_) (a' := ?_) #[true, true, true, true, false, true, false, false, true, true, false, false, false, false, false, false, false, false, false, false, false] rfl rfl (by kernel_rfl) (fun _ _ _ h => h) (Or.inl ⟨by rfl, ?_⟩) ?_ ?_
   rotate_left
   ·intro w'
    go_simp
    with_reducible rfl
   rotate_left
   ·simp only [Act.put, List.setIfInBounds_toArray, List.set_cons_zero, List.set_cons_succ, i64_w, i32_w]
    rfl
   refine pure_ (i := 10) (N := some 25) (v := ?_) (a' := ?_) #[true, true, true, true, false, true, false, false, true, true, true, false, false, false, false, false, false, false, false, false, false] rfl rfl (by kernel_rfl) (fun _ _ _ h => h) (Or.inl ⟨by rfl, ?_⟩) ?_ ?_
   rotate_left
   ·intro w'
    go_simp
    with_reducible rfl
   rotate_left
   ·simp only [Act.put, List.setIfInBounds_toArray, List.set_cons_zero, List.set_cons_succ, i64_w, i32_w]
    rfl
   refine pure_ (i := 11) (N := some 26) (v := ?_) (a' := ?_) #[true, true, true, true, false, true, false, false, true, true, true, true, false, false, false, false, false, false, false, false, false] rfl rfl (by kernel_rfl) (fun _ _ _ h => h) (Or.inl ⟨by rfl, ?_⟩) ?_ ?_
   rotate_left
   ·intro w'
    go_simp
    with_reducible rfl
   rotate_left
   ·simp only [Act.put, List.setIfInBounds_toArray, List.set_cons_zero, List.set_cons_succ, i64_w, i32_w]
    rfl
   refine pure_ (i := 13) (N := some 28) (v := ?_) (a' := ?_) #[true, true, true, true, false, true, false, false, true, true, true, true, false, true, false, false, false, false, false, false, false] rfl rfl (by kernel_rfl) (fun _ _ _ h => h) (Or.inl ⟨by rfl, ?_⟩) ?_ ?_
   rotate_left
   ·intro w'
    go_simp
    with_reducible rfl
   rotate_left
   ·simp only [Act.put, List.setIfInBounds_toArray, List.set_cons_zero, List.set_cons_succ, i64_w, i32_w]
    rfl
   refine pure_ (i := 17) (N := some 32) (v := ?_) (a' := ?_) #[true, true, true, true, false, true, false, false, true, true, true, true, false, true, false, false, false, true, false, false, false] rfl rfl (by kernel_rfl) (fun _ _ _ h => h) (Or.inl ⟨by rfl, ?_⟩) ?_ ?_
   rotate_left
   ·intro w'
    go_simp
    with_reducible rfl
   rotate_left
   ·simp only [Act.put, List.setIfInBounds_toArray, List.set_cons_zero, List.set_cons_succ, i64_w, i32_w]
    rfl
   refine take_ (i := 4) (N := some 19) (v := ?_) (a' := ?_) #[true, true, true, true, true, true, false, false, true, true, true, true, false, true, false, false, false, true, false, false, false] rfl rfl (by kernel_rfl) (fun _ _ _ h => h) (Or.inl ⟨by rfl, ?_⟩) hHeld ?_ ?_
   rotate_left
   ·rintro w' ⟨s0, s1, s2⟩
    go_simp
    with_reducible rfl
   rotate_left
   ·simp only [Act.put, List.setIfInBounds_toArray, List.set_cons_zero, List.set_cons_succ, i64_w, i32_w]
    rfl
   refine pure_ (i := 6) (N := some 21) (v := ?_) (a' := ?_) #[true, true, true, true, true, true, true, false, true, true, true, true, false, true, false, false, false, true, false, false, false] rfl rfl (by kernel_rfl) (fun _ _ _ h => h) (Or.inl ⟨by rfl, ?_⟩) ?_ ?_
   rotate_left
   ·intro w'
    go_simp
    with_reducible rfl
   rotate_left
   ·simp only [Act.put, List.setIfInBounds_toArray, List.set_cons_zero, List.set_cons_succ, i64_w, i32_w]
    rfl
   refine take_ (i := 7) (N := some 22) (v := ?_) (a' := ?_) #[true, true, true, true, true, true, true, true, true, true, true, true, false, true, false, false, false, true, false, false, false] rfl rfl (by kernel_rfl) (fun _ _ _ h => h) (Or.inl ⟨by rfl, ?_⟩) hHeld ?_ ?_
   rotate_left
   ·rintro w' ⟨s0, s1, s2⟩
    go_simp
    with_reducible rfl
   rotate_left
   ·simp only [Act.put, List.setIfInBounds_toArray, List.set_cons_zero, List.set_cons_succ, i64_w, i32_w]
    rfl
   refine take_ (i := 12) (N := some 27) (v := ?_) (a' := ?_) #[true, true, true, true, true, true, true, true, true, true, true, true, true, true, false, false, false, true, false, false, false] rfl rfl (by kernel_rfl) (fun _ _ _ h => h) (Or.inl ⟨by rfl, ?_⟩) hHeld ?_ ?_
   rotate_left
   ·rintro w' ⟨s0, s1, s2⟩
    go_simp
    with_reducible rfl
   rotate_left
   ·simp only [Act.put, List.setIfInBounds_toArray, List.set_cons_zero, List.set_cons_succ, i64_w, i32_w]
    rfl
   refine pure_ (i := 14) (N := some 29) (v := ?_) (a' := ?_) #[true, true, true, true, true, true, true, true, true, true, true, true, true, true, true, false, false, true, false, false, false] rfl rfl (by kernel_rfl) (fun _ _ _ h => h) (Or.inl ⟨by rfl, ?_⟩) ?_ ?_
   rotate_left
   ·intro w'
    go_simp
    with_reducible rfl
   rotate_left
   ·simp only [Act.put, List.setIfInBounds_toArray, List.set_cons_zero, List.set_cons_succ, i64_w, i32_w]
    rfl
   refine take_ (i := 15) (N := some 30) (v := ?_) (a' := ?_) #[true, true, true, true, true, true, true, true, true, true, true, true, true, true, true, true, false, true, false, false, false] rfl rfl (by kernel_rfl) (fun _ _ _ h => h) (Or.inl ⟨by rfl, ?_⟩) hHeld ?_ ?_
   rotate_left
   ·rintro w' ⟨s0, s1, s2⟩
    go_simp
    with_reducible rfl
   rotate_left
   ·simp only [Act.put, List.setIfInBounds_toArray, List.set_cons_zero, List.set_cons_succ, i64_w, i32_w]
    rfl
   refine take_ (i := 16) (N := some 31) (v := ?_) (a' := ?_) #[true, true, true, true, true, true, true, true, true, true, true, true, true, true, true, true, true, true, false, false, false] rfl rfl (by kernel_rfl) (fun _ _ _ h => h) (Or.inl ⟨by rfl, ?_⟩) hHeld ?_ ?_
   rotate_left
   ·rintro w' ⟨s0, s1, s2⟩
    go_simp
    with_reducible rfl
   rotate_left
   ·simp only [Act.put, List.setIfInBounds_toArray, List.set_cons_zero, List.set_cons_succ, i64_w, i32_w]
    rfl
   refine one_ (i := 18) (N := some 33) #[true, true, true, true, true, true, true, true, true, true, true, true, true, true, true, true, true, true, true, false, false] rfl rfl (by kernel_rfl) (by decide) (fun K hK => ?_)
   refine value_ (w1 := ?_) (v := ?_) (by rfl) rfl ?_ ?_
   rotate_left 2
   ·go_simp
    constructor
    ·rfl
    ·rfl
   refine hK.out _ _ ⟨later (below_then a2.out a2.out.size (below_alloc (Below.refl _ _) _)) HTw.out.1, later (below_then a2.out a2.out.size (below_alloc (Below.refl _ _) _)) HTw.out.2, (a0.out.below (below_alloc (Below.refl _ _) _)).getv HYi.out HVz.out⟩ (fun hHeld => ?_)
   clear hK K
   refine norm_ (a' := ?_) ?_ ?_
   rotate_left
   ·show Act.put _ (some 33) _ = _
    simp only [Act.put, List.setIfInBounds_toArray, List.set_cons_zero, List.set_cons_succ, i64_w, i32_w]
    rfl
   refine one_ (i := 19) (N := some 34) #[true, true, true, true, true, true, true, true, true, true, true, true, true, true, true, true, true, true, true, true, false] rfl rfl (by kernel_rfl) (by decide) (fun K hK => ?_)
   refine Kd.R_append_step (Kd.int .i64) (w0 := w) w.heap.size (by rfl) (.tmp 31) (.tmp 33) 28 3 (.int .i64 0) 8 rfl Try.underlying28 infoI rfl (by decide) (by omega) (.slice Az zs.length cz) zs (x : Int) [.int .i64 (x : Int)] (fun k => dl k = some (y : Int) ∨ V.heap.size ≤ k) (fun _ => False) rfl rfl rfl (fun _ hk => hk.elim) (fun _ hk => .inr hk) ?aO ?aB ?aS ?aL ?_
   (case aO => have := a0.out.row HYi.out; rw [HVz.out, ← HZ.out] at this; exact Kd.R_mono this fun k hk => .inl hk)
   (case aB => exact a2.out)
   (case aS => exact a2.out.size)
   (case aL => omega)
   intro v1 w9 ho hb hg hat
   have hMne : (Value.slice Az zs.length cz).ownBlock ≠ some M := fun e => by have := a0.out.row HYi.out; rw [HVz.out] at this; have h8 : dl M = some (y : Int) := this.1 M e; rw [a0.out.dm] at h8; cases h8
   have hrne : (Value.slice Az zs.length cz).ownBlock ≠ some r := fun e => by obtain ⟨_, _, _, _, hi⟩ := GR.iter a1.out; have h1 := a0.out.row HYi.out; rw [HVz.out] at h1; obtain ⟨cs, hc⟩ := Kd.R_typed h1 r e; rw [hi] at hc; cases hc
   obtain ⟨f6, hrun, hgm, hgg, hsz⟩ := (a0.out.gm.grown hMne hg).put intKB HYi.out (v := v1) (by unfold maxLen; omega) Try.underlying186
   have HRun := Aside0.mk hrun
   have HLk := Aside0.mk ((a0.out.gm.grown hMne hg).get intKB HYi.out Try.underlying186 (zeroS w9))
   have b5 := a0.out.step HYi.out (by rw [← HZ.out]; exact ho) (by rw [HVz.out]; exact hg) (by rw [HVz.out]; exact hat) hgm hgg
   rw [← HZ.out] at b5
   have f9 := Aside0.mk b5
   have d5 := Aside0.mk (a1.out.same (w1 := f6) ((hgg.block m (Nat.lt_of_lt_of_le a1.out.mlt hg.size) (fun e => by cases e; have := a0.out.low; have := HM.out.lt_; omega)).trans (hg.block m a1.out.mlt (fun e => by have h1 := a0.out.row HYi.out; rw [HVz.out] at h1; have := Kd.R_base h1 m e.symm; have := HM.out.lt_; omega))) ((hgg.block r (Nat.lt_of_lt_of_le a1.out.lt_ hg.size) (fun e => by cases e; exact HrM.out.2 rfl)).trans (hg.block r a1.out.lt_ (fun e => hrne e.symm))))
   have g0 := Aside0.mk (hb.grown hgg hb.size (fun k e => by cases e; exact a0.out.low))
   have e4 := Aside0.mk hb
   clear ho hb hg hat hMne hrne hrun hgm hgg hsz b5
   refine hK.out _ _ ⟨later e4.out HTw.out.1, later e4.out HTw.out.2, (by have := HLk.out; rw [show (g (y : Int)).getD (.slice none 0 0) = gv g (y : Int) from rfl, HVz.out] at this; exact this)⟩ (fun hHeld => ?_)
   clear hK K
   refine norm_ (a' := ?_) ?_ ?_
   rotate_left
   ·show Act.put _ (some 34) _ = _
    simp only [Act.put, List.setIfInBounds_toArray, List.set_cons_zero, List.set_cons_succ, i64_w, i32_w]
    rfl
   refine last_ (i := 20) (N := none) #[true, true, true, true, true, true, true, true, true, true, true, true, true, true, true, true, true, true, true, true, true] rfl rfl (by kernel_rfl) (by decide) (fun K hK => ?_)
   refine skip_ (w1 := f6) (by rfl) rfl (run_gupd rfl rfl rfl rfl HRun.out) ?_
   refine hK.out _ _ ?_
   clear hK K
   refine done_ (by kernel_rfl) ?_
   go_wp2
   go_roundw
   case rel =>
    refine ⟨_, _, _, _, _, _, d5, f9, ⟨fun b a => ?_⟩, ⟨fun b => ?_⟩, g0, ⟨fun a ha he => by rw [HLf.out a ha he]; rfl⟩⟩
    ·by_cases e : b = (y : Int)
     ·subst e
      rw [if_pos rfl, List.mem_append, HZ.out, HMem.out, List.mem_singleton]
      constructor
      ·rintro (⟨h1, h2, h3, h4⟩ | rfl)
       ·exact ⟨h1, h2, h3, by rw [h4]; rfl⟩
       ·exact ⟨nd_iff.2 hxn, HFin.out.2.2.2.1, HY.out, by simp⟩
      ·rintro ⟨h1, h2, h3, h4⟩
       by_cases ea : a = (x : Int)
       ·exact .inr ea
       ·exact .inl ⟨h1, h2, h3, by simpa [ea] using h4⟩
     ·rw [if_neg e, HMem.out]
      constructor
      ·rintro ⟨h1, h2, h3, h4⟩
       exact ⟨h1, h2, h3, by rw [h4]; rfl⟩
      ·rintro ⟨h1, h2, h3, h4⟩
       have ea : a ≠ (x : Int) := fun ea => e (by rw [← h3, ea]; exact HY.out)
       exact ⟨h1, h2, h3, by simpa [ea] using h4⟩
    ·by_cases e : b = (y : Int)
     ·subst e
      rw [if_pos rfl, List.nodup_append]
      refine ⟨by rw [HZ.out]; exact HNd.out _, by simp, fun a ha z hz e2 => ?_⟩
      rw [HZ.out, HMem.out] at ha
      have : z = (x : Int) := by simpa using hz
      rw [e2, this, HFin.out.2.1] at ha
      cases ha.2.2.2
     ·rw [if_neg e]; exact HNd.out b
   case measure =>
    rw [d5.out.left_eq, HGr.out.left_eq]
    exact HFin.out.2.2.2.2
  ·intro f2 b8
   have a4 := Aside0.mk (show ∀ b x, x ∈ xs b ↔ Nd n x ∧ X x = true ∧ gi p.block x = b from fun b x => by
    rw [HMem.out b x]
    refine ⟨fun h => ⟨h.1, h.2.1, h.2.2.1⟩, fun h => ⟨h.1, h.2.1, h.2.2, b8 x ?_⟩⟩
    have h1 := h.1.1
    have h2 := h.1.2
    unfold i64in
    omega)
   clear HGr HMem HLf f2 b8
   go_wp2_with (at_range; refine wpList_grange _ intKB rfl _ 186 rfl 28 Try.underlying186 M c' g rfl HMt.out.gm ?_; intro w3 hgr hg hsz)
   go_frame
   obtain ⟨q, hq⟩ : ∃ q, q = wr.heap.size := ⟨_, rfl⟩
   rw [← hq] at hgr ⊢
   have hbw : Below w.heap.size w w3 := a3.out.grown hg a3.out.size (fun k e => by cases e)
   have hqw : w.heap.size ≤ q := by rw [hq]; exact a3.out.size
   have hMw : w.heap.size ≤ M := HMt.out.low
   have hMq : M < q := by rw [hq]; exact HMt.out.gm.lt_
   have hnb := HP.out.nb_le
   have f5 : w0.heap.size ≤ w.heap.size := HB.out.size
   obtain ⟨a8, b0⟩ : ∃ a8 : Nat → Cl, a8 = fun k => if k < w.heap.size then cls k else if k = M then .far 5000 else if k = q then .far 5001 else match dl k with | some b => .far b.toNat | none => .far 6000 := ⟨_, rfl⟩
   have d4 : ∀ k, k < w.heap.size → a8 k = cls k := fun k hk => by rw [b0]; show (if k < w.heap.size then cls k else _) = _; rw [if_pos hk]
   have hcM : a8 M = .far 5000 := by rw [b0]; show (if M < w.heap.size then cls M else if M = M then _ else _) = _; rw [if_neg (by omega), if_pos rfl]
   have hcq : a8 q = .far 5001 := by rw [b0]; show (if q < w.heap.size then cls q else if q = M then _ else if q = q then _ else _) = _; rw [if_neg (by omega), if_neg (by omega), if_pos rfl]
   have hcd : ∀ k b, w.heap.size ≤ k → k < q → dl k = some b → a8 k = .far b.toNat := fun k b h1 h2 h3 => by
    rw [b0]
    show (if k < w.heap.size then cls k else if k = M then _ else if k = q then _ else match dl k with | some b => Cl.far b.toNat | none => Cl.far 6000) = _
    rw [if_neg (by omega), if_neg (by rintro rfl; rw [HMt.out.dm] at h3; cases h3), if_neg (by omega), h3]
   have HS3 := Aside0.mk (HS.out.stay (cls' := a8) (Kept.of_below hbw _) fun k hk _ => d4 k hk)
   have f3 := Aside0.mk (Fr.same (D := fun _ => False) (Kept.of_below hbw _) d4)
   have f4 := Aside0.mk (show ∀ b v, i64in b → g b = some v → IR w3 w0.heap.size a8 (.far b.toNat) v (xs b) from fun b v hb hv => by
    have h1 := Kd.R_bound (HMt.out.yes b v hb hv).2
    have h2 := Kd.R_grown h1 hg (fun k _ e => by cases e)
    refine Kd.R_lower (Kd.R_mono h2 fun k hk => hcd k b hk.2.1 (by rw [hq]; exact hk.2.2.1) hk.1) f5)
   have HNe := Aside0.mk (show ∀ b v, i64in b → g b = some v → xs b ≠ [] from fun b v hb hv => (HMt.out.yes b v hb hv).1)
   have HOw := Aside0.mk (show ∀ b v, i64in b → g b = some v → ∀ k, v.ownBlock = some k → w.heap.size ≤ k from fun b v hb hv => Kd.R_base (HMt.out.yes b v hb hv).2)
   have HSp := Aside0.mk (SpI.start (X := X) (left := fun a => (g a).isSome) HP.out fun x hx hXx => by
    have h1 : x ∈ xs (gi p.block x) := (a4.out _ _).2 ⟨hx, hXx, rfl⟩
    cases hgx : g (gi p.block x) with
    | none =>
     have hbr := HP.out.br x hx
     rw [HMt.out.no _ (by unfold i64in; have := hbr.1; have := hbr.2; omega) hgx] at h1
     cases h1
    | some v => rfl)
   have a2 := Aside0.mk (below_then HB.out HB.out.size hbw)
   have HGr := Aside0.mk hgr
   have e6 := Aside0.mk (And.intro hcM hcq)
   have HLow := Aside0.mk (And.intro hqw hMw)
   clear hgr hg hsz hbw hqw hMw hMq f5 d4 hcM hcq hcd b0 hq HMt a3 HMe HrM
   go_loopw [] (fun wr => ∃ (left : Int → Bool) (cnt : Nat) (s' : Sg) (cl' : Nat → Cl) (p' : PSt) (wt' : Int → Bool),
    Aside0 (GR Try.prog 3 ik i64in wr M q g left cnt) ∧ Aside0 (SP w0.heap.size T wr cl' s') ∧ Aside0 (Std n v1 v2 s' p') ∧ Aside0 (SpI n X p p' left) ∧ Aside0 (StdW s' wt') ∧ Aside0 (Wt p' wt') ∧ Aside0 (Same0 s s') ∧ Aside0 (Fr w wr cls cl' fun _ => False) ∧
    Aside0 (∀ b v, i64in b → left b = true → g b = some v → IR wr w0.heap.size cl' (.far b.toNat) v (xs b)) ∧ Aside0 (cl' M = .far 5000 ∧ cl' q = .far 5001) ∧ Aside0 (Below w0.heap.size w0 wr)) (fun wr => wr.rangeLeft M q)
   case atStart => exact ⟨_, _, _, _, _, _, HGr, HS3, HD, HSp, HW, HWt, ⟨Same0.refl s⟩, f3, ⟨fun b v hb _ hv => f4.out b v hb hv⟩, e6, a2⟩
   case round =>
    clear HGr HS3 HSp f3 f4 e6 a2
    obtain ⟨left, cnt, s', cl', p', wt', HGr, HS', HD', HSp, HW', HWt', HSm, HK, HRw, HC, HB'⟩ := hrel
    go_wp2_with (at_next; refine wpList_gnext _ intKB rfl _ rfl M q g left cnt rfl HGr.out ?_ ?_)
    ·intro f2 b8
     go_wp2
     go_end0
     refine ⟨rfl, s', cl', p', wt', HS'.out, HD'.out, HSp.out.pw, HW'.out, HWt'.out, fun x y hx hy => HSp.out.done (fun z hz => ?_) hx hy, HSp.out.j3, HSp.out.j4, HSm.out, HK.out, HB'.out⟩
     have hbr := HP.out.br z hz
     exact b8 _ (by unfold i64in; have := hbr.1; have := hbr.2; omega)
    ·intro y v w4 f7 hy hly hgy a9 hlt a5 hsz hen
     obtain ⟨z, hz⟩ := List.exists_mem_of_ne_nil _ (HNe.out y v hy hgy)
     obtain ⟨e1, b4, a7⟩ := (a4.out y z).1 hz
     obtain ⟨b, rfl, hbn⟩ := (show Nd p.blocks.length y by rw [← a7]; exact HP.out.br z e1).nat
     have hbi : i64in (b : Int) := hy
     obtain ⟨c5, b1⟩ := HC.out
     have d1 : Kept wr w4 (fun k => k = q) := kept_grown a5 fun k e => by cases e; rfl
     have HS4 := Aside0.mk (HS'.out.stay (cls' := cl') (d1.mono fun k hk => by show (cl' k).own = false; rw [show k = q from hk, b1]; rfl) fun _ _ _ => rfl)
     have f0 := Aside0.mk (HK.out.step (cls2 := cl') (d1.mono fun k hk => .inr (by rw [show k = q from hk]; exact HLow.out.1)) fun _ _ _ e _ => e)
     have e8 := Aside0.mk (HB'.out.grown a5 HB'.out.size (fun k e => by cases e; exact Nat.le_trans HB.out.size HLow.out.1))
     have b6 := Aside0.mk (show ∀ b v, Nd p.blocks.length b → left b = true → g b = some v → IR w4 w0.heap.size cl' (.far b.toNat) v (xs b) from fun b v hb hl hv => by
      have hbr : i64in b := by unfold i64in; have := hb.1; have := hb.2; have := HP.out.nb_le; omega
      refine Kd.R_grown (HRw.out b v hbr hl hv) a5 fun k hk e => ?_
      cases e
      have hk : cl' q = .far b.toNat := hk
      rw [b1] at hk
      have := Cl.far.inj hk
      have := hb.2
      have := HP.out.nb_le
      omega)
     have a1 := Aside0.mk a9
     have a6 := Aside0.mk (And.intro hly (And.intro hgy hlt))
     clear a9 hlt a5 hsz d1 hz e1 b4 a7 HS' HK HRw HB' HC
     have hrow := b6.out (b : Int) v (nd_iff.2 hbn) hly hgy
     rw [Int.toNat_natCast] at hrow
     obtain ⟨zs, hzs⟩ : ∃ zs, zs = xs (b : Int) := ⟨_, rfl⟩
     rw [← hzs] at hrow
     obtain ⟨Az, cz, hvz⟩ := Kd.R_slice hrow
     subst hvz
     have g8 := HSp.out.j5
     have g7 := HSp.out.pw.nb_le
     have hbs : s'.bs.length = p'.blocks.length := by rw [HD'.out.bs, HD'.out.bl]
     obtain ⟨gQ, cQ, hvQ, hcQ⟩ := HS4.out.slice (HS4.out .bs) (by rw [hbs]; omega)
     have t5 := HS4.out.cell 5 s'.vBs (by rw [HD'.out.tc]; rfl)
     rw [hvQ] at t5
     have d6 : b < s'.bs.length := by rw [hbs]; omega
     have d3 : IR w4 w0.heap.size cl' (.bro b) (slV (s'.bsl.getD b nilL)) (s'.blocks.getD b []) := HS4.out (.bro b) (by rw [HD'.out.bl]; omega)
     obtain ⟨L, hL⟩ : ∃ L, L = s'.blocks.getD b [] := ⟨_, rfl⟩
     rw [← hL] at d3
     obtain ⟨A1, c1, f1, _, _⟩ := Kd.R_reads d3
     have q5 : w4.cell? ⟨gQ, b, none⟩ = some (.slice A1 L.length c1) := by rw [(hcQ b d6).1, HD'.out.bs, f1]
     have HL := Aside0.mk (show L = gl p'.blocks (b : Int) by rw [hL, HD'.out.blocks]; rfl)
     have HRz := Aside0.mk hrow
     have HZs := Aside0.mk hzs
     have HMz := Aside0.mk (show ∀ x, x ∈ zs ↔ Nd n x ∧ X x = true ∧ gi p.block x = (b : Int) from fun x => by rw [hzs]; exact a4.out (b : Int) x)
     have HNz := Aside0.mk (show zs.Nodup by rw [hzs]; exact HNd.out _)
     have d8 := Aside0.mk (show zs ≠ [] by rw [hzs]; exact HNe.out _ _ hbi hgy)
     clear hvQ hcQ d3 hL f1 hrow hzs hly hgy hbs
     by_cases hqq : zs.length = L.length
     ·have h1 : ((zs.length : Int) == (L.length : Int)) = true := by rw [hqq]; simp
      have HE := Aside0.mk hqq
      rw [hqq] at hen
      clear hqq
      go_wp2
      go_roundw
      case rel =>
       refine ⟨_, _, s', cl', p', wt', a1, HS4, HD', ⟨HSp.out.full (nd_iff.2 hbn) a6.out.1 HMz.out HNz.out HP.out (by rw [HE.out, HL.out])⟩, HW', HWt', HSm, f0, ⟨fun b2 v2 d6 d0 b3 => ?_⟩, ⟨c5, b1⟩, e8⟩
       have b7 : left b2 = true := by simp at d0; exact d0.1
       obtain ⟨z2, b4⟩ := List.exists_mem_of_ne_nil _ (HNe.out b2 v2 d6 b3)
       have a7 := (a4.out b2 z2).1 b4
       exact b6.out b2 v2 (by rw [← a7.2.2]; exact HP.out.br z2 a7.1) b7 b3
      case measure => rw [a1.out.left_eq, HGr.out.left_eq]; exact a6.out.2.2
     ·have h1 : ((zs.length : Int) == (L.length : Int)) = false := by simp; omega
      have h2 : decide ((zs.length : Int) = (L.length : Int)) = false := by simp; omega
      have HE := Aside0.mk hqq
      clear hqq
      go_wp2_with (go_at_call 166; refine (cut_any w0 w4 HS4.out HD'.out HSp.out.pw HW'.out HWt'.out HRz.out (by omega) HNz.out (fun x hx => by rw [(HSp.out.j2 _ (nd_iff.2 hbn) a6.out.1).1]; exact (HP.out.bm _ (nd_iff.2 hbn) x).2 ⟨((HMz.out x).1 hx).1, ((HMz.out x).1 hx).2.2⟩) d8.out (by
       rw [← HL.out]
       have h3 := nodup_sub HNz.out (l' := gl p'.blocks (b : Int)) fun x hx => by rw [(HSp.out.j2 _ (nd_iff.2 hbn) a6.out.1).1]; exact (HP.out.bm _ (nd_iff.2 hbn) x).2 ⟨((HMz.out x).1 hx).1, ((HMz.out x).1 hx).2.2⟩
       rw [← HL.out] at h3
       have := HE.out
       omega) hn e8.out).mono ?_; rintro e w5 ⟨rfl, s5, g3, g4, g2, g5, f8, b9, g6⟩)
      have hoz : ∀ k, (Value.slice Az zs.length cz).ownBlock = some k → cl' k = .far b := HRz.out.1
      have e9 := b9.blk (k := M) a1.out.mlt c5 (fun e => by have := hoz M e; rw [c5] at this; have := Cl.far.inj this; omega)
      have e5 := b9.blk (k := q) a1.out.lt_ b1 (fun e => by have := hoz q e; rw [b1] at this; have := Cl.far.inj this; omega)
      have d9 := Aside0.mk (a1.out.same e9.1 e5.1)
      go_roundw
      case rel =>
       refine ⟨_, _, s5, g3, _, _, d9, ⟨g4⟩, ⟨g2⟩, ⟨HSp.out.cut (nd_iff.2 hbn) a6.out.1 HMz.out HNz.out HP.out d8.out ?_⟩, ⟨g5⟩, ⟨HWt'.out.cut HSp.out.pw (nd_iff.2 (by omega))⟩, ⟨HSm.out.trans f8⟩, ⟨f0.out.trans b9 fun k hk => .inr (HOw.out _ _ hbi a6.out.2.1 k hk)⟩, ⟨fun b2 v2 hb2' d0 b3 => ?_⟩, ⟨e9.2, e5.2⟩, ⟨g6⟩⟩
       ·rw [← HL.out]
        have h3 := nodup_sub HNz.out (l' := gl p'.blocks (b : Int)) fun x hx => by rw [(HSp.out.j2 _ (nd_iff.2 hbn) a6.out.1).1]; exact (HP.out.bm _ (nd_iff.2 hbn) x).2 ⟨((HMz.out x).1 hx).1, ((HMz.out x).1 hx).2.2⟩
        rw [← HL.out] at h3
        have := HE.out
        omega
       ·have b7 : left b2 = true ∧ b2 ≠ (b : Int) := by simpa using d0
        obtain ⟨z2, b4⟩ := List.exists_mem_of_ne_nil _ (HNe.out b2 v2 hb2' b3)
        have a7 := (a4.out b2 z2).1 b4
        have d7 : Nd p.blocks.length b2 := by rw [← a7.2.2]; exact HP.out.br z2 a7.1
        have hrw := b6.out b2 v2 d7 b7.1 b3
        refine IR.fr hrw b9 fun k hk e => ?_
        have h5 := hoz k e
        rw [hrw.1 k hk] at h5
        have := Cl.far.inj h5
        have := d7.1
        exact b7.2 (by omega)
      case measure => rw [d9.out.left_eq, HGr.out.left_eq]; exact a6.out.2.2
end Go.Proofs.Ytmcbkmfpmcbdpaa.H
set_option linter.unusedVariables false
set_option linter.unusedSimpArgs false
set_option linter.unusedSectionVars false
namespace Go.Proofs.Ytmcbkmfpmcbdpaa.H
open Go.RowKit Go.Proofs.Ytmcbkmfpmcbdpaa.Pr Go.Proofs.YtmcbkmfpmcbdpaaW.PrintWords Go.Proofs.Ytmcbkmfpmcbdpaa.Sem
open Go.Maps (Keyed)
open Go.WideElems Go.ChangeMaps
section
variable {α : Type} [DecidableEq α] {P : Program} {k : TypeId} {mk : α → Value} {lt : α → Lit} {ok : α → Prop}
theorem setBlock_size (w : World) (b : Nat) (o : Obj) : (setBlock w b o).heap.size = w.heap.size := by simp [setBlock]
theorem setBlock_grown {w : World} {b : Nat} {o : Obj} {es : Array MapEntry} {cl : Nat} (h : w.heap[b]? = some (.map es cl)) : w.grownBy (setBlock w b o) (some b) :=
 ⟨rfl, rfl, rfl, by simp [setBlock], fun i _ hi => heap_setBlock_other h _ (fun e => hi (by rw [e]))⟩
theorem GM.entry (B : KB P k mk lt ok) (KL : WideMaps.KeyLaw P k) {w : World} {m c : Nat} {f : α → Option Value} (h : GM P k lt ok w m f c) {a : α} (ha : ok a) {t e : TypeId} (ht : P.underlying t = some (.map k e)) {z : Value} (hz : ∀ u : World, (zeroValue e).run P u = .ok z u) (hn : c < maxLen) :
  ∃ v0 st w1, (Instr.mapEntry t (.map (some m)) (mk a)).run P w = .ok (.tuple #[v0, goInt st]) w1 ∧ w.grownBy w1 (some m) ∧ w1.heap.size = w.heap.size ∧ (Instr.lookup t (.map (some m)) (mk a) false).run P w1 = .ok ((f a).getD z) w1 ∧
   ∀ w2 val, w2.heap[m]? = w1.heap[m]? → ∃ w3, (Instr.entryStore t (.map (some m)) (goInt st) val).run P w2 = .ok () w3 ∧ GM P k lt ok w3 m (putM f a val) (if (f a).isSome then c else c + 1) ∧ w2.grownBy w3 (some m) ∧ w3.heap.size = w2.heap.size := by
 obtain ⟨D, ⟨es, clock, hb, F, hs, hD⟩, hsz, hH⟩ := id h
 have hkey := B.key a ha
 obtain ⟨v0, st, a3, a0, hrun, a8, hst⟩ := entry_then_store KL ht hz hb F hkey
 have hlook : (Instr.lookup t (.map (some m)) (mk a) false).run P (setBlock w m (.map a3 a0)) = .ok ((f a).getD z) (setBlock w m (.map a3 a0)) := by
  rcases KL.find w hkey es.toList F.keys with ⟨h1, h2⟩ | ⟨j, e0, h1, h2, h3⟩
  ·
   have e1 : Result.ok (Value.tuple #[z, goInt clock]) (setBlock w m (.map (es.push ⟨mk a, z, clock⟩) (clock + 1))) = Result.ok (Value.tuple #[v0, goInt st]) (setBlock w m (.map a3 a0)) := by
    rw [← hrun]
    simp [Instr.mapEntry, run_underlying ht, MapKept.run_getObj_map hb, KL.check w false hkey, h1, hz, MapKept.run_setObj_map _ hb, Result.andThen, setBlock]
   obtain ⟨w1, hput, hg, _⟩ := h.put B ha (v := z) hn ht
   have e2 : Result.ok () (setBlock w m (.map (es.push ⟨mk a, z, clock⟩) (clock + 1))) = Result.ok () w1 := by
    rw [← hput]
    simp [Instr.mapUpdate, run_underlying ht, MapKept.run_getObj_map hb, KL.check w false hkey, h1, MapKept.run_setObj_map _ hb, Result.andThen, setBlock]
   have e3 : setBlock w m (.map a3 a0) = w1 := by
    have a1 := (Result.ok.inj e1).2
    have a2 := (Result.ok.inj e2).2
    rw [← a1, a2]
   rw [e3]
   have h5 := hg.get B ha ht (hz w1)
   have h6 : (f a).getD z = z := by
    cases hfa : f a with
    | none => rfl
    | some u =>
     exfalso
     have h7 := (hH a ha).1
     rw [hfa] at h7
     obtain ⟨v, hv⟩ : ∃ v, v ∈ es.toList ∧ v.key = mk a := by
      rw [hD] at h7
      obtain ⟨p, hp, hpk⟩ := List.any_eq_true.1 h7
      obtain ⟨x, hx, rfl⟩ := List.mem_map.1 (mem_sorted.1 hp)
      obtain ⟨y, hy⟩ := F.reads x hx
      refine ⟨x, hx, ?_⟩
      have e4 := WideAt.sameKey_eq hpk
      rw [rg_of hy] at e4
      have e5 := rd_key hy
      rw [e4] at e5
      exact B.K.inj e5 hkey
     exact h2 v hv.1 hv.2
   rw [h5, h6]
   unfold putM
   rw [if_pos rfl]
   rfl
  ·
   have hj : es[j]? = some e0 := by simpa using h2
   have hsame : es.modify j (fun e => { e with key := mk a }) = es := by
    apply Array.ext'
    rw [Array.toList_modify, modify_eq_set _ _ _ _ h2]
    have : ({ e0 with key := mk a } : MapEntry) = e0 := by rw [← h3]
    rw [this]
    exact set_self _ _ _ h2
   have e1 : Result.ok (Value.tuple #[e0.val, goInt e0.born]) (setBlock w m (.map es clock)) = Result.ok (Value.tuple #[v0, goInt st]) (setBlock w m (.map a3 a0)) := by
    rw [← hrun]
    simp [Instr.mapEntry, run_underlying ht, MapKept.run_getObj_map hb, KL.check w false hkey, h1, hj, h3, KL.stays w hkey, hsame, MapKept.run_setObj_map _ hb, Result.andThen, setBlock]
   rw [← (Result.ok.inj e1).2]
   exact (h.same ((heap_setBlock_same hb _).trans hb.symm)).get B ha ht (hz _)
 refine ⟨v0, st, _, hrun, setBlock_grown hb, setBlock_size _ _ _, hlook, fun w2 val a4 => ?_⟩
 obtain ⟨es', clock', a6, a7⟩ := hst w2 val (a4.trans (heap_setBlock_same hb _))
 obtain ⟨w3', hput, hg, _, _⟩ := h.put B ha (v := val) hn ht
 rw [a7] at hput
 have e3 : setBlock w m (.map es' clock') = w3' := (Result.ok.inj hput).2
 have a5 : w2.heap[m]? = some (.map a3 a0) := a4.trans (heap_setBlock_same hb _)
 refine ⟨_, a6, hg.same ?_, setBlock_grown a5, setBlock_size _ _ _⟩
 rw [← e3, heap_setBlock_same a5, heap_setBlock_same hb]
end
theorem pt_law : WideMaps.KeyLaw Try.prog 167 := deep_law_laid laid_out (m := 2) (by omega) (of_decide_eq_true (by kernel_rfl)) (by kernel_rfl) (by kernel_rfl)
theorem zeroI (w : World) : (zeroValue 3).run Try.prog w = .ok (.int .i64 0) w := by kernel_rfl
theorem run_gentry {op : Oper} {a : Act} {w w1 : World} {x y : Operand} {t m : Nat} {k u : Value} (ho : op.op = .mapEntry t x y) (hx : a.eval x = .map (some m)) (hy : a.eval y = k) (h : (Instr.mapEntry t (.map (some m)) k).run Try.prog w = .ok u w1) : (execOp a.eval op).run Try.prog w = .ok (.value u) w1 := by
 unfold execOp
 simp only [ho, hx, hy, Sem.run_bind, Sem.run_pure, h, Result.andThen_ok]
theorem run_gstore {op : Oper} {a : Act} {w w1 : World} {x y z : Operand} {t m : Nat} {k u : Value} (ho : op.op = .entryStore t x y z) (hx : a.eval x = .map (some m)) (hy : a.eval y = k) (hz : a.eval z = u) (h : (Instr.entryStore t (.map (some m)) k u).run Try.prog w = .ok () w1) : (execOp a.eval op).run Try.prog w = .ok .skip w1 := by
 unfold execOp
 simp only [ho, hx, hy, hz, Sem.run_bind, Sem.run_pure, h, Result.andThen_ok]
end Go.Proofs.Ytmcbkmfpmcbdpaa.H
set_option linter.unusedVariables false
set_option linter.unusedSimpArgs false
set_option linter.unusedSectionVars false
namespace Go.Proofs.Ytmcbkmfpmcbdpaa.H
open Go.RowKit Go.Proofs.Ytmcbkmfpmcbdpaa.Pr Go.Proofs.YtmcbkmfpmcbdpaaW.PrintWords Go.Proofs.Ytmcbkmfpmcbdpaa.Sem Go.Proofs.YtmcbkmfpmcbdpaaW.PrintLast
def cntL (l : List Ed) (q : Int × Int) : Int := ((l.filter fun e => decide (e.f0 = q.1) && decide (e.f1 = q.2)).length : Nat)
def encZ (z : Int) : Option Value := if z = 0 then none else some (.int .i64 z)
theorem encZ_get (z : Int) : (encZ z).getD (.int .i64 0) = .int .i64 z := by
 unfold encZ
 split
 ·rename_i h; rw [h]; rfl
 ·rfl
theorem encZ_some {z : Int} : (encZ z).isSome = true ↔ z ≠ 0 := by
 unfold encZ
 split <;> simp_all
theorem cntL_nn (l : List Ed) (q : Int × Int) : 0 ≤ cntL l q ∧ cntL l q ≤ l.length := by
 unfold cntL
 have := List.length_filter_le (fun e : Ed => decide (e.f0 = q.1) && decide (e.f1 = q.2)) l
 omega
theorem cntL_snoc (l : List Ed) (e : Ed) (q : Int × Int) : cntL (l ++ [e]) q = if q = (e.f0, e.f1) then cntL l q + 1 else cntL l q := by
 unfold cntL
 rw [List.filter_append]
 by_cases h : q = (e.f0, e.f1)
 ·subst h
  simp
 ·rw [if_neg h]
  have : (decide (e.f0 = q.1) && decide (e.f1 = q.2)) = false := by
   cases hd : (decide (e.f0 = q.1) && decide (e.f1 = q.2)) with
   | false => rfl
   | true =>
    simp only [Bool.and_eq_true, decide_eq_true_eq] at hd
    exact absurd (Prod.ext hd.1.symm hd.2.symm) h
  simp [this]
theorem cntL_append (l m : List Ed) (q : Int × Int) : cntL (l ++ m) q = cntL l q + cntL m q := by
 unfold cntL
 rw [List.filter_append, List.length_append]
 omega
def intoL (es : List Ed) (L : List Int) : List Ed := L.flatMap fun x => es.filter fun e => decide (e.f2 = x)
theorem intoL_snoc (es : List Ed) (L : List Int) (x : Int) : intoL es (L ++ [x]) = intoL es L ++ es.filter fun e => decide (e.f2 = x) := by simp [intoL]
theorem intoL_len (es : List Ed) (L : List Int) : (intoL es L).length ≤ L.length * es.length := by
 unfold intoL
 induction L with
 | nil => simp
 | cons x r ih =>
  have := List.length_filter_le (fun e : Ed => decide (e.f2 = x)) es
  simp only [List.flatMap_cons, List.length_append, List.length_cons, Nat.succ_mul]
  omega
theorem cntL_into (es : List Ed) (q : Int × Int) : ∀ L : List Int, L.Nodup → cntL (intoL es L) q = cntE es (fun x => decide (x ∈ L)) q.1 q.2
 | [], _ => by
  have e : (es.filter fun e => decide (e.f0 = q.1) && decide (e.f1 = q.2) && decide (e.f2 ∈ ([] : List Int))) = [] := List.filter_eq_nil_iff.2 fun e _ => by simp
  unfold cntL cntE
  rw [e]
  rfl
 | x :: r, h => by
  obtain ⟨h1, h2⟩ := List.nodup_cons.1 h
  have ih := cntL_into es q r h2
  rw [show intoL es (x :: r) = (es.filter fun e => decide (e.f2 = x)) ++ intoL es r from rfl, cntL_append, ih]
  unfold cntL cntE
  rw [List.filter_filter]
  have e1 := len_split (fun e : Ed => decide (e.f0 = q.1) && decide (e.f1 = q.2) && decide (e.f2 ∈ x :: r)) (fun e => decide (e.f2 = x)) es
  have e2 : (es.filter fun e => (decide (e.f0 = q.1) && decide (e.f1 = q.2) && decide (e.f2 ∈ x :: r)) && decide (e.f2 = x)) = es.filter fun e => decide (e.f0 = q.1) && decide (e.f1 = q.2) && decide (e.f2 = x) := by
   refine List.filter_congr fun e _ => ?_
   by_cases hx : e.f2 = x <;> simp [hx]
  have e3 : (es.filter fun e => (decide (e.f0 = q.1) && decide (e.f1 = q.2) && decide (e.f2 ∈ x :: r)) && !decide (e.f2 = x)) = es.filter fun e => decide (e.f0 = q.1) && decide (e.f1 = q.2) && decide (e.f2 ∈ r) := by
   refine List.filter_congr fun e _ => ?_
   by_cases hx : e.f2 = x
   ·subst hx; simp [h1]
   ·simp [hx]
  rw [e2, e3] at e1
  show ((es.filter fun e => decide (e.f0 = q.1) && decide (e.f1 = q.2) && decide (e.f2 = x)).length : Int) + ((es.filter fun e => decide (e.f0 = q.1) && decide (e.f1 = q.2) && decide (e.f2 ∈ r)).length : Int) = ((es.filter fun e => decide (e.f0 = q.1) && decide (e.f1 = q.2) && decide (e.f2 ∈ x :: r)).length : Int)
  omega
theorem cnt_le2 {w : World} {m c : Nat} {f : Int × Int → Option Value} {l : List Ed} (h : G2 w m f c) (hf : ∀ q, ptOk q → f q = encZ (cntL l q)) : c ≤ l.length := by
 have := h.count_le ptKB (l.map fun e => (e.f0, e.f1)) fun q hq hs => by
  rw [hf q hq] at hs
  have h1 := encZ_some.1 hs
  unfold cntL at h1
  have h2 : (l.filter fun e => decide (e.f0 = q.1) && decide (e.f1 = q.2)) ≠ [] := fun e => h1 (by rw [e]; rfl)
  obtain ⟨e, he⟩ := List.exists_mem_of_ne_nil _ h2
  obtain ⟨h3, h4⟩ := List.mem_filter.1 he
  simp only [Bool.and_eq_true, decide_eq_true_eq] at h4
  exact List.mem_map.2 ⟨e, h3, Prod.ext h4.1 h4.2⟩
 simpa using this
theorem slR {base e : Nat} {w : World} {okp : Nat → Prop} {v : Value} {xs : List Sl} (hR : kSl.R e w base okp v xs) (h0 : 0 < xs.length) : ∃ g c0, v = .slice (some ⟨g, 0, none⟩) xs.length c0 ∧ ∀ i, i < xs.length → w.cell? ⟨g, i, none⟩ = some (slV (xs.getD i nilL)) ∧ w.frozen? ⟨g, i, none⟩ = false := by
 obtain ⟨g, c0, e, _⟩ := Kd.R_form hR h0
 refine ⟨g, c0, e, fun i hi => ?_⟩
 subst e
 have := Kd.R_cell nilL hR (i : Int) (by omega) (by omega)
 simpa [rdOf] using this
theorem cell_keep {W w5 : World} {M E i : Nat} {u : Value} (hg : W.grownBy w5 (some M)) (hne : M < E) (h : W.cell? ⟨E, i, none⟩ = some u) : w5.cell? ⟨E, i, none⟩ = some u :=
 cell_kept h (kept_grown (S := fun k => k = M) hg fun k e => by cases e; rfl) (by show ¬ E = M; omega)
theorem cell_keep2 {W w5 : World} {M E i : Nat} {u : Value} (hg : W.grownBy w5 (some M)) (hne : E ≠ M) (h : W.cell? ⟨E, i, none⟩ = some u) : w5.cell? ⟨E, i, none⟩ = some u :=
 cell_kept h (kept_grown (S := fun k => k = M) hg fun k e => by cases e; rfl) hne
theorem GM.alloc_ {α : Type} [DecidableEq α] {P : Program} {k : TypeId} {lt : α → Lit} {ok : α → Prop} {w : World} {m c : Nat} {f : α → Option Value} (h : GM P k lt ok w m f c) (o : Obj) : GM P k lt ok (w.alloc o) m f c := h.below (below_alloc (Below.refl _ _) o)
theorem zeroM (w : World) : (zeroValue 165).run Try.prog w = .ok (.map none) w := by kernel_rfl
theorem look_eq {α : Type} [DecidableEq α] {P : Program} {k : TypeId} {mk : α → Value} {lt : α → Lit} {ok : α → Prop} (B : KB P k mk lt ok) {w : World} {m c : Nat} {f : α → Option Value} (h : GM P k lt ok w m f c) {a : α} (ha : ok a) {t e : TypeId} (ht : P.underlying t = some (.map k e)) {z : Value} (hz : (zeroValue e).run P w = .ok z w) {v : Value} (hv : (f a).getD z = v) :
  (Instr.lookup t (.map (some m)) (mk a) false).run P w = .ok v w := hv ▸ h.get B ha ht hz
structure StdI (n : Nat) (es : List Ed) (s : Sg) : Prop where
  len : s.is.length = n
  ins : ∀ i, i < n → s.ins.getD i [] = es.filter fun e => decide (e.f2 = (i : Int))
structure StdC (es : List Ed) (s : Sg) (N : Nat) (H : Int → Int) : Prop where
  ln : s.cm.length = N
  fC : ∀ h, i64in h → s.fC h = if decide (0 ≤ h) && decide (h < (N : Int)) then some (.map (some (s.cm.getD h.toNat 0))) else none
  fc : ∀ i, i < N → ∀ q, ptOk q → s.fc i q = encZ (cntE es (fun x => decide (H x = (i : Int))) q.1 q.2)
  cc : ∀ i, i < N → s.cc i ≤ es.length
end Go.Proofs.Ytmcbkmfpmcbdpaa.H
set_option linter.unusedVariables false
set_option linter.unusedSimpArgs false
set_option linter.unusedSectionVars false
namespace Go.Proofs.Ytmcbkmfpmcbdpaa.H
open Go.RowKit Go.Proofs.Ytmcbkmfpmcbdpaa.Pr Go.Proofs.YtmcbkmfpmcbdpaaW.PrintWords Go.Proofs.Ytmcbkmfpmcbdpaa.Sem Go.Proofs.YtmcbkmfpmcbdpaaW.PrintLast
theorem R_at {α : Type} {enc : α → Value} {h1 : ∀ x, (enc x).oneCell' = true} {e : Nat} {w : World} {base g : Nat} {ok : Nat → Prop} {xs : List α} (hg : w.heap[g]? = some (.cells (xs.map enc).toArray e (0, 0))) (hb : base ≤ g) (hl : xs.length ≤ 9223372036854775807) (hok : ok g) : (Kd.scalar enc h1).R e w base ok (.slice (some ⟨g, 0, none⟩) xs.length xs.length) xs := by
 refine Kd.R_of_own ⟨by simp [encs], .inr ⟨g, xs.length, (xs.map enc).toArray, rfl, hb, hg, Nat.le_refl _, by simpa [maxLen] using hl, by simp, ?_⟩⟩ fun k hk => ?_
 ·simp [encs]
  exact List.take_of_length_le (by simp)
 ·have : g = k := by simpa [Value.ownBlock] using hk
  exact this ▸ hok
theorem IR_at {w : World} {base g : Nat} {ok : Nat → Prop} {xs : List Int} (hg : w.heap[g]? = some (.cells (xs.map (Value.int .i64)).toArray 3 (0, 0))) (hb : base ≤ g) (hl : xs.length ≤ 9223372036854775807) (hok : ok g) : Kd.R (Kd.int .i64) 3 w base ok (.slice (some ⟨g, 0, none⟩) xs.length xs.length) xs := R_at (enc := Value.int .i64) (h1 := fun _ => rfl) hg hb hl hok
theorem SR_at {w : World} {base g t : Nat} {ok : Nat → Prop} {xs : List Sl} (hg : w.heap[g]? = some (.cells (xs.map slV).toArray t (0, 0))) (hb : base ≤ g) (hl : xs.length ≤ 9223372036854775807) (hok : ok g) : Kd.R kSl t w base ok (.slice (some ⟨g, 0, none⟩) xs.length xs.length) xs := R_at (enc := slV) (h1 := fun _ => rfl) hg hb hl hok
def insL (n : Nat) (es : List Ed) : List (List Ed) := (List.range n).map fun i : Nat => es.filter fun e => decide (e.f2 = (i : Int))
theorem insL_len (n : Nat) (es : List Ed) : (insL n es).length = n := by simp [insL]
theorem insL_at (es : List Ed) {n i : Nat} (hi : i < n) : (insL n es).getD i [] = es.filter fun e => decide (e.f2 = (i : Int)) := by
 unfold insL
 simp [List.getD_eq_getElem?_getD, List.getElem?_map, List.getElem?_range, hi]
theorem insL_snoc (es : List Ed) (e : Ed) {n i : Nat} (hi : i < n) (he : e.f2 = (i : Int)) : insL n (es ++ [e]) = (insL n es).set i ((insL n es).getD i [] ++ [e]) := by
 apply List.ext_getElem
 ·simp [insL]
 ·intro j h1 h2
  have hj : j < n := by simpa [insL] using h1
  have hG := insL_at es hi
  generalize (insL n es).getD i [] = G at hG h2 ⊢
  subst hG
  rw [List.getElem_set]
  simp only [insL, List.getElem_map, List.getElem_range, List.filter_append]
  by_cases e2 : i = j
  ·subst e2
   simp [he]
  ·rw [if_neg e2]
   have : ¬ ((i : Int) = (j : Int)) := by omega
   simp [he, this]
theorem insL_nil (n : Nat) : insL n [] = List.replicate n [] := by
 apply List.ext_getElem
 ·simp [insL]
 ·intro i h1 h2; simp [insL]
structure BegI (base T gI mA : Nat) (w : World) (cls : Nat → Cl) (s : Sg) (vs : List Value) (xss : List (List Ed)) (f : Int × Int → Option Value) (c : Nat) : Prop where
  parts : ∀ c, c ≠ .mc → c ≠ .tab → c ≠ .tro → Part base T w cls s c
  tab : Tab k80 80 23 w base gI vs xss
  gI : cls gI = .tab
  rows : ∀ i k, i < vs.length → (vs.getD i nilS).ownBlock = some k → cls k = .tro
  all : G2 w mA f c
  far : cls mA = .far 300
section
variable {base T gI mA : Nat} {w w1 : World} {cls : Nat → Cl} {s : Sg} {vs : List Value} {xss : List (List Ed)} {f : Int × Int → Option Value} {c : Nat}
theorem BegI.below (h : BegI base T gI mA w cls s vs xss f c) (hb : Below w.heap.size w w1) : BegI base T gI mA w1 cls s vs xss f c :=
 ⟨fun c h1 h2 h3 => Part.move (C := fun _ => False) (h.parts c h1 h2 h3) (Kept.of_below hb _) id fun _ _ e => e, h.tab.below hb, h.gI, h.rows, h.all.below hb, h.far⟩
theorem BegI.app (h : BegI base T gI mA w cls s vs xss f c) {i : Nat} (hi : i < xss.length) {x : Ed} {w3 : World} {v1 : Value} (ho : Kd.R k80 80 w3 base (fun _ => True) v1 (xss.getD i [] ++ [x]))
  (hg : w.grownBy w3 (vs.getD i nilS).ownBlock) (hat : v1.ownBlock = (vs.getD i nilS).ownBlock ∨ ∃ b, v1.ownBlock = some b ∧ w.heap.size ≤ b) : BegI base T gI mA (w3.setCell ⟨gI, i, none⟩ v1) (up cls v1 .tro) s (vs.set i v1) (xss.set i (xss.getD i [] ++ [x])) f c := by
 have hi' : i < vs.length := by rw [h.tab.len]; exact hi
 have hrow : ∀ k, (vs.getD i nilS).ownBlock = some k → cls k = .tro := fun k hk => h.rows i k hi' hk
 have hk1 := up_keep (c := .tro) hat hrow
 have hK1 : Kept w w3 (fun k => cls k = .tro) := kept_grown hg hrow
 have hK : Kept w (w3.setCell ⟨gI, i, none⟩ v1) (fun k => cls k = .tro ∨ cls k = .tab) := (hK1.mono fun k hk => .inl hk).setCell (.inl (.inr h.gI)) v1
 refine ⟨fun c h1 h2 h3 => Part.move (C := fun c => c = .tro ∨ c = .tab) (h.parts c h1 h2 h3) hK (by rintro (e | e); exact h3 e; exact h2 e) fun k hk e => by rw [hk1 k hk]; exact e,
  h.tab.put rfl (by decide) i hi ho hg hat, by rw [hk1 gI h.tab.lt]; exact h.gI, fun j k hj hk => ?_, h.all.same (hK.2 mA h.all.lt_ (by show ¬ (cls mA = _ ∨ cls mA = _); rw [h.far]; simp)), by rw [hk1 mA h.all.lt_]; exact h.far⟩
 have hj' : j < vs.length := by simpa using hj
 rw [gD_set _ _ _ _ _ hi'] at hk
 by_cases e : v1.ownBlock = some k
 ·exact up_self e
 ·rw [up_ne e]
  by_cases ej : j = i
  ·rw [if_pos ej] at hk; exact absurd hk e
  ·rw [if_neg ej] at hk; exact h.rows j k hj' hk
theorem BegI.count (h : BegI base T gI mA w cls s vs xss f c) {f' : Int × Int → Option Value} {c' : Nat} (hm : G2 w1 mA f' c') (hg : w.grownBy w1 (some mA)) : BegI base T gI mA w1 cls s vs xss f' c' := by
 obtain ⟨es, cl, hb⟩ := h.all.blk
 refine ⟨fun c h1 h2 h3 => ?_, h.tab.grown rfl hb (fun _ _ _ e => by cases e) hg, h.gI, h.rows, hm, h.far⟩
 by_cases e : c = .far 300
 ·subst e; trivial
 ·exact Part.move (C := fun c => c = .far 300) (h.parts c h1 h2 h3) (kept_grown hg fun k e => by cases e; exact h.far) e fun _ _ e => e
theorem BegI.tt (h : BegI base T gI mA w cls s vs xss f c) : w.heap[T]? = some (.cells s.tc.toArray 90 (0, 0)) ∧ cls T = .tt ∧ base ≤ T := h.parts .tt (by simp) (by simp) (by simp)
def toSl : Value → Sl
 | .slice a l c => (a, l, c)
 | _ => nilL
theorem tab_sl (h : Tab k80 80 23 w base gI vs xss) : (vs.map toSl).map slV = vs := by
 rw [List.map_map]
 apply List.ext_getElem
 ·simp
 ·intro i h1 h2
  obtain ⟨A, c, hv, _⟩ := Kd.R_reads (h.row i h2)
  have hv2 : vs[i] = vs.getD i nilS := by simp [List.getD_eq_getElem?_getD, List.getElem?_eq_getElem h2]
  rw [hv] at hv2
  simp only [List.getElem_map, Function.comp]
  rw [hv2]
  rfl
theorem toSl_at (h : Tab k80 80 23 w base gI vs xss) (i : Nat) (hi : i < vs.length) : slV ((vs.map toSl).getD i nilL) = vs.getD i nilS := by
 obtain ⟨A, c, hv, _⟩ := Kd.R_reads (h.row i hi)
 have e : (vs.map toSl).getD i nilL = toSl (vs.getD i nilS) := by simp [List.getD_eq_getElem?_getD, List.getElem?_eq_getElem hi]
 rw [e, hv]
 rfl
def clF (cls : Nat → Cl) (gQ gN mC mA : Nat) : Nat → Cl := fun k => if k = gQ then .bs else if k = gN then .bro 0 else if k = mC then .mc else if k = mA then .cmp 0 else cls k
theorem Part.lower {base' : Nat} {c : Cl} (h : Part base T w cls s c) (hb : base' ≤ base) : Part base' T w cls s c := by
 cases c with
 | tt => exact ⟨h.1, h.2.1, Nat.le_trans hb h.2.2⟩
 | blk => exact Kd.R_lower h hb
 | hp => exact Kd.R_lower h hb
 | bs => exact Kd.R_lower h hb
 | hs => exact Kd.R_lower h hb
 | tab => exact Kd.R_lower h hb
 | tro => exact fun i hi => Kd.R_lower (h i hi) hb
 | bro i => exact fun hi => Kd.R_lower (h hi) hb
 | hro i => exact fun hi => Kd.R_lower (h hi) hb
 | mc => exact ⟨h.1, h.2.1, Nat.le_trans hb h.2.2⟩
 | mw => exact ⟨h.1, h.2.1, Nat.le_trans hb h.2.2⟩
 | cmp i => exact fun hi => ⟨(h hi).1, (h hi).2.1, Nat.le_trans hb (h hi).2.2⟩
 | far j => trivial
theorem SP.lower {base' : Nat} (h : SP base T w cls s) (hb : base' ≤ base) : SP base' T w cls s := fun c => (h c).lower hb
theorem BegI.fin (h : BegI base T gI mA w cls s vs xss f c) (hb0 : base ≤ gI) (hmb : base ≤ mA) (hwb : base ≤ w.heap.size) (hvl : vs.length ≤ 9223372036854775807) {W : World} (hK : Kept w W fun k => k = T) (hT0 : cls T = .tt) {tc : List Value} (hT : W.heap[T]? = some (.cells tc.toArray 90 (0, 0))) (hTb : base ≤ T)
  {gN gQ mC : Nat} {nodes : List Int} {cN : Nat} (hN : Kd.R (Kd.int .i64) 3 W base (fun k => k = gN) (.slice (some ⟨gN, 0, none⟩) nodes.length cN) nodes) (hgN : w.heap.size ≤ gN)
  (hQ : W.heap[gQ]? = some (.cells #[.slice (some ⟨gN, 0, none⟩) nodes.length cN] 28 (0, 0))) (hgQ : w.heap.size ≤ gQ) {fC : Int → Option Value} (hC : G1 W mC fC 1) (hmC : w.heap.size ≤ mC) (d1 : gQ ≠ gN) (d2 : mC ≠ gN) (d3 : mC ≠ gQ)
  (hbs : s.bsl = []) (hcm : s.cm = []) :
  SP base T W (clF cls gQ gN mC mA)
   { s with tc := tc, vI := .slice (some ⟨gI, 0, none⟩) vs.length vs.length, is := vs.map toSl, ins := xss, vBs := .slice (some ⟨gQ, 0, none⟩) 1 1, bs := [(some ⟨gN, 0, none⟩, nodes.length, cN)], bsl := [(some ⟨gN, 0, none⟩, nodes.length, cN)], blocks := [nodes], mC := mC, fC := fC, cC := 1, cm := [mA], fc := fun _ => f, cc := fun _ => c } := by
 have hmw := h.all.lt_
 have hgw := h.tab.lt
 have hTw : T < w.heap.size := blk_lt (h.parts .tt (by simp) (by simp) (by simp)).1
 have hcl : ∀ k, k < w.heap.size → k ≠ mA → clF cls gQ gN mC mA k = cls k := fun k hk hne => by
  show (if k = gQ then Cl.bs else if k = gN then .bro 0 else if k = mC then .mc else if k = mA then .cmp 0 else cls k) = cls k
  rw [if_neg (by omega), if_neg (by omega), if_neg (by omega), if_neg hne]
 have hTm : T ≠ mA := fun e => by rw [e, h.far] at hT0; cases hT0
 have hIm : gI ≠ mA := fun e => by have := h.gI; rw [e, h.far] at this; cases this
 have hTI : gI ≠ T := fun e => by have := h.gI; rw [e, hT0] at this; cases this
 have a0 : Kept w W fun k => cls k = .tt := hK.mono fun k hk => by rw [show k = T from hk]; exact hT0
 have mv : ∀ c, c ≠ .mc → c ≠ .tab → c ≠ .tro → c ≠ .tt → c ≠ .far 300 → Part base T W (clF cls gQ gN mC mA) s c := fun c h1 h2 h3 h4 h5 =>
  Part.move (C := fun c => c = .tt) (h.parts c h1 h2 h3) a0 h4 fun k hk e => by rw [hcl k hk (fun e2 => h5 (by rw [← e, e2, h.far]))]; exact e
 intro c
 cases c with
 | tt => exact ⟨hT, by rw [hcl T hTw hTm]; exact hT0, hTb⟩
 | blk => exact mv .blk (by simp) (by simp) (by simp) (by simp) (by simp)
 | hp => exact mv .hp (by simp) (by simp) (by simp) (by simp) (by simp)
 | hs => exact mv .hs (by simp) (by simp) (by simp) (by simp) (by simp)
 | mw => exact mv .mw (by simp) (by simp) (by simp) (by simp) (by simp)
 | hro i => exact mv (.hro i) (by simp) (by simp) (by simp) (by simp) (by simp)
 | far j => trivial
 | mc => exact ⟨by show (if mC = gQ then Cl.bs else if mC = gN then .bro 0 else if mC = mC then .mc else _) = _; rw [if_neg d3, if_neg d2, if_pos rfl], hC, by show base ≤ mC; omega⟩
 | bs =>
  show Kd.R kSl 28 W base _ (.slice (some ⟨gQ, 0, none⟩) 1 1) [(some ⟨gN, 0, none⟩, nodes.length, cN)]
  exact SR_at (xs := [(some ⟨gN, 0, none⟩, nodes.length, cN)]) hQ (by omega) (by simp) (by show (if gQ = gQ then _ else _) = _; rw [if_pos rfl])
 | bro i =>
  intro hi
  have hi : i = 0 := by
   have : i < [((some ⟨gN, 0, none⟩, nodes.length, cN) : Sl)].length := hi
   simpa using this
  subst hi
  show Kd.R (Kd.int .i64) 3 W base _ (.slice (some ⟨gN, 0, none⟩) nodes.length cN) nodes
  exact Kd.R_mono hN fun k hk => by
   rw [show k = gN from hk]
   show (if gN = gQ then Cl.bs else if gN = gN then .bro 0 else _) = _
   rw [if_neg (Ne.symm d1), if_pos rfl]
 | cmp i =>
  intro hi
  have hi : i = 0 := by
   have : i < [mA].length := hi
   simpa using this
  subst hi
  show (if mA = gQ then Cl.bs else if mA = gN then .bro 0 else if mA = mC then .mc else if mA = mA then .cmp 0 else _) = .cmp 0 ∧ G2 W mA f c ∧ base ≤ mA
  rw [if_neg (by omega), if_neg (by omega), if_neg (by omega), if_pos rfl]
  exact ⟨rfl, h.all.same (hK.2 mA hmw (Ne.symm hTm)), hmb⟩
 | tab =>
  show Kd.R kSl 23 W base _ (.slice (some ⟨gI, 0, none⟩) vs.length vs.length) (vs.map toSl)
  have h1 := SR_at (w := W) (base := base) (g := gI) (t := 23) (xs := vs.map toSl) (ok := fun k => clF cls gQ gN mC mA k = .tab) (by rw [tab_sl h.tab, hK.2 gI hgw hTI]; exact h.tab.blk) hb0 (by simpa using hvl) (by rw [hcl gI hgw hIm]; exact h.gI)
  simpa using h1
 | tro =>
  intro i hi
  have hi : i < vs.length := by simpa using hi
  show Kd.R _ _ W base _ (slV ((vs.map toSl).getD i nilL)) (xss.getD i [])
  rw [toSl_at h.tab i hi]
  have h1 := Kd.R_bound (Kd.R_tight2 (e := 80) (d := k80) rfl (h.tab.row i hi))
  have hc : ∀ k, (vs.getD i nilS).ownBlock = some k → cls k = .tro := fun k hk => h.rows i k hi hk
  refine Kd.R_mono (Kd.R_move h1 fun k hk => hK.2 k hk.2.2.1 fun e => ?_) fun k hk => ?_
  ·have := hc k hk.1.1.symm
   rw [show k = T from e, hT0] at this
   cases this
  ·have h2 := hc k hk.1.1.symm
   rw [hcl k hk.2.2.1 (fun e => by rw [e, h.far] at h2; cases h2)]
   exact h2
end
theorem GM.at_ {α : Type} [DecidableEq α] {P : Program} {k : TypeId} {lt : α → Lit} {ok : α → Prop} {w : World} {m : Nat} (hb : w.heap[m]? = some (.map #[] 0)) : GM P k lt ok w m (fun _ => none) 0 := by
 have hl : m < w.heap.size := blk_lt hb
 obtain ⟨u, hu⟩ : ∃ u : World, u.heap.size = m := ⟨{ w with heap := w.heap.extract 0 m }, by simp; omega⟩
 have h := GM.made P k lt ok u
 have h2 := blk_new u (.map #[] 0)
 rw [hu] at h h2
 exact h.same (by rw [hb, h2])
def litO (n : Nat) (s : Nat → Nat) (i : Nat) : Obj :=
 if i = 3 then .cells (madeCells #[.slice none 0 0] n) 23 else if i = 6 then .cells (madeCells #[.int .i64 0] n) 3 else if i = 7 then .cells #[.int .i64 0] 3 else if i = 8 then .cells #[.int .i64 0] 3
 else if i = 9 then .cells #[.slice (some ⟨s 8, 0, none⟩) 1 1] 28 else .map #[] 0
def needZ (i : Nat) : List Nat := if i = 9 then [8] else []
theorem litO_up (n : Nat) (s : Nat → Nat) (i j b : Nat) (h : i ∉ needZ j) : litO n (upS s i b) j = litO n s j := by
 unfold litO
 by_cases e : j = 9
 ·subst e
  have : upS s i b 8 = s 8 := upS_ne _ _ (by intro e; apply h; simp [needZ, e])
  rw [this]
 ·simp [e]
def slotZ (i : Nat) : Tmp := if i = 3 then 15 else if i = 6 then 18 else if i = 7 then 19 else if i = 8 then 20 else if i = 9 then 21 else 22
def valZ (n : Nat) (s : Nat → Nat) (i : Nat) : Value := if i = 3 ∨ i = 6 then .slice (some ⟨s i, 0, none⟩) n n else if i = 10 then .map (some (s i)) else .slice (some ⟨s i, 0, none⟩) 1 1
theorem slotZ_le (i : Nat) : slotZ i ≤ 22 := by unfold slotZ; (repeat' split) <;> decide
theorem valZ_up (n : Nat) (s : Nat → Nat) (i j b : Nat) (h : j ≠ i) : valZ n (upS s i b) j = valZ n s j := by unfold valZ; rw [upS_ne _ _ h]
def sgZ (n : Nat) (g : Nat → Nat) (v1 v2 : Value) : Sg where
 tc := [.int .i64 n, v1, v2, .slice (some ⟨g 3, 0, none⟩) n n, .slice (some ⟨g 6, 0, none⟩) n n, .slice none 0 0, .slice (some ⟨g 7, 0, none⟩) 1 1, .slice (some ⟨g 9, 0, none⟩) 1 1, .map none, .map (some (g 10)), .int .i64 0]
 vI := .slice none 0 0
 is := []
 ins := []
 vB := .slice (some ⟨g 6, 0, none⟩) n n
 block := List.replicate n 0
 vBs := .slice none 0 0
 bs := []
 bsl := []
 blocks := []
 vH := .slice (some ⟨g 7, 0, none⟩) 1 1
 heap := [0]
 vHs := .slice (some ⟨g 9, 0, none⟩) 1 1
 hs := [(some ⟨g 8, 0, none⟩, 1, 1)]
 hsl := [(some ⟨g 8, 0, none⟩, 1, 1)]
 heaps := [[0]]
 mC := 0
 fC := fun _ => none
 cC := 0
 cm := []
 fc := fun _ _ => none
 cc := fun _ => 0
 mW := g 10
 fW := fun _ => none
 cW := 0
noncomputable def clZ (g : Nat → Nat) (T : Nat) : Nat → Cl := fun k => if k = T then .tt else if k = g 3 then .tab else if k = g 6 then .blk else if k = g 7 then .hp else if k = g 8 then .hro 0 else if k = g 9 then .hs else if k = g 10 then .mw else .far 300
theorem made_rep (z : Value) (n : Nat) : madeCells #[z] n = (List.replicate n z).toArray := Array.ext' (by rw [toList_madeCells_one])
theorem BegI.start {n : Nat} {V W : World} {g : Nat → Nat} {base : Nat} {v1 v2 : Value} (h : BegL (litO n) V [3, 6, 7, 8, 9, 10] g W) (hb : base ≤ V.heap.size) (hn : n ≤ 2048) :
  BegI base W.heap.size (g 3) (W.heap.size + 1) ((W.alloc (.cells (sgZ n g v1 v2).tc.toArray 90)).alloc (.map #[] 0)) (clZ g W.heap.size) (sgZ n g v1 v2) (List.replicate n nilS) (insL n []) (fun _ => none) 0 := by
 obtain ⟨hB, hL⟩ := h
 have hlt : ∀ i ∈ [3, 6, 7, 8, 9, 10], g i < W.heap.size := fun i hi => blk_lt (hL i hi).2.1
 have hbb : ∀ i ∈ [3, 6, 7, 8, 9, 10], base ≤ g i := fun i hi => Nat.le_trans hb (hL i hi).1
 have hne : ∀ i ∈ [3, 6, 7, 8, 9, 10], ∀ j ∈ [3, 6, 7, 8, 9, 10], i ≠ j → g i ≠ g j := fun i hi j hj e h2 => e ((hL i hi).2.2 j hj h2)
 have hbl : Below W.heap.size W ((W.alloc (.cells (sgZ n g v1 v2).tc.toArray 90)).alloc (.map #[] 0)) := below_alloc (below_alloc (Below.refl _ _) _) _
 have blk : ∀ i ∈ [3, 6, 7, 8, 9, 10], ((W.alloc (.cells (sgZ n g v1 v2).tc.toArray 90)).alloc (.map #[] 0)).heap[g i]? = some (litO n g i) := fun i hi => blk_below (hL i hi).2.1 hbl
 have cl : ∀ k, clZ g W.heap.size k = if k = W.heap.size then Cl.tt else if k = g 3 then .tab else if k = g 6 then .blk else if k = g 7 then .hp else if k = g 8 then .hro 0 else if k = g 9 then .hs else if k = g 10 then .mw else .far 300 := fun k => rfl
 have l3 := hlt 3 (by decide)
 have l6 := hlt 6 (by decide)
 have l7 := hlt 7 (by decide)
 have l8 := hlt 8 (by decide)
 have l9 := hlt 9 (by decide)
 have b1 := hlt 10 (by decide)
 have a7 := hne 6 (by decide) 3 (by decide) (by decide)
 have b0 := hne 7 (by decide) 3 (by decide) (by decide)
 have a8 := hne 7 (by decide) 6 (by decide) (by decide)
 have a4 := hne 8 (by decide) 3 (by decide) (by decide)
 have a6 := hne 8 (by decide) 6 (by decide) (by decide)
 have a9 := hne 8 (by decide) 7 (by decide) (by decide)
 have a2 := hne 9 (by decide) 3 (by decide) (by decide)
 have a0 := hne 9 (by decide) 6 (by decide) (by decide)
 have a3 := hne 9 (by decide) 7 (by decide) (by decide)
 have a1 := hne 9 (by decide) 8 (by decide) (by decide)
 have m3 := hne 10 (by decide) 3 (by decide) (by decide)
 have m6 := hne 10 (by decide) 6 (by decide) (by decide)
 have m7 := hne 10 (by decide) 7 (by decide) (by decide)
 have m8 := hne 10 (by decide) 8 (by decide) (by decide)
 have m9 := hne 10 (by decide) 9 (by decide) (by decide)
 have c3 : clZ g W.heap.size (g 3) = .tab := by rw [cl, if_neg (by omega), if_pos rfl]
 have c6 : clZ g W.heap.size (g 6) = .blk := by rw [cl, if_neg (by omega), if_neg a7, if_pos rfl]
 have c7 : clZ g W.heap.size (g 7) = .hp := by rw [cl, if_neg (by omega), if_neg b0, if_neg a8, if_pos rfl]
 have c8 : clZ g W.heap.size (g 8) = .hro 0 := by rw [cl, if_neg (by omega), if_neg a4, if_neg a6, if_neg a9, if_pos rfl]
 have c9 : clZ g W.heap.size (g 9) = .hs := by rw [cl, if_neg (by omega), if_neg a2, if_neg a0, if_neg a3, if_neg a1, if_pos rfl]
 have c10 : clZ g W.heap.size (g 10) = .mw := by rw [cl, if_neg (by omega), if_neg m3, if_neg m6, if_neg m7, if_neg m8, if_neg m9, if_pos rfl]
 have a5 : (W.alloc (.cells (sgZ n g v1 v2).tc.toArray 90)).heap.size = W.heap.size + 1 := by simp
 refine ⟨fun c h1 h2 h3 => ?_, ?_, c3, fun i k hi hk => ?_, ?_, ?_⟩
 ·cases c with
  | tt => exact ⟨blk_below (blk_new W _) (below_alloc (Below.refl _ _) _), by rw [cl, if_pos rfl], Nat.le_trans hb hB.size⟩
  | mc => exact absurd rfl h1
  | tab => exact absurd rfl h2
  | tro => exact absurd rfl h3
  | blk =>
   have h := blk 6 (by decide)
   have h4 := IR_at (xs := List.replicate n 0) (base := base) (ok := fun k => clZ g W.heap.size k = .blk) (by rw [h]; show some (Obj.cells (madeCells #[.int .i64 0] n) _ _) = _; rw [made_rep, List.map_replicate]) (hbb 6 (by decide)) (by simp; omega) c6
   rw [List.length_replicate] at h4
   exact h4
  | hp =>
   have h := blk 7 (by decide)
   exact IR_at (xs := [0]) (base := base) (ok := fun k => clZ g W.heap.size k = .hp) h (hbb 7 (by decide)) (by simp) c7
  | bs => exact Kd.R_nil _ _ _ _ _
  | hs =>
   have h := blk 9 (by decide)
   exact SR_at (xs := [(some ⟨g 8, 0, none⟩, 1, 1)]) (base := base) (ok := fun k => clZ g W.heap.size k = .hs) h (hbb 9 (by decide)) (by simp) c9
  | bro i => intro hi; cases hi
  | hro i =>
   intro hi
   have hi : i = 0 := by
    have : i < [((some ⟨g 8, 0, none⟩, 1, 1) : Sl)].length := hi
    simpa using this
   subst hi
   have h := blk 8 (by decide)
   exact IR_at (xs := [0]) (base := base) (ok := fun k => clZ g W.heap.size k = .hro 0) h (hbb 8 (by decide)) (by simp) c8
  | cmp i => intro hi; cases hi
  | far j => trivial
  | mw =>
   have h := blk 10 (by decide)
   exact ⟨c10, GM.at_ h, hbb 10 (by decide)⟩
 ·rw [insL_nil]
  refine Tab.start n ?_
  exact blk 3 (by decide)
 ·have hi' : i < n := by simpa using hi
  rw [show (List.replicate n nilS).getD i nilS = nilS by simp [List.getD_eq_getElem?_getD, List.getElem?_replicate, hi']] at hk
  simp [nilS, Value.ownBlock] at hk
 ·have h := GM.made Try.prog 167 ptL ptOk (W.alloc (.cells (sgZ n g v1 v2).tc.toArray 90))
  rwa [a5] at h
 ·rw [cl, if_neg (by omega), if_neg (by omega), if_neg (by omega), if_neg (by omega), if_neg (by omega), if_neg (by omega), if_neg (by omega)]
theorem BegI.t3 {base T gI mA : Nat} {w : World} {cls : Nat → Cl} {n : Nat} {g : Nat → Nat} {v1 v2 : Value} {vs : List Value} {xss : List (List Ed)} {f : Int × Int → Option Value} {c : Nat} (h : BegI base T gI mA w cls (sgZ n g v1 v2) vs xss f c) : w.cell? ⟨T, 3, none⟩ = some (.slice (some ⟨g 3, 0, none⟩) n n) := (blk_cell h.tt.1 3).trans rfl
def pZ (n : Nat) : PSt := ⟨List.replicate n 0, [(List.range n).map fun k : Nat => (k : Int)], [0], [[0]]⟩
theorem gi_zero (n : Nat) (x : Int) : gi (List.replicate n 0) x = 0 := by
 unfold gi
 rw [List.getD_eq_getElem?_getD]
 simp only [List.getElem?_replicate]
 split <;> rfl
theorem nd1 {x : Int} (h : Nd 1 x) : x = 0 := by have := h.1; have := h.2; omega
theorem nd10 : Nd 1 0 := by unfold Nd; omega
theorem PW.start {n : Nat} (hn : 0 < n) : PW n (pZ n) where
 bl := by simp [pZ]
 hl := by simp [pZ]
 br := fun x hx => by show Nd 1 (gi (List.replicate n 0) x); rw [gi_zero]; exact nd10
 bn := fun b hb => by
  have hb : b = 0 := nd1 hb
  subst hb
  show ((List.range n).map fun k : Nat => (k : Int)).Nodup
  exact List.pairwise_map.2 (List.Pairwise.imp (fun h e => absurd h (by omega)) List.pairwise_lt_range)
 bm := fun b hb x => by
  have hb : b = 0 := nd1 hb
  subst hb
  show x ∈ (List.range n).map (fun k : Nat => (k : Int)) ↔ Nd n x ∧ gi (List.replicate n 0) x = 0
  rw [gi_zero]
  constructor
  ·intro h
   obtain ⟨k, hk, rfl⟩ := List.mem_map.1 h
   exact ⟨nd_iff.2 (List.mem_range.1 hk), rfl⟩
  ·rintro ⟨h, _⟩
   obtain ⟨k, rfl, hk⟩ := h.nat
   exact List.mem_map.2 ⟨k, List.mem_range.2 hk, rfl⟩
 be := fun b hb => by
  have hb : b = 0 := nd1 hb
  subst hb
  show (List.range n).map (fun k : Nat => (k : Int)) ≠ []
  intro h
  have := congrArg List.length h
  simp at this
  omega
 hr := fun b hb => by
  have hb : b = 0 := nd1 hb
  subst hb
  exact nd_iff.2 (by simp [pZ])
 hn := fun b hb => by
  have hb : b = 0 := nd1 hb
  subst hb
  show [(0 : Int)].Nodup
  simp
 hm := fun b hb x => by
  have hb : b = 0 := nd1 hb
  subst hb
  show x ∈ [(0 : Int)] ↔ Nd 1 x ∧ gi [0] x = 0
  rw [List.mem_singleton]
  constructor
  ·rintro rfl
   exact ⟨nd10, rfl⟩
  ·rintro ⟨h, _⟩
   exact nd1 h
 he := fun b hb => by
  have hb : b = 0 := nd1 hb
  subst hb
  show [(0 : Int)] ≠ []
  simp
theorem Wt.start (n : Nat) : Wt (pZ n) fun _ => false := fun h => by
 constructor
 ·intro h; cases h
 ·rintro ⟨h1, h2⟩
  have hb : h = 0 := nd1 h1
  subst hb
  have : 2 ≤ [(0 : Int)].length := h2
  simp at this
theorem wpList_gins {α : Type} [DecidableEq α] {P : Program} {k : TypeId} {mk : α → Value} {lt : α → Lit} {ok : α → Prop} (w : World) {ops : Array Oper} {rest : List Oper} {o : Oper} {a : Act} {Q : Exit → Act → World → Prop} (B : KB P k mk lt ok) (hg : o.guard = none) (x y z : Operand) (t : TypeId) (hop : o.op = Op.insert t x y z) (e : TypeId) (ht : P.underlying t = some (.map k e)) (m c : Nat) (f : α → Option Value) (hm : a.eval x = .map (some m)) (h : GM P k lt ok w m f c) (hn : c < maxLen) (b : α) (hb : ok b) (v : Value) (hy : a.eval y = mk b) (hz : a.eval z = v)
  (hK : ∀ w', GM P k lt ok w' m (putM f b v) (if (f b).isSome then c else c + 1) → w.grownBy w' (some m) → w'.heap.size = w.heap.size → wpList P ops Q rest (a.put o.dst undef) w') :
  wpList P ops Q (o :: rest) a w := by
 refine wpList_plain hg fun K' hK' => ?_
 obtain ⟨w', hrun, r1, r2, r3⟩ := h.put B hb (v := v) hn ht
 unfold Oper.wp
 simp [execOp, hop, hm, hy, hz, hrun, Result.andThen]
 exact hK' _ _ (hK w' r1 r2 r3)
theorem sizeMM : (Try.prog.info? 87).map (·.size) = some 1 := by kernel_rfl
theorem cntE_all (es : List Ed) {P : Int → Bool} (hP : ∀ x, P x = true) (q : Int × Int) : cntE es P q.1 q.2 = cntL es q := by
 unfold cntE cntL
 simp [hP]
theorem BegI.end_ {base T mA n : Nat} {wo wr w14 : World} {cls : Nat → Cl} {g : Nat → Nat} {v1 v2 : Value} {vs : List Value} {es : List Ed} {f : Int × Int → Option Value} {c gN cN mC gQ : Nat} (h : BegI base T (g 3) mA wo cls (sgZ n g v1 v2) vs (insL n es) f c)
  (hF : ∀ q, ptOk q → f q = encZ (cntL es q)) (hb0 : base ≤ g 3) (hmb : base ≤ mA) (hwb : base ≤ wo.heap.size) (hn0 : 0 < n) (hn1 : n ≤ 2048) (hBx : Below wo.heap.size wo wr)
  (hN : Kd.R (Kd.int .i64) 3 wr wo.heap.size (fun _ => True) (.slice (some ⟨gN, 0, none⟩) n cN) ((List.range n).map fun j : Nat => (j : Int))) (hQ : gQ = wr.heap.size) {w12 : World} (h12 : w12 = (wr.alloc (.cells #[.slice (some ⟨gN, 0, none⟩) n cN] 28)).setCell ⟨T, 5, none⟩ (.slice (some ⟨gQ, 0, none⟩) 1 1)) (hmC : mC = w12.heap.size)
  (hgm : G1 w14 mC (putM (fun _ => none) 0 (.map (some mA))) 1) (hgg : (w12.alloc (.map #[] 0)).grownBy w14 (some mC)) {V0 : World} (hV : Below base V0 wo) :
  ∃ cl' sE, SP base T (w14.setCell ⟨T, 8, none⟩ (.map (some mC))) cl' sE ∧ Std n v1 v2 sE (pZ n) ∧ StdW sE (fun _ => false) ∧ StdI n es sE ∧ StdC es sE 1 (fun _ => 0) ∧ sE.cm = [mA] ∧ sE.fc 0 = f ∧ Below base V0 (w14.setCell ⟨T, 8, none⟩ (.map (some mC))) := by
 have hTl : T < wo.heap.size := blk_lt h.tt.1
 have hvl : vs.length = n := by rw [h.tab.len, insL_len]
 have hgl : gN < wr.heap.size := Kd.R_lt hN gN rfl
 have hgb : wo.heap.size ≤ gN := Kd.R_base hN gN rfl
 have s1 : (wr.alloc (Obj.cells #[.slice (some ⟨gN, 0, none⟩) n cN] 28)).heap.size = wr.heap.size + 1 := by simp
 have a0 : w12.heap.size = wr.heap.size + 1 := by rw [h12]; simp [World.setCell]
 have a1 : Below wr.heap.size wr (wr.alloc (Obj.cells #[.slice (some ⟨gN, 0, none⟩) n cN] 28)) := below_alloc (Below.refl _ _) _
 have k1 : ∀ k, k < wr.heap.size + 1 → k ≠ T → (w14.setCell ⟨T, 8, none⟩ (.map (some mC))).heap[k]? = (wr.alloc (Obj.cells #[.slice (some ⟨gN, 0, none⟩) n cN] 28)).heap[k]? := fun k hk hne => by
  rw [Below.heap_setCell _ _ _ _ hne, hgg.block k (by simp [a0]; omega) (by intro e; cases e; omega), (below_alloc (Below.refl w12.heap.size w12) (.map #[] 0)).block k (by omega), h12, Below.heap_setCell _ _ _ _ hne]
 have a3 : w12.heap[T]? = some (.cells ((sgZ n g v1 v2).tc.set 5 (.slice (some ⟨gQ, 0, none⟩) 1 1)).toArray 90 (0, 0)) := by
  rw [h12]
  exact set_at (blk_below (blk_below h.tt.1 hBx) a1)
 have hTm : T ≠ mC := by omega
 have a2 : w14.heap[T]? = some (.cells ((sgZ n g v1 v2).tc.set 5 (.slice (some ⟨gQ, 0, none⟩) 1 1)).toArray 90 (0, 0)) := by
  rw [hgg.block T (by simp [a0]; omega) (by intro e; cases e; exact hTm rfl), (below_alloc (Below.refl w12.heap.size w12) (.map #[] 0)).block T (by omega)]
  exact a3
 have hK : Kept wo (w14.setCell ⟨T, 8, none⟩ (.map (some mC))) fun k => k = T := ⟨by
  have h1 := hBx.size
  have h2 := hgg.size
  simp [a0] at h2
  simp [World.setCell]
  omega, fun k hk hne => by
  rw [k1 k (by have := hBx.size; omega) hne, a1.block k (by have := hBx.size; omega)]
  exact hBx.block k hk⟩
 have hN' : Kd.R (Kd.int .i64) 3 (w14.setCell ⟨T, 8, none⟩ (.map (some mC))) base (fun k => k = gN) (.slice (some ⟨gN, 0, none⟩) ((List.range n).map fun j : Nat => (j : Int)).length cN) ((List.range n).map fun j : Nat => (j : Int)) := by
  have h1 := Kd.R_lower (Kd.R_tight (e := 3) (d := Kd.int .i64) rfl hN) hwb
  rw [List.length_map, List.length_range]
  refine Kd.R_mono (Kd.R_move h1 fun k hk => ?_) fun k hk => by
   have : gN = k := by simpa [Value.ownBlock] using hk.symm
   exact this.symm
  have : gN = k := by simpa [Value.ownBlock] using hk.symm
  subst this
  rw [k1 gN (by omega) (by omega), a1.block gN hgl]
 have hQ' : (w14.setCell ⟨T, 8, none⟩ (.map (some mC))).heap[gQ]? = some (.cells #[.slice (some ⟨gN, 0, none⟩) ((List.range n).map fun j : Nat => (j : Int)).length cN] 28 (0, 0)) := by
  rw [k1 gQ (by omega) (by have := hBx.size; omega), List.length_map, List.length_range, hQ]
  exact blk_new wr _
 have hC' : G1 (w14.setCell ⟨T, 8, none⟩ (.map (some mC))) mC (putM (fun _ => none) 0 (.map (some mA))) 1 := hgm.same (Below.heap_setCell _ _ _ _ (Ne.symm hTm))
 have hfin := h.fin hb0 hmb hwb (by omega) hK h.tt.2.1 (set_at a2) h.tt.2.2 hN' hgb hQ' (by have := hBx.size; omega) hC' (by have := hBx.size; omega) (by omega) (by omega) (by omega) rfl rfl
 refine ⟨_, _, hfin, ⟨?_, rfl, rfl, rfl, rfl, rfl, rfl, rfl, rfl⟩, fun h _ => rfl, ⟨?_, fun i hi => ?_⟩, ⟨rfl, fun h hh => ?_, fun i hi q hq => ?_, fun i hi => ?_⟩, rfl, rfl, ?_⟩
 ·show _ = _
  rw [hvl]
  rfl
 ·show (vs.map toSl).length = n
  rw [List.length_map, hvl]
 ·exact insL_at es hi
 ·show putM (fun _ => none) 0 (.map (some mA)) h = if _ then some (.map (some ([mA].getD h.toNat 0))) else none
  unfold putM
  by_cases e : h = 0
  ·subst e
   rfl
  ·rw [if_neg e, if_neg]
   simp
   omega
 ·show f q = _
  rw [hF q hq]
  refine congrArg encZ (cntE_all es (fun x => ?_) q).symm
  have : i = 0 := by omega
  subst this
  rfl
 ·exact cnt_le2 h.all hF
 ·refine Below.setCell (Below.grown (Below.alloc ?_ ?_ _) hgg ?_ fun k e => ?_) h.tt.2.2 _
  ·rw [h12]
   exact Below.setCell (Below.alloc (hV.trans (hBx.mono hwb)) (Nat.le_trans hwb hBx.size) _) h.tt.2.2 _
  ·have := hBx.size; omega
  ·have := hBx.size; simp; omega
  ·cases e; have := hBx.size; omega
end Go.Proofs.Ytmcbkmfpmcbdpaa.H
set_option linter.unusedVariables false
set_option linter.unusedSimpArgs false
set_option linter.unusedSectionVars false
namespace Go.Proofs.Ytmcbkmfpmcbdpaa.H
open Go.RowKit Go.Proofs.Ytmcbkmfpmcbdpaa.Pr Go.Proofs.YtmcbkmfpmcbdpaaW.PrintWords Go.Proofs.Ytmcbkmfpmcbdpaa.Sem Go.Proofs.YtmcbkmfpmcbdpaaW.PrintLast
def slLen : Option Value → Nat
 | some (.slice _ l _) => l
 | _ => 0
structure RunS (base T n : Nat) (es : List Ed) (v1 v2 : Value) (w : World) (cls : Nat → Cl) (s : Sg) (p : PSt) (wt : Int → Bool) : Prop where
  sp : SP base T w cls s
  std : Std n v1 v2 s p
  pw : PW n p
  stdW : StdW s wt
  wt_ : Wt p wt
  ins : StdI n es s
  cnt : StdC es s p.heaps.length (HP p)
  ref : RefI n es (gi p.block) (HP p)
section
variable {base T n : Nat} {es : List Ed} {v1 v2 : Value} {w : World} {cls : Nat → Cl} {s : Sg} {p : PSt} {wt : Int → Bool}
theorem RunS.below {w1 : World} (h : RunS base T n es v1 v2 w cls s p wt) (hb : Below w.heap.size w w1) : RunS base T n es v1 v2 w1 cls s p wt := ⟨h.sp.below hb, h.std, h.pw, h.stdW, h.wt_, h.ins, h.cnt, h.ref⟩
theorem len7 (sp : SP base T w cls s) (std : Std n v1 v2 s p) (pw : PW n p) (hn0 : 0 < n) : slLen (w.cell? ⟨T, 7, none⟩) = p.heaps.length := by
 have hhs : s.hs.length = p.heaps.length := by rw [std.hs, std.hl]
 have h0 : 0 < p.heaps.length := by
  have h1 := (pw.br 0 (nd_iff.2 hn0))
  have h2 := pw.hr _ h1
  have := h2.1
  have := h2.2
  omega
 obtain ⟨gS, cS, hvS, _⟩ := sp.slice (sp .hs) (by rw [hhs]; exact h0)
 rw [sp.cell 7 s.vHs (by rw [std.tc]; rfl), hvS, hhs]
 rfl
theorem RunS.some_ (h : RunS base T n es v1 v2 w cls s p wt) (hn : n ≤ 2048) : s.cW = 0 ↔ ∀ x, wt x = false := by
 have hE := GM.empty intKB ((h.sp .mw).2.1)
 rw [hE]
 have hb := h.pw.nb_le
 have hh := h.pw.nh_le
 constructor
 ·intro ha x
  cases hx : wt x with
  | false => rfl
  | true =>
   have h1 := ((h.wt_ x).1 hx).1
   have hi : i64in x := by unfold i64in; have := h1.1; have := h1.2; omega
   have h2 := h.stdW x hi
   rw [hx, ha x hi] at h2
   cases h2
 ·intro ha x hx
  rw [h.stdW x hx, ha x]
  rfl
theorem RunS.none_ (h : RunS base T n es v1 v2 w cls s p wt) (hw : ∀ x, wt x = false) : ∀ c, Nd p.heaps.length c → (gl p.heaps c).length < 2 := fun c hc => by
 by_cases h2 : (gl p.heaps c).length < 2
 ·exact h2
 ·have := (h.wt_ c).2 ⟨hc, by omega⟩
  rw [hw c] at this
  cases this
theorem StdC.congr {es : List Ed} {s s' : Sg} {N : Nat} {H H' : Int → Int} (h : StdC es s N H) (m5 : s'.fC = s.fC) (m7 : s'.cm = s.cm) (m8 : s'.fc = s.fc) (m9 : s'.cc = s.cc) (hH : ∀ e ∈ es, H' e.f2 = H e.f2) : StdC es s' N H' :=
 ⟨by rw [m7]; exact h.ln, fun x hx => by rw [m5, m7]; exact h.fC x hx, fun i hi q hq => by rw [m8, h.fc i hi q hq]; exact congrArg encZ (cntE_congr (fun e he => by rw [hH e he]) _ _), fun i hi => by rw [m9]; exact h.cc i hi⟩
end
end Go.Proofs.Ytmcbkmfpmcbdpaa.H
set_option linter.unusedVariables false
set_option linter.unusedSimpArgs false
set_option linter.unusedSectionVars false
namespace Go.Proofs.Ytmcbkmfpmcbdpaa.H
open Go.RowKit Go.Proofs.Ytmcbkmfpmcbdpaa.Pr Go.Proofs.YtmcbkmfpmcbdpaaW.PrintWords Go.Proofs.Ytmcbkmfpmcbdpaa.Sem Go.Proofs.YtmcbkmfpmcbdpaaW.PrintLast
theorem ls_le {n : Int} {ls : List ByteArray} {es : List Ed} (h : mayR n ls es = true) : ls.length ≤ 64 := by
 unfold mayR at h
 simp only [Bool.and_eq_true, decide_eq_true_eq] at h
 omega
theorem es_nd {n : Nat} {ls : List ByteArray} {es : List Ed} (h : mayR n ls es = true) : ∀ e ∈ es, Nd n e.f0 ∧ (0 ≤ e.f1 ∧ e.f1 < (ls.length : Int)) ∧ Nd n e.f2 := by
 intro e he
 obtain ⟨k, hk, rfl⟩ := List.getElem_of_mem he
 unfold mayR at h
 simp only [Bool.and_eq_true, decide_eq_true_eq] at h
 have := List.all_eq_true.1 h.2.2.2.2.2 k (List.mem_range.2 hk)
 unfold okAt' at this
 simp only [Bool.and_eq_true, decide_eq_true_eq] at this
 rw [show es.getD k z80 = es[k] by simp [List.getD_eq_getElem?_getD, List.getElem?_eq_getElem hk]] at this
 unfold Nd
 omega
theorem lt0_false (a : Int) : (decide (0 ≤ a) && decide (a < ((0 : Nat) : Int))) = false := by
 by_cases h : 0 ≤ a
 ·rw [decide_eq_false (show ¬ a < ((0 : Nat) : Int) by omega), Bool.and_false]
 ·rw [decide_eq_false h, Bool.false_and]
set_option maxHeartbeats 16000000 in
set_option maxRecDepth 100000 in
theorem begin_any (n : Nat) (ls : List ByteArray) (es : List Ed) (A1 A2 : Option Addr) (c1 c2 : Nat) (w0 w : World) (hr1 : Kd.C Kd.string w A1 ls.length ls) (hr2 : Kd.C k80 w A2 es.length es) (hm : mayR n ls es = true) (hB : Below w0.heap.size w0 w) :
    Calls Try.prog 116 #[.agg #[.int .i64 n, .slice A1 ls.length c1, .slice A2 es.length c2]] w fun e w' => ∃ T s cls p wt, e = .returned (.pointer (some ⟨T, 0, none⟩)) ∧ RunS w0.heap.size T n es (.slice A1 ls.length c1) (.slice A2 es.length c2) w' cls s p wt ∧ Below w0.heap.size w0 w' := by
  have hn := n_le hm
  have d5 : 0 < n := by omega
  have g5 : n ≤ 2048 := by omega
  have hel := es_le hm
  have hll := ls_le hm
  have HEs := Aside0.mk (es_nd hm)
  have n8 := Aside0.mk hr2
  have HB := Aside0.mk hB
  obtain ⟨v1, a7⟩ : ∃ v1 : Value, v1 = .slice A1 ls.length c1 := ⟨_, rfl⟩
  obtain ⟨v2, a5⟩ : ∃ v2 : Value, v2 = .slice A2 es.length c2 := ⟨_, rfl⟩
  rw [← a7, ← a5]
  have HVv := Aside0.mk (And.intro a7 a5)
  clear hr1 hr2 hm hn hB a7 a5
  have h7 := print_make_of (P := Try.prog) 86 23 (.slice none 0 0) 24 Try.underlying86 (by kernel_rfl) rfl (by omega) n (by omega)
  have g4 := print_make_of (P := Try.prog) 28 3 (.int .i64 0) 8 Try.underlying28 (by kernel_rfl) rfl (by omega) n (by omega)
  have hmm := @run_makeMap Try.prog
  go_enter Try.func116, Try.ntmps116
  go_wp2_with fail
  have hX := blk_new w (Obj.cells #[Value.int IntKind.i64 n, v1, v2] 25)
  have b0 := (blk_cell hX 0).trans rfl
  have b1 := (blk_cell hX 1).trans rfl
  have b2 := (blk_cell hX 2).trans rfl
  have a1 := Aside0.mk (below_drew1 (below_then HB.out HB.out.size (below_alloc (Below.refl w.heap.size w) (Obj.cells #[Value.int IntKind.i64 n, v1, v2] 25))))
  have HBw := Aside0.mk (below_drew1 (below_alloc (Below.refl w.heap.size w) (Obj.cells #[Value.int IntKind.i64 n, v1, v2] 25)))
  have HX := Aside0.mk hX
  obtain ⟨b, hb⟩ : ∃ b, b = w.heap.size := ⟨_, rfl⟩
  rw [← hb] at b0 b1 b2 HX ⊢
  have Hb := Aside0.mk hb
  clear hX hb
  refine start_ (n := 14) (S := fun w' => w'.cell? ⟨b, 0, none⟩ = some (.int .i64 n) ∧ w'.cell? ⟨b, 1, none⟩ = some v1 ∧ w'.cell? ⟨b, 2, none⟩ = some v2) (ds := []) #[false, false, false, false, false, false, false, false, false, false, false, false, false, false] (by kernel_rfl) rfl rfl ⟨b0, b1, b2⟩ (fun hHeld => ?_)
  clear b0 b1 b2
  generalize (w.alloc (Obj.cells #[Value.int IntKind.i64 n, v1, v2] 25)).drew = V at a1 HBw hHeld ⊢
  have HVb := Aside0.mk hHeld
  refine pure_ (i := 1) (N := some 13) (v := ?_) (a' := ?_) #[false, true, false, false, false, false, false, false, false, false, false, false, false, false] rfl rfl (by kernel_rfl) (fun _ _ _ h => h) (Or.inl ⟨by rfl, ?_⟩) ?_ ?_
  rotate_left
  · intro w'
    go_simp
    with_reducible rfl
  rotate_left
  · simp only [Act.put, List.setIfInBounds_toArray, List.set_cons_zero, List.set_cons_succ, i64_w, i32_w]
    rfl
  refine pure_ (i := 4) (N := some 16) (v := ?_) (a' := ?_) #[false, true, false, false, true, false, false, false, false, false, false, false, false, false] rfl rfl (by kernel_rfl) (fun _ _ _ h => h) (Or.inl ⟨by rfl, ?_⟩) ?_ ?_
  rotate_left
  · intro w'
    go_simp
    with_reducible rfl
  rotate_left
  · simp only [Act.put, List.setIfInBounds_toArray, List.set_cons_zero, List.set_cons_succ, i64_w, i32_w]
    rfl
  refine take_ (i := 0) (N := some 12) (v := ?_) (a' := ?_) #[true, true, false, false, true, false, false, false, false, false, false, false, false, false] rfl rfl (by kernel_rfl) (fun _ _ _ h => h) (Or.inl ⟨by rfl, ?_⟩) hHeld ?_ ?_
  rotate_left
  · rintro w' ⟨s0, s1, s2⟩
    go_simp
    with_reducible rfl
  rotate_left
  · simp only [Act.put, List.setIfInBounds_toArray, List.set_cons_zero, List.set_cons_succ, i64_w, i32_w]
    rfl
  refine take_ (i := 2) (N := some 14) (v := ?_) (a' := ?_) #[true, true, true, false, true, false, false, false, false, false, false, false, false, false] rfl rfl (by kernel_rfl) (fun _ _ _ h => h) (Or.inl ⟨by rfl, ?_⟩) hHeld ?_ ?_
  rotate_left
  · rintro w' ⟨s0, s1, s2⟩
    go_simp
    with_reducible rfl
  rotate_left
  · simp only [Act.put, List.setIfInBounds_toArray, List.set_cons_zero, List.set_cons_succ, i64_w, i32_w]
    rfl
  refine take_ (i := 5) (N := some 17) (v := ?_) (a' := ?_) #[true, true, true, false, true, true, false, false, false, false, false, false, false, false] rfl rfl (by kernel_rfl) (fun _ _ _ h => h) (Or.inl ⟨by rfl, ?_⟩) hHeld ?_ ?_
  rotate_left
  · rintro w' ⟨s0, s1, s2⟩
    go_simp
    with_reducible rfl
  rotate_left
  · simp only [Act.put, List.setIfInBounds_toArray, List.set_cons_zero, List.set_cons_succ, i64_w, i32_w]
    rfl
  refine alloc_region (C := [3, 6, 7, 8, 9, 10]) (slot := slotZ) (val := valZ n) (obj := litO n) (needs := needZ) (l1 := #[true, true, true, true, true, true, true, true, true, true, true, false, false, false]) (fuel := 3) rfl (by kernel_rfl) (by decide) (fun i hi => Nat.lt_of_le_of_lt (slotZ_le i) (by show (22 : Nat) < 109; decide)) (valZ_up n) (litO_up n) (by decide)
    (fun _ _ hS => ⟨later (below_alloc (Below.refl _ _) _) hS.1, later (below_alloc (Below.refl _ _) _) hS.2.1, later (below_alloc (Below.refl _ _) _) hS.2.2⟩) hHeld ?run ?cont
  case run =>
    clear hHeld
    intro i hi p s a W hA hN
    simp only [List.mem_cons, List.not_mem_nil, or_false] at hi
    have l4 : a.eval (.tmp 14) = .int .i64 n := (hA.eval 14 (by decide)).trans rfl
    have n2 : a.eval (.tmp 17) = .int .i64 n := (hA.eval 17 (by decide)).trans rfl
    rcases hi with rfl | rfl | rfl | rfl | rfl | rfl
    · exact ⟨_, rfl, rfl, rfl, run_mkS rfl l4 (h7 W)⟩
    · exact ⟨_, rfl, rfl, rfl, run_mkS rfl n2 (g4 W)⟩
    · refine ⟨_, rfl, rfl, rfl, ?_⟩
      show Sem.run _ (execOp a.eval { dst := some 19, op := .buildSlice 28 1 #[(0, .const (.int .i64 0))], type := 28, pos := "refine.go:31", after := #[], guard := none }) W = _
      go_simp
      exact ⟨rfl, rfl⟩
    · refine ⟨_, rfl, rfl, rfl, ?_⟩
      show Sem.run _ (execOp a.eval { dst := some 20, op := .buildSlice 28 1 #[(0, .const (.int .i64 0))], type := 28, pos := "refine.go:31", after := #[], guard := none }) W = _
      go_simp
      exact ⟨rfl, rfl⟩
    · have o7 : a.eval (.tmp 20) = .slice (some ⟨s 8, 0, none⟩) 1 1 := hA.evalN (i := 8) (by decide) (hN 8 (by decide))
      have o9 : a.tmps[20]? = some (.slice (some ⟨s 8, 0, none⟩) 1 1) := hA.new 8 (by decide) (hN 8 (by decide))
      refine ⟨_, rfl, rfl, rfl, ?_⟩
      show Sem.run _ (execOp a.eval { dst := some 21, op := .buildSlice 40 1 #[(0, .tmp 20)], type := 40, pos := "refine.go:31", after := #[{ on := 8, ground := Ground.data }], guard := none }) W = _
      go_simp
      exact ⟨rfl, rfl⟩
    · exact ⟨_, rfl, rfl, rfl, run_mkM rfl (hmm _ W)⟩
  intro s W hL hHeld
  rw [show (List.map (fun i => (slotZ i, valZ n s i)) [3, 6, 7, 8, 9, 10]) = [(15, .slice (some ⟨s 3, 0, none⟩) n n), (18, .slice (some ⟨s 6, 0, none⟩) n n), (19, .slice (some ⟨s 7, 0, none⟩) 1 1), (20, .slice (some ⟨s 8, 0, none⟩) 1 1), (21, .slice (some ⟨s 9, 0, none⟩) 1 1), (22, .map (some (s 10)))] from rfl]
  refine norm_ (a' := ?_) ?_ ?_
  rotate_left
  · simp only [putAll, Act.put, List.setIfInBounds_toArray, List.set_cons_zero, List.set_cons_succ]
    rfl
  refine pure_ (i := 11) (N := some 23) (v := ?_) (a' := ?_) #[true, true, true, true, true, true, true, true, true, true, true, true, false, false] rfl rfl (by kernel_rfl) (fun _ _ _ h => h) (Or.inl ⟨by rfl, ?_⟩) ?_ ?_
  rotate_left
  · intro w'
    go_simp
    with_reducible rfl
  rotate_left
  · simp only [Act.put, List.setIfInBounds_toArray, List.set_cons_zero, List.set_cons_succ, i64_w, i32_w]
    rfl
  refine one_ (i := 12) (N := some 24) #[true, true, true, true, true, true, true, true, true, true, true, true, true, false] rfl rfl (by kernel_rfl) (by decide) (fun K hK => ?_)
  refine value_ (w1 := ?_) (v := ?_) (by rfl) rfl ?_ ?_
  rotate_left 2
  · go_simp
    constructor
    · rfl
    · rfl
  refine hK.out _ _ ⟨later (below_alloc (Below.refl _ _) _) hHeld.1, later (below_alloc (Below.refl _ _) _) hHeld.2.1, later (below_alloc (Below.refl _ _) _) hHeld.2.2⟩ (fun hHeld => ?_)
  clear hK K
  refine norm_ (a' := ?_) ?_ ?_
  rotate_left
  · show Act.put _ (some 24) _ = _
    simp only [Act.put, List.setIfInBounds_toArray, List.set_cons_zero, List.set_cons_succ, i64_w, i32_w]
    rfl
  refine pure_ (i := 13) (N := some 3) (v := ?_) (a' := ?_) #[true, true, true, true, true, true, true, true, true, true, true, true, true, true] rfl rfl (by kernel_rfl) (fun _ _ _ h => h) (Or.inl ⟨by rfl, ?_⟩) ?_ ?_
  rotate_left
  · intro w'
    go_simp
    with_reducible rfl
  rotate_left
  · simp only [Act.put, List.setIfInBounds_toArray, List.set_cons_zero, List.set_cons_succ, i64_w, i32_w]
    rfl
  refine done_ (by kernel_rfl) ?_
  obtain ⟨a7, a5⟩ := HVv.out
  subst a7
  subst a5
  clear HVv h7 g4 HX
  obtain ⟨U, hU⟩ : ∃ U, U = W.alloc (Obj.cells #[.int .i64 n, .slice A1 ls.length c1, .slice A2 es.length c2, .slice (some ⟨s 3, 0, none⟩) n n, .slice (some ⟨s 6, 0, none⟩) n n, .slice none 0 0, .slice (some ⟨s 7, 0, none⟩) 1 1, .slice (some ⟨s 9, 0, none⟩) 1 1, .map none, .map (some (s 10)), .int .i64 0] 90) := ⟨_, rfl⟩
  have a9 : BegI V.heap.size W.heap.size (s 3) (W.heap.size + 1) (U.alloc (.map #[] 0)) (clZ s W.heap.size) (sgZ n s (.slice A1 ls.length c1) (.slice A2 es.length c2)) (List.replicate n nilS) (insL n []) (fun _ => none) 0 := by rw [hU]; exact BegI.start hL (Nat.le_refl _) g5
  rw [← hU] at hHeld ⊢
  have hsz : U.heap.size = W.heap.size + 1 := by rw [hU]; simp
  rw [← hsz] at a9
  have hBU : Below V.heap.size V U := by rw [hU]; exact below_then hL.1 hL.1.size (below_alloc (Below.refl _ _) _)
  have f6 := below_then hBU hBU.size (below_alloc (Below.refl U.heap.size U) (Obj.map #[] 0))
  obtain ⟨T, hT⟩ : ∃ T, T = W.heap.size := ⟨_, rfl⟩
  rw [← hT] at a9 ⊢
  obtain ⟨mA, hmA⟩ : ∃ mA, mA = U.heap.size := ⟨_, rfl⟩
  rw [← hmA] at a9
  have b2 := later (below_alloc (Below.refl U.heap.size U) (Obj.map #[] 0)) hHeld.2.2
  have e9 := Aside0.mk (show V.heap.size ≤ s 3 ∧ V.heap.size ≤ mA from ⟨(hL.2 3 (by decide)).1, by rw [hmA]; exact hBU.size⟩)
  have a3 := Aside0.mk a9
  have f7 := Aside0.mk f6
  clear a9 hBU f6 hL hHeld hU hsz hT
  go_wp2
  rw [← hmA]
  clear b2 hmA
  generalize (U.alloc (Obj.map #[] 0)) = U1 at a3 f7 ⊢
  go_loopw [29] (fun i wr => ∃ (k : Nat) (cls : Nat → Cl) (vs : List Value) (f : Int × Int → Option Value) (c : Nat), k ≤ es.length ∧ i = .int .i64 k ∧ Aside0 (BegI V.heap.size T (s 3) mA wr cls (sgZ n s (.slice A1 ls.length c1) (.slice A2 es.length c2)) vs (insL n (es.take k)) f c) ∧ Aside0 (∀ q, ptOk q → f q = encZ (cntL (es.take k) q)) ∧ Aside0 (Below V.heap.size V wr)) (fun i _ => es.length - (intOf i).toNat)
  case atStart => exact ⟨0, _, _, _, _, Nat.zero_le _, rfl, a3, ⟨fun q hq => rfl⟩, f7⟩
  case round =>
    clear a3 f7
    obtain ⟨k, cls, vs, f, c, hk, rfl, HI, HF, HBr⟩ := hrel
    by_cases hlt : k < es.length
    · obtain ⟨ad, hA, g0, g1, g2⟩ := atE (Kd.C_below n8.out HBw.out) k hlt
      subst hA
      replace g0 := later HBr.out g0
      replace g1 := later HBr.out g1
      replace g2 := later HBr.out g2
      obtain ⟨x, hx⟩ : ∃ x, x = es.getD k z80 := ⟨_, rfl⟩
      have hxm : x ∈ es := by rw [hx, List.getD_eq_getElem?_getD, List.getElem?_eq_getElem hlt]; exact List.getElem_mem hlt
      have i9 := Aside0.mk (show es.take (k + 1) = es.take k ++ [x] by rw [take_snoc z80 hlt, ← hx])
      rw [← hx] at g0 g1 g2
      have hxe := HEs.out x hxm
      obtain ⟨i, hi, i2⟩ := hxe.2.2.nat
      have i0 : (0 : Int) ≤ (i : Int) := by omega
      have i1 : (i : Int) < (n : Int) := by omega
      rw [hi] at g2
      have HXi := Aside0.mk hi
      have HXe := Aside0.mk hxe
      clear hx hxm hi hxe
      go_wp2_with fail
      clear g0 g1 g2
      obtain ⟨E, hE⟩ : ∃ E, E = wr.heap.size := ⟨_, rfl⟩
      rw [← hE]
      have f9 := below_drew1 (below_alloc (Below.refl wr.heap.size wr) (Obj.cells #[Value.int IntKind.i64 x.f0, Value.int IntKind.i64 x.f1, Value.int IntKind.i64 (i : Int)] 80))
      have e0 := (blk_cell (blk_new wr (Obj.cells #[Value.int IntKind.i64 x.f0, Value.int IntKind.i64 x.f1, Value.int IntKind.i64 (i : Int)] 80)) 0).trans rfl
      have e1 := (blk_cell (blk_new wr (Obj.cells #[Value.int IntKind.i64 x.f0, Value.int IntKind.i64 x.f1, Value.int IntKind.i64 (i : Int)] 80)) 1).trans rfl
      have e2 := (blk_cell (blk_new wr (Obj.cells #[Value.int IntKind.i64 x.f0, Value.int IntKind.i64 x.f1, Value.int IntKind.i64 (i : Int)] 80)) 2).trans rfl
      rw [← hE] at e0 e1 e2
      have hlen := insL_len n (es.take k)
      have hnE : some E ≠ (vs.getD i nilS).ownBlock := fun h => absurd (Kd.R_lt (HI.out.tab.row i (by rw [HI.out.tab.len, hlen]; exact i2)) E h.symm) (by rw [hE]; exact Nat.lt_irrefl _)
      have HEg := Aside0.mk (show s 3 < E ∧ mA < E from by rw [hE]; exact ⟨HI.out.tab.lt, HI.out.all.lt_⟩)
      have a0 := Aside0.mk (HI.out.below f9)
      have a1 := Aside0.mk (below_then HBr.out HBr.out.size f9)
      obtain ⟨Ar, cr, hv, a6, _⟩ := a0.out.tab.read i (by rw [hlen]; exact i2)
      obtain ⟨zs, hzs⟩ : ∃ zs, zs = (insL n (es.take k)).getD i [] := ⟨_, rfl⟩
      have hzl : zs.length ≤ 1000000 := by
        rw [hzs, insL_at _ i2]
        exact Nat.le_trans (List.length_filter_le _ _) (by rw [List.length_take]; omega)
      rw [← hzs] at hv a6
      have HN := Aside0.mk hnE
      have HZ := Aside0.mk hzs
      have HV := Aside0.mk hv
      clear hnE hE hzs hv HI HBr f9
      generalize (wr.alloc (Obj.cells #[Value.int IntKind.i64 x.f0, Value.int IntKind.i64 x.f1, Value.int IntKind.i64 (i : Int)] 80)) = X at a0 a1 a6 e0 e1 e2 ⊢
      refine start_ (n := 19) (S := fun w' => w'.cell? ⟨T, 3, none⟩ = some (.slice (some ⟨s 3, 0, none⟩) n n) ∧ w'.cell? ⟨E, 0, none⟩ = some (.int .i64 x.f0) ∧ w'.cell? ⟨E, 1, none⟩ = some (.int .i64 x.f1) ∧ w'.cell? ⟨E, 2, none⟩ = some (.int .i64 (i : Int)) ∧ w'.cell? ⟨s 3, i, none⟩ = some (.slice Ar zs.length cr)) (ds := [18]) #[false, false, false, false, false, false, false, false, false, false, false, false, false, false, false, false, false, false, false] (by kernel_rfl) rfl rfl ⟨a0.out.t3, e0, e1, e2, a6⟩ (fun hHeld => ?_)
      generalize X.drew = Y at a0 a1 hHeld a6 ⊢; clear e0 e1 e2 a6; have a2 := Aside0.mk hHeld
      refine pure_ (i := 0) (N := some 33) (v := ?_) (a' := ?_) #[true, false, false, false, false, false, false, false, false, false, false, false, false, false, false, false, false, false, false] rfl rfl (by kernel_rfl) (fun _ _ _ h => h) (Or.inl ⟨by rfl, ?_⟩) ?_ ?_
      rotate_left
      · intro w'
        go_simp
        with_reducible rfl
      rotate_left
      · simp only [Act.put, List.setIfInBounds_toArray, List.set_cons_zero, List.set_cons_succ, i64_w, i32_w]
        rfl
      refine pure_ (i := 1) (N := some 34) (v := ?_) (a' := ?_) #[true, true, false, false, false, false, false, false, false, false, false, false, false, false, false, false, false, false, false] rfl rfl (by kernel_rfl) (fun _ _ _ h => h) (Or.inl ⟨by rfl, ?_⟩) ?_ ?_
      rotate_left
      · intro w'
        go_simp
        with_reducible rfl
      rotate_left
      · simp only [Act.put, List.setIfInBounds_toArray, List.set_cons_zero, List.set_cons_succ, i64_w, i32_w]
        rfl
      refine pure_ (i := 2) (N := some 35) (v := ?_) (a' := ?_) #[true, true, true, false, false, false, false, false, false, false, false, false, false, false, false, false, false, false, false] rfl rfl (by kernel_rfl) (fun _ _ _ h => h) (Or.inl ⟨by rfl, ?_⟩) ?_ ?_
      rotate_left
      · intro w'
        go_simp
        with_reducible rfl
      rotate_left
      · simp only [Act.put, List.setIfInBounds_toArray, List.set_cons_zero, List.set_cons_succ, i64_w, i32_w]
        rfl
      refine pure_ (i := 4) (N := some 37) (v := ?_) (a' := ?_) #[true, true, true, false, true, false, false, false, false, false, false, false, false, false, false, false, false, false, false] rfl rfl (by kernel_rfl) (fun _ _ _ h => h) (Or.inl ⟨by rfl, ?_⟩) ?_ ?_
      rotate_left
      · intro w'
        go_simp
        with_reducible rfl
      rotate_left
      · simp only [Act.put, List.setIfInBounds_toArray, List.set_cons_zero, List.set_cons_succ, i64_w, i32_w]
        rfl
      refine pure_ (i := 6) (N := some 39) (v := ?_) (a' := ?_) #[true, true, true, false, true, false, true, false, false, false, false, false, false, false, false, false, false, false, false] rfl rfl (by kernel_rfl) (fun _ _ _ h => h) (Or.inl ⟨by rfl, ?_⟩) ?_ ?_
      rotate_left
      · intro w'
        go_simp
        with_reducible rfl
      rotate_left
      · simp only [Act.put, List.setIfInBounds_toArray, List.set_cons_zero, List.set_cons_succ, i64_w, i32_w]
        rfl
      refine pure_ (i := 7) (N := some 40) (v := ?_) (a' := ?_) #[true, true, true, false, true, false, true, true, false, false, false, false, false, false, false, false, false, false, false] rfl rfl (by kernel_rfl) (fun _ _ _ h => h) (Or.inl ⟨by rfl, ?_⟩) ?_ ?_
      rotate_left
      · intro w'
        go_simp
        with_reducible rfl
      rotate_left
      · simp only [Act.put, List.setIfInBounds_toArray, List.set_cons_zero, List.set_cons_succ, i64_w, i32_w]
        rfl
      refine pure_ (i := 8) (N := some 41) (v := ?_) (a' := ?_) #[true, true, true, false, true, false, true, true, true, false, false, false, false, false, false, false, false, false, false] rfl rfl (by kernel_rfl) (fun _ _ _ h => h) (Or.inl ⟨by rfl, ?_⟩) ?_ ?_
      rotate_left
      · intro w'
        go_simp
        with_reducible rfl
      rotate_left
      · simp only [Act.put, List.setIfInBounds_toArray, List.set_cons_zero, List.set_cons_succ, i64_w, i32_w]
        rfl
      refine pure_ (i := 10) (N := some 43) (v := ?_) (a' := ?_) #[true, true, true, false, true, false, true, true, true, false, true, false, false, false, false, false, false, false, false] rfl rfl (by kernel_rfl) (fun _ _ _ h => h) (Or.inl ⟨by rfl, ?_⟩) ?_ ?_
      rotate_left
      · intro w'
        go_simp
        with_reducible rfl
      rotate_left
      · simp only [Act.put, List.setIfInBounds_toArray, List.set_cons_zero, List.set_cons_succ, i64_w, i32_w]
        rfl
      refine take_ (i := 3) (N := some 36) (v := ?_) (a' := ?_) #[true, true, true, true, true, false, true, true, true, false, true, false, false, false, false, false, false, false, false] rfl rfl (by kernel_rfl) (fun _ _ _ h => h) (Or.inl ⟨by rfl, ?_⟩) hHeld ?_ ?_
      rotate_left
      · rintro w' ⟨s0, s1, s2, s3, s4⟩
        go_simp
        with_reducible rfl
      rotate_left
      · simp only [Act.put, List.setIfInBounds_toArray, List.set_cons_zero, List.set_cons_succ, i64_w, i32_w]
        rfl
      refine take_ (i := 5) (N := some 38) (v := ?_) (a' := ?_) #[true, true, true, true, true, true, true, true, true, false, true, false, false, false, false, false, false, false, false] rfl rfl (by kernel_rfl) (fun _ _ _ h => h) (Or.inl ⟨by rfl, ?_⟩) hHeld ?_ ?_
      rotate_left
      · rintro w' ⟨s0, s1, s2, s3, s4⟩
        go_simp
        with_reducible rfl
      rotate_left
      · simp only [Act.put, List.setIfInBounds_toArray, List.set_cons_zero, List.set_cons_succ, i64_w, i32_w]
        rfl
      refine take_ (i := 9) (N := some 42) (v := ?_) (a' := ?_) #[true, true, true, true, true, true, true, true, true, true, true, false, false, false, false, false, false, false, false] rfl rfl (by kernel_rfl) (fun _ _ _ h => h) (Or.inl ⟨by rfl, ?_⟩) hHeld ?_ ?_
      rotate_left
      · rintro w' ⟨s0, s1, s2, s3, s4⟩
        go_simp
        with_reducible rfl
      rotate_left
      · simp only [Act.put, List.setIfInBounds_toArray, List.set_cons_zero, List.set_cons_succ, i64_w, i32_w]
        rfl
      refine take_ (i := 11) (N := some 44) (v := ?_) (a' := ?_) #[true, true, true, true, true, true, true, true, true, true, true, true, false, false, false, false, false, false, false] rfl rfl (by kernel_rfl) (fun _ _ _ h => h) (Or.inl ⟨by rfl, ?_⟩) hHeld ?_ ?_
      rotate_left
      · rintro w' ⟨s0, s1, s2, s3, s4⟩
        go_simp
        with_reducible rfl
      rotate_left
      · simp only [Act.put, List.setIfInBounds_toArray, List.set_cons_zero, List.set_cons_succ, i64_w, i32_w]
        rfl
      refine pure_ (i := 12) (N := some 45) (v := ?_) (a' := ?_) #[true, true, true, true, true, true, true, true, true, true, true, true, true, false, false, false, false, false, false] rfl rfl (by kernel_rfl) (fun _ _ _ h => h) (Or.inl ⟨by rfl, ?_⟩) ?_ ?_
      rotate_left
      · intro w'
        go_simp
        with_reducible rfl
      rotate_left
      · simp only [Act.put, List.setIfInBounds_toArray, List.set_cons_zero, List.set_cons_succ, i64_w, i32_w]
        rfl
      refine take_ (i := 13) (N := some 46) (v := ?_) (a' := ?_) #[true, true, true, true, true, true, true, true, true, true, true, true, true, true, false, false, false, false, false] rfl rfl (by kernel_rfl) (fun _ _ _ h => h) (Or.inl ⟨by rfl, ?_⟩) hHeld ?_ ?_
      rotate_left
      · rintro w' ⟨s0, s1, s2, s3, s4⟩
        go_simp
        with_reducible rfl
      rotate_left
      · simp only [Act.put, List.setIfInBounds_toArray, List.set_cons_zero, List.set_cons_succ, i64_w, i32_w]
        rfl
      refine take_ (i := 14) (N := some 47) (v := ?_) (a' := ?_) #[true, true, true, true, true, true, true, true, true, true, true, true, true, true, true, false, false, false, false] rfl rfl (by kernel_rfl) (fun _ _ _ h => h) (Or.inl ⟨by rfl, ?_⟩) hHeld ?_ ?_
      rotate_left
      · rintro w' ⟨s0, s1, s2, s3, s4⟩
        go_simp
        with_reducible rfl
      rotate_left
      · simp only [Act.put, List.setIfInBounds_toArray, List.set_cons_zero, List.set_cons_succ, i64_w, i32_w]
        rfl
      refine one_ (i := 15) (N := some 48) #[true, true, true, true, true, true, true, true, true, true, true, true, true, true, true, true, false, false, false] rfl rfl (by kernel_rfl) (by decide) (fun K hK => ?_)
      refine value_ (w1 := ?_) (v := ?_) (by rfl) rfl ?_ ?_
      rotate_left 2
      · go_simp
        constructor
        · rfl
        · rfl
      refine hK.out _ _ ⟨later (below_alloc (Below.refl _ _) _) hHeld.1, later (below_alloc (Below.refl _ _) _) hHeld.2.1, later (below_alloc (Below.refl _ _) _) hHeld.2.2.1, later (below_alloc (Below.refl _ _) _) hHeld.2.2.2.1, later (below_alloc (Below.refl _ _) _) hHeld.2.2.2.2⟩ (fun hHeld => ?_)
      clear hK K
      refine norm_ (a' := ?_) ?_ ?_
      rotate_left
      · show Act.put _ (some 48) _ = _
        simp only [Act.put, List.setIfInBounds_toArray, List.set_cons_zero, List.set_cons_succ, i64_w, i32_w]
        rfl
      refine one_ (i := 16) (N := some 49) #[true, true, true, true, true, true, true, true, true, true, true, true, true, true, true, true, true, false, false] rfl rfl (by kernel_rfl) (by decide) (fun K hK => ?_)
      refine Kd.R_append_step k80 (w0 := V) V.heap.size (by rfl) (.tmp 46) (.tmp 48) 23 80 (.agg #[(.int .i64 0), (.int .i64 0), (.int .i64 0)]) 24 rfl Try.underlying23 info80 rfl (by decide) (by omega) (.slice Ar zs.length cr) zs x [.int .i64 x.f0, .int .i64 x.f1, .int .i64 (i : Int)] (fun _ => True) (fun _ => False) rfl rfl ?aP (fun _ hk => hk.elim) ?aF ?aO ?aB ?aS ?aL ?_
      (case aP => rw [← HXi.out]; exact k80_mkM _ _ _ x)
      (case aF => exact fun _ _ => trivial)
      (case aO => rw [← HV.out, HZ.out]; exact a0.out.tab.row i (by rw [a0.out.tab.len, hlen]; exact i2))
      (case aB => exact a1.out)
      (case aS => exact a1.out.size)
      (case aL => omega)
      intro v1 w3 ho hb hg hat
      obtain ⟨A4, c4, l6⟩ := Kd.R_slice ho
      subst l6
      have HO := Aside0.mk ho
      have HG := Aside0.mk hg
      have HAt := Aside0.mk hat
      have h4 := Aside0.mk hb
      have hneT : some T ≠ (Value.slice Ar zs.length cr).ownBlock := by rw [← HV.out]; exact Kd.R_ne (a0.out.tab.row i (by rw [a0.out.tab.len, hlen]; exact i2)) a0.out.tt.1 (by decide)
      have hneH : some (s 3) ≠ (Value.slice Ar zs.length cr).ownBlock := by rw [← HV.out]; exact Kd.R_ne (a0.out.tab.row i (by rw [a0.out.tab.len, hlen]; exact i2)) a0.out.tab.blk (by decide)
      have hneE : some E ≠ (Value.slice Ar zs.length cr).ownBlock := by rw [← HV.out]; exact HN.out
      have fz := Tab.frozen a0.out.tab i hg hneH
      rw [List.length_append, List.length_singleton]
      clear ho hb hg hat
      refine hK.out _ _ ⟨Go.Proofs.YtmcbkmfpmcbdpaaW.PrintWords.cell_grown HG.out a2.out.1 hneT, Go.Proofs.YtmcbkmfpmcbdpaaW.PrintWords.cell_grown HG.out a2.out.2.1 hneE, Go.Proofs.YtmcbkmfpmcbdpaaW.PrintWords.cell_grown HG.out a2.out.2.2.1 hneE, Go.Proofs.YtmcbkmfpmcbdpaaW.PrintWords.cell_grown HG.out a2.out.2.2.2.1 hneE, Go.Proofs.YtmcbkmfpmcbdpaaW.PrintWords.cell_grown HG.out a2.out.2.2.2.2 hneH⟩ (fun hHeld => ?_)
      clear hK K
      refine norm_ (a' := ?_) ?_ ?_
      rotate_left
      · show Act.put _ (some 49) _ = _
        simp only [Act.put, List.setIfInBounds_toArray, List.set_cons_zero, List.set_cons_succ, i64_w, i32_w]
        rfl
      refine pure_ (i := 17) (N := some 50) (v := ?_) (a' := ?_) #[true, true, true, true, true, true, true, true, true, true, true, true, true, true, true, true, true, true, false] rfl rfl (by kernel_rfl) (fun _ _ _ h => h) (Or.inl ⟨by rfl, ?_⟩) ?_ ?_
      rotate_left
      · intro w'
        go_simp
        with_reducible rfl
      rotate_left
      · simp only [Act.put, List.setIfInBounds_toArray, List.set_cons_zero, List.set_cons_succ, i64_w, i32_w]
        rfl
      refine last_ (i := 18) (N := none) #[true, true, true, true, true, true, true, true, true, true, true, true, true, true, true, true, true, true, true] rfl rfl (by kernel_rfl) (by decide) (fun K hK => ?_)
      refine skip_ (w1 := ?_) (by rfl) rfl ?_ ?_
      rotate_left
      · go_simp
        rfl
      refine hK.out _ _ ?_
      clear hK K
      refine done_ (by kernel_rfl) ?_
      have h6 := a0.out.app (i := i) (by rw [insL_len]; exact i2) (x := x) (v1 := .slice A4 (zs.length + 1) c4) (w3 := w3) (by rw [← HZ.out]; simpa using HO.out) (by rw [HV.out]; exact HG.out) (by rw [HV.out]; simpa using HAt.out)
      rw [← insL_snoc _ x i2 HXi.out, ← i9.out] at h6
      have d6 := Aside0.mk h6
      have d3 := Aside0.mk (below_set (g := s 3) (j := i) (v := .slice A4 (zs.length + 1) c4) h4.out e9.out.1)
      have e0 := (World.cell?_of_block (w := w3) (w' := w3.setCell ⟨s 3, i, none⟩ (.slice A4 (zs.length + 1) c4)) (a := ⟨E, 0, none⟩) (Below.heap_setCell _ _ _ _ (by have := HEg.out.1; show E ≠ s 3; omega))).trans hHeld.2.1
      have e1 := (World.cell?_of_block (w := w3) (w' := w3.setCell ⟨s 3, i, none⟩ (.slice A4 (zs.length + 1) c4)) (a := ⟨E, 1, none⟩) (Below.heap_setCell _ _ _ _ (by have := HEg.out.1; show E ≠ s 3; omega))).trans hHeld.2.2.1
      clear h6 a0 a1 hHeld a2 HO HG HAt h4 hneT hneH hneE fz HN HZ HV
      generalize w3.setCell ⟨s 3, i, none⟩ (.slice A4 (zs.length + 1) c4) = Z at d6 d3 e0 e1 ⊢
      go_wp2_with fail
      have hok : ptOk (x.f0, x.f1) := by
        obtain ⟨h1, h2, h3⟩ := HXe.out
        have := h1.1
        have := h1.2
        exact ⟨by show i64in x.f0; unfold i64in; omega, by show i64in x.f1; unfold i64in; omega⟩
      obtain ⟨z, hz⟩ : ∃ z, z = cntL (es.take k) (x.f0, x.f1) := ⟨_, rfl⟩
      have n7 := cntL_nn (es.take k) (x.f0, x.f1)
      have k7 : (es.take k).length ≤ es.length := by rw [List.length_take]; omega
      rw [← hz] at n7
      have hcn : c < maxLen := by have := cnt_le2 d6.out.all HF.out; unfold maxLen; omega
      have b5 := below_drew1 (Below.refl Z.heap.size Z)
      have e0d := later b5 e0
      have e1d := later b5 e1
      have b4 := Aside0.mk (d6.out.below b5)
      have d4 := Aside0.mk (below_then d3.out d3.out.size b5)
      have HOk := Aside0.mk hok
      have HZ := Aside0.mk hz
      have HCn := Aside0.mk hcn
      have hwz : wrap64 (z + 1) = z + 1 := by unfold wrap64; omega
      have hlook := b4.out.all.get ptKB hok Try.underlying165 (zeroI _)
      rw [HF.out _ hok, encZ_get, ← hz] at hlook
      have k4 : (Instr.lookup 165 (.map (some mA)) (.agg #[.int .i64 x.f0, .int .i64 x.f1]) false).run Try.prog Z.drew = .ok (.int .i64 z) Z.drew := hlook
      have HME := Aside0.mk (show E ≠ mA from by have := HEg.out.2; omega)
      clear hlook hok hz hcn b5 e0 e1 d6 d3 k7
      refine start_ (n := 11) (S := fun w' => w'.cell? ⟨E, 0, none⟩ = some (.int .i64 x.f0) ∧ w'.cell? ⟨E, 1, none⟩ = some (.int .i64 x.f1) ∧ (Instr.lookup 165 (.map (some mA)) (.agg #[.int .i64 x.f0, .int .i64 x.f1]) false).run Try.prog w' = .ok (.int .i64 z) w') (ds := [10]) #[false, false, false, false, false, false, false, false, false, false, false] (by kernel_rfl) rfl rfl ⟨e0d, e1d, k4⟩ (fun hHeld => ?_)
      clear e0d e1d k4
      generalize Z.drew = Y2 at b4 d4 hHeld ⊢
      obtain ⟨v0, st, w5, hrun, i5, k6, g9, h8⟩ := b4.out.all.entry ptKB pt_law HOk.out Try.underlying165 zeroI HCn.out
      have HRun := Aside0.mk hrun
      have b3 := Aside0.mk i5
      have HLk := Aside0.mk g9
      have HSt := Aside0.mk h8
      have HH := Aside0.mk hHeld
      clear hrun i5 k6 g9 h8
      refine pure_ (i := 0) (N := some 51) (v := ?_) (a' := ?_) #[true, false, false, false, false, false, false, false, false, false, false] rfl rfl (by kernel_rfl) (fun _ _ _ h => h) (Or.inl ⟨by rfl, ?_⟩) ?_ ?_
      rotate_left
      · intro w'
        go_simp
        with_reducible rfl
      rotate_left
      · simp only [Act.put, List.setIfInBounds_toArray, List.set_cons_zero, List.set_cons_succ, i64_w, i32_w]
        rfl
      refine pure_ (i := 1) (N := some 52) (v := ?_) (a' := ?_) #[true, true, false, false, false, false, false, false, false, false, false] rfl rfl (by kernel_rfl) (fun _ _ _ h => h) (Or.inl ⟨by rfl, ?_⟩) ?_ ?_
      rotate_left
      · intro w'
        go_simp
        with_reducible rfl
      rotate_left
      · simp only [Act.put, List.setIfInBounds_toArray, List.set_cons_zero, List.set_cons_succ, i64_w, i32_w]
        rfl
      refine pure_ (i := 3) (N := some 54) (v := ?_) (a' := ?_) #[true, true, false, true, false, false, false, false, false, false, false] rfl rfl (by kernel_rfl) (fun _ _ _ h => h) (Or.inl ⟨by rfl, ?_⟩) ?_ ?_
      rotate_left
      · intro w'
        go_simp
        with_reducible rfl
      rotate_left
      · simp only [Act.put, List.setIfInBounds_toArray, List.set_cons_zero, List.set_cons_succ, i64_w, i32_w]
        rfl
      refine take_ (i := 2) (N := some 53) (v := ?_) (a' := ?_) #[true, true, true, true, false, false, false, false, false, false, false] rfl rfl (by kernel_rfl) (fun _ _ _ h => h) (Or.inl ⟨by rfl, ?_⟩) hHeld ?_ ?_
      rotate_left
      · rintro w' ⟨s0, s1, s2⟩
        go_simp
        with_reducible rfl
      rotate_left
      · simp only [Act.put, List.setIfInBounds_toArray, List.set_cons_zero, List.set_cons_succ, i64_w, i32_w]
        rfl
      refine take_ (i := 4) (N := some 55) (v := ?_) (a' := ?_) #[true, true, true, true, true, false, false, false, false, false, false] rfl rfl (by kernel_rfl) (fun _ _ _ h => h) (Or.inl ⟨by rfl, ?_⟩) hHeld ?_ ?_
      rotate_left
      · rintro w' ⟨s0, s1, s2⟩
        go_simp
        with_reducible rfl
      rotate_left
      · simp only [Act.put, List.setIfInBounds_toArray, List.set_cons_zero, List.set_cons_succ, i64_w, i32_w]
        rfl
      refine pure_ (i := 5) (N := some 56) (v := ?_) (a' := ?_) #[true, true, true, true, true, true, false, false, false, false, false] rfl rfl (by kernel_rfl) (fun _ _ _ h => h) (Or.inl ⟨by rfl, ?_⟩) ?_ ?_
      rotate_left
      · intro w'
        go_simp
        with_reducible rfl
      rotate_left
      · simp only [Act.put, List.setIfInBounds_toArray, List.set_cons_zero, List.set_cons_succ, i64_w, i32_w]
        rfl
      refine take_ (i := 6) (N := some 57) (v := ?_) (a' := ?_) #[true, true, true, true, true, true, true, false, false, false, false] rfl rfl (by kernel_rfl) (fun _ _ _ h => h) (Or.inl ⟨by rfl, ?_⟩) hHeld ?_ ?_
      rotate_left
      · rintro w' ⟨s0, s1, s2⟩
        go_simp
        with_reducible rfl
      rotate_left
      · simp only [Act.put, List.setIfInBounds_toArray, List.set_cons_zero, List.set_cons_succ, i64_w, i32_w]
        rfl
      refine pure_ (i := 7) (N := some 58) (v := ?_) (a' := ?_) #[true, true, true, true, true, true, true, true, false, false, false] rfl rfl (by kernel_rfl) (fun _ _ _ h => h) (Or.inl ⟨by rfl, ?_⟩) ?_ ?_
      rotate_left
      · intro w'
        go_simp
        with_reducible rfl
      rotate_left
      · simp only [Act.put, List.setIfInBounds_toArray, List.set_cons_zero, List.set_cons_succ, i64_w, i32_w]
        rfl
      refine one_ (i := 8) (N := some 59) #[true, true, true, true, true, true, true, true, true, false, false] rfl rfl (by kernel_rfl) (by decide) (fun K hK => ?_)
      refine value_ (w1 := w5) (v := .tuple #[v0, goInt st]) (by rfl) rfl (run_gentry rfl rfl rfl HRun.out) ?_
      refine hK.out _ _ ⟨cell_keep2 b3.out HME.out HH.out.1, cell_keep2 b3.out HME.out HH.out.2.1, (by have h := HLk.out; rw [HF.out _ HOk.out, encZ_get, ← HZ.out] at h; exact h)⟩ (fun hHeld => ?_)
      clear hK K
      refine norm_ (a' := ?_) ?_ ?_
      rotate_left
      · show Act.put _ (some 59) _ = _
        simp only [Act.put, List.setIfInBounds_toArray, List.set_cons_zero, List.set_cons_succ, i64_w, i32_w]
        rfl
      refine pure_ (i := 9) (N := some 60) (v := ?_) (a' := ?_) #[true, true, true, true, true, true, true, true, true, true, false] rfl rfl (by kernel_rfl) (fun _ _ _ h => h) (Or.inl ⟨by rfl, ?_⟩) ?_ ?_
      rotate_left
      · intro w'
        go_simp
        with_reducible rfl
      rotate_left
      · simp only [Act.put, List.setIfInBounds_toArray, List.set_cons_zero, List.set_cons_succ, i64_w, i32_w]
        rfl
      refine last_ (i := 10) (N := none) #[true, true, true, true, true, true, true, true, true, true, true] rfl rfl (by kernel_rfl) (by decide) (fun K hK => ?_)
      obtain ⟨w6, d8, f4, h5, k8⟩ := HSt.out w5 (.int .i64 (z + 1)) rfl
      refine skip_ (w1 := w6) (by rfl) rfl (run_gstore rfl rfl rfl ?hv d8) ?_
      (case hv => go_simp)
      have k3 := Aside0.mk f4
      have HGG := Aside0.mk h5
      clear d8 f4 h5 k8
      refine hK.out _ _ ?_
      clear hK K
      refine done_ (by kernel_rfl) ?_
      have l3 := Aside0.mk (b4.out.count k3.out (b3.out.trans HGG.out))
      have o1 := Aside0.mk (d4.out.grown (b3.out.trans HGG.out) d4.out.size (fun q e => by cases e; exact e9.out.2))
      clear b4 d4 b3 k3 HGG HRun HLk HSt HH hHeld
      go_wp2
      go_roundw
      case rel =>
        refine ⟨k + 1, _, _, _, _, by omega, by go_num, l3, ⟨fun q hq => ?_⟩, o1⟩
        rw [i9.out, cntL_snoc]
        unfold putM
        by_cases hqe : q = (x.f0, x.f1)
        · rw [if_pos hqe, if_pos hqe, hqe, ← HZ.out]
          unfold encZ
          rw [if_neg (by omega)]
        · rw [if_neg hqe, if_neg hqe]
          exact HF.out q hq
      case measure => simp [intOf]; omega
    · have ek : es.take k = es := List.take_of_length_le (by omega)
      rw [ek] at HI HF
      have b0 := later HBr.out HVb.out.1
      obtain ⟨wo, hwo⟩ : ∃ wo, wo = wr := ⟨_, rfl⟩
      subst hwo
      go_wp2
      clear b0 ek hk hlt
      go_loopw [5, 64] (fun v i wr => ∃ (k : Nat), k ≤ n ∧ i = .int .i64 k ∧ Aside0 (Kd.R (Kd.int .i64) 3 wr wo.heap.size (fun _ => True) v ((List.range k).map fun j : Nat => (j : Int))) ∧ Aside0 (Below wo.heap.size wo wr)) (fun _ i _ => n - (intOf i).toNat)
      case atStart => exact ⟨0, Nat.zero_le _, rfl, ⟨Kd.R_nil _ _ _ _ _⟩, ⟨Below.refl _ _⟩⟩
      case round =>
        obtain ⟨k2, k0, rfl, HR, HBx⟩ := hrel
        by_cases hlt2 : k2 < n
        · obtain ⟨zs, hzs⟩ : ∃ zs, zs = (List.range k2).map fun j : Nat => (j : Int) := ⟨_, rfl⟩
          have HZl := Aside0.mk (show zs.length = k2 by rw [hzs]; simp)
          rw [← hzs] at HR
          have HZs := Aside0.mk hzs
          clear hzs
          go_wp2_with (at_builtin; refine Kd.R_append (Kd.int .i64) (w0 := wo) wo.heap.size rfl (.tmp 67) (.tmp 69) 28 3 (.int .i64 0) 8 rfl Try.underlying28 infoI rfl (by decide) (by omega) _ zs (k2 : Int) [.int .i64 (k2 : Int)] (fun _ => True) (fun _ => False) rfl rfl rfl (fun _ hk => hk.elim) (fun _ _ => trivial) HR.out HBx.out HBx.out.size (by rw [HZl.out]; omega) ?_; intro v9 w9 ho hb hg hat; have n5 := Aside0.mk ho; have n3 := Aside0.mk hb; clear ho hb hg hat)
          go_roundw
          case rel =>
            refine ⟨k2 + 1, by omega, by go_num, ⟨?_⟩, n3⟩
            have h := n5.out
            rw [HZs.out] at h
            rw [List.range_succ, List.map_append]
            exact h
          case measure => simp [intOf]; omega
        · have g3 : n = k2 := by omega
          subst g3
          obtain ⟨gN, cN, hvN, hgb, hgl, _⟩ := Kd.R_form HR.out (by simpa using d5)
          rw [List.length_map, List.length_range] at hvN
          have hN := HR.out
          rw [hvN] at hN
          subst hvN
          have HN := Aside0.mk hN
          have HTw := Aside0.mk (blk_lt HI.out.tt.1)
          clear k0 hlt2 hN HR hgb
          have hbT := blk_below (blk_below HI.out.tt.1 HBx.out) (below_alloc (Below.refl wr.heap.size wr) (Obj.cells #[.slice (some ⟨gN, 0, none⟩) n cN] 28))
          have t5 := (blk_cell hbT 5).trans (show _ = some (.slice none 0 0) from rfl)
          have f5 := blk_frozen (i := 5) hbT
          have HbT := Aside0.mk hbT
          have d2 : i64in (0 : Int) := by unfold i64in; omega
          have j2 := Aside0.mk d2
          clear hbT d2
          obtain ⟨gQ, hgQ⟩ : ∃ gQ, gQ = wr.heap.size := ⟨_, rfl⟩
          have HGQ := Aside0.mk hgQ
          clear hgQ
          go_wp2_with (first
            | (refine wpList_st1 rfl _ _ _ rfl T 5 (.slice (some ⟨wr.heap.size, 0, none⟩) 1 1) rfl rfl rfl ⟨_, t5⟩ f5 sizeSSI ?_
               intro a8 b7
               have i4 := Aside0.mk b7
               have g8 := Aside0.mk (GM.made Try.prog 3 ik i64in a8)
               have a4 := set_at (i := 5) (v := .slice (some ⟨wr.heap.size, 0, none⟩) 1 1) HbT.out
               rw [← b7] at a4
               have f3 := Aside0.mk (blk_below a4 (below_alloc (Below.refl a8.heap.size a8) (Obj.map #[] 0)))
               have b9 := Aside0.mk (blk_lt a4)
               clear b7 t5 f5 a4)
            | (refine wpList_gins _ intKB rfl _ _ _ 87 rfl 165 Try.underlying87 a8.heap.size 0 (fun _ => none) rfl g8.out (by unfold maxLen; omega) 0 j2.out (.map (some mA)) rfl rfl ?_
               intro o6 hgm hgg hsz
               have HGM := Aside0.mk hgm
               have HGG := Aside0.mk hgg
               have b6 := (hgg.block T (by have := b9.out; simp; omega) (by intro e; cases e; exact absurd b9.out (Nat.lt_irrefl _))).trans f3.out
               have t8 := (blk_cell b6 8).trans (show _ = some (.map none) from rfl)
               have f8 := blk_frozen (i := 8) b6
               clear hgm hgg hsz b6)
            | (refine wpList_st1 rfl _ _ _ rfl T 8 (.map (some a8.heap.size)) rfl rfl rfl ⟨_, t8⟩ f8 sizeMM ?_
               intro o8 f2
               have hend := HI.out.end_ HF.out e9.out.1 e9.out.2 HBr.out.size d5 g5 HBx.out HN.out rfl i4.out rfl HGM.out HGG.out HBr.out
               rw [← f2] at hend
               obtain ⟨o4, s0, e1, e2, e3, e4, e5, e6, e7, e8⟩ := hend
               have HS0 := Aside0.mk e1
               have j6 := Aside0.mk e2
               have i3 := Aside0.mk e3
               have a3 := Aside0.mk e4
               have o0 := Aside0.mk e5
               have HCm := Aside0.mk (And.intro e6 e7)
               have g7 := Aside0.mk e8
               have b1 := later e8 HVb.out.2.1
               clear f2 e1 e2 e3 e4 e5 e6 e7 e8 t8 f8))
          clear b1 HGM HGG i4 g8 f3 b9 HI HBr HBx HN HTw HGQ HbT j2
          go_loopw [86] (fun i wr => ∃ (k : Nat) (s' : Sg) (cl' : Nat → Cl) (p' : PSt) (wt' : Int → Bool), k ≤ ls.length ∧ i = .int .i64 k ∧ Aside0 (SP V.heap.size T wr cl' s') ∧ Aside0 (Std n (.slice A1 ls.length c1) (.slice A2 es.length c2) s' p') ∧ Aside0 (PW n p') ∧ Aside0 (StdW s' wt') ∧ Aside0 (Wt p' wt') ∧ Aside0 (Same0 s0 s') ∧
            Aside0 (RefB n es (gi p'.block) k) ∧ Aside0 ((∀ x, Nd n x → HP p' x = 0) ∧ p'.heaps.length = 1) ∧ Aside0 (Below V.heap.size V wr)) (fun i _ => ls.length - (intOf i).toNat)
          case atStart =>
            refine ⟨0, s0, o4, pZ n, fun _ => false, Nat.zero_le _, rfl, HS0, j6, ⟨PW.start d5⟩, i3, ⟨Wt.start n⟩, ⟨Same0.refl _⟩, ⟨?_⟩, ⟨fun x _ => ?_, rfl⟩, g7⟩
            · have e : gi (pZ n).block = fun _ => 0 := funext (gi_zero n)
              rw [e]
              exact RefB.start
            · show gi [0] (gi (List.replicate n 0) x) = 0
              rw [gi_zero]
              rfl
          case round =>
            clear HS0 j6 i3 g7
            obtain ⟨k, s', cl', p', wt', hk, rfl, HS, HD, HPw, HW, HWt, HSm, HRb, HPh, HBx⟩ := hrel
            by_cases hlt : k < ls.length
            · have b0 := later (below_then HBx.out HBx.out.size (below_alloc (Below.refl wr.heap.size wr) (Obj.map #[] 0))) HVb.out.1
              have HGz := Aside0.mk (GM.made Try.prog 3 ik i64in wr)
              have HBz := Aside0.mk (below_alloc (Below.refl wr.heap.size wr) (Obj.map #[] 0))
              obtain ⟨m, hm⟩ : ∃ m, m = wr.heap.size := ⟨_, rfl⟩
              go_wp2
              clear b0
              rw [← hm] at HGz ⊢
              have HMm := Aside0.mk hm
              clear hm
              obtain ⟨wb, hwb⟩ : ∃ wb, wb = wr := ⟨_, rfl⟩
              subst hwb
              have hki : i64in (k : Int) := by unfold i64in; omega
              have HKi := Aside0.mk hki
              obtain ⟨m1, m2, m3, m4, m5, m6, m7, m8, m9, j4⟩ := HSm.out
              have g6 := Aside0.mk (show s'.cm.getD 0 0 = mA ∧ 0 < s'.cm.length ∧ s'.fc 0 = f from by rw [m7, m8, HCm.out.1, HCm.out.2]; exact ⟨rfl, by simp, rfl⟩)
              clear hki m1 m2 m3 m4 m5 m6 m7 m8 m9 j4
              go_loopw [92] (fun i wr => ∃ (k2 : Nat) (f1 : Int → Option Value) (d1 : Nat), k2 ≤ n ∧ i = .int .i64 k2 ∧ Aside0 (G1 wr m f1 d1) ∧ Aside0 (∀ a, i64in a → (f1 a).isSome = (decide (0 ≤ a) && decide (a < (k2 : Int)) && decide (cntL es (a, (k : Int)) ≠ 0))) ∧ Aside0 (d1 ≤ k2) ∧ Aside0 (Below wb.heap.size wb wr)) (fun i _ => n - (intOf i).toNat)
              case atStart => exact ⟨0, _, _, Nat.zero_le _, rfl, HGz, ⟨fun a ha => by rw [lt0_false a]; rfl⟩, ⟨Nat.le_refl _⟩, HBz⟩
              case round =>
                clear HGz HBz
                obtain ⟨k2, f1, d1, k0, rfl, HG, d9, d0, HBy⟩ := hrel
                by_cases hlt2 : k2 < n
                · have hk2i : i64in (k2 : Int) := by unfold i64in; omega
                  have m0 := Aside0.mk hk2i
                  obtain ⟨z, hz⟩ : ∃ z, z = cntL es ((k2 : Int), (k : Int)) := ⟨_, rfl⟩
                  have HZ := Aside0.mk hz
                  have hSy := HS.out.below HBy.out
                  have hga : G2 wr mA f (s'.cc 0) := by have h := (hSy (.cmp 0) g6.out.2.1).2.1; rw [g6.out.1, g6.out.2.2] at h; exact h
                  have l1 : (Instr.lookup 165 (.map (some mA)) (.agg #[.int .i64 (k2 : Int), .int .i64 (k : Int)]) false).run Try.prog wr = .ok (.int .i64 z) wr := look_eq ptKB (a := ((k2 : Int), (k : Int))) hga ⟨hk2i, HKi.out⟩ Try.underlying165 (zeroI _) (by rw [HF.out _ ⟨hk2i, HKi.out⟩, ← hz]; exact encZ_get _)
                  have hznn : 0 ≤ z := by rw [hz]; exact (cntL_nn _ _).1
                  clear hz hSy hga hk2i
                  by_cases hz0 : z = 0
                  · have d2 : decide ((0 : Int) < z) = false := by simp; omega
                    have l8 : ¬ (0 : Int) < z := by omega
                    go_wp2
                    go_roundw
                    case rel =>
                      refine ⟨k2 + 1, f1, d1, by omega, by go_num, HG, ⟨fun a ha => ?_⟩, ⟨Nat.le_succ_of_le d0.out⟩, HBy⟩
                      rw [d9.out a ha]
                      by_cases e : a = (k2 : Int)
                      · rw [e, ← HZ.out, hz0]; simp
                      · have : decide (a < (k2 : Int)) = decide (a < ((k2 + 1 : Nat) : Int)) := by
                          rw [decide_eq_decide]; omega
                        rw [this]
                    case measure => simp [intOf]; omega
                  · have d2 : decide ((0 : Int) < z) = true := by simp; omega
                    have l8 : (0 : Int) < z := by omega
                    go_wp2_with (refine wpList_gput _ intKB rfl _ _ _ 88 rfl 3 Try.underlying88 m d1 f1 rfl HG.out (by have := d0.out; unfold maxLen; omega) (k2 : Int) m0.out (.int .i64 1) rfl rfl ?_; intro w8 hgm hgg hsz; have n9 := Aside0.mk hgm; have HGg := Aside0.mk hgg; clear hgm hgg hsz)
                    have o3 := Aside0.mk (HBy.out.grown HGg.out HBy.out.size (fun q e => by cases e; rw [HMm.out]; exact Nat.le_refl _))
                    go_roundw
                    case rel =>
                      refine ⟨k2 + 1, _, _, by omega, by go_num, n9, ⟨fun a ha => ?_⟩, ⟨?_⟩, o3⟩
                      · unfold putM
                        by_cases e : a = (k2 : Int)
                        · rw [if_pos e, e, ← HZ.out]
                          simp [hz0]
                          omega
                        · rw [if_neg e, d9.out a ha]
                          have : decide (a < (k2 : Int)) = decide (a < ((k2 + 1 : Nat) : Int)) := by
                            rw [decide_eq_decide]; omega
                          rw [this]
                      · have := d0.out
                        split <;> omega
                    case measure => simp [intOf]; omega
                · have g3 : n = k2 := by omega
                  subst g3
                  have hX : ∀ a, (decide (0 ≤ a) && decide (a < (n : Int)) && decide (cntL es (a, (k : Int)) ≠ 0)) = true ↔ Nd n a ∧ ∃ e ∈ es, e.f0 = a ∧ e.f1 = (k : Int) := fun a => by
                    simp only [Bool.and_eq_true, decide_eq_true_eq]
                    rw [← cntE_all es (P := fun _ => true) (fun _ => rfl) (a, (k : Int)), cntE_pos]
                    unfold Nd
                    simp
                  obtain ⟨XA, hXA⟩ : ∃ XA : Int → Bool, XA = fun a => (decide (0 ≤ a) && decide (a < (n : Int)) && decide (cntL es (a, (k : Int)) ≠ 0)) := ⟨_, rfl⟩
                  have HX := Aside0.mk (show ∀ a, XA a = true ↔ Nd n a ∧ ∃ e ∈ es, e.f0 = a ∧ e.f1 = (k : Int) from fun a => by rw [hXA]; exact hX a)
                  have HFx := Aside0.mk (show ∀ a, i64in a → (f1 a).isSome = XA a from fun a ha => by rw [hXA]; exact d9.out a ha)
                  have HNx := Aside0.mk (show ∀ a, XA a = true → Nd n a from fun a ha => ((HX.out a).1 ha).1)
                  obtain ⟨d7, b8⟩ : ∃ d7 : Nat → Cl, d7 = fun q => if q = m then .far 200 else cl' q := ⟨_, rfl⟩
                  have hcA : d7 m = .far 200 := by rw [b8]; show (if m = m then _ else _) = _; rw [if_pos rfl]
                  have HCa := Aside0.mk hcA
                  have HS6 := Aside0.mk (HS.out.stay (cls' := d7) (Kept.of_below HBy.out _) fun q hq _ => by rw [b8]; show (if q = m then _ else _) = _; rw [if_neg (by have := HMm.out; omega)])
                  have HBw := Aside0.mk (below_then HBx.out HBx.out.size HBy.out)
                  clear hX hXA b8 hcA d9 d0 HBy HS
                  go_wp2_with (go_at_call 148
                               refine (split_any (X := XA) V wr HS6.out HD.out HPw.out HW.out HWt.out HG.out HCa.out HFx.out HNx.out d5 g5 HBw.out).mono ?_
                               rintro e w6 ⟨rfl, s6, o2, p6, l7, i8, j5, i7, k5, h9, k1, j3, j7, j9, n1, j8⟩
                               have HS7 := Aside0.mk i8
                               have l5 := Aside0.mk j5
                               have n0 := Aside0.mk i7
                               have n6 := Aside0.mk k5
                               have k9 := Aside0.mk h9
                               have l9 := Aside0.mk j8
                               have HM7' := Aside0.mk (HSm.out.trans j9)
                               have l2 := Aside0.mk (HRb.out.label (B' := gi p6.block) fun x y hx hy => by
                                 rw [k1 x y hx hy]
                                 refine and_congr_right fun _ => iff_congr ?_ ?_
                                 · rw [HX.out x]; exact ⟨fun h => h.2, fun h => ⟨hx, h⟩⟩
                                 · rw [HX.out y]; exact ⟨fun h => h.2, fun h => ⟨hy, h⟩⟩)
                               have n4 := Aside0.mk (show (∀ x, Nd n x → HP p6 x = 0) ∧ p6.heaps.length = 1 from ⟨fun x hx => by rw [j3 x hx]; exact HPh.out.1 x hx, by rw [j7]; exact HPh.out.2⟩)
                               clear i8 j5 i7 k5 h9 j8 n1 j9 j3 j7 k1 HS6 HBw HG HFx HNx HCa)
                  go_roundw
                  case rel => exact ⟨k + 1, s6, o2, p6, l7, by omega, by go_num, HS7, l5, n0, n6, k9, HM7', l2, n4, l9⟩
                  case measure => simp [intOf]; omega
            · have ek : ls.length = k := by omega
              subst ek
              go_wp2
              go_ret
              have o5 := HSm.out
              obtain ⟨m1, m2, m3, m4, m5, m6, m7, m8, m9, j4⟩ := HSm.out
              refine ⟨T, s', cl', p', wt', rfl, ⟨HS.out.lower a1.out.size, HD.out, HPw.out, HW.out, HWt.out, ⟨by rw [m2]; exact a3.out.len, fun i hi => by rw [m3]; exact a3.out.ins i hi⟩, ?_, ?_⟩, below_then a1.out a1.out.size HBx.out⟩
              · rw [HPh.out.2]
                exact o0.out.congr m5 m7 m8 m9 fun e he => HPh.out.1 _ (HEs.out e he).2.2
              · exact RefB.end_ HRb.out (h0 := 0) HPh.out.1 HEs.out
end Go.Proofs.Ytmcbkmfpmcbdpaa.H
set_option linter.unusedVariables false
set_option linter.unusedSimpArgs false
set_option linter.unusedSectionVars false
namespace Go.Proofs.Ytmcbkmfpmcbdpaa.H
open Go.RowKit Go.Proofs.Ytmcbkmfpmcbdpaa.Pr Go.Proofs.YtmcbkmfpmcbdpaaW.PrintWords Go.Proofs.Ytmcbkmfpmcbdpaa.Sem Go.Proofs.YtmcbkmfpmcbdpaaW.PrintLast
theorem wpList_gdel {α : Type} [DecidableEq α] {P : Program} {k : TypeId} {mk : α → Value} {lt : α → Lit} {ok : α → Prop} (w : World) {ops : Array Oper} {rest : List Oper} {o : Oper} {a : Act} {Q : Exit → Act → World → Prop} (B : KB P k mk lt ok) (hg : o.guard = none) (x y : Operand) (t : TypeId)
  (hop : o.op = Op.call { callee := Callee.builtin Builtin.delete, args := #[x, y], argTypes := #[t, k] }) (e : TypeId) (ht : P.underlying t = some (.map k e)) (m c : Nat) (f : α → Option Value) (hm : a.eval x = .map (some m)) (h : GM P k lt ok w m f c) (b : α) (hb : ok b) (hy : a.eval y = mk b)
  (hK : ∀ w' c', c' ≤ c → GM P k lt ok w' m (delM f b) c' → w.grownBy w' (some m) → w'.heap.size = w.heap.size → wpList P ops Q rest (a.put o.dst (.tuple #[])) w') :
  wpList P ops Q (o :: rest) a w := by
 refine wpList_plain hg fun K' hK' => ?_
 obtain ⟨w', hrun, ⟨c', hc, r1⟩, r2, r3⟩ := h.del B hb ht o.type
 unfold Oper.wp
 simp [execOp, hop, resolve, invoke, builtin, hm, hy, hrun, Result.andThen]
 exact hK' _ _ (hK w' c' hc r1 r2 r3)
theorem IR.one (w : World) (base : Nat) (cls : Nat → Cl) (c : Cl) (y : Int) (hb : base ≤ w.heap.size) : IR (w.alloc (.cells #[.int .i64 y] 3)) base (up cls (slV (some ⟨w.heap.size, 0, none⟩, 1, 1)) c) c (slV (some ⟨w.heap.size, 0, none⟩, 1, 1)) [y] := by
 have h := World.ownsRow_lit (base := base) (e := 3) (size := 1) w #[.int .i64 y] 1 hb (by unfold maxLen; omega) rfl
 exact Kd.R_of_own (enc := Value.int .i64) (xs := [y]) h fun k hk => up_self hk
theorem two_of {l : List Int} (h : 2 ≤ l.length) : ∃ x y r, l = x :: y :: r := by
 match l, h with
 | x :: y :: r, _ => exact ⟨x, y, r, rfl⟩
set_option maxHeartbeats 16000000 in
set_option maxRecDepth 100000 in
theorem take_any {T n : Nat} {v1 v2 : Value} {s : Sg} {p : PSt} {wt : Int → Bool} {cls : Nat → Cl} (w0 w : World) (hS : SP w0.heap.size T w cls s) (hD : Std n v1 v2 s p) (hP : PW n p) (hW : StdW s wt) (hWt : Wt p wt) (hne : ∃ h, wt h = true) (hn : n ≤ 2048) (hB : Below w0.heap.size w0 w) :
    Calls Try.prog 150 #[.pointer (some ⟨T, 0, none⟩)] w fun e w' => ∃ old a : Nat, e = .returned (.tuple #[.int .i64 (p.heaps.length : Int), .int .i64 (old : Int)]) ∧ old < p.heaps.length ∧ a < (gl p.heaps (old : Int)).length ∧ 2 ≤ (gl p.heaps (old : Int)).length ∧
      ∃ s' cls' wt', SP w0.heap.size T w' cls' s' ∧ Std n v1 v2 s' (takeP p (old : Int) a) ∧ StdW s' wt' ∧ Wt (takeP p (old : Int) a) wt' ∧ Same0 s s' ∧ Fr w w' cls cls' (fun _ => False) ∧ Below w0.heap.size w0 w' := by
  have t9 := hS.cell 9 _ (by rw [hD.tc]; rfl)
  have HS := Aside0.mk hS
  have HD := Aside0.mk hD
  have HP := Aside0.mk hP
  have HW := Aside0.mk hW
  have HWt := Aside0.mk hWt
  have HN := Aside0.mk hne
  have HB := Aside0.mk hB
  have HMw := Aside0.mk ((hS .mw).2.1)
  clear hS hD hP hW hWt hne hB
  go_enter Try.func150, Try.ntmps150
  go_wp2_with (at_range; refine wpList_grange _ intKB rfl _ 88 rfl 3 Try.underlying88 s.mW s.cW s.fW rfl HMw.out ?_; intro w1 hgr hg hsz)
  go_frame
  clear t9
  have HGr := Aside0.mk hgr
  have m4 := Aside0.mk (show Below w.heap.size w w1 from (Below.refl _ _).grown hg (Nat.le_refl _) (fun k e => by cases e))
  clear hgr hg hsz
  go_loopw [3, 4] (fun v3 v4 wr => Aside0 (wr = w1)) (fun _ _ _ => 0)
  case atStart => exact ⟨rfl⟩
  case round =>
    obtain ⟨rfl⟩ := hrel
    go_wp2_with (at_next; refine wpList_gnext _ intKB rfl _ rfl s.mW w.heap.size s.fW _ s.cW rfl HGr.out ?_ ?_)
    · intro o0 n8
      exfalso
      obtain ⟨h, hh⟩ := HN.out
      have hnd := ((HWt.out h).1 hh).1
      have hi : i64in h := by unfold i64in; have := hnd.1; have := hnd.2; have := HP.out.nh_le; have := HP.out.nb_le; omega
      have h1 := n8 h hi
      have h2 := HW.out h hi
      rw [hh] at h2
      rw [h2] at h1
      cases h1
    · intro y v w2 n9 hy hly hfy n6 hlt m6 hsz hen
      have hwy : wt y = true := by
        have h2 := HW.out y hy
        rw [hfy] at h2
        cases hq : wt y with
        | true => rfl
        | false => rw [hq] at h2; cases h2
      have m1 := (HWt.out y).1 hwy
      obtain ⟨old, rfl, holdn⟩ := m1.1.nat
      have i9 := m1.2
      have m2 := Aside0.mk (m4.out.grown m6 m4.out.size (fun k e => by cases e; exact Nat.le_refl _))
      have HS2 := Aside0.mk (HS.out.below m2.out)
      have m9 := Aside0.mk (Fr.same (cls1 := cls) (D := fun _ => False) (Kept.of_below m2.out _) fun _ _ => rfl)
      have m3 := Aside0.mk (below_then HB.out HB.out.size m2.out)
      have hnh := HP.out.nh_le
      have hnb := HP.out.nb_le
      clear n6 hlt m6 hsz hly hfy hwy m1 HGr m4 HMw HS
      have hhs : s.hs.length = p.heaps.length := by rw [HD.out.hs, HD.out.hl]
      obtain ⟨gS, cS, hvS, hcS⟩ := HS2.out.slice (HS2.out .hs) (by rw [hhs]; omega)
      rw [hhs] at hvS
      have t7 := HS2.out.cell 7 s.vHs (by rw [HD.out.tc]; rfl)
      rw [hvS] at t7
      obtain ⟨q7, f7⟩ := hcS old (by rw [hhs]; exact holdn)
      have hRl : IR w2 w0.heap.size cls (.hro old) (slV (s.hsl.getD old nilL)) (gl p.heaps (old : Int)) := by
        have : IR w2 w0.heap.size cls (.hro old) (slV (s.hsl.getD old nilL)) (s.heaps.getD old []) := HS2.out (.hro old) (by rw [HD.out.hl]; exact holdn)
        rw [HD.out.heaps] at this
        exact this
      obtain ⟨x0, x1, rr, hl⟩ := two_of i9
      obtain ⟨L, hL⟩ : ∃ L, L = gl p.heaps (old : Int) := ⟨_, rfl⟩
      rw [← hL] at hRl hl i9
      obtain ⟨gL, cL, hvL, hcL⟩ := IR.slice hRl (by omega)
      have q7' : w2.cell? ⟨gS, old, none⟩ = some (.slice (some ⟨gL, 0, none⟩) L.length cL) := by rw [q7, HD.out.hs, hvL]
      have b0 : Nd p.blocks.length x0 := ((HP.out.hm (old : Int) (nd_iff.2 holdn) x0).1 (by rw [← hL, hl]; simp)).1
      have b1 : Nd p.blocks.length x1 := ((HP.out.hm (old : Int) (nd_iff.2 holdn) x1).1 (by rw [← hL, hl]; simp)).1
      obtain ⟨y0, rfl, y0n⟩ := b0.nat
      obtain ⟨y1, rfl, y1n⟩ := b1.nat
      have l0 : w2.cell? ⟨gL, 0, none⟩ = some (.int .i64 (y0 : Int)) := by rw [(hcL 0 (by omega)).1, hl]; rfl
      have l1 : w2.cell? ⟨gL, 1, none⟩ = some (.int .i64 (y1 : Int)) := by rw [(hcL 1 (by omega)).1, hl]; rfl
      have hLl : L.length ≤ p.blocks.length := by rw [hL]; exact HP.out.len_h (nd_iff.2 holdn)
      have HRl := Aside0.mk hRl
      have HVl := Aside0.mk hvL
      have HL := Aside0.mk (And.intro hL hl)
      have HVS := Aside0.mk (And.intro hvS (And.intro hhs f7))
      clear hRl hvL hL hl hcL hvS hhs f7 hcS q7 b0 b1
      have k2 : (1 : Int) < (L.length : Int) := by omega
      have k3 : (0 : Int) < (L.length : Int) := by omega
      have k4 : 0 < L.length := by omega
      have k5 : 1 < L.length := by omega
      have hbs : s.bs.length = p.blocks.length := by rw [HD.out.bs, HD.out.bl]
      obtain ⟨gQ, cQ, hvQ, hcQ⟩ := HS2.out.slice (HS2.out .bs) (by rw [hbs]; omega)
      rw [hbs] at hvQ
      have t5 := HS2.out.cell 5 s.vBs (by rw [HD.out.tc]; rfl)
      rw [hvQ] at t5
      have hro : ∀ y : Nat, y < p.blocks.length → ∃ A c, w2.cell? ⟨gQ, y, none⟩ = some (.slice A (gl p.blocks (y : Int)).length c) := fun y hy => by
        have h1 : IR w2 w0.heap.size cls (.bro y) (slV (s.bsl.getD y nilL)) (s.blocks.getD y []) := HS2.out (.bro y) (by rw [HD.out.bl]; exact hy)
        rw [HD.out.blocks] at h1
        obtain ⟨A, c, h2, _⟩ := Kd.R_reads h1
        refine ⟨A, c, ?_⟩
        rw [(hcQ y (by rw [hbs]; exact hy)).1, HD.out.bs, h2]
        rfl
      obtain ⟨A0, c0, r0⟩ := hro y0 y0n
      obtain ⟨A1, c1, r1⟩ := hro y1 y1n
      obtain ⟨n0, n2⟩ : ∃ n0, n0 = (gl p.blocks (y0 : Int)).length := ⟨_, rfl⟩
      obtain ⟨n1, m8⟩ : ∃ n1, n1 = (gl p.blocks (y1 : Int)).length := ⟨_, rfl⟩
      rw [← n2] at r0
      rw [← m8] at r1
      clear hbs hvQ hcQ hro n2 m8
      have f8 := below_drew1 (Below.refl w2.heap.size w2)
      have HS4 := Aside0.mk (HS2.out.below f8)
      have l8 := Aside0.mk (m9.out.step (cls2 := cls) (Kept.of_below f8 _) fun _ _ _ e _ => e)
      have k1 := Aside0.mk (below_then m3.out m3.out.size f8)
      have k9 := Aside0.mk (Kd.R_below HRl.out f8)
      go_wp2_with fail
      refine start_ (n := 21) (S := fun w' => w'.cell? ⟨T, 5, none⟩ = some (.slice (some ⟨gQ, 0, none⟩) p.blocks.length cQ) ∧ w'.cell? ⟨gL, 1, none⟩ = some (.int .i64 (y1 : Int)) ∧ w'.cell? ⟨gQ, y1, none⟩ = some (.slice A1 n1 c1) ∧ w'.cell? ⟨gL, 0, none⟩ = some (.int .i64 (y0 : Int)) ∧ w'.cell? ⟨gQ, y0, none⟩ = some (.slice A0 n0 c0)) (ds := []) #[false, false, false, false, false, false, false, false, false, false, false, false, false, false, false, false, false, false, false, false, false] (by kernel_rfl) rfl rfl ⟨t5, l1, r1, l0, r0⟩ (fun hHeld => ?_)
      have c7 : w2.drew.cell? ⟨T, 7, none⟩ = _ := t7
      have c8 : w2.drew.cell? ⟨gS, old, none⟩ = _ := q7'
      have e0 : w2.drew.cell? ⟨gL, 0, none⟩ = _ := l0
      have e1 : w2.drew.cell? ⟨gL, 1, none⟩ = _ := l1
      clear t5 l1 r1 l0 r0 t7 q7'
      generalize w2.drew = V at HS4 l8 k1 k9 c7 c8 e0 e1 hHeld ⊢
      refine pure_ (i := 0) (N := some 25) (v := ?_) (a' := ?_) #[true, false, false, false, false, false, false, false, false, false, false, false, false, false, false, false, false, false, false, false, false] rfl rfl (by kernel_rfl) (fun _ _ _ h => h) (Or.inl ⟨by rfl, ?_⟩) ?_ ?_
      rotate_left
      · intro w'
        go_simp
        with_reducible rfl
      rotate_left
      · simp only [Act.put, List.setIfInBounds_toArray, List.set_cons_zero, List.set_cons_succ, i64_w, i32_w]
        rfl
      refine pure_ (i := 1) (N := some 26) (v := ?_) (a' := ?_) #[true, true, false, false, false, false, false, false, false, false, false, false, false, false, false, false, false, false, false, false, false] rfl rfl (by kernel_rfl) (fun _ _ _ h => h) (Or.inl ⟨by rfl, ?_⟩) ?_ ?_
      rotate_left
      · intro w'
        go_simp
        with_reducible rfl
      rotate_left
      · simp only [Act.put, List.setIfInBounds_toArray, List.set_cons_zero, List.set_cons_succ, i64_w, i32_w]
        rfl
      refine pure_ (i := 2) (N := some 27) (v := ?_) (a' := ?_) #[true, true, true, false, false, false, false, false, false, false, false, false, false, false, false, false, false, false, false, false, false] rfl rfl (by kernel_rfl) (fun _ _ _ h => h) (Or.inl ⟨by rfl, ?_⟩) ?_ ?_
      rotate_left
      · intro w'
        go_simp
        with_reducible rfl
      rotate_left
      · simp only [Act.put, List.setIfInBounds_toArray, List.set_cons_zero, List.set_cons_succ, i64_w, i32_w]
        rfl
      refine pure_ (i := 4) (N := some 29) (v := ?_) (a' := ?_) #[true, true, true, false, true, false, false, false, false, false, false, false, false, false, false, false, false, false, false, false, false] rfl rfl (by kernel_rfl) (fun _ _ _ h => h) (Or.inl ⟨by rfl, ?_⟩) ?_ ?_
      rotate_left
      · intro w'
        go_simp
        with_reducible rfl
      rotate_left
      · simp only [Act.put, List.setIfInBounds_toArray, List.set_cons_zero, List.set_cons_succ, i64_w, i32_w]
        rfl
      refine pure_ (i := 5) (N := some 30) (v := ?_) (a' := ?_) #[true, true, true, false, true, true, false, false, false, false, false, false, false, false, false, false, false, false, false, false, false] rfl rfl (by kernel_rfl) (fun _ _ _ h => h) (Or.inl ⟨by rfl, ?_⟩) ?_ ?_
      rotate_left
      · intro w'
        go_simp
        with_reducible rfl
      rotate_left
      · simp only [Act.put, List.setIfInBounds_toArray, List.set_cons_zero, List.set_cons_succ, i64_w, i32_w]
        rfl
      refine pure_ (i := 10) (N := some 35) (v := ?_) (a' := ?_) #[true, true, true, false, true, true, false, false, false, false, true, false, false, false, false, false, false, false, false, false, false] rfl rfl (by kernel_rfl) (fun _ _ _ h => h) (Or.inl ⟨by rfl, ?_⟩) ?_ ?_
      rotate_left
      · intro w'
        go_simp
        with_reducible rfl
      rotate_left
      · simp only [Act.put, List.setIfInBounds_toArray, List.set_cons_zero, List.set_cons_succ, i64_w, i32_w]
        rfl
      refine pure_ (i := 11) (N := some 36) (v := ?_) (a' := ?_) #[true, true, true, false, true, true, false, false, false, false, true, true, false, false, false, false, false, false, false, false, false] rfl rfl (by kernel_rfl) (fun _ _ _ h => h) (Or.inl ⟨by rfl, ?_⟩) ?_ ?_
      rotate_left
      · intro w'
        go_simp
        with_reducible rfl
      rotate_left
      · simp only [Act.put, List.setIfInBounds_toArray, List.set_cons_zero, List.set_cons_succ, i64_w, i32_w]
        rfl
      refine pure_ (i := 12) (N := some 37) (v := ?_) (a' := ?_) #[true, true, true, false, true, true, false, false, false, false, true, true, true, false, false, false, false, false, false, false, false] rfl rfl (by kernel_rfl) (fun _ _ _ h => h) (Or.inl ⟨by rfl, ?_⟩) ?_ ?_
      rotate_left
      · intro w'
        go_simp
        with_reducible rfl
      rotate_left
      · simp only [Act.put, List.setIfInBounds_toArray, List.set_cons_zero, List.set_cons_succ, i64_w, i32_w]
        rfl
      refine pure_ (i := 14) (N := some 39) (v := ?_) (a' := ?_) #[true, true, true, false, true, true, false, false, false, false, true, true, true, false, true, false, false, false, false, false, false] rfl rfl (by kernel_rfl) (fun _ _ _ h => h) (Or.inl ⟨by rfl, ?_⟩) ?_ ?_
      rotate_left
      · intro w'
        go_simp
        with_reducible rfl
      rotate_left
      · simp only [Act.put, List.setIfInBounds_toArray, List.set_cons_zero, List.set_cons_succ, i64_w, i32_w]
        rfl
      refine pure_ (i := 15) (N := some 40) (v := ?_) (a' := ?_) #[true, true, true, false, true, true, false, false, false, false, true, true, true, false, true, true, false, false, false, false, false] rfl rfl (by kernel_rfl) (fun _ _ _ h => h) (Or.inl ⟨by rfl, ?_⟩) ?_ ?_
      rotate_left
      · intro w'
        go_simp
        with_reducible rfl
      rotate_left
      · simp only [Act.put, List.setIfInBounds_toArray, List.set_cons_zero, List.set_cons_succ, i64_w, i32_w]
        rfl
      refine take_ (i := 3) (N := some 28) (v := ?_) (a' := ?_) #[true, true, true, true, true, true, false, false, false, false, true, true, true, false, true, true, false, false, false, false, false] rfl rfl (by kernel_rfl) (fun _ _ _ h => h) (Or.inl ⟨by rfl, ?_⟩) hHeld ?_ ?_
      rotate_left
      · rintro w' ⟨s0, s1, s2, s3, s4⟩
        go_simp
        with_reducible rfl
      rotate_left
      · simp only [Act.put, List.setIfInBounds_toArray, List.set_cons_zero, List.set_cons_succ, i64_w, i32_w]
        rfl
      refine take_ (i := 6) (N := some 31) (v := ?_) (a' := ?_) #[true, true, true, true, true, true, true, false, false, false, true, true, true, false, true, true, false, false, false, false, false] rfl rfl (by kernel_rfl) (fun _ _ _ h => h) (Or.inl ⟨by rfl, ?_⟩) hHeld ?_ ?_
      rotate_left
      · rintro w' ⟨s0, s1, s2, s3, s4⟩
        go_simp
        with_reducible rfl
      rotate_left
      · simp only [Act.put, List.setIfInBounds_toArray, List.set_cons_zero, List.set_cons_succ, i64_w, i32_w]
        rfl
      refine pure_ (i := 7) (N := some 32) (v := ?_) (a' := ?_) #[true, true, true, true, true, true, true, true, false, false, true, true, true, false, true, true, false, false, false, false, false] rfl rfl (by kernel_rfl) (fun _ _ _ h => h) (Or.inl ⟨by rfl, ?_⟩) ?_ ?_
      rotate_left
      · intro w'
        go_simp
        with_reducible rfl
      rotate_left
      · simp only [Act.put, List.setIfInBounds_toArray, List.set_cons_zero, List.set_cons_succ, i64_w, i32_w]
        rfl
      refine take_ (i := 8) (N := some 33) (v := ?_) (a' := ?_) #[true, true, true, true, true, true, true, true, true, false, true, true, true, false, true, true, false, false, false, false, false] rfl rfl (by kernel_rfl) (fun _ _ _ h => h) (Or.inl ⟨by rfl, ?_⟩) hHeld ?_ ?_
      rotate_left
      · rintro w' ⟨s0, s1, s2, s3, s4⟩
        go_simp
        with_reducible rfl
      rotate_left
      · simp only [Act.put, List.setIfInBounds_toArray, List.set_cons_zero, List.set_cons_succ, i64_w, i32_w]
        rfl
      refine pure_ (i := 9) (N := some 34) (v := ?_) (a' := ?_) #[true, true, true, true, true, true, true, true, true, true, true, true, true, false, true, true, false, false, false, false, false] rfl rfl (by kernel_rfl) (fun _ _ _ h => h) (Or.inl ⟨by rfl, ?_⟩) ?_ ?_
      rotate_left
      · intro w'
        go_simp
        with_reducible rfl
      rotate_left
      · simp only [Act.put, List.setIfInBounds_toArray, List.set_cons_zero, List.set_cons_succ, i64_w, i32_w]
        rfl
      refine take_ (i := 13) (N := some 38) (v := ?_) (a' := ?_) #[true, true, true, true, true, true, true, true, true, true, true, true, true, true, true, true, false, false, false, false, false] rfl rfl (by kernel_rfl) (fun _ _ _ h => h) (Or.inl ⟨by rfl, ?_⟩) hHeld ?_ ?_
      rotate_left
      · rintro w' ⟨s0, s1, s2, s3, s4⟩
        go_simp
        with_reducible rfl
      rotate_left
      · simp only [Act.put, List.setIfInBounds_toArray, List.set_cons_zero, List.set_cons_succ, i64_w, i32_w]
        rfl
      refine take_ (i := 16) (N := some 41) (v := ?_) (a' := ?_) #[true, true, true, true, true, true, true, true, true, true, true, true, true, true, true, true, true, false, false, false, false] rfl rfl (by kernel_rfl) (fun _ _ _ h => h) (Or.inl ⟨by rfl, ?_⟩) hHeld ?_ ?_
      rotate_left
      · rintro w' ⟨s0, s1, s2, s3, s4⟩
        go_simp
        with_reducible rfl
      rotate_left
      · simp only [Act.put, List.setIfInBounds_toArray, List.set_cons_zero, List.set_cons_succ, i64_w, i32_w]
        rfl
      refine pure_ (i := 17) (N := some 42) (v := ?_) (a' := ?_) #[true, true, true, true, true, true, true, true, true, true, true, true, true, true, true, true, true, true, false, false, false] rfl rfl (by kernel_rfl) (fun _ _ _ h => h) (Or.inl ⟨by rfl, ?_⟩) ?_ ?_
      rotate_left
      · intro w'
        go_simp
        with_reducible rfl
      rotate_left
      · simp only [Act.put, List.setIfInBounds_toArray, List.set_cons_zero, List.set_cons_succ, i64_w, i32_w]
        rfl
      refine take_ (i := 18) (N := some 43) (v := ?_) (a' := ?_) #[true, true, true, true, true, true, true, true, true, true, true, true, true, true, true, true, true, true, true, false, false] rfl rfl (by kernel_rfl) (fun _ _ _ h => h) (Or.inl ⟨by rfl, ?_⟩) hHeld ?_ ?_
      rotate_left
      · rintro w' ⟨s0, s1, s2, s3, s4⟩
        go_simp
        with_reducible rfl
      rotate_left
      · simp only [Act.put, List.setIfInBounds_toArray, List.set_cons_zero, List.set_cons_succ, i64_w, i32_w]
        rfl
      refine pure_ (i := 19) (N := some 44) (v := ?_) (a' := ?_) #[true, true, true, true, true, true, true, true, true, true, true, true, true, true, true, true, true, true, true, true, false] rfl rfl (by kernel_rfl) (fun _ _ _ h => h) (Or.inl ⟨by rfl, ?_⟩) ?_ ?_
      rotate_left
      · intro w'
        go_simp
        with_reducible rfl
      rotate_left
      · simp only [Act.put, List.setIfInBounds_toArray, List.set_cons_zero, List.set_cons_succ, i64_w, i32_w]
        rfl
      refine pure_ (i := 20) (N := some 45) (v := ?_) (a' := ?_) #[true, true, true, true, true, true, true, true, true, true, true, true, true, true, true, true, true, true, true, true, true] rfl rfl (by kernel_rfl) (fun _ _ _ h => h) (Or.inl ⟨by rfl, ?_⟩) ?_ ?_
      rotate_left
      · intro w'
        go_simp
        with_reducible rfl
      rotate_left
      · simp only [Act.put, List.setIfInBounds_toArray, List.set_cons_zero, List.set_cons_succ, i64_w, i32_w]
        rfl
      refine done_ (by kernel_rfl) ?_
      clear f8 hHeld HS2 m9 m3 HRl
      have htest : (¬ n1 < n0) ∨ (n1 < n0 ∧ ¬ cL = 1 + 1) ∨ (n1 < n0 ∧ cL = 1 + 1) := by omega
      have hcl : L.length ≤ cL := by
        have h1 := Kd.R_reads' (show Kd.R (Kd.int .i64) 3 V w0.heap.size (fun k => cls k = .hro old) (.slice (some ⟨gL, 0, none⟩) L.length cL) L by rw [← HVl.out]; exact k9.out)
        exact h1.2.1
      rcases htest with h1p | ⟨h1p, n7⟩ | ⟨h1p, n7⟩
      · have h1 : decide ((n1 : Int) < (n0 : Int)) = false := by simp; omega
        have h1n : decide (n1 < n0) = false := by simp; omega
        go_wp2_with fail
        clear h1 h1n h1p
        have m5 : ¬ cL = 1 := by omega
        have m7 : 1 ≤ cL := by omega
        have n5 : 1 ≤ L.length := by omega
        have hc1z : (1 : Int) ≤ (cL : Int) := by omega
        have hc2z : (2 : Int) ≤ (cL : Int) := by omega
        have hl1z : (1 : Int) ≤ (L.length : Int) := by omega
        have hl2z : (2 : Int) ≤ (L.length : Int) := by omega
        have n3 : wrap64 1 = 1 := by unfold wrap64; omega
        have n4 : wrap64 2 = 2 := by unfold wrap64; omega
        have hdrop : ∀ W, Kd.R (Kd.int .i64) 3 W w0.heap.size (fun k => cls k = .hro old) (.slice (some ⟨gL, 0, none⟩) L.length cL) L → (Kd.int .i64).C W (some ⟨gL, 1, none⟩) (L.length - 1) (L.drop 1) := fun W h => by
          have h2 := Kd.Q_reads' (Kd.Q_drop (k := 1) (Kd.Q_of_R h) (by omega))
          have h3 := h2.2.2
          rw [← h2.1] at h3
          first
            | rwa [if_pos (by omega)] at h3
            | (rw [if_neg (by omega)] at h3
               exact h3)
        have HDr := Aside0.mk hdrop
        clear hdrop
        have f8 := below_drew1 (Below.refl V.heap.size V)
        have HS5 := Aside0.mk (HS4.out.below f8)
        have h7 := Aside0.mk (l8.out.step (cls2 := cls) (Kept.of_below f8 _) fun _ _ _ e _ => e)
        have i8 := Aside0.mk (below_then k1.out k1.out.size f8)
        have i7 := Aside0.mk (Kd.R_below k9.out f8)
        have d7 : V.drew.cell? ⟨T, 7, none⟩ = _ := c7
        have d8 : V.drew.cell? ⟨gS, old, none⟩ = _ := c8
        clear f8 HS4 l8 k1 k9 c7 c8 e0 e1
        refine start_ (n := 17) (S := fun w' => w'.cell? ⟨T, 7, none⟩ = some (.slice (some ⟨gS, 0, none⟩) p.heaps.length cS) ∧ w'.cell? ⟨gS, old, none⟩ = some (.slice (some ⟨gL, 0, none⟩) L.length cL)) (ds := [16]) #[false, false, false, false, false, false, false, false, false, false, false, false, false, false, false, false, false] (by kernel_rfl) rfl rfl ⟨d7, d8⟩ (fun hHeld => ?_)
        clear d7 d8
        generalize V.drew = U at HS5 h7 i8 i7 hHeld ⊢
        have HH := Aside0.mk hHeld
        refine pure_ (i := 0) (N := some 50) (v := ?_) (a' := ?_) #[true, false, false, false, false, false, false, false, false, false, false, false, false, false, false, false, false] rfl rfl (by kernel_rfl) (fun _ _ _ h => h) (Or.inl ⟨by rfl, ?_⟩) ?_ ?_
        rotate_left
        · intro w'
          go_simp
          with_reducible rfl
        rotate_left
        · simp only [Act.put, List.setIfInBounds_toArray, List.set_cons_zero, List.set_cons_succ, i64_w, i32_w]
          rfl
        refine pure_ (i := 1) (N := some 51) (v := ?_) (a' := ?_) #[true, true, false, false, false, false, false, false, false, false, false, false, false, false, false, false, false] rfl rfl (by kernel_rfl) (fun _ _ _ h => h) (Or.inl ⟨by rfl, ?_⟩) ?_ ?_
        rotate_left
        · intro w'
          go_simp
          with_reducible rfl
        rotate_left
        · simp only [Act.put, List.setIfInBounds_toArray, List.set_cons_zero, List.set_cons_succ, i64_w, i32_w]
          rfl
        refine pure_ (i := 2) (N := some 52) (v := ?_) (a' := ?_) #[true, true, true, false, false, false, false, false, false, false, false, false, false, false, false, false, false] rfl rfl (by kernel_rfl) (fun _ _ _ h => h) (Or.inl ⟨by rfl, ?_⟩) ?_ ?_
        rotate_left
        · intro w'
          go_simp
          with_reducible rfl
        rotate_left
        · simp only [Act.put, List.setIfInBounds_toArray, List.set_cons_zero, List.set_cons_succ, i64_w, i32_w]
          rfl
        refine pure_ (i := 4) (N := some 54) (v := ?_) (a' := ?_) #[true, true, true, false, true, false, false, false, false, false, false, false, false, false, false, false, false] rfl rfl (by kernel_rfl) (fun _ _ _ h => h) (Or.inl ⟨by rfl, ?_⟩) ?_ ?_
        rotate_left
        · intro w'
          go_simp
          with_reducible rfl
        rotate_left
        · simp only [Act.put, List.setIfInBounds_toArray, List.set_cons_zero, List.set_cons_succ, i64_w, i32_w]
          rfl
        refine pure_ (i := 6) (N := some 56) (v := ?_) (a' := ?_) #[true, true, true, false, true, false, true, false, false, false, false, false, false, false, false, false, false] rfl rfl (by kernel_rfl) (fun _ _ _ h => h) (Or.inl ⟨by rfl, ?_⟩) ?_ ?_
        rotate_left
        · intro w'
          go_simp
          with_reducible rfl
        rotate_left
        · simp only [Act.put, List.setIfInBounds_toArray, List.set_cons_zero, List.set_cons_succ, i64_w, i32_w]
          rfl
        refine pure_ (i := 7) (N := some 57) (v := ?_) (a' := ?_) #[true, true, true, false, true, false, true, true, false, false, false, false, false, false, false, false, false] rfl rfl (by kernel_rfl) (fun _ _ _ h => h) (Or.inl ⟨by rfl, ?_⟩) ?_ ?_
        rotate_left
        · intro w'
          go_simp
          with_reducible rfl
        rotate_left
        · simp only [Act.put, List.setIfInBounds_toArray, List.set_cons_zero, List.set_cons_succ, i64_w, i32_w]
          rfl
        refine pure_ (i := 8) (N := some 58) (v := ?_) (a' := ?_) #[true, true, true, false, true, false, true, true, true, false, false, false, false, false, false, false, false] rfl rfl (by kernel_rfl) (fun _ _ _ h => h) (Or.inl ⟨by rfl, ?_⟩) ?_ ?_
        rotate_left
        · intro w'
          go_simp
          with_reducible rfl
        rotate_left
        · simp only [Act.put, List.setIfInBounds_toArray, List.set_cons_zero, List.set_cons_succ, i64_w, i32_w]
          rfl
        refine pure_ (i := 10) (N := some 60) (v := ?_) (a' := ?_) #[true, true, true, false, true, false, true, true, true, false, true, false, false, false, false, false, false] rfl rfl (by kernel_rfl) (fun _ _ _ h => h) (Or.inl ⟨by rfl, ?_⟩) ?_ ?_
        rotate_left
        · intro w'
          go_simp
          with_reducible rfl
        rotate_left
        · simp only [Act.put, List.setIfInBounds_toArray, List.set_cons_zero, List.set_cons_succ, i64_w, i32_w]
          rfl
        refine pure_ (i := 11) (N := some 61) (v := ?_) (a' := ?_) #[true, true, true, false, true, false, true, true, true, false, true, true, false, false, false, false, false] rfl rfl (by kernel_rfl) (fun _ _ _ h => h) (Or.inl ⟨by rfl, ?_⟩) ?_ ?_
        rotate_left
        · intro w'
          go_simp
          with_reducible rfl
        rotate_left
        · simp only [Act.put, List.setIfInBounds_toArray, List.set_cons_zero, List.set_cons_succ, i64_w, i32_w]
          rfl
        refine pure_ (i := 12) (N := some 62) (v := ?_) (a' := ?_) #[true, true, true, false, true, false, true, true, true, false, true, true, true, false, false, false, false] rfl rfl (by kernel_rfl) (fun _ _ _ h => h) (Or.inl ⟨by rfl, ?_⟩) ?_ ?_
        rotate_left
        · intro w'
          go_simp
          with_reducible rfl
        rotate_left
        · simp only [Act.put, List.setIfInBounds_toArray, List.set_cons_zero, List.set_cons_succ, i64_w, i32_w]
          rfl
        refine pure_ (i := 13) (N := some 63) (v := ?_) (a' := ?_) #[true, true, true, false, true, false, true, true, true, false, true, true, true, true, false, false, false] rfl rfl (by kernel_rfl) (fun _ _ _ h => h) (Or.inl ⟨by rfl, ?_⟩) ?_ ?_
        rotate_left
        · intro w'
          go_simp
          with_reducible rfl
        rotate_left
        · simp only [Act.put, List.setIfInBounds_toArray, List.set_cons_zero, List.set_cons_succ, i64_w, i32_w]
          rfl
        refine take_ (i := 3) (N := some 53) (v := ?_) (a' := ?_) #[true, true, true, true, true, false, true, true, true, false, true, true, true, true, false, false, false] rfl rfl (by kernel_rfl) (fun _ _ _ h => h) (Or.inl ⟨by rfl, ?_⟩) hHeld ?_ ?_
        rotate_left
        · rintro w' ⟨s0, s1⟩
          go_simp
          with_reducible rfl
        rotate_left
        · simp only [Act.put, List.setIfInBounds_toArray, List.set_cons_zero, List.set_cons_succ, i64_w, i32_w]
          rfl
        refine one_ (i := 5) (N := some 55) #[true, true, true, true, true, true, true, true, true, false, true, true, true, true, false, false, false] rfl rfl (by kernel_rfl) (by decide) (fun K hK => ?_)
        refine Kd.R_lit_step (Kd.int .i64) (w0 := w0) w0.heap.size 3 (by rfl) (N := 55) rfl (xs := ([] : List Int)) (inner := []) (okp := fun _ => False) (ok := fun k => U.heap.size ≤ k) ?hr ⟨rfl, fun j p h => by simp at h⟩ (fun _ hk => hk.elim) (Nat.le_refl _) i8.out i8.out.size (by simp) ?_
        (case hr => first | (go_simp; done) | (go_simp; rfl))
        intro v5 w5 ho hb hg hat
        obtain ⟨A5, c5, m0⟩ := Kd.R_slice ho
        subst m0
        have f2 := Aside0.mk (show Below U.heap.size U w5 from ⟨hg.os, hg.tape, hg.output, hg.size, fun k hk => hg.block k hk (by simp)⟩)
        have k8 := Aside0.mk ho
        have l3 := Aside0.mk hb
        clear ho hb hg hat
        refine hK.out _ _ ⟨later f2.out HH.out.1, later f2.out HH.out.2⟩ (fun hHeld => ?_)
        clear hK K
        refine norm_ (a' := ?_) ?_ ?_
        rotate_left
        · show Act.put _ (some 55) _ = _
          simp only [Act.put, List.setIfInBounds_toArray, List.set_cons_zero, List.set_cons_succ, i64_w, i32_w]
          rfl
        refine one_ (i := 9) (N := some 59) #[true, true, true, true, true, true, true, true, true, true, true, true, true, true, false, false, false] rfl rfl (by kernel_rfl) (by decide) (fun K hK => ?_)
        have j9 := Kd.R_below i7.out f2.out
        rw [HVl.out] at j9
        have hT := Kd.R_take j9 (m := 0) (by omega)
        have hC := (Kd.R_reads' hT).2.2
        rw [← (Kd.R_reads' hT).1] at hC
        refine Kd.R_append_rows_step (Kd.int .i64) (Rr := (Kd.int .i64).K w5) (w0 := w0) w0.heap.size (by rfl) (.tmp 55) (.tmp 58) 28 3 (.int .i64 0) 8 rfl Try.underlying28 infoI rfl (by decide) (by omega) (.slice A5 ([] : List Int).length c5) [] (L.take 0) (some ⟨gL, 0, none⟩) 0 cL (fun k => U.heap.size ≤ k) (fun _ => False) rfl rfl k8.out hC (fun _ _ h => h) (fun _ hk => hk.elim) (fun _ hk => Nat.le_trans f2.out.size hk) l3.out l3.out.size (by simp) ?_
        intro v6 w6 ho hb hg hat
        obtain ⟨A6, c6, l6⟩ := Kd.R_slice ho
        rw [List.nil_append] at ho l6
        subst l6
        have f4 := Aside0.mk (f2.out.grown hg f2.out.size (fun k hk => k8.out.1 k hk))
        have l4 := Aside0.mk ho
        have k6 := Aside0.mk hb
        clear ho hb hg hat hC hT j9
        refine hK.out _ _ ⟨later f4.out HH.out.1, later f4.out HH.out.2⟩ (fun hHeld => ?_)
        clear hK K
        refine norm_ (a' := ?_) ?_ ?_
        rotate_left
        · show Act.put _ (some 59) _ = _
          simp only [Act.put, List.setIfInBounds_toArray, List.set_cons_zero, List.set_cons_succ, i64_w, i32_w]
          rfl
        refine one_ (i := 14) (N := some 64) #[true, true, true, true, true, true, true, true, true, true, true, true, true, true, true, false, false] rfl rfl (by kernel_rfl) (by decide) (fun K hK => ?_)
        have j4 := Kd.R_below i7.out f4.out
        rw [HVl.out] at j4
        have hC := HDr.out _ j4
        refine Kd.R_append_rows_step (Kd.int .i64) (Rr := (Kd.int .i64).K w6) (w0 := w0) w0.heap.size (by rfl) (.tmp 59) (.tmp 63) 28 3 (.int .i64 0) 8 rfl Try.underlying28 infoI rfl (by decide) (by omega) (.slice A6 (L.take 0).length c6) (L.take 0) (L.drop 1) (some ⟨gL, 1, none⟩) (L.length - 1) (cL-1) (fun k => U.heap.size ≤ k) (fun _ => False) rfl rfl l4.out hC (fun _ _ h => h) (fun _ hk => hk.elim) (fun _ hk => Nat.le_trans f4.out.size hk) k6.out k6.out.size (by rw [List.length_take]; omega) ?_
        intro v7 w7 ho hb hg hat
        rw [← List.eraseIdx_eq_take_drop_succ] at ho
        obtain ⟨A7, c7, g2⟩ := Kd.R_slice ho
        rw [List.length_eraseIdx_of_lt (by omega)] at g2
        subst g2
        have f3 := Aside0.mk (f4.out.grown hg f4.out.size (fun k hk => l4.out.1 k hk))
        have j5 := Aside0.mk ho
        have l5 := Aside0.mk hb
        have f7 : w7.frozen? ⟨gS, old, none⟩ = false := by obtain ⟨cs, hcs⟩ := Kd.R_typed (HS5.out .hs) gS (by rw [HVS.out.1]; rfl); exact blk_frozen ((f3.out.block gS (blk_lt hcs)).trans hcs)
        clear ho hb hg hat hC j4
        refine hK.out _ _ ⟨later f3.out HH.out.1, later f3.out HH.out.2⟩ (fun hHeld => ?_)
        clear hK K
        refine norm_ (a' := ?_) ?_ ?_
        rotate_left
        · show Act.put _ (some 64) _ = _
          simp only [Act.put, List.setIfInBounds_toArray, List.set_cons_zero, List.set_cons_succ, i64_w, i32_w]
          rfl
        refine pure_ (i := 15) (N := some 65) (v := ?_) (a' := ?_) #[true, true, true, true, true, true, true, true, true, true, true, true, true, true, true, true, false] rfl rfl (by kernel_rfl) (fun _ _ _ h => h) (Or.inl ⟨by rfl, ?_⟩) ?_ ?_
        rotate_left
        · intro w'
          go_simp
          with_reducible rfl
        rotate_left
        · simp only [Act.put, List.setIfInBounds_toArray, List.set_cons_zero, List.set_cons_succ, i64_w, i32_w]
          rfl
        refine last_ (i := 16) (N := none) #[true, true, true, true, true, true, true, true, true, true, true, true, true, true, true, true, true] rfl rfl (by kernel_rfl) (by decide) (fun K hK => ?_)
        refine skip_ (w1 := ?_) (by rfl) rfl ?_ ?_
        rotate_left
        · go_simp
          rfl
        refine hK.out _ _ ?_
        clear hK K
        refine done_ (by kernel_rfl) ?_
        have f5 : ∀ k, (slV (A7, L.length - 1, c7)).ownBlock = some k → U.heap.size ≤ k := j5.out.1
        obtain ⟨r7, j2⟩ : ∃ r7 : Sl, r7 = (A7, L.length - 1, c7) := ⟨_, rfl⟩
        rw [← j2] at f5
        have hup : ∀ k, k < U.heap.size → up cls (slV r7) (.far 7000) k = cls k := fun k hk => up_ne fun e => by have := f5 k e; omega
        have l7 : IR w7 w0.heap.size (up cls (slV r7) (.far 7000)) (.far 7000) (slV r7) (L.eraseIdx 0) := R_up rfl (by rw [j2]; exact j5.out)
        have HS7 := HS5.out.stay (cls' := up cls (slV r7) (.far 7000)) (Kept.of_below f3.out _) fun k hk _ => hup k hk
        have k7 := h7.out.step (cls2 := up cls (slV r7) (.far 7000)) (Kept.of_below f3.out _) fun k hk j e _ => by rw [hup k (Nat.lt_of_lt_of_le hk h7.out.kept.1)]; exact e
        have d4 := HS7.setHs (by rw [HVS.out.2.1]; exact HVS.out.1) old r7 (L.eraseIdx 0) l7 (by rw [HD.out.hl]; exact holdn) (by rw [HD.out.heaps, HD.out.hl])
        obtain ⟨w8, h4⟩ : ∃ w8, w8 = w7.setCell ⟨gS, old, none⟩ (.slice A7 (L.length - 1) c7) := ⟨_, rfl⟩
        have g2 : slV r7 = .slice A7 (L.length - 1) c7 := by rw [j2]; rfl
        rw [g2, ← h4] at d4
        have hgc : up cls (slV r7) (.far 7000) gS = .hs := HS7.rowHs _ HVS.out.1 gS rfl
        have j8 := Aside0.mk (k7.step (w2 := w8) (cls2 := up (up cls (slV r7) (.far 7000)) (slV r7) (.hro old)) (by rw [h4]; exact (Kept.refl _ _).setCell (.inl (.inl (by show (up cls (slV r7) (.far 7000) gS).own = true; rw [hgc]; rfl))) _) fun k hk j e _ => by rw [up_ne fun e2 => by have := f5 k e2; have := h7.out.kept.1; omega]; exact e)
        have HB9' := Aside0.mk (show Below w0.heap.size w0 w8 by rw [h4]; exact below_set l5.out (Kd.R_base (HS7 .hs) gS (by rw [HVS.out.1]; rfl)))
        rw [← h4]
        obtain ⟨a5, i4⟩ : ∃ a5, a5 = up (up cls (slV r7) (.far 7000)) (slV r7) (.hro old) := ⟨_, rfl⟩
        rw [← g2, ← i4] at d4
        rw [← i4] at j8
        obtain ⟨s8, d0⟩ : ∃ s8 : Sg, s8 = { s with hs := s.hs.set old r7, hsl := s.hsl.set old r7, heaps := s.heaps.set old (L.eraseIdx 0) } := ⟨_, rfl⟩
        rw [← d0] at d4
        have t7 : w8.cell? ⟨T, 7, none⟩ = some (.slice (some ⟨gS, 0, none⟩) p.heaps.length cS) := by rw [d4.cell 7 s.vHs (by rw [d0]; show s.tc[7]? = _; rw [HD.out.tc]; rfl), HVS.out.1]
        have q7 : w8.cell? ⟨gS, old, none⟩ = some (.slice A7 (L.length - 1) c7) := by
          obtain ⟨g', c', e', hc'⟩ := d4.slice (d4 .hs) (by rw [d0]; show 0 < (s.hs.set old r7).length; rw [List.length_set, HVS.out.2.1]; omega)
          rw [show s8.vHs = .slice (some ⟨gS, 0, none⟩) p.heaps.length cS by rw [d0]; exact HVS.out.1] at e'
          simp only [Value.slice.injEq, Option.some.injEq, Addr.mk.injEq] at e'
          obtain ⟨⟨rfl, _⟩, _⟩ := e'
          have h := (hc' old (by rw [d0]; show old < (s.hs.set old r7).length; rw [List.length_set, HVS.out.2.1]; exact holdn)).1
          rw [h, d0]
          show some (slV ((s.hs.set old r7).getD old nilL)) = _
          rw [gD_set _ _ _ _ _ (by rw [HVS.out.2.1]; exact holdn), if_pos rfl, g2]
        have t9 : w8.cell? ⟨T, 9, none⟩ = some (.map (some s.mW)) := d4.cell 9 _ (by rw [d0]; show s.tc[9]? = _; rw [HD.out.tc]; rfl)
        have HS8 := Aside0.mk d4
        have j7 := Aside0.mk d0
        have hmw : G1 w8 s.mW s.fW s.cW := by have := (d4 .mw).2.1; rw [d0] at this; exact this
        have HMw := Aside0.mk hmw
        clear f5 hup l7 HS7 k7 d4 h4 hgc i4 d0 hmw j5 l5 f3 f7 HS5 h7 i8 i7 HH j2 g2
        by_cases hlen : L.length = 2
        · have hq : (((L.length - 1 : Nat) : Int) == 1) = true := by rw [hlen]; rfl
          have l9 : L.length - 1 = 1 := by omega
          go_wp2_with (first
            | (refine wpList_gdel _ intKB rfl _ _ 88 rfl 3 Try.underlying88 s.mW s.cW s.fW rfl HMw.out (old : Int) hy rfl ?_
               intro w9 e8 hcw hgm hgg hsz
               have g8 : s8.mW = s.mW := by rw [j7.out]
               have h6 := HS8.out.setW (f := delM s.fW (old : Int)) (n := e8) (by rw [g8]; exact hgm) (by rw [g8]; exact hgg)
               have d1 := Aside0.mk (j8.out.step (w2 := w9) (cls2 := a5) (kept_grown hgg fun k e => by cases e; exact .inl (by rw [← g8, (HS8.out .mw).1]; rfl)) fun _ _ _ e _ => e)
               have d3 := Aside0.mk (HB9'.out.grown hgg HB9'.out.size (fun k e => by cases e; rw [← g8]; exact (HS8.out .mw).2.2))
               obtain ⟨b8, d5⟩ : ∃ b8, b8 = delM s.fW (old : Int) := ⟨_, rfl⟩
               rw [← d5] at h6
               obtain ⟨s9, d2⟩ : ∃ s9 : Sg, s9 = { s with hs := s.hsl.set old r7, hsl := s.hsl.set old r7, heaps := s.heaps.set old (L.eraseIdx 0), fW := b8, cW := e8 } := ⟨_, rfl⟩
               have e9 : ({ s8 with fW := b8, cW := e8 } : Sg) = s9 := by
                 rw [d2, j7.out]
                 show ({ s with hs := s.hs.set old r7, hsl := _, heaps := _, fW := _, cW := _ } : Sg) = _
                 rw [HD.out.hs]
               rw [e9] at h6
               have HS9 := Aside0.mk h6
               have a4 := Aside0.mk d2
               have k0 := Aside0.mk (show StdW s9 (fun x => wt x && !(decide (x = (old : Int)) && decide ((gl p.heaps (old : Int)).length = 2))) from fun x hx => by
                 rw [d2]
                 show b8 x = _
                 rw [d5]
                 unfold delM
                 by_cases e : x = (old : Int)
                 · rw [if_pos e, ← HL.out.1, hlen]
                   simp [e]
                 · rw [if_neg e, HW.out x hx]
                   simp [e])
               have t7 : w9.cell? ⟨T, 7, none⟩ = some (.slice (some ⟨gS, 0, none⟩) p.heaps.length cS) := by rw [h6.cell 7 s.vHs (by rw [d2]; show s.tc[7]? = _; rw [HD.out.tc]; rfl), HVS.out.1]
               clear hcw hgm hgg hsz g8 h6 d5 e9 d2 q7 t9
               have HS9t := HS9.out.cell 7 s.vHs (by rw [a4.out]; show s.tc[7]? = _; rw [HD.out.tc]; rfl)
               rw [HVS.out.1] at HS9t
               obtain ⟨a3, b7⟩ : ∃ a3, a3 = w9.alloc (.cells #[.int .i64 (y0 : Int)] 3) := ⟨_, rfl⟩
               have b4 : Below w9.heap.size w9 a3 := by rw [b7]; exact below_alloc (Below.refl _ _) _
               have a7 := IR.one w9 w0.heap.size a5 (.far 7001) (y0 : Int) d3.out.size
               rw [← b7] at a7
               obtain ⟨a0, b2⟩ : ∃ a0 : Sl, a0 = (some ⟨w9.heap.size, 0, none⟩, 1, 1) := ⟨_, rfl⟩
               rw [← b2] at a7
               have e5 : ∀ k, (slV a0).ownBlock = some k → w9.heap.size ≤ k := fun k hk => by rw [b2] at hk; cases hk; exact Nat.le_refl _
               have hup : ∀ k, k < w9.heap.size → up a5 (slV a0) (.far 7001) k = a5 k := fun k hk => up_ne fun e => by have := e5 k e; omega
               have HS10 := Aside0.mk (HS9.out.stay (cls' := up a5 (slV a0) (.far 7001)) (Kept.of_below b4 _) fun k hk _ => hup k hk)
               have b3 := Aside0.mk (d1.out.step (cls2 := up a5 (slV a0) (.far 7001)) (Kept.of_below b4 _) fun k hk j e _ => by rw [hup k (Nat.lt_of_lt_of_le hk d1.out.kept.1)]; exact e)
               have d9 := Aside0.mk (below_then d3.out d3.out.size b4)
               obtain ⟨a1, g9⟩ : ∃ a1, a1 = up a5 (slV a0) (.far 7001) := ⟨_, rfl⟩
               rw [← g9] at a7 HS10 b3
               have HRr := Aside0.mk a7
               have i1 := Aside0.mk (show ∀ k, (slV a0).ownBlock = some k → w.heap.size ≤ k from fun k hk => Nat.le_trans d1.out.kept.1 (e5 k hk))
               have g1 : s9.hs.length = p.heaps.length := by rw [a4.out]; show (s.hsl.set old r7).length = _; rw [List.length_set, HD.out.hl]
               have hhl9b : s9.hsl.length = p.heaps.length ∧ s9.heaps.length = p.heaps.length := by rw [a4.out]; exact ⟨by show (s.hsl.set old r7).length = _; rw [List.length_set, HD.out.hl], by show (s.heaps.set old _).length = _; rw [List.length_set, HD.out.heaps]⟩
               have d6 : s9.vHs = .slice (some ⟨gS, 0, none⟩) p.heaps.length cS := by rw [a4.out]; exact HVS.out.1
               have h0 : Aside0 (Kd.R kSl 28 a3 w0.heap.size (fun k => a1 k = .hs ∨ a3.heap.size ≤ k) (.slice (some ⟨gS, 0, none⟩) p.heaps.length cS) s9.hs) := ⟨by
                 have h : SR a3 w0.heap.size a1 .hs s9.vHs s9.hs := HS10.out .hs
                 rw [d6] at h
                 exact Kd.R_mono h fun k hk => .inl hk⟩
               have a2 := Aside0.mk (And.intro g1 (And.intro hhl9b d6))
               have g6 := Aside0.mk b7
               have HR10e := Aside0.mk b2
               clear b7 b4 a7 b2 e5 hup g9 HS9 d1 d3 g1 hhl9b d6)
            | (at_builtin
               rw [← g6.out]
               refine Kd.R_append kSl (w0 := w0) w0.heap.size rfl (.tmp 89) (.tmp 92) 40 28 (.slice none 0 0) 24 rfl Try.underlying40 infoSI rfl (by decide) (by omega) (.slice (some ⟨gS, 0, none⟩) p.heaps.length cS) s9.hs a0 [.slice (some ⟨w9.heap.size, 0, none⟩) 1 1] (fun k => a1 k = .hs ∨ a3.heap.size ≤ k) (fun _ => False) rfl (by rw [show a3.heap.size = w9.heap.size + 1 by rw [g6.out]; simp]; rfl) (by rw [HR10e.out]; rfl) (fun _ hk => hk.elim) (fun _ hk => .inr hk) h0.out d9.out d9.out.size (by rw [a2.out.1]; omega) ?_
               intro v9 f1 ho hb hg hat
               obtain ⟨A9, c9, h8⟩ := Kd.R_slice ho
               rw [show (s9.hs ++ [a0]).length = p.heaps.length + 1 by rw [List.length_append, a2.out.1]; rfl] at h8
               subst h8
               have hgk : Kept a3 f1 (fun k => a1 k = .hs) := kept_grown hg fun k hk => HS10.out.rowHs _ a2.out.2.2 k hk
               have e3 : f1.heap[T]? = some (.cells s9.tc.toArray 90 (0, 0)) := blk_kept (HS10.out .tt).1 hgk (by show ¬ a1 T = _; rw [(HS10.out .tt).2.1]; simp)
               have t7 : f1.cell? ⟨T, 7, none⟩ = some s.vHs := by rw [blk_cell e3 7]; rw [a4.out]; show s.tc.toArray[7]? = _; rw [HD.out.tc]; rfl
               have f7 : f1.frozen? ⟨T, 7, none⟩ = false := blk_frozen e3
               have g5 := Aside0.mk ho
               have g3 := Aside0.mk hg
               have e6 := Aside0.mk hat
               have g0 := Aside0.mk hb
               have HGK := Aside0.mk hgk
               clear ho hb hg hat hgk e3)
            | (refine wpList_st1 rfl _ _ _ rfl T 7 (.slice A9 (p.heaps.length + 1) c9) rfl rfl rfl ⟨_, t7⟩ f7 sizeSSI ?_
               intro f9 b6
               have HS12 := Aside0.mk (HS10.out.pushHs a0 [(y0 : Int)] HRr.out (by rw [a2.out.2.1.1, a2.out.2.1.2]) (by rw [a2.out.1, a2.out.2.1.1]) g5.out (by rw [a2.out.2.2]; exact g3.out) (by rw [a2.out.2.2]; exact e6.out))
               rw [← b6, a2.out.2.1.1] at HS12
               have h9 : a1 T = .tt := (HS10.out .tt).2.1
               have b9 : Kept a3 f9 (fun k => (a1 k).own = true) := by rw [b6]; exact (HGK.out.mono fun k hk => by show (a1 k).own = true; rw [show a1 k = .hs from hk]; rfl).setCell (.inl (by show (a1 T).own = true; rw [h9]; rfl)) _
               have i0 := up_keep (cls := a1) (c := .hs) e6.out (HS10.out.rowHs _ a2.out.2.2)
               have e7 := Aside0.mk (b3.out.step (cls2 := up (up a1 (.slice A9 (p.heaps.length + 1) c9) .hs) (slV a0) (.hro p.heaps.length)) (b9.mono fun _ h => .inl h) (fun k hk i e _ => by
                 rw [up_ne (v := slV a0) fun e2 => by have := i1.out k e2; omega, i0 k (Nat.lt_of_lt_of_le hk b3.out.kept.1)]
                 exact e))
               have g4 := Aside0.mk (show Below w0.heap.size w0 f9 by rw [b6]; exact below_set g0.out (HS10.out .tt).2.2)
               obtain ⟨f0, g7⟩ : ∃ f0, f0 = up (up a1 (.slice A9 (p.heaps.length + 1) c9) .hs) (slV a0) (.hro p.heaps.length) := ⟨_, rfl⟩
               rw [← g7] at HS12 e7
               obtain ⟨a8, a6⟩ : ∃ a8 : Sg, a8 = { s9 with vHs := .slice A9 (p.heaps.length + 1) c9, hs := s9.hs ++ [a0], hsl := s9.hsl ++ [a0], heaps := s9.heaps ++ [[(y0 : Int)]], tc := s9.tc.set 7 (.slice A9 (p.heaps.length + 1) c9) } := ⟨_, rfl⟩
               rw [← a6] at HS12
               have b5 : a8.heap = p.heap := by rw [a6, a4.out]; exact HD.out.heap
               obtain ⟨gH, cH, hvH, hcH⟩ := IR.slice (HS12.out .hp) (by rw [b5, HP.out.hl]; omega)
               rw [b5, HP.out.hl] at hvH hcH
               have t6 : f9.cell? ⟨T, 6, none⟩ = some (.slice (some ⟨gH, 0, none⟩) p.blocks.length cH) := by rw [HS12.out.cell 6 a8.vH (by rw [a6]; show (s9.tc.set 7 _)[6]? = some s9.vH; rw [a4.out]; show (s.tc.set 7 _)[6]? = some s.vH; rw [HD.out.tc]; rfl), hvH]
               obtain ⟨q6, f6⟩ := hcH y0 (y0n)
               have HVH := Aside0.mk hvH
               have e4 := Aside0.mk a6
               have i2 := Aside0.mk b5
               clear hvH hcH a6 b5 g7 i0 b9 h9 b6 HS10 b3 d9 h0 g5 g3 e6 g0 HGK t7 f7 HRr)
            | (refine wpList_st1 rfl _ _ _ rfl gH y0 (.int .i64 (p.heaps.length : Int)) rfl rfl rfl ⟨_, q6⟩ f6 sizeI ?_
               intro h5 a9
               have HS13 := Aside0.mk (HS12.out.setHp (by rw [i2.out, HP.out.hl]; exact HVH.out) y0 (p.heaps.length : Int))
               rw [← a9] at HS13
               have i3 := Aside0.mk (e7.out.step (w2 := h5) (cls2 := f0) (by rw [a9]; exact (Kept.refl _ _).setCell (.inl (.inl (by show (f0 gH).own = true; rw [HS12.out.rowHp _ HVH.out gH rfl]; rfl))) _) fun _ _ _ e _ => e)
               have i5 := Aside0.mk (show Below w0.heap.size w0 h5 by rw [a9]; exact below_set g4.out (Kd.R_base (HS12.out .hp) gH (by rw [HVH.out]; rfl)))
               clear a9 HS12 e7 g4 t6 q6 f6))
          go_ret2
          refine ⟨old, 0, rfl, holdn, by rw [← HL.out.1]; omega, by rw [← HL.out.1]; exact i9, _, _, (fun x => wt x && !(decide (x = (old : Int)) && decide ((gl p.heaps (old : Int)).length = 2))), HS13.out, ?_, (by intro x hx; show a8.fW x = _; rw [e4.out]; exact k0.out x hx), HWt.out.take (nd_iff.2 holdn) (by rw [← HL.out.1]; omega) (by rw [← HL.out.1]; exact i9), ?_, i3.out, i5.out⟩
          · have hgd : (gl p.heaps (old : Int)).getD 0 0 = (y0 : Int) := by rw [← HL.out.1, HL.out.2]; rfl
            have htp : takeP p (old : Int) 0 = { block := p.block, blocks := p.blocks, heap := p.heap.set y0 (p.heaps.length : Int), heaps := p.heaps.set old (L.eraseIdx 0) ++ [[(y0 : Int)]] } := by
              unfold takeP
              rw [hgd, ← HL.out.1]
              rfl
            rw [htp]
            have j3 : a8 = { s with hs := s.hsl.set old r7 ++ [a0], hsl := s.hsl.set old r7 ++ [a0], heaps := p.heaps.set old (L.eraseIdx 0) ++ [[(y0 : Int)]], vHs := .slice A9 (p.heaps.length + 1) c9, tc := s.tc.set 7 (.slice A9 (p.heaps.length + 1) c9), fW := b8, cW := e8 } := by
              rw [e4.out, a4.out]
              show ({ s with hs := _, hsl := _, heaps := s.heaps.set old _ ++ _, vHs := _, tc := _, fW := _, cW := _ } : Sg) = _
              rw [HD.out.heaps]
            rw [j3]
            refine ⟨?_, HD.out.block, by show s.heap.set y0 _ = _; rw [HD.out.heap], HD.out.blocks, rfl, HD.out.bs, HD.out.bl, rfl, by show (s.hsl.set old r7 ++ [a0]).length = _; simp [HD.out.hl]⟩
            show s.tc.set 7 _ = _
            rw [HD.out.tc]
            rfl
          · rw [e4.out, a4.out]
            exact ⟨rfl, rfl, rfl, rfl, rfl, rfl, rfl, rfl, rfl, rfl⟩
        · first
            | (exfalso; omega)
            | (skip
               have hq : (((L.length - 1 : Nat) : Int) == 1) = false := by simp; omega
               have l9 : ¬ L.length - 1 = 1 := by omega
               have HS9 := Aside0.mk (show SP w0.heap.size T w8 a5 { s with hs := s.hsl.set old r7, hsl := s.hsl.set old r7, heaps := s.heaps.set old (L.eraseIdx 0) } by
                 have h := HS8.out
                 rw [j7.out, HD.out.hs] at h
                 exact h)
               obtain ⟨b8, d5⟩ : ∃ b8, b8 = s.fW := ⟨_, rfl⟩
               obtain ⟨e8, j6⟩ : ∃ e8, e8 = s.cW := ⟨_, rfl⟩
               obtain ⟨s9, d2⟩ : ∃ s9 : Sg, s9 = { s with hs := s.hsl.set old r7, hsl := s.hsl.set old r7, heaps := s.heaps.set old (L.eraseIdx 0), fW := b8, cW := e8 } := ⟨_, rfl⟩
               rw [show ({ s with hs := s.hsl.set old r7, hsl := s.hsl.set old r7, heaps := s.heaps.set old (L.eraseIdx 0) } : Sg) = s9 by rw [d2, d5, j6]] at HS9
               have a4 := Aside0.mk d2
               have d1 := j8
               have d3 := HB9'
               have k0 := Aside0.mk (show StdW s9 (fun x => wt x && !(decide (x = (old : Int)) && decide ((gl p.heaps (old : Int)).length = 2))) from fun x hx => by
                 rw [d2]
                 show b8 x = _
                 rw [d5, HW.out x hx, ← HL.out.1]
                 simp [hlen])
               clear d2 d5 j6 t9
               obtain ⟨w9, l2⟩ : ∃ w9, w9 = w8 := ⟨_, rfl⟩
               rw [← l2] at HS9 d1 d3 t7 q7 ⊢
               clear l2
               have HS9t := HS9.out.cell 7 s.vHs (by rw [a4.out]; show s.tc[7]? = _; rw [HD.out.tc]; rfl)
               rw [HVS.out.1] at HS9t
               obtain ⟨a3, b7⟩ : ∃ a3, a3 = w9.alloc (.cells #[.int .i64 (y0 : Int)] 3) := ⟨_, rfl⟩
               have b4 : Below w9.heap.size w9 a3 := by rw [b7]; exact below_alloc (Below.refl _ _) _
               have a7 := IR.one w9 w0.heap.size a5 (.far 7001) (y0 : Int) d3.out.size
               rw [← b7] at a7
               obtain ⟨a0, b2⟩ : ∃ a0 : Sl, a0 = (some ⟨w9.heap.size, 0, none⟩, 1, 1) := ⟨_, rfl⟩
               rw [← b2] at a7
               have e5 : ∀ k, (slV a0).ownBlock = some k → w9.heap.size ≤ k := fun k hk => by rw [b2] at hk; cases hk; exact Nat.le_refl _
               have hup : ∀ k, k < w9.heap.size → up a5 (slV a0) (.far 7001) k = a5 k := fun k hk => up_ne fun e => by have := e5 k e; omega
               have HS10 := Aside0.mk (HS9.out.stay (cls' := up a5 (slV a0) (.far 7001)) (Kept.of_below b4 _) fun k hk _ => hup k hk)
               have b3 := Aside0.mk (d1.out.step (cls2 := up a5 (slV a0) (.far 7001)) (Kept.of_below b4 _) fun k hk j e _ => by rw [hup k (Nat.lt_of_lt_of_le hk d1.out.kept.1)]; exact e)
               have d9 := Aside0.mk (below_then d3.out d3.out.size b4)
               obtain ⟨a1, g9⟩ : ∃ a1, a1 = up a5 (slV a0) (.far 7001) := ⟨_, rfl⟩
               rw [← g9] at a7 HS10 b3
               have HRr := Aside0.mk a7
               have i1 := Aside0.mk (show ∀ k, (slV a0).ownBlock = some k → w.heap.size ≤ k from fun k hk => Nat.le_trans d1.out.kept.1 (e5 k hk))
               have g1 : s9.hs.length = p.heaps.length := by rw [a4.out]; show (s.hsl.set old r7).length = _; rw [List.length_set, HD.out.hl]
               have hhl9b : s9.hsl.length = p.heaps.length ∧ s9.heaps.length = p.heaps.length := by rw [a4.out]; exact ⟨by show (s.hsl.set old r7).length = _; rw [List.length_set, HD.out.hl], by show (s.heaps.set old _).length = _; rw [List.length_set, HD.out.heaps]⟩
               have d6 : s9.vHs = .slice (some ⟨gS, 0, none⟩) p.heaps.length cS := by rw [a4.out]; exact HVS.out.1
               have h0 : Aside0 (Kd.R kSl 28 a3 w0.heap.size (fun k => a1 k = .hs ∨ a3.heap.size ≤ k) (.slice (some ⟨gS, 0, none⟩) p.heaps.length cS) s9.hs) := ⟨by
                 have h : SR a3 w0.heap.size a1 .hs s9.vHs s9.hs := HS10.out .hs
                 rw [d6] at h
                 exact Kd.R_mono h fun k hk => .inl hk⟩
               have a2 := Aside0.mk (And.intro g1 (And.intro hhl9b d6))
               have g6 := Aside0.mk b7
               have HR10e := Aside0.mk b2
               clear b7 b4 a7 b2 e5 hup g9 HS9 d1 d3 g1 hhl9b d6
               go_wp2_with (first
                 | (at_builtin
                    rw [← g6.out]
                    refine Kd.R_append kSl (w0 := w0) w0.heap.size rfl (.tmp 89) (.tmp 92) 40 28 (.slice none 0 0) 24 rfl Try.underlying40 infoSI rfl (by decide) (by omega) (.slice (some ⟨gS, 0, none⟩) p.heaps.length cS) s9.hs a0 [.slice (some ⟨w9.heap.size, 0, none⟩) 1 1] (fun k => a1 k = .hs ∨ a3.heap.size ≤ k) (fun _ => False) rfl (by rw [show a3.heap.size = w9.heap.size + 1 by rw [g6.out]; simp]; rfl) (by rw [HR10e.out]; rfl) (fun _ hk => hk.elim) (fun _ hk => .inr hk) h0.out d9.out d9.out.size (by rw [a2.out.1]; omega) ?_
                    intro v9 f1 ho hb hg hat
                    obtain ⟨A9, c9, h8⟩ := Kd.R_slice ho
                    rw [show (s9.hs ++ [a0]).length = p.heaps.length + 1 by rw [List.length_append, a2.out.1]; rfl] at h8
                    subst h8
                    have hgk : Kept a3 f1 (fun k => a1 k = .hs) := kept_grown hg fun k hk => HS10.out.rowHs _ a2.out.2.2 k hk
                    have e3 : f1.heap[T]? = some (.cells s9.tc.toArray 90 (0, 0)) := blk_kept (HS10.out .tt).1 hgk (by show ¬ a1 T = _; rw [(HS10.out .tt).2.1]; simp)
                    have t7 : f1.cell? ⟨T, 7, none⟩ = some s.vHs := by rw [blk_cell e3 7]; rw [a4.out]; show s.tc.toArray[7]? = _; rw [HD.out.tc]; rfl
                    have f7 : f1.frozen? ⟨T, 7, none⟩ = false := blk_frozen e3
                    have g5 := Aside0.mk ho
                    have g3 := Aside0.mk hg
                    have e6 := Aside0.mk hat
                    have g0 := Aside0.mk hb
                    have HGK := Aside0.mk hgk
                    clear ho hb hg hat hgk e3)
                 | (refine wpList_st1 rfl _ _ _ rfl T 7 (.slice A9 (p.heaps.length + 1) c9) rfl rfl rfl ⟨_, t7⟩ f7 sizeSSI ?_
                    intro f9 b6
                    have HS12 := Aside0.mk (HS10.out.pushHs a0 [(y0 : Int)] HRr.out (by rw [a2.out.2.1.1, a2.out.2.1.2]) (by rw [a2.out.1, a2.out.2.1.1]) g5.out (by rw [a2.out.2.2]; exact g3.out) (by rw [a2.out.2.2]; exact e6.out))
                    rw [← b6, a2.out.2.1.1] at HS12
                    have h9 : a1 T = .tt := (HS10.out .tt).2.1
                    have b9 : Kept a3 f9 (fun k => (a1 k).own = true) := by rw [b6]; exact (HGK.out.mono fun k hk => by show (a1 k).own = true; rw [show a1 k = .hs from hk]; rfl).setCell (.inl (by show (a1 T).own = true; rw [h9]; rfl)) _
                    have i0 := up_keep (cls := a1) (c := .hs) e6.out (HS10.out.rowHs _ a2.out.2.2)
                    have e7 := Aside0.mk (b3.out.step (cls2 := up (up a1 (.slice A9 (p.heaps.length + 1) c9) .hs) (slV a0) (.hro p.heaps.length)) (b9.mono fun _ h => .inl h) (fun k hk i e _ => by
                      rw [up_ne (v := slV a0) fun e2 => by have := i1.out k e2; omega, i0 k (Nat.lt_of_lt_of_le hk b3.out.kept.1)]
                      exact e))
                    have g4 := Aside0.mk (show Below w0.heap.size w0 f9 by rw [b6]; exact below_set g0.out (HS10.out .tt).2.2)
                    obtain ⟨f0, g7⟩ : ∃ f0, f0 = up (up a1 (.slice A9 (p.heaps.length + 1) c9) .hs) (slV a0) (.hro p.heaps.length) := ⟨_, rfl⟩
                    rw [← g7] at HS12 e7
                    obtain ⟨a8, a6⟩ : ∃ a8 : Sg, a8 = { s9 with vHs := .slice A9 (p.heaps.length + 1) c9, hs := s9.hs ++ [a0], hsl := s9.hsl ++ [a0], heaps := s9.heaps ++ [[(y0 : Int)]], tc := s9.tc.set 7 (.slice A9 (p.heaps.length + 1) c9) } := ⟨_, rfl⟩
                    rw [← a6] at HS12
                    have b5 : a8.heap = p.heap := by rw [a6, a4.out]; exact HD.out.heap
                    obtain ⟨gH, cH, hvH, hcH⟩ := IR.slice (HS12.out .hp) (by rw [b5, HP.out.hl]; omega)
                    rw [b5, HP.out.hl] at hvH hcH
                    have t6 : f9.cell? ⟨T, 6, none⟩ = some (.slice (some ⟨gH, 0, none⟩) p.blocks.length cH) := by rw [HS12.out.cell 6 a8.vH (by rw [a6]; show (s9.tc.set 7 _)[6]? = some s9.vH; rw [a4.out]; show (s.tc.set 7 _)[6]? = some s.vH; rw [HD.out.tc]; rfl), hvH]
                    obtain ⟨q6, f6⟩ := hcH y0 (y0n)
                    have HVH := Aside0.mk hvH
                    have e4 := Aside0.mk a6
                    have i2 := Aside0.mk b5
                    clear hvH hcH a6 b5 g7 i0 b9 h9 b6 HS10 b3 d9 h0 g5 g3 e6 g0 HGK t7 f7 HRr)
                 | (refine wpList_st1 rfl _ _ _ rfl gH y0 (.int .i64 (p.heaps.length : Int)) rfl rfl rfl ⟨_, q6⟩ f6 sizeI ?_
                    intro h5 a9
                    have HS13 := Aside0.mk (HS12.out.setHp (by rw [i2.out, HP.out.hl]; exact HVH.out) y0 (p.heaps.length : Int))
                    rw [← a9] at HS13
                    have i3 := Aside0.mk (e7.out.step (w2 := h5) (cls2 := f0) (by rw [a9]; exact (Kept.refl _ _).setCell (.inl (.inl (by show (f0 gH).own = true; rw [HS12.out.rowHp _ HVH.out gH rfl]; rfl))) _) fun _ _ _ e _ => e)
                    have i5 := Aside0.mk (show Below w0.heap.size w0 h5 by rw [a9]; exact below_set g4.out (Kd.R_base (HS12.out .hp) gH (by rw [HVH.out]; rfl)))
                    clear a9 HS12 e7 g4 t6 q6 f6))
               go_ret2
               refine ⟨old, 0, rfl, holdn, by rw [← HL.out.1]; omega, by rw [← HL.out.1]; exact i9, _, _, (fun x => wt x && !(decide (x = (old : Int)) && decide ((gl p.heaps (old : Int)).length = 2))), HS13.out, ?_, (by intro x hx; show a8.fW x = _; rw [e4.out]; exact k0.out x hx), HWt.out.take (nd_iff.2 holdn) (by rw [← HL.out.1]; omega) (by rw [← HL.out.1]; exact i9), ?_, i3.out, i5.out⟩
               · have hgd : (gl p.heaps (old : Int)).getD 0 0 = (y0 : Int) := by rw [← HL.out.1, HL.out.2]; rfl
                 have htp : takeP p (old : Int) 0 = { block := p.block, blocks := p.blocks, heap := p.heap.set y0 (p.heaps.length : Int), heaps := p.heaps.set old (L.eraseIdx 0) ++ [[(y0 : Int)]] } := by
                   unfold takeP
                   rw [hgd, ← HL.out.1]
                   rfl
                 rw [htp]
                 have j3 : a8 = { s with hs := s.hsl.set old r7 ++ [a0], hsl := s.hsl.set old r7 ++ [a0], heaps := p.heaps.set old (L.eraseIdx 0) ++ [[(y0 : Int)]], vHs := .slice A9 (p.heaps.length + 1) c9, tc := s.tc.set 7 (.slice A9 (p.heaps.length + 1) c9), fW := b8, cW := e8 } := by
                   rw [e4.out, a4.out]
                   show ({ s with hs := _, hsl := _, heaps := s.heaps.set old _ ++ _, vHs := _, tc := _, fW := _, cW := _ } : Sg) = _
                   rw [HD.out.heaps]
                 rw [j3]
                 refine ⟨?_, HD.out.block, by show s.heap.set y0 _ = _; rw [HD.out.heap], HD.out.blocks, rfl, HD.out.bs, HD.out.bl, rfl, by show (s.hsl.set old r7 ++ [a0]).length = _; simp [HD.out.hl]⟩
                 show s.tc.set 7 _ = _
                 rw [HD.out.tc]
                 rfl
               · rw [e4.out, a4.out]
                 exact ⟨rfl, rfl, rfl, rfl, rfl, rfl, rfl, rfl, rfl, rfl⟩)
      · have h1 : decide ((n1 : Int) < (n0 : Int)) = true := by simp; omega
        have h1n : decide (n1 < n0) = true := by simp; omega
        go_wp2_with fail
        clear h1 h1n h1p
        have m5 : ¬ cL = 1 := by omega
        have m7 : 1 ≤ cL := by omega
        have n5 : 1 ≤ L.length := by omega
        have hc1z : (1 : Int) ≤ (cL : Int) := by omega
        have hc2z : (2 : Int) ≤ (cL : Int) := by omega
        have hl1z : (1 : Int) ≤ (L.length : Int) := by omega
        have hl2z : (2 : Int) ≤ (L.length : Int) := by omega
        have n3 : wrap64 1 = 1 := by unfold wrap64; omega
        have n4 : wrap64 2 = 2 := by unfold wrap64; omega
        have hdrop : ∀ W, Kd.R (Kd.int .i64) 3 W w0.heap.size (fun k => cls k = .hro old) (.slice (some ⟨gL, 0, none⟩) L.length cL) L → (Kd.int .i64).C W (some ⟨gL, 2, none⟩) (L.length - 2) (L.drop 2) := fun W h => by
          have h2 := Kd.Q_reads' (Kd.Q_drop (k := 2) (Kd.Q_of_R h) (by omega))
          have h3 := h2.2.2
          rw [← h2.1] at h3
          first
            | rwa [if_pos (by omega)] at h3
            | (rw [if_neg (by omega)] at h3
               exact h3)
        have HDr := Aside0.mk hdrop
        clear hdrop
        have f8 := below_drew1 (Below.refl V.heap.size V)
        have HS5 := Aside0.mk (HS4.out.below f8)
        have h7 := Aside0.mk (l8.out.step (cls2 := cls) (Kept.of_below f8 _) fun _ _ _ e _ => e)
        have i8 := Aside0.mk (below_then k1.out k1.out.size f8)
        have i7 := Aside0.mk (Kd.R_below k9.out f8)
        have d7 : V.drew.cell? ⟨T, 7, none⟩ = _ := c7
        have d8 : V.drew.cell? ⟨gS, old, none⟩ = _ := c8
        clear f8 HS4 l8 k1 k9 c7 c8 e0 e1
        refine start_ (n := 17) (S := fun w' => w'.cell? ⟨T, 7, none⟩ = some (.slice (some ⟨gS, 0, none⟩) p.heaps.length cS) ∧ w'.cell? ⟨gS, old, none⟩ = some (.slice (some ⟨gL, 0, none⟩) L.length cL)) (ds := [16]) #[false, false, false, false, false, false, false, false, false, false, false, false, false, false, false, false, false] (by kernel_rfl) rfl rfl ⟨d7, d8⟩ (fun hHeld => ?_)
        clear d7 d8
        generalize V.drew = U at HS5 h7 i8 i7 hHeld ⊢
        have HH := Aside0.mk hHeld
        refine pure_ (i := 0) (N := some 50) (v := ?_) (a' := ?_) #[true, false, false, false, false, false, false, false, false, false, false, false, false, false, false, false, false] rfl rfl (by kernel_rfl) (fun _ _ _ h => h) (Or.inl ⟨by rfl, ?_⟩) ?_ ?_
        rotate_left
        · intro w'
          go_simp
          with_reducible rfl
        rotate_left
        · simp only [Act.put, List.setIfInBounds_toArray, List.set_cons_zero, List.set_cons_succ, i64_w, i32_w]
          rfl
        refine pure_ (i := 1) (N := some 51) (v := ?_) (a' := ?_) #[true, true, false, false, false, false, false, false, false, false, false, false, false, false, false, false, false] rfl rfl (by kernel_rfl) (fun _ _ _ h => h) (Or.inl ⟨by rfl, ?_⟩) ?_ ?_
        rotate_left
        · intro w'
          go_simp
          with_reducible rfl
        rotate_left
        · simp only [Act.put, List.setIfInBounds_toArray, List.set_cons_zero, List.set_cons_succ, i64_w, i32_w]
          rfl
        refine pure_ (i := 2) (N := some 52) (v := ?_) (a' := ?_) #[true, true, true, false, false, false, false, false, false, false, false, false, false, false, false, false, false] rfl rfl (by kernel_rfl) (fun _ _ _ h => h) (Or.inl ⟨by rfl, ?_⟩) ?_ ?_
        rotate_left
        · intro w'
          go_simp
          with_reducible rfl
        rotate_left
        · simp only [Act.put, List.setIfInBounds_toArray, List.set_cons_zero, List.set_cons_succ, i64_w, i32_w]
          rfl
        refine pure_ (i := 4) (N := some 54) (v := ?_) (a' := ?_) #[true, true, true, false, true, false, false, false, false, false, false, false, false, false, false, false, false] rfl rfl (by kernel_rfl) (fun _ _ _ h => h) (Or.inl ⟨by rfl, ?_⟩) ?_ ?_
        rotate_left
        · intro w'
          go_simp
          with_reducible rfl
        rotate_left
        · simp only [Act.put, List.setIfInBounds_toArray, List.set_cons_zero, List.set_cons_succ, i64_w, i32_w]
          rfl
        refine pure_ (i := 6) (N := some 56) (v := ?_) (a' := ?_) #[true, true, true, false, true, false, true, false, false, false, false, false, false, false, false, false, false] rfl rfl (by kernel_rfl) (fun _ _ _ h => h) (Or.inl ⟨by rfl, ?_⟩) ?_ ?_
        rotate_left
        · intro w'
          go_simp
          with_reducible rfl
        rotate_left
        · simp only [Act.put, List.setIfInBounds_toArray, List.set_cons_zero, List.set_cons_succ, i64_w, i32_w]
          rfl
        refine pure_ (i := 7) (N := some 57) (v := ?_) (a' := ?_) #[true, true, true, false, true, false, true, true, false, false, false, false, false, false, false, false, false] rfl rfl (by kernel_rfl) (fun _ _ _ h => h) (Or.inl ⟨by rfl, ?_⟩) ?_ ?_
        rotate_left
        · intro w'
          go_simp
          with_reducible rfl
        rotate_left
        · simp only [Act.put, List.setIfInBounds_toArray, List.set_cons_zero, List.set_cons_succ, i64_w, i32_w]
          rfl
        refine pure_ (i := 8) (N := some 58) (v := ?_) (a' := ?_) #[true, true, true, false, true, false, true, true, true, false, false, false, false, false, false, false, false] rfl rfl (by kernel_rfl) (fun _ _ _ h => h) (Or.inl ⟨by rfl, ?_⟩) ?_ ?_
        rotate_left
        · intro w'
          go_simp
          with_reducible rfl
        rotate_left
        · simp only [Act.put, List.setIfInBounds_toArray, List.set_cons_zero, List.set_cons_succ, i64_w, i32_w]
          rfl
        refine pure_ (i := 10) (N := some 60) (v := ?_) (a' := ?_) #[true, true, true, false, true, false, true, true, true, false, true, false, false, false, false, false, false] rfl rfl (by kernel_rfl) (fun _ _ _ h => h) (Or.inl ⟨by rfl, ?_⟩) ?_ ?_
        rotate_left
        · intro w'
          go_simp
          with_reducible rfl
        rotate_left
        · simp only [Act.put, List.setIfInBounds_toArray, List.set_cons_zero, List.set_cons_succ, i64_w, i32_w]
          rfl
        refine pure_ (i := 11) (N := some 61) (v := ?_) (a' := ?_) #[true, true, true, false, true, false, true, true, true, false, true, true, false, false, false, false, false] rfl rfl (by kernel_rfl) (fun _ _ _ h => h) (Or.inl ⟨by rfl, ?_⟩) ?_ ?_
        rotate_left
        · intro w'
          go_simp
          with_reducible rfl
        rotate_left
        · simp only [Act.put, List.setIfInBounds_toArray, List.set_cons_zero, List.set_cons_succ, i64_w, i32_w]
          rfl
        refine pure_ (i := 12) (N := some 62) (v := ?_) (a' := ?_) #[true, true, true, false, true, false, true, true, true, false, true, true, true, false, false, false, false] rfl rfl (by kernel_rfl) (fun _ _ _ h => h) (Or.inl ⟨by rfl, ?_⟩) ?_ ?_
        rotate_left
        · intro w'
          go_simp
          with_reducible rfl
        rotate_left
        · simp only [Act.put, List.setIfInBounds_toArray, List.set_cons_zero, List.set_cons_succ, i64_w, i32_w]
          rfl
        refine pure_ (i := 13) (N := some 63) (v := ?_) (a' := ?_) #[true, true, true, false, true, false, true, true, true, false, true, true, true, true, false, false, false] rfl rfl (by kernel_rfl) (fun _ _ _ h => h) (Or.inl ⟨by rfl, ?_⟩) ?_ ?_
        rotate_left
        · intro w'
          go_simp
          with_reducible rfl
        rotate_left
        · simp only [Act.put, List.setIfInBounds_toArray, List.set_cons_zero, List.set_cons_succ, i64_w, i32_w]
          rfl
        refine take_ (i := 3) (N := some 53) (v := ?_) (a' := ?_) #[true, true, true, true, true, false, true, true, true, false, true, true, true, true, false, false, false] rfl rfl (by kernel_rfl) (fun _ _ _ h => h) (Or.inl ⟨by rfl, ?_⟩) hHeld ?_ ?_
        rotate_left
        · rintro w' ⟨s0, s1⟩
          go_simp
          with_reducible rfl
        rotate_left
        · simp only [Act.put, List.setIfInBounds_toArray, List.set_cons_zero, List.set_cons_succ, i64_w, i32_w]
          rfl
        refine one_ (i := 5) (N := some 55) #[true, true, true, true, true, true, true, true, true, false, true, true, true, true, false, false, false] rfl rfl (by kernel_rfl) (by decide) (fun K hK => ?_)
        refine Kd.R_lit_step (Kd.int .i64) (w0 := w0) w0.heap.size 3 (by rfl) (N := 55) rfl (xs := ([] : List Int)) (inner := []) (okp := fun _ => False) (ok := fun k => U.heap.size ≤ k) ?hr ⟨rfl, fun j p h => by simp at h⟩ (fun _ hk => hk.elim) (Nat.le_refl _) i8.out i8.out.size (by simp) ?_
        (case hr => first | (go_simp; done) | (go_simp; rfl))
        intro v5 w5 ho hb hg hat
        obtain ⟨A5, c5, m0⟩ := Kd.R_slice ho
        subst m0
        have f2 := Aside0.mk (show Below U.heap.size U w5 from ⟨hg.os, hg.tape, hg.output, hg.size, fun k hk => hg.block k hk (by simp)⟩)
        have k8 := Aside0.mk ho
        have l3 := Aside0.mk hb
        clear ho hb hg hat
        refine hK.out _ _ ⟨later f2.out HH.out.1, later f2.out HH.out.2⟩ (fun hHeld => ?_)
        clear hK K
        refine norm_ (a' := ?_) ?_ ?_
        rotate_left
        · show Act.put _ (some 55) _ = _
          simp only [Act.put, List.setIfInBounds_toArray, List.set_cons_zero, List.set_cons_succ, i64_w, i32_w]
          rfl
        refine one_ (i := 9) (N := some 59) #[true, true, true, true, true, true, true, true, true, true, true, true, true, true, false, false, false] rfl rfl (by kernel_rfl) (by decide) (fun K hK => ?_)
        have j9 := Kd.R_below i7.out f2.out
        rw [HVl.out] at j9
        have hT := Kd.R_take j9 (m := 1) (by omega)
        have hC := (Kd.R_reads' hT).2.2
        rw [← (Kd.R_reads' hT).1] at hC
        refine Kd.R_append_rows_step (Kd.int .i64) (Rr := (Kd.int .i64).K w5) (w0 := w0) w0.heap.size (by rfl) (.tmp 55) (.tmp 58) 28 3 (.int .i64 0) 8 rfl Try.underlying28 infoI rfl (by decide) (by omega) (.slice A5 ([] : List Int).length c5) [] (L.take 1) (some ⟨gL, 0, none⟩) 1 cL (fun k => U.heap.size ≤ k) (fun _ => False) rfl rfl k8.out hC (fun _ _ h => h) (fun _ hk => hk.elim) (fun _ hk => Nat.le_trans f2.out.size hk) l3.out l3.out.size (by simp) ?_
        intro v6 w6 ho hb hg hat
        obtain ⟨A6, c6, l6⟩ := Kd.R_slice ho
        rw [List.nil_append] at ho l6
        subst l6
        have f4 := Aside0.mk (f2.out.grown hg f2.out.size (fun k hk => k8.out.1 k hk))
        have l4 := Aside0.mk ho
        have k6 := Aside0.mk hb
        clear ho hb hg hat hC hT j9
        refine hK.out _ _ ⟨later f4.out HH.out.1, later f4.out HH.out.2⟩ (fun hHeld => ?_)
        clear hK K
        refine norm_ (a' := ?_) ?_ ?_
        rotate_left
        · show Act.put _ (some 59) _ = _
          simp only [Act.put, List.setIfInBounds_toArray, List.set_cons_zero, List.set_cons_succ, i64_w, i32_w]
          rfl
        refine one_ (i := 14) (N := some 64) #[true, true, true, true, true, true, true, true, true, true, true, true, true, true, true, false, false] rfl rfl (by kernel_rfl) (by decide) (fun K hK => ?_)
        have j4 := Kd.R_below i7.out f4.out
        rw [HVl.out] at j4
        have hC := HDr.out _ j4
        refine Kd.R_append_rows_step (Kd.int .i64) (Rr := (Kd.int .i64).K w6) (w0 := w0) w0.heap.size (by rfl) (.tmp 59) (.tmp 63) 28 3 (.int .i64 0) 8 rfl Try.underlying28 infoI rfl (by decide) (by omega) (.slice A6 (L.take 1).length c6) (L.take 1) (L.drop 2) (some ⟨gL, 2, none⟩) (L.length - 2) (cL-2) (fun k => U.heap.size ≤ k) (fun _ => False) rfl rfl l4.out hC (fun _ _ h => h) (fun _ hk => hk.elim) (fun _ hk => Nat.le_trans f4.out.size hk) k6.out k6.out.size (by rw [List.length_take]; omega) ?_
        intro v7 w7 ho hb hg hat
        rw [← List.eraseIdx_eq_take_drop_succ] at ho
        obtain ⟨A7, c7, g2⟩ := Kd.R_slice ho
        rw [List.length_eraseIdx_of_lt (by omega)] at g2
        subst g2
        have f3 := Aside0.mk (f4.out.grown hg f4.out.size (fun k hk => l4.out.1 k hk))
        have j5 := Aside0.mk ho
        have l5 := Aside0.mk hb
        have f7 : w7.frozen? ⟨gS, old, none⟩ = false := by obtain ⟨cs, hcs⟩ := Kd.R_typed (HS5.out .hs) gS (by rw [HVS.out.1]; rfl); exact blk_frozen ((f3.out.block gS (blk_lt hcs)).trans hcs)
        clear ho hb hg hat hC j4
        refine hK.out _ _ ⟨later f3.out HH.out.1, later f3.out HH.out.2⟩ (fun hHeld => ?_)
        clear hK K
        refine norm_ (a' := ?_) ?_ ?_
        rotate_left
        · show Act.put _ (some 64) _ = _
          simp only [Act.put, List.setIfInBounds_toArray, List.set_cons_zero, List.set_cons_succ, i64_w, i32_w]
          rfl
        refine pure_ (i := 15) (N := some 65) (v := ?_) (a' := ?_) #[true, true, true, true, true, true, true, true, true, true, true, true, true, true, true, true, false] rfl rfl (by kernel_rfl) (fun _ _ _ h => h) (Or.inl ⟨by rfl, ?_⟩) ?_ ?_
        rotate_left
        · intro w'
          go_simp
          with_reducible rfl
        rotate_left
        · simp only [Act.put, List.setIfInBounds_toArray, List.set_cons_zero, List.set_cons_succ, i64_w, i32_w]
          rfl
        refine last_ (i := 16) (N := none) #[true, true, true, true, true, true, true, true, true, true, true, true, true, true, true, true, true] rfl rfl (by kernel_rfl) (by decide) (fun K hK => ?_)
        refine skip_ (w1 := ?_) (by rfl) rfl ?_ ?_
        rotate_left
        · go_simp
          rfl
        refine hK.out _ _ ?_
        clear hK K
        refine done_ (by kernel_rfl) ?_
        have f5 : ∀ k, (slV (A7, L.length - 1, c7)).ownBlock = some k → U.heap.size ≤ k := j5.out.1
        obtain ⟨r7, j2⟩ : ∃ r7 : Sl, r7 = (A7, L.length - 1, c7) := ⟨_, rfl⟩
        rw [← j2] at f5
        have hup : ∀ k, k < U.heap.size → up cls (slV r7) (.far 7000) k = cls k := fun k hk => up_ne fun e => by have := f5 k e; omega
        have l7 : IR w7 w0.heap.size (up cls (slV r7) (.far 7000)) (.far 7000) (slV r7) (L.eraseIdx 1) := R_up rfl (by rw [j2]; exact j5.out)
        have HS7 := HS5.out.stay (cls' := up cls (slV r7) (.far 7000)) (Kept.of_below f3.out _) fun k hk _ => hup k hk
        have k7 := h7.out.step (cls2 := up cls (slV r7) (.far 7000)) (Kept.of_below f3.out _) fun k hk j e _ => by rw [hup k (Nat.lt_of_lt_of_le hk h7.out.kept.1)]; exact e
        have d4 := HS7.setHs (by rw [HVS.out.2.1]; exact HVS.out.1) old r7 (L.eraseIdx 1) l7 (by rw [HD.out.hl]; exact holdn) (by rw [HD.out.heaps, HD.out.hl])
        obtain ⟨w8, h4⟩ : ∃ w8, w8 = w7.setCell ⟨gS, old, none⟩ (.slice A7 (L.length - 1) c7) := ⟨_, rfl⟩
        have g2 : slV r7 = .slice A7 (L.length - 1) c7 := by rw [j2]; rfl
        rw [g2, ← h4] at d4
        have hgc : up cls (slV r7) (.far 7000) gS = .hs := HS7.rowHs _ HVS.out.1 gS rfl
        have j8 := Aside0.mk (k7.step (w2 := w8) (cls2 := up (up cls (slV r7) (.far 7000)) (slV r7) (.hro old)) (by rw [h4]; exact (Kept.refl _ _).setCell (.inl (.inl (by show (up cls (slV r7) (.far 7000) gS).own = true; rw [hgc]; rfl))) _) fun k hk j e _ => by rw [up_ne fun e2 => by have := f5 k e2; have := h7.out.kept.1; omega]; exact e)
        have HB9' := Aside0.mk (show Below w0.heap.size w0 w8 by rw [h4]; exact below_set l5.out (Kd.R_base (HS7 .hs) gS (by rw [HVS.out.1]; rfl)))
        rw [← h4]
        obtain ⟨a5, i4⟩ : ∃ a5, a5 = up (up cls (slV r7) (.far 7000)) (slV r7) (.hro old) := ⟨_, rfl⟩
        rw [← g2, ← i4] at d4
        rw [← i4] at j8
        obtain ⟨s8, d0⟩ : ∃ s8 : Sg, s8 = { s with hs := s.hs.set old r7, hsl := s.hsl.set old r7, heaps := s.heaps.set old (L.eraseIdx 1) } := ⟨_, rfl⟩
        rw [← d0] at d4
        have t7 : w8.cell? ⟨T, 7, none⟩ = some (.slice (some ⟨gS, 0, none⟩) p.heaps.length cS) := by rw [d4.cell 7 s.vHs (by rw [d0]; show s.tc[7]? = _; rw [HD.out.tc]; rfl), HVS.out.1]
        have q7 : w8.cell? ⟨gS, old, none⟩ = some (.slice A7 (L.length - 1) c7) := by
          obtain ⟨g', c', e', hc'⟩ := d4.slice (d4 .hs) (by rw [d0]; show 0 < (s.hs.set old r7).length; rw [List.length_set, HVS.out.2.1]; omega)
          rw [show s8.vHs = .slice (some ⟨gS, 0, none⟩) p.heaps.length cS by rw [d0]; exact HVS.out.1] at e'
          simp only [Value.slice.injEq, Option.some.injEq, Addr.mk.injEq] at e'
          obtain ⟨⟨rfl, _⟩, _⟩ := e'
          have h := (hc' old (by rw [d0]; show old < (s.hs.set old r7).length; rw [List.length_set, HVS.out.2.1]; exact holdn)).1
          rw [h, d0]
          show some (slV ((s.hs.set old r7).getD old nilL)) = _
          rw [gD_set _ _ _ _ _ (by rw [HVS.out.2.1]; exact holdn), if_pos rfl, g2]
        have t9 : w8.cell? ⟨T, 9, none⟩ = some (.map (some s.mW)) := d4.cell 9 _ (by rw [d0]; show s.tc[9]? = _; rw [HD.out.tc]; rfl)
        have HS8 := Aside0.mk d4
        have j7 := Aside0.mk d0
        have hmw : G1 w8 s.mW s.fW s.cW := by have := (d4 .mw).2.1; rw [d0] at this; exact this
        have HMw := Aside0.mk hmw
        clear f5 hup l7 HS7 k7 d4 h4 hgc i4 d0 hmw j5 l5 f3 f7 HS5 h7 i8 i7 HH j2 g2
        by_cases hlen : L.length = 2
        · have hq : (((L.length - 1 : Nat) : Int) == 1) = true := by rw [hlen]; rfl
          have l9 : L.length - 1 = 1 := by omega
          go_wp2_with (first
            | (refine wpList_gdel _ intKB rfl _ _ 88 rfl 3 Try.underlying88 s.mW s.cW s.fW rfl HMw.out (old : Int) hy rfl ?_
               intro w9 e8 hcw hgm hgg hsz
               have g8 : s8.mW = s.mW := by rw [j7.out]
               have h6 := HS8.out.setW (f := delM s.fW (old : Int)) (n := e8) (by rw [g8]; exact hgm) (by rw [g8]; exact hgg)
               have d1 := Aside0.mk (j8.out.step (w2 := w9) (cls2 := a5) (kept_grown hgg fun k e => by cases e; exact .inl (by rw [← g8, (HS8.out .mw).1]; rfl)) fun _ _ _ e _ => e)
               have d3 := Aside0.mk (HB9'.out.grown hgg HB9'.out.size (fun k e => by cases e; rw [← g8]; exact (HS8.out .mw).2.2))
               obtain ⟨b8, d5⟩ : ∃ b8, b8 = delM s.fW (old : Int) := ⟨_, rfl⟩
               rw [← d5] at h6
               obtain ⟨s9, d2⟩ : ∃ s9 : Sg, s9 = { s with hs := s.hsl.set old r7, hsl := s.hsl.set old r7, heaps := s.heaps.set old (L.eraseIdx 1), fW := b8, cW := e8 } := ⟨_, rfl⟩
               have e9 : ({ s8 with fW := b8, cW := e8 } : Sg) = s9 := by
                 rw [d2, j7.out]
                 show ({ s with hs := s.hs.set old r7, hsl := _, heaps := _, fW := _, cW := _ } : Sg) = _
                 rw [HD.out.hs]
               rw [e9] at h6
               have HS9 := Aside0.mk h6
               have a4 := Aside0.mk d2
               have k0 := Aside0.mk (show StdW s9 (fun x => wt x && !(decide (x = (old : Int)) && decide ((gl p.heaps (old : Int)).length = 2))) from fun x hx => by
                 rw [d2]
                 show b8 x = _
                 rw [d5]
                 unfold delM
                 by_cases e : x = (old : Int)
                 · rw [if_pos e, ← HL.out.1, hlen]
                   simp [e]
                 · rw [if_neg e, HW.out x hx]
                   simp [e])
               have t7 : w9.cell? ⟨T, 7, none⟩ = some (.slice (some ⟨gS, 0, none⟩) p.heaps.length cS) := by rw [h6.cell 7 s.vHs (by rw [d2]; show s.tc[7]? = _; rw [HD.out.tc]; rfl), HVS.out.1]
               clear hcw hgm hgg hsz g8 h6 d5 e9 d2 q7 t9
               have HS9t := HS9.out.cell 7 s.vHs (by rw [a4.out]; show s.tc[7]? = _; rw [HD.out.tc]; rfl)
               rw [HVS.out.1] at HS9t
               obtain ⟨a3, b7⟩ : ∃ a3, a3 = w9.alloc (.cells #[.int .i64 (y1 : Int)] 3) := ⟨_, rfl⟩
               have b4 : Below w9.heap.size w9 a3 := by rw [b7]; exact below_alloc (Below.refl _ _) _
               have a7 := IR.one w9 w0.heap.size a5 (.far 7001) (y1 : Int) d3.out.size
               rw [← b7] at a7
               obtain ⟨a0, b2⟩ : ∃ a0 : Sl, a0 = (some ⟨w9.heap.size, 0, none⟩, 1, 1) := ⟨_, rfl⟩
               rw [← b2] at a7
               have e5 : ∀ k, (slV a0).ownBlock = some k → w9.heap.size ≤ k := fun k hk => by rw [b2] at hk; cases hk; exact Nat.le_refl _
               have hup : ∀ k, k < w9.heap.size → up a5 (slV a0) (.far 7001) k = a5 k := fun k hk => up_ne fun e => by have := e5 k e; omega
               have HS10 := Aside0.mk (HS9.out.stay (cls' := up a5 (slV a0) (.far 7001)) (Kept.of_below b4 _) fun k hk _ => hup k hk)
               have b3 := Aside0.mk (d1.out.step (cls2 := up a5 (slV a0) (.far 7001)) (Kept.of_below b4 _) fun k hk j e _ => by rw [hup k (Nat.lt_of_lt_of_le hk d1.out.kept.1)]; exact e)
               have d9 := Aside0.mk (below_then d3.out d3.out.size b4)
               obtain ⟨a1, g9⟩ : ∃ a1, a1 = up a5 (slV a0) (.far 7001) := ⟨_, rfl⟩
               rw [← g9] at a7 HS10 b3
               have HRr := Aside0.mk a7
               have i1 := Aside0.mk (show ∀ k, (slV a0).ownBlock = some k → w.heap.size ≤ k from fun k hk => Nat.le_trans d1.out.kept.1 (e5 k hk))
               have g1 : s9.hs.length = p.heaps.length := by rw [a4.out]; show (s.hsl.set old r7).length = _; rw [List.length_set, HD.out.hl]
               have hhl9b : s9.hsl.length = p.heaps.length ∧ s9.heaps.length = p.heaps.length := by rw [a4.out]; exact ⟨by show (s.hsl.set old r7).length = _; rw [List.length_set, HD.out.hl], by show (s.heaps.set old _).length = _; rw [List.length_set, HD.out.heaps]⟩
               have d6 : s9.vHs = .slice (some ⟨gS, 0, none⟩) p.heaps.length cS := by rw [a4.out]; exact HVS.out.1
               have h0 : Aside0 (Kd.R kSl 28 a3 w0.heap.size (fun k => a1 k = .hs ∨ a3.heap.size ≤ k) (.slice (some ⟨gS, 0, none⟩) p.heaps.length cS) s9.hs) := ⟨by
                 have h : SR a3 w0.heap.size a1 .hs s9.vHs s9.hs := HS10.out .hs
                 rw [d6] at h
                 exact Kd.R_mono h fun k hk => .inl hk⟩
               have a2 := Aside0.mk (And.intro g1 (And.intro hhl9b d6))
               have g6 := Aside0.mk b7
               have HR10e := Aside0.mk b2
               clear b7 b4 a7 b2 e5 hup g9 HS9 d1 d3 g1 hhl9b d6)
            | (at_builtin
               rw [← g6.out]
               refine Kd.R_append kSl (w0 := w0) w0.heap.size rfl (.tmp 89) (.tmp 92) 40 28 (.slice none 0 0) 24 rfl Try.underlying40 infoSI rfl (by decide) (by omega) (.slice (some ⟨gS, 0, none⟩) p.heaps.length cS) s9.hs a0 [.slice (some ⟨w9.heap.size, 0, none⟩) 1 1] (fun k => a1 k = .hs ∨ a3.heap.size ≤ k) (fun _ => False) rfl (by rw [show a3.heap.size = w9.heap.size + 1 by rw [g6.out]; simp]; rfl) (by rw [HR10e.out]; rfl) (fun _ hk => hk.elim) (fun _ hk => .inr hk) h0.out d9.out d9.out.size (by rw [a2.out.1]; omega) ?_
               intro v9 f1 ho hb hg hat
               obtain ⟨A9, c9, h8⟩ := Kd.R_slice ho
               rw [show (s9.hs ++ [a0]).length = p.heaps.length + 1 by rw [List.length_append, a2.out.1]; rfl] at h8
               subst h8
               have hgk : Kept a3 f1 (fun k => a1 k = .hs) := kept_grown hg fun k hk => HS10.out.rowHs _ a2.out.2.2 k hk
               have e3 : f1.heap[T]? = some (.cells s9.tc.toArray 90 (0, 0)) := blk_kept (HS10.out .tt).1 hgk (by show ¬ a1 T = _; rw [(HS10.out .tt).2.1]; simp)
               have t7 : f1.cell? ⟨T, 7, none⟩ = some s.vHs := by rw [blk_cell e3 7]; rw [a4.out]; show s.tc.toArray[7]? = _; rw [HD.out.tc]; rfl
               have f7 : f1.frozen? ⟨T, 7, none⟩ = false := blk_frozen e3
               have g5 := Aside0.mk ho
               have g3 := Aside0.mk hg
               have e6 := Aside0.mk hat
               have g0 := Aside0.mk hb
               have HGK := Aside0.mk hgk
               clear ho hb hg hat hgk e3)
            | (refine wpList_st1 rfl _ _ _ rfl T 7 (.slice A9 (p.heaps.length + 1) c9) rfl rfl rfl ⟨_, t7⟩ f7 sizeSSI ?_
               intro f9 b6
               have HS12 := Aside0.mk (HS10.out.pushHs a0 [(y1 : Int)] HRr.out (by rw [a2.out.2.1.1, a2.out.2.1.2]) (by rw [a2.out.1, a2.out.2.1.1]) g5.out (by rw [a2.out.2.2]; exact g3.out) (by rw [a2.out.2.2]; exact e6.out))
               rw [← b6, a2.out.2.1.1] at HS12
               have h9 : a1 T = .tt := (HS10.out .tt).2.1
               have b9 : Kept a3 f9 (fun k => (a1 k).own = true) := by rw [b6]; exact (HGK.out.mono fun k hk => by show (a1 k).own = true; rw [show a1 k = .hs from hk]; rfl).setCell (.inl (by show (a1 T).own = true; rw [h9]; rfl)) _
               have i0 := up_keep (cls := a1) (c := .hs) e6.out (HS10.out.rowHs _ a2.out.2.2)
               have e7 := Aside0.mk (b3.out.step (cls2 := up (up a1 (.slice A9 (p.heaps.length + 1) c9) .hs) (slV a0) (.hro p.heaps.length)) (b9.mono fun _ h => .inl h) (fun k hk i e _ => by
                 rw [up_ne (v := slV a0) fun e2 => by have := i1.out k e2; omega, i0 k (Nat.lt_of_lt_of_le hk b3.out.kept.1)]
                 exact e))
               have g4 := Aside0.mk (show Below w0.heap.size w0 f9 by rw [b6]; exact below_set g0.out (HS10.out .tt).2.2)
               obtain ⟨f0, g7⟩ : ∃ f0, f0 = up (up a1 (.slice A9 (p.heaps.length + 1) c9) .hs) (slV a0) (.hro p.heaps.length) := ⟨_, rfl⟩
               rw [← g7] at HS12 e7
               obtain ⟨a8, a6⟩ : ∃ a8 : Sg, a8 = { s9 with vHs := .slice A9 (p.heaps.length + 1) c9, hs := s9.hs ++ [a0], hsl := s9.hsl ++ [a0], heaps := s9.heaps ++ [[(y1 : Int)]], tc := s9.tc.set 7 (.slice A9 (p.heaps.length + 1) c9) } := ⟨_, rfl⟩
               rw [← a6] at HS12
               have b5 : a8.heap = p.heap := by rw [a6, a4.out]; exact HD.out.heap
               obtain ⟨gH, cH, hvH, hcH⟩ := IR.slice (HS12.out .hp) (by rw [b5, HP.out.hl]; omega)
               rw [b5, HP.out.hl] at hvH hcH
               have t6 : f9.cell? ⟨T, 6, none⟩ = some (.slice (some ⟨gH, 0, none⟩) p.blocks.length cH) := by rw [HS12.out.cell 6 a8.vH (by rw [a6]; show (s9.tc.set 7 _)[6]? = some s9.vH; rw [a4.out]; show (s.tc.set 7 _)[6]? = some s.vH; rw [HD.out.tc]; rfl), hvH]
               obtain ⟨q6, f6⟩ := hcH y1 (y1n)
               have HVH := Aside0.mk hvH
               have e4 := Aside0.mk a6
               have i2 := Aside0.mk b5
               clear hvH hcH a6 b5 g7 i0 b9 h9 b6 HS10 b3 d9 h0 g5 g3 e6 g0 HGK t7 f7 HRr)
            | (refine wpList_st1 rfl _ _ _ rfl gH y1 (.int .i64 (p.heaps.length : Int)) rfl rfl rfl ⟨_, q6⟩ f6 sizeI ?_
               intro h5 a9
               have HS13 := Aside0.mk (HS12.out.setHp (by rw [i2.out, HP.out.hl]; exact HVH.out) y1 (p.heaps.length : Int))
               rw [← a9] at HS13
               have i3 := Aside0.mk (e7.out.step (w2 := h5) (cls2 := f0) (by rw [a9]; exact (Kept.refl _ _).setCell (.inl (.inl (by show (f0 gH).own = true; rw [HS12.out.rowHp _ HVH.out gH rfl]; rfl))) _) fun _ _ _ e _ => e)
               have i5 := Aside0.mk (show Below w0.heap.size w0 h5 by rw [a9]; exact below_set g4.out (Kd.R_base (HS12.out .hp) gH (by rw [HVH.out]; rfl)))
               clear a9 HS12 e7 g4 t6 q6 f6))
          go_ret2
          refine ⟨old, 1, rfl, holdn, by rw [← HL.out.1]; omega, by rw [← HL.out.1]; exact i9, _, _, (fun x => wt x && !(decide (x = (old : Int)) && decide ((gl p.heaps (old : Int)).length = 2))), HS13.out, ?_, (by intro x hx; show a8.fW x = _; rw [e4.out]; exact k0.out x hx), HWt.out.take (nd_iff.2 holdn) (by rw [← HL.out.1]; omega) (by rw [← HL.out.1]; exact i9), ?_, i3.out, i5.out⟩
          · have hgd : (gl p.heaps (old : Int)).getD 1 0 = (y1 : Int) := by rw [← HL.out.1, HL.out.2]; rfl
            have htp : takeP p (old : Int) 1 = { block := p.block, blocks := p.blocks, heap := p.heap.set y1 (p.heaps.length : Int), heaps := p.heaps.set old (L.eraseIdx 1) ++ [[(y1 : Int)]] } := by
              unfold takeP
              rw [hgd, ← HL.out.1]
              rfl
            rw [htp]
            have j3 : a8 = { s with hs := s.hsl.set old r7 ++ [a0], hsl := s.hsl.set old r7 ++ [a0], heaps := p.heaps.set old (L.eraseIdx 1) ++ [[(y1 : Int)]], vHs := .slice A9 (p.heaps.length + 1) c9, tc := s.tc.set 7 (.slice A9 (p.heaps.length + 1) c9), fW := b8, cW := e8 } := by
              rw [e4.out, a4.out]
              show ({ s with hs := _, hsl := _, heaps := s.heaps.set old _ ++ _, vHs := _, tc := _, fW := _, cW := _ } : Sg) = _
              rw [HD.out.heaps]
            rw [j3]
            refine ⟨?_, HD.out.block, by show s.heap.set y1 _ = _; rw [HD.out.heap], HD.out.blocks, rfl, HD.out.bs, HD.out.bl, rfl, by show (s.hsl.set old r7 ++ [a0]).length = _; simp [HD.out.hl]⟩
            show s.tc.set 7 _ = _
            rw [HD.out.tc]
            rfl
          · rw [e4.out, a4.out]
            exact ⟨rfl, rfl, rfl, rfl, rfl, rfl, rfl, rfl, rfl, rfl⟩
        · first
            | (exfalso; omega)
            | (skip
               have hq : (((L.length - 1 : Nat) : Int) == 1) = false := by simp; omega
               have l9 : ¬ L.length - 1 = 1 := by omega
               have HS9 := Aside0.mk (show SP w0.heap.size T w8 a5 { s with hs := s.hsl.set old r7, hsl := s.hsl.set old r7, heaps := s.heaps.set old (L.eraseIdx 1) } by
                 have h := HS8.out
                 rw [j7.out, HD.out.hs] at h
                 exact h)
               obtain ⟨b8, d5⟩ : ∃ b8, b8 = s.fW := ⟨_, rfl⟩
               obtain ⟨e8, j6⟩ : ∃ e8, e8 = s.cW := ⟨_, rfl⟩
               obtain ⟨s9, d2⟩ : ∃ s9 : Sg, s9 = { s with hs := s.hsl.set old r7, hsl := s.hsl.set old r7, heaps := s.heaps.set old (L.eraseIdx 1), fW := b8, cW := e8 } := ⟨_, rfl⟩
               rw [show ({ s with hs := s.hsl.set old r7, hsl := s.hsl.set old r7, heaps := s.heaps.set old (L.eraseIdx 1) } : Sg) = s9 by rw [d2, d5, j6]] at HS9
               have a4 := Aside0.mk d2
               have d1 := j8
               have d3 := HB9'
               have k0 := Aside0.mk (show StdW s9 (fun x => wt x && !(decide (x = (old : Int)) && decide ((gl p.heaps (old : Int)).length = 2))) from fun x hx => by
                 rw [d2]
                 show b8 x = _
                 rw [d5, HW.out x hx, ← HL.out.1]
                 simp [hlen])
               clear d2 d5 j6 t9
               obtain ⟨w9, l2⟩ : ∃ w9, w9 = w8 := ⟨_, rfl⟩
               rw [← l2] at HS9 d1 d3 t7 q7 ⊢
               clear l2
               have HS9t := HS9.out.cell 7 s.vHs (by rw [a4.out]; show s.tc[7]? = _; rw [HD.out.tc]; rfl)
               rw [HVS.out.1] at HS9t
               obtain ⟨a3, b7⟩ : ∃ a3, a3 = w9.alloc (.cells #[.int .i64 (y1 : Int)] 3) := ⟨_, rfl⟩
               have b4 : Below w9.heap.size w9 a3 := by rw [b7]; exact below_alloc (Below.refl _ _) _
               have a7 := IR.one w9 w0.heap.size a5 (.far 7001) (y1 : Int) d3.out.size
               rw [← b7] at a7
               obtain ⟨a0, b2⟩ : ∃ a0 : Sl, a0 = (some ⟨w9.heap.size, 0, none⟩, 1, 1) := ⟨_, rfl⟩
               rw [← b2] at a7
               have e5 : ∀ k, (slV a0).ownBlock = some k → w9.heap.size ≤ k := fun k hk => by rw [b2] at hk; cases hk; exact Nat.le_refl _
               have hup : ∀ k, k < w9.heap.size → up a5 (slV a0) (.far 7001) k = a5 k := fun k hk => up_ne fun e => by have := e5 k e; omega
               have HS10 := Aside0.mk (HS9.out.stay (cls' := up a5 (slV a0) (.far 7001)) (Kept.of_below b4 _) fun k hk _ => hup k hk)
               have b3 := Aside0.mk (d1.out.step (cls2 := up a5 (slV a0) (.far 7001)) (Kept.of_below b4 _) fun k hk j e _ => by rw [hup k (Nat.lt_of_lt_of_le hk d1.out.kept.1)]; exact e)
               have d9 := Aside0.mk (below_then d3.out d3.out.size b4)
               obtain ⟨a1, g9⟩ : ∃ a1, a1 = up a5 (slV a0) (.far 7001) := ⟨_, rfl⟩
               rw [← g9] at a7 HS10 b3
               have HRr := Aside0.mk a7
               have i1 := Aside0.mk (show ∀ k, (slV a0).ownBlock = some k → w.heap.size ≤ k from fun k hk => Nat.le_trans d1.out.kept.1 (e5 k hk))
               have g1 : s9.hs.length = p.heaps.length := by rw [a4.out]; show (s.hsl.set old r7).length = _; rw [List.length_set, HD.out.hl]
               have hhl9b : s9.hsl.length = p.heaps.length ∧ s9.heaps.length = p.heaps.length := by rw [a4.out]; exact ⟨by show (s.hsl.set old r7).length = _; rw [List.length_set, HD.out.hl], by show (s.heaps.set old _).length = _; rw [List.length_set, HD.out.heaps]⟩
               have d6 : s9.vHs = .slice (some ⟨gS, 0, none⟩) p.heaps.length cS := by rw [a4.out]; exact HVS.out.1
               have h0 : Aside0 (Kd.R kSl 28 a3 w0.heap.size (fun k => a1 k = .hs ∨ a3.heap.size ≤ k) (.slice (some ⟨gS, 0, none⟩) p.heaps.length cS) s9.hs) := ⟨by
                 have h : SR a3 w0.heap.size a1 .hs s9.vHs s9.hs := HS10.out .hs
                 rw [d6] at h
                 exact Kd.R_mono h fun k hk => .inl hk⟩
               have a2 := Aside0.mk (And.intro g1 (And.intro hhl9b d6))
               have g6 := Aside0.mk b7
               have HR10e := Aside0.mk b2
               clear b7 b4 a7 b2 e5 hup g9 HS9 d1 d3 g1 hhl9b d6
               go_wp2_with (first
                 | (at_builtin
                    rw [← g6.out]
                    refine Kd.R_append kSl (w0 := w0) w0.heap.size rfl (.tmp 89) (.tmp 92) 40 28 (.slice none 0 0) 24 rfl Try.underlying40 infoSI rfl (by decide) (by omega) (.slice (some ⟨gS, 0, none⟩) p.heaps.length cS) s9.hs a0 [.slice (some ⟨w9.heap.size, 0, none⟩) 1 1] (fun k => a1 k = .hs ∨ a3.heap.size ≤ k) (fun _ => False) rfl (by rw [show a3.heap.size = w9.heap.size + 1 by rw [g6.out]; simp]; rfl) (by rw [HR10e.out]; rfl) (fun _ hk => hk.elim) (fun _ hk => .inr hk) h0.out d9.out d9.out.size (by rw [a2.out.1]; omega) ?_
                    intro v9 f1 ho hb hg hat
                    obtain ⟨A9, c9, h8⟩ := Kd.R_slice ho
                    rw [show (s9.hs ++ [a0]).length = p.heaps.length + 1 by rw [List.length_append, a2.out.1]; rfl] at h8
                    subst h8
                    have hgk : Kept a3 f1 (fun k => a1 k = .hs) := kept_grown hg fun k hk => HS10.out.rowHs _ a2.out.2.2 k hk
                    have e3 : f1.heap[T]? = some (.cells s9.tc.toArray 90 (0, 0)) := blk_kept (HS10.out .tt).1 hgk (by show ¬ a1 T = _; rw [(HS10.out .tt).2.1]; simp)
                    have t7 : f1.cell? ⟨T, 7, none⟩ = some s.vHs := by rw [blk_cell e3 7]; rw [a4.out]; show s.tc.toArray[7]? = _; rw [HD.out.tc]; rfl
                    have f7 : f1.frozen? ⟨T, 7, none⟩ = false := blk_frozen e3
                    have g5 := Aside0.mk ho
                    have g3 := Aside0.mk hg
                    have e6 := Aside0.mk hat
                    have g0 := Aside0.mk hb
                    have HGK := Aside0.mk hgk
                    clear ho hb hg hat hgk e3)
                 | (refine wpList_st1 rfl _ _ _ rfl T 7 (.slice A9 (p.heaps.length + 1) c9) rfl rfl rfl ⟨_, t7⟩ f7 sizeSSI ?_
                    intro f9 b6
                    have HS12 := Aside0.mk (HS10.out.pushHs a0 [(y1 : Int)] HRr.out (by rw [a2.out.2.1.1, a2.out.2.1.2]) (by rw [a2.out.1, a2.out.2.1.1]) g5.out (by rw [a2.out.2.2]; exact g3.out) (by rw [a2.out.2.2]; exact e6.out))
                    rw [← b6, a2.out.2.1.1] at HS12
                    have h9 : a1 T = .tt := (HS10.out .tt).2.1
                    have b9 : Kept a3 f9 (fun k => (a1 k).own = true) := by rw [b6]; exact (HGK.out.mono fun k hk => by show (a1 k).own = true; rw [show a1 k = .hs from hk]; rfl).setCell (.inl (by show (a1 T).own = true; rw [h9]; rfl)) _
                    have i0 := up_keep (cls := a1) (c := .hs) e6.out (HS10.out.rowHs _ a2.out.2.2)
                    have e7 := Aside0.mk (b3.out.step (cls2 := up (up a1 (.slice A9 (p.heaps.length + 1) c9) .hs) (slV a0) (.hro p.heaps.length)) (b9.mono fun _ h => .inl h) (fun k hk i e _ => by
                      rw [up_ne (v := slV a0) fun e2 => by have := i1.out k e2; omega, i0 k (Nat.lt_of_lt_of_le hk b3.out.kept.1)]
                      exact e))
                    have g4 := Aside0.mk (show Below w0.heap.size w0 f9 by rw [b6]; exact below_set g0.out (HS10.out .tt).2.2)
                    obtain ⟨f0, g7⟩ : ∃ f0, f0 = up (up a1 (.slice A9 (p.heaps.length + 1) c9) .hs) (slV a0) (.hro p.heaps.length) := ⟨_, rfl⟩
                    rw [← g7] at HS12 e7
                    obtain ⟨a8, a6⟩ : ∃ a8 : Sg, a8 = { s9 with vHs := .slice A9 (p.heaps.length + 1) c9, hs := s9.hs ++ [a0], hsl := s9.hsl ++ [a0], heaps := s9.heaps ++ [[(y1 : Int)]], tc := s9.tc.set 7 (.slice A9 (p.heaps.length + 1) c9) } := ⟨_, rfl⟩
                    rw [← a6] at HS12
                    have b5 : a8.heap = p.heap := by rw [a6, a4.out]; exact HD.out.heap
                    obtain ⟨gH, cH, hvH, hcH⟩ := IR.slice (HS12.out .hp) (by rw [b5, HP.out.hl]; omega)
                    rw [b5, HP.out.hl] at hvH hcH
                    have t6 : f9.cell? ⟨T, 6, none⟩ = some (.slice (some ⟨gH, 0, none⟩) p.blocks.length cH) := by rw [HS12.out.cell 6 a8.vH (by rw [a6]; show (s9.tc.set 7 _)[6]? = some s9.vH; rw [a4.out]; show (s.tc.set 7 _)[6]? = some s.vH; rw [HD.out.tc]; rfl), hvH]
                    obtain ⟨q6, f6⟩ := hcH y1 (y1n)
                    have HVH := Aside0.mk hvH
                    have e4 := Aside0.mk a6
                    have i2 := Aside0.mk b5
                    clear hvH hcH a6 b5 g7 i0 b9 h9 b6 HS10 b3 d9 h0 g5 g3 e6 g0 HGK t7 f7 HRr)
                 | (refine wpList_st1 rfl _ _ _ rfl gH y1 (.int .i64 (p.heaps.length : Int)) rfl rfl rfl ⟨_, q6⟩ f6 sizeI ?_
                    intro h5 a9
                    have HS13 := Aside0.mk (HS12.out.setHp (by rw [i2.out, HP.out.hl]; exact HVH.out) y1 (p.heaps.length : Int))
                    rw [← a9] at HS13
                    have i3 := Aside0.mk (e7.out.step (w2 := h5) (cls2 := f0) (by rw [a9]; exact (Kept.refl _ _).setCell (.inl (.inl (by show (f0 gH).own = true; rw [HS12.out.rowHp _ HVH.out gH rfl]; rfl))) _) fun _ _ _ e _ => e)
                    have i5 := Aside0.mk (show Below w0.heap.size w0 h5 by rw [a9]; exact below_set g4.out (Kd.R_base (HS12.out .hp) gH (by rw [HVH.out]; rfl)))
                    clear a9 HS12 e7 g4 t6 q6 f6))
               go_ret2
               refine ⟨old, 1, rfl, holdn, by rw [← HL.out.1]; omega, by rw [← HL.out.1]; exact i9, _, _, (fun x => wt x && !(decide (x = (old : Int)) && decide ((gl p.heaps (old : Int)).length = 2))), HS13.out, ?_, (by intro x hx; show a8.fW x = _; rw [e4.out]; exact k0.out x hx), HWt.out.take (nd_iff.2 holdn) (by rw [← HL.out.1]; omega) (by rw [← HL.out.1]; exact i9), ?_, i3.out, i5.out⟩
               · have hgd : (gl p.heaps (old : Int)).getD 1 0 = (y1 : Int) := by rw [← HL.out.1, HL.out.2]; rfl
                 have htp : takeP p (old : Int) 1 = { block := p.block, blocks := p.blocks, heap := p.heap.set y1 (p.heaps.length : Int), heaps := p.heaps.set old (L.eraseIdx 1) ++ [[(y1 : Int)]] } := by
                   unfold takeP
                   rw [hgd, ← HL.out.1]
                   rfl
                 rw [htp]
                 have j3 : a8 = { s with hs := s.hsl.set old r7 ++ [a0], hsl := s.hsl.set old r7 ++ [a0], heaps := p.heaps.set old (L.eraseIdx 1) ++ [[(y1 : Int)]], vHs := .slice A9 (p.heaps.length + 1) c9, tc := s.tc.set 7 (.slice A9 (p.heaps.length + 1) c9), fW := b8, cW := e8 } := by
                   rw [e4.out, a4.out]
                   show ({ s with hs := _, hsl := _, heaps := s.heaps.set old _ ++ _, vHs := _, tc := _, fW := _, cW := _ } : Sg) = _
                   rw [HD.out.heaps]
                 rw [j3]
                 refine ⟨?_, HD.out.block, by show s.heap.set y1 _ = _; rw [HD.out.heap], HD.out.blocks, rfl, HD.out.bs, HD.out.bl, rfl, by show (s.hsl.set old r7 ++ [a0]).length = _; simp [HD.out.hl]⟩
                 show s.tc.set 7 _ = _
                 rw [HD.out.tc]
                 rfl
               · rw [e4.out, a4.out]
                 exact ⟨rfl, rfl, rfl, rfl, rfl, rfl, rfl, rfl, rfl, rfl⟩)
      · have h1 : decide ((n1 : Int) < (n0 : Int)) = true := by simp; omega
        have h1n : decide (n1 < n0) = true := by simp; omega
        go_wp2_with fail
        clear h1 h1n h1p
        have m5 : ¬ cL = 1 := by omega
        have m7 : 1 ≤ cL := by omega
        have n5 : 1 ≤ L.length := by omega
        have hc1z : (1 : Int) ≤ (cL : Int) := by omega
        have hc2z : (2 : Int) ≤ (cL : Int) := by omega
        have hl1z : (1 : Int) ≤ (L.length : Int) := by omega
        have hl2z : (2 : Int) ≤ (L.length : Int) := by omega
        have n3 : wrap64 1 = 1 := by unfold wrap64; omega
        have n4 : wrap64 2 = 2 := by unfold wrap64; omega
        have hdrop : ∀ W, Kd.R (Kd.int .i64) 3 W w0.heap.size (fun k => cls k = .hro old) (.slice (some ⟨gL, 0, none⟩) L.length cL) L → (Kd.int .i64).C W (some ⟨gL, 0, none⟩) (L.length - 2) (L.drop 2) := fun W h => by
          have h2 := Kd.Q_reads' (Kd.Q_drop (k := 2) (Kd.Q_of_R h) (by omega))
          have h3 := h2.2.2
          rw [← h2.1] at h3
          first
            | rwa [if_pos (by omega)] at h3
            | (rw [if_neg (by omega)] at h3
               exact h3)
        have HDr := Aside0.mk hdrop
        clear hdrop
        have f8 := below_drew1 (Below.refl V.heap.size V)
        have HS5 := Aside0.mk (HS4.out.below f8)
        have h7 := Aside0.mk (l8.out.step (cls2 := cls) (Kept.of_below f8 _) fun _ _ _ e _ => e)
        have i8 := Aside0.mk (below_then k1.out k1.out.size f8)
        have i7 := Aside0.mk (Kd.R_below k9.out f8)
        have d7 : V.drew.cell? ⟨T, 7, none⟩ = _ := c7
        have d8 : V.drew.cell? ⟨gS, old, none⟩ = _ := c8
        clear f8 HS4 l8 k1 k9 c7 c8 e0 e1
        refine start_ (n := 17) (S := fun w' => w'.cell? ⟨T, 7, none⟩ = some (.slice (some ⟨gS, 0, none⟩) p.heaps.length cS) ∧ w'.cell? ⟨gS, old, none⟩ = some (.slice (some ⟨gL, 0, none⟩) L.length cL)) (ds := [16]) #[false, false, false, false, false, false, false, false, false, false, false, false, false, false, false, false, false] (by kernel_rfl) rfl rfl ⟨d7, d8⟩ (fun hHeld => ?_)
        clear d7 d8
        generalize V.drew = U at HS5 h7 i8 i7 hHeld ⊢
        have HH := Aside0.mk hHeld
        refine pure_ (i := 0) (N := some 50) (v := ?_) (a' := ?_) #[true, false, false, false, false, false, false, false, false, false, false, false, false, false, false, false, false] rfl rfl (by kernel_rfl) (fun _ _ _ h => h) (Or.inl ⟨by rfl, ?_⟩) ?_ ?_
        rotate_left
        · intro w'
          go_simp
          with_reducible rfl
        rotate_left
        · simp only [Act.put, List.setIfInBounds_toArray, List.set_cons_zero, List.set_cons_succ, i64_w, i32_w]
          rfl
        refine pure_ (i := 1) (N := some 51) (v := ?_) (a' := ?_) #[true, true, false, false, false, false, false, false, false, false, false, false, false, false, false, false, false] rfl rfl (by kernel_rfl) (fun _ _ _ h => h) (Or.inl ⟨by rfl, ?_⟩) ?_ ?_
        rotate_left
        · intro w'
          go_simp
          with_reducible rfl
        rotate_left
        · simp only [Act.put, List.setIfInBounds_toArray, List.set_cons_zero, List.set_cons_succ, i64_w, i32_w]
          rfl
        refine pure_ (i := 2) (N := some 52) (v := ?_) (a' := ?_) #[true, true, true, false, false, false, false, false, false, false, false, false, false, false, false, false, false] rfl rfl (by kernel_rfl) (fun _ _ _ h => h) (Or.inl ⟨by rfl, ?_⟩) ?_ ?_
        rotate_left
        · intro w'
          go_simp
          with_reducible rfl
        rotate_left
        · simp only [Act.put, List.setIfInBounds_toArray, List.set_cons_zero, List.set_cons_succ, i64_w, i32_w]
          rfl
        refine pure_ (i := 4) (N := some 54) (v := ?_) (a' := ?_) #[true, true, true, false, true, false, false, false, false, false, false, false, false, false, false, false, false] rfl rfl (by kernel_rfl) (fun _ _ _ h => h) (Or.inl ⟨by rfl, ?_⟩) ?_ ?_
        rotate_left
        · intro w'
          go_simp
          with_reducible rfl
        rotate_left
        · simp only [Act.put, List.setIfInBounds_toArray, List.set_cons_zero, List.set_cons_succ, i64_w, i32_w]
          rfl
        refine pure_ (i := 6) (N := some 56) (v := ?_) (a' := ?_) #[true, true, true, false, true, false, true, false, false, false, false, false, false, false, false, false, false] rfl rfl (by kernel_rfl) (fun _ _ _ h => h) (Or.inl ⟨by rfl, ?_⟩) ?_ ?_
        rotate_left
        · intro w'
          go_simp
          with_reducible rfl
        rotate_left
        · simp only [Act.put, List.setIfInBounds_toArray, List.set_cons_zero, List.set_cons_succ, i64_w, i32_w]
          rfl
        refine pure_ (i := 7) (N := some 57) (v := ?_) (a' := ?_) #[true, true, true, false, true, false, true, true, false, false, false, false, false, false, false, false, false] rfl rfl (by kernel_rfl) (fun _ _ _ h => h) (Or.inl ⟨by rfl, ?_⟩) ?_ ?_
        rotate_left
        · intro w'
          go_simp
          with_reducible rfl
        rotate_left
        · simp only [Act.put, List.setIfInBounds_toArray, List.set_cons_zero, List.set_cons_succ, i64_w, i32_w]
          rfl
        refine pure_ (i := 8) (N := some 58) (v := ?_) (a' := ?_) #[true, true, true, false, true, false, true, true, true, false, false, false, false, false, false, false, false] rfl rfl (by kernel_rfl) (fun _ _ _ h => h) (Or.inl ⟨by rfl, ?_⟩) ?_ ?_
        rotate_left
        · intro w'
          go_simp
          with_reducible rfl
        rotate_left
        · simp only [Act.put, List.setIfInBounds_toArray, List.set_cons_zero, List.set_cons_succ, i64_w, i32_w]
          rfl
        refine pure_ (i := 10) (N := some 60) (v := ?_) (a' := ?_) #[true, true, true, false, true, false, true, true, true, false, true, false, false, false, false, false, false] rfl rfl (by kernel_rfl) (fun _ _ _ h => h) (Or.inl ⟨by rfl, ?_⟩) ?_ ?_
        rotate_left
        · intro w'
          go_simp
          with_reducible rfl
        rotate_left
        · simp only [Act.put, List.setIfInBounds_toArray, List.set_cons_zero, List.set_cons_succ, i64_w, i32_w]
          rfl
        refine pure_ (i := 11) (N := some 61) (v := ?_) (a' := ?_) #[true, true, true, false, true, false, true, true, true, false, true, true, false, false, false, false, false] rfl rfl (by kernel_rfl) (fun _ _ _ h => h) (Or.inl ⟨by rfl, ?_⟩) ?_ ?_
        rotate_left
        · intro w'
          go_simp
          with_reducible rfl
        rotate_left
        · simp only [Act.put, List.setIfInBounds_toArray, List.set_cons_zero, List.set_cons_succ, i64_w, i32_w]
          rfl
        refine pure_ (i := 12) (N := some 62) (v := ?_) (a' := ?_) #[true, true, true, false, true, false, true, true, true, false, true, true, true, false, false, false, false] rfl rfl (by kernel_rfl) (fun _ _ _ h => h) (Or.inl ⟨by rfl, ?_⟩) ?_ ?_
        rotate_left
        · intro w'
          go_simp
          with_reducible rfl
        rotate_left
        · simp only [Act.put, List.setIfInBounds_toArray, List.set_cons_zero, List.set_cons_succ, i64_w, i32_w]
          rfl
        refine pure_ (i := 13) (N := some 63) (v := ?_) (a' := ?_) #[true, true, true, false, true, false, true, true, true, false, true, true, true, true, false, false, false] rfl rfl (by kernel_rfl) (fun _ _ _ h => h) (Or.inl ⟨by rfl, ?_⟩) ?_ ?_
        rotate_left
        · intro w'
          go_simp
          with_reducible rfl
        rotate_left
        · simp only [Act.put, List.setIfInBounds_toArray, List.set_cons_zero, List.set_cons_succ, i64_w, i32_w]
          rfl
        refine take_ (i := 3) (N := some 53) (v := ?_) (a' := ?_) #[true, true, true, true, true, false, true, true, true, false, true, true, true, true, false, false, false] rfl rfl (by kernel_rfl) (fun _ _ _ h => h) (Or.inl ⟨by rfl, ?_⟩) hHeld ?_ ?_
        rotate_left
        · rintro w' ⟨s0, s1⟩
          go_simp
          with_reducible rfl
        rotate_left
        · simp only [Act.put, List.setIfInBounds_toArray, List.set_cons_zero, List.set_cons_succ, i64_w, i32_w]
          rfl
        refine one_ (i := 5) (N := some 55) #[true, true, true, true, true, true, true, true, true, false, true, true, true, true, false, false, false] rfl rfl (by kernel_rfl) (by decide) (fun K hK => ?_)
        refine Kd.R_lit_step (Kd.int .i64) (w0 := w0) w0.heap.size 3 (by rfl) (N := 55) rfl (xs := ([] : List Int)) (inner := []) (okp := fun _ => False) (ok := fun k => U.heap.size ≤ k) ?hr ⟨rfl, fun j p h => by simp at h⟩ (fun _ hk => hk.elim) (Nat.le_refl _) i8.out i8.out.size (by simp) ?_
        (case hr => first | (go_simp; done) | (go_simp; rfl))
        intro v5 w5 ho hb hg hat
        obtain ⟨A5, c5, m0⟩ := Kd.R_slice ho
        subst m0
        have f2 := Aside0.mk (show Below U.heap.size U w5 from ⟨hg.os, hg.tape, hg.output, hg.size, fun k hk => hg.block k hk (by simp)⟩)
        have k8 := Aside0.mk ho
        have l3 := Aside0.mk hb
        clear ho hb hg hat
        refine hK.out _ _ ⟨later f2.out HH.out.1, later f2.out HH.out.2⟩ (fun hHeld => ?_)
        clear hK K
        refine norm_ (a' := ?_) ?_ ?_
        rotate_left
        · show Act.put _ (some 55) _ = _
          simp only [Act.put, List.setIfInBounds_toArray, List.set_cons_zero, List.set_cons_succ, i64_w, i32_w]
          rfl
        refine one_ (i := 9) (N := some 59) #[true, true, true, true, true, true, true, true, true, true, true, true, true, true, false, false, false] rfl rfl (by kernel_rfl) (by decide) (fun K hK => ?_)
        have j9 := Kd.R_below i7.out f2.out
        rw [HVl.out] at j9
        have hT := Kd.R_take j9 (m := 1) (by omega)
        have hC := (Kd.R_reads' hT).2.2
        rw [← (Kd.R_reads' hT).1] at hC
        refine Kd.R_append_rows_step (Kd.int .i64) (Rr := (Kd.int .i64).K w5) (w0 := w0) w0.heap.size (by rfl) (.tmp 55) (.tmp 58) 28 3 (.int .i64 0) 8 rfl Try.underlying28 infoI rfl (by decide) (by omega) (.slice A5 ([] : List Int).length c5) [] (L.take 1) (some ⟨gL, 0, none⟩) 1 2 (fun k => U.heap.size ≤ k) (fun _ => False) rfl rfl k8.out hC (fun _ _ h => h) (fun _ hk => hk.elim) (fun _ hk => Nat.le_trans f2.out.size hk) l3.out l3.out.size (by simp) ?_
        intro v6 w6 ho hb hg hat
        obtain ⟨A6, c6, l6⟩ := Kd.R_slice ho
        rw [List.nil_append] at ho l6
        subst l6
        have f4 := Aside0.mk (f2.out.grown hg f2.out.size (fun k hk => k8.out.1 k hk))
        have l4 := Aside0.mk ho
        have k6 := Aside0.mk hb
        clear ho hb hg hat hC hT j9
        refine hK.out _ _ ⟨later f4.out HH.out.1, later f4.out HH.out.2⟩ (fun hHeld => ?_)
        clear hK K
        refine norm_ (a' := ?_) ?_ ?_
        rotate_left
        · show Act.put _ (some 59) _ = _
          simp only [Act.put, List.setIfInBounds_toArray, List.set_cons_zero, List.set_cons_succ, i64_w, i32_w]
          rfl
        refine one_ (i := 14) (N := some 64) #[true, true, true, true, true, true, true, true, true, true, true, true, true, true, true, false, false] rfl rfl (by kernel_rfl) (by decide) (fun K hK => ?_)
        have j4 := Kd.R_below i7.out f4.out
        rw [HVl.out] at j4
        have hC := HDr.out _ j4
        refine Kd.R_append_rows_step (Kd.int .i64) (Rr := (Kd.int .i64).K w6) (w0 := w0) w0.heap.size (by rfl) (.tmp 59) (.tmp 63) 28 3 (.int .i64 0) 8 rfl Try.underlying28 infoI rfl (by decide) (by omega) (.slice A6 (L.take 1).length c6) (L.take 1) (L.drop 2) (some ⟨gL, 0, none⟩) (L.length - 2) (0) (fun k => U.heap.size ≤ k) (fun _ => False) rfl rfl l4.out hC (fun _ _ h => h) (fun _ hk => hk.elim) (fun _ hk => Nat.le_trans f4.out.size hk) k6.out k6.out.size (by rw [List.length_take]; omega) ?_
        intro v7 w7 ho hb hg hat
        rw [← List.eraseIdx_eq_take_drop_succ] at ho
        obtain ⟨A7, c7, g2⟩ := Kd.R_slice ho
        rw [List.length_eraseIdx_of_lt (by omega)] at g2
        subst g2
        have f3 := Aside0.mk (f4.out.grown hg f4.out.size (fun k hk => l4.out.1 k hk))
        have j5 := Aside0.mk ho
        have l5 := Aside0.mk hb
        have f7 : w7.frozen? ⟨gS, old, none⟩ = false := by obtain ⟨cs, hcs⟩ := Kd.R_typed (HS5.out .hs) gS (by rw [HVS.out.1]; rfl); exact blk_frozen ((f3.out.block gS (blk_lt hcs)).trans hcs)
        clear ho hb hg hat hC j4
        refine hK.out _ _ ⟨later f3.out HH.out.1, later f3.out HH.out.2⟩ (fun hHeld => ?_)
        clear hK K
        refine norm_ (a' := ?_) ?_ ?_
        rotate_left
        · show Act.put _ (some 64) _ = _
          simp only [Act.put, List.setIfInBounds_toArray, List.set_cons_zero, List.set_cons_succ, i64_w, i32_w]
          rfl
        refine pure_ (i := 15) (N := some 65) (v := ?_) (a' := ?_) #[true, true, true, true, true, true, true, true, true, true, true, true, true, true, true, true, false] rfl rfl (by kernel_rfl) (fun _ _ _ h => h) (Or.inl ⟨by rfl, ?_⟩) ?_ ?_
        rotate_left
        · intro w'
          go_simp
          with_reducible rfl
        rotate_left
        · simp only [Act.put, List.setIfInBounds_toArray, List.set_cons_zero, List.set_cons_succ, i64_w, i32_w]
          rfl
        refine last_ (i := 16) (N := none) #[true, true, true, true, true, true, true, true, true, true, true, true, true, true, true, true, true] rfl rfl (by kernel_rfl) (by decide) (fun K hK => ?_)
        refine skip_ (w1 := ?_) (by rfl) rfl ?_ ?_
        rotate_left
        · go_simp
          rfl
        refine hK.out _ _ ?_
        clear hK K
        refine done_ (by kernel_rfl) ?_
        have f5 : ∀ k, (slV (A7, L.length - 1, c7)).ownBlock = some k → U.heap.size ≤ k := j5.out.1
        obtain ⟨r7, j2⟩ : ∃ r7 : Sl, r7 = (A7, L.length - 1, c7) := ⟨_, rfl⟩
        rw [← j2] at f5
        have hup : ∀ k, k < U.heap.size → up cls (slV r7) (.far 7000) k = cls k := fun k hk => up_ne fun e => by have := f5 k e; omega
        have l7 : IR w7 w0.heap.size (up cls (slV r7) (.far 7000)) (.far 7000) (slV r7) (L.eraseIdx 1) := R_up rfl (by rw [j2]; exact j5.out)
        have HS7 := HS5.out.stay (cls' := up cls (slV r7) (.far 7000)) (Kept.of_below f3.out _) fun k hk _ => hup k hk
        have k7 := h7.out.step (cls2 := up cls (slV r7) (.far 7000)) (Kept.of_below f3.out _) fun k hk j e _ => by rw [hup k (Nat.lt_of_lt_of_le hk h7.out.kept.1)]; exact e
        have d4 := HS7.setHs (by rw [HVS.out.2.1]; exact HVS.out.1) old r7 (L.eraseIdx 1) l7 (by rw [HD.out.hl]; exact holdn) (by rw [HD.out.heaps, HD.out.hl])
        obtain ⟨w8, h4⟩ : ∃ w8, w8 = w7.setCell ⟨gS, old, none⟩ (.slice A7 (L.length - 1) c7) := ⟨_, rfl⟩
        have g2 : slV r7 = .slice A7 (L.length - 1) c7 := by rw [j2]; rfl
        rw [g2, ← h4] at d4
        have hgc : up cls (slV r7) (.far 7000) gS = .hs := HS7.rowHs _ HVS.out.1 gS rfl
        have j8 := Aside0.mk (k7.step (w2 := w8) (cls2 := up (up cls (slV r7) (.far 7000)) (slV r7) (.hro old)) (by rw [h4]; exact (Kept.refl _ _).setCell (.inl (.inl (by show (up cls (slV r7) (.far 7000) gS).own = true; rw [hgc]; rfl))) _) fun k hk j e _ => by rw [up_ne fun e2 => by have := f5 k e2; have := h7.out.kept.1; omega]; exact e)
        have HB9' := Aside0.mk (show Below w0.heap.size w0 w8 by rw [h4]; exact below_set l5.out (Kd.R_base (HS7 .hs) gS (by rw [HVS.out.1]; rfl)))
        rw [← h4]
        obtain ⟨a5, i4⟩ : ∃ a5, a5 = up (up cls (slV r7) (.far 7000)) (slV r7) (.hro old) := ⟨_, rfl⟩
        rw [← g2, ← i4] at d4
        rw [← i4] at j8
        obtain ⟨s8, d0⟩ : ∃ s8 : Sg, s8 = { s with hs := s.hs.set old r7, hsl := s.hsl.set old r7, heaps := s.heaps.set old (L.eraseIdx 1) } := ⟨_, rfl⟩
        rw [← d0] at d4
        have t7 : w8.cell? ⟨T, 7, none⟩ = some (.slice (some ⟨gS, 0, none⟩) p.heaps.length cS) := by rw [d4.cell 7 s.vHs (by rw [d0]; show s.tc[7]? = _; rw [HD.out.tc]; rfl), HVS.out.1]
        have q7 : w8.cell? ⟨gS, old, none⟩ = some (.slice A7 (L.length - 1) c7) := by
          obtain ⟨g', c', e', hc'⟩ := d4.slice (d4 .hs) (by rw [d0]; show 0 < (s.hs.set old r7).length; rw [List.length_set, HVS.out.2.1]; omega)
          rw [show s8.vHs = .slice (some ⟨gS, 0, none⟩) p.heaps.length cS by rw [d0]; exact HVS.out.1] at e'
          simp only [Value.slice.injEq, Option.some.injEq, Addr.mk.injEq] at e'
          obtain ⟨⟨rfl, _⟩, _⟩ := e'
          have h := (hc' old (by rw [d0]; show old < (s.hs.set old r7).length; rw [List.length_set, HVS.out.2.1]; exact holdn)).1
          rw [h, d0]
          show some (slV ((s.hs.set old r7).getD old nilL)) = _
          rw [gD_set _ _ _ _ _ (by rw [HVS.out.2.1]; exact holdn), if_pos rfl, g2]
        have t9 : w8.cell? ⟨T, 9, none⟩ = some (.map (some s.mW)) := d4.cell 9 _ (by rw [d0]; show s.tc[9]? = _; rw [HD.out.tc]; rfl)
        have HS8 := Aside0.mk d4
        have j7 := Aside0.mk d0
        have hmw : G1 w8 s.mW s.fW s.cW := by have := (d4 .mw).2.1; rw [d0] at this; exact this
        have HMw := Aside0.mk hmw
        clear f5 hup l7 HS7 k7 d4 h4 hgc i4 d0 hmw j5 l5 f3 f7 HS5 h7 i8 i7 HH j2 g2
        by_cases hlen : L.length = 2
        · have hq : (((L.length - 1 : Nat) : Int) == 1) = true := by rw [hlen]; rfl
          have l9 : L.length - 1 = 1 := by omega
          go_wp2_with (first
            | (refine wpList_gdel _ intKB rfl _ _ 88 rfl 3 Try.underlying88 s.mW s.cW s.fW rfl HMw.out (old : Int) hy rfl ?_
               intro w9 e8 hcw hgm hgg hsz
               have g8 : s8.mW = s.mW := by rw [j7.out]
               have h6 := HS8.out.setW (f := delM s.fW (old : Int)) (n := e8) (by rw [g8]; exact hgm) (by rw [g8]; exact hgg)
               have d1 := Aside0.mk (j8.out.step (w2 := w9) (cls2 := a5) (kept_grown hgg fun k e => by cases e; exact .inl (by rw [← g8, (HS8.out .mw).1]; rfl)) fun _ _ _ e _ => e)
               have d3 := Aside0.mk (HB9'.out.grown hgg HB9'.out.size (fun k e => by cases e; rw [← g8]; exact (HS8.out .mw).2.2))
               obtain ⟨b8, d5⟩ : ∃ b8, b8 = delM s.fW (old : Int) := ⟨_, rfl⟩
               rw [← d5] at h6
               obtain ⟨s9, d2⟩ : ∃ s9 : Sg, s9 = { s with hs := s.hsl.set old r7, hsl := s.hsl.set old r7, heaps := s.heaps.set old (L.eraseIdx 1), fW := b8, cW := e8 } := ⟨_, rfl⟩
               have e9 : ({ s8 with fW := b8, cW := e8 } : Sg) = s9 := by
                 rw [d2, j7.out]
                 show ({ s with hs := s.hs.set old r7, hsl := _, heaps := _, fW := _, cW := _ } : Sg) = _
                 rw [HD.out.hs]
               rw [e9] at h6
               have HS9 := Aside0.mk h6
               have a4 := Aside0.mk d2
               have k0 := Aside0.mk (show StdW s9 (fun x => wt x && !(decide (x = (old : Int)) && decide ((gl p.heaps (old : Int)).length = 2))) from fun x hx => by
                 rw [d2]
                 show b8 x = _
                 rw [d5]
                 unfold delM
                 by_cases e : x = (old : Int)
                 · rw [if_pos e, ← HL.out.1, hlen]
                   simp [e]
                 · rw [if_neg e, HW.out x hx]
                   simp [e])
               have t7 : w9.cell? ⟨T, 7, none⟩ = some (.slice (some ⟨gS, 0, none⟩) p.heaps.length cS) := by rw [h6.cell 7 s.vHs (by rw [d2]; show s.tc[7]? = _; rw [HD.out.tc]; rfl), HVS.out.1]
               clear hcw hgm hgg hsz g8 h6 d5 e9 d2 q7 t9
               have HS9t := HS9.out.cell 7 s.vHs (by rw [a4.out]; show s.tc[7]? = _; rw [HD.out.tc]; rfl)
               rw [HVS.out.1] at HS9t
               obtain ⟨a3, b7⟩ : ∃ a3, a3 = w9.alloc (.cells #[.int .i64 (y1 : Int)] 3) := ⟨_, rfl⟩
               have b4 : Below w9.heap.size w9 a3 := by rw [b7]; exact below_alloc (Below.refl _ _) _
               have a7 := IR.one w9 w0.heap.size a5 (.far 7001) (y1 : Int) d3.out.size
               rw [← b7] at a7
               obtain ⟨a0, b2⟩ : ∃ a0 : Sl, a0 = (some ⟨w9.heap.size, 0, none⟩, 1, 1) := ⟨_, rfl⟩
               rw [← b2] at a7
               have e5 : ∀ k, (slV a0).ownBlock = some k → w9.heap.size ≤ k := fun k hk => by rw [b2] at hk; cases hk; exact Nat.le_refl _
               have hup : ∀ k, k < w9.heap.size → up a5 (slV a0) (.far 7001) k = a5 k := fun k hk => up_ne fun e => by have := e5 k e; omega
               have HS10 := Aside0.mk (HS9.out.stay (cls' := up a5 (slV a0) (.far 7001)) (Kept.of_below b4 _) fun k hk _ => hup k hk)
               have b3 := Aside0.mk (d1.out.step (cls2 := up a5 (slV a0) (.far 7001)) (Kept.of_below b4 _) fun k hk j e _ => by rw [hup k (Nat.lt_of_lt_of_le hk d1.out.kept.1)]; exact e)
               have d9 := Aside0.mk (below_then d3.out d3.out.size b4)
               obtain ⟨a1, g9⟩ : ∃ a1, a1 = up a5 (slV a0) (.far 7001) := ⟨_, rfl⟩
               rw [← g9] at a7 HS10 b3
               have HRr := Aside0.mk a7
               have i1 := Aside0.mk (show ∀ k, (slV a0).ownBlock = some k → w.heap.size ≤ k from fun k hk => Nat.le_trans d1.out.kept.1 (e5 k hk))
               have g1 : s9.hs.length = p.heaps.length := by rw [a4.out]; show (s.hsl.set old r7).length = _; rw [List.length_set, HD.out.hl]
               have hhl9b : s9.hsl.length = p.heaps.length ∧ s9.heaps.length = p.heaps.length := by rw [a4.out]; exact ⟨by show (s.hsl.set old r7).length = _; rw [List.length_set, HD.out.hl], by show (s.heaps.set old _).length = _; rw [List.length_set, HD.out.heaps]⟩
               have d6 : s9.vHs = .slice (some ⟨gS, 0, none⟩) p.heaps.length cS := by rw [a4.out]; exact HVS.out.1
               have h0 : Aside0 (Kd.R kSl 28 a3 w0.heap.size (fun k => a1 k = .hs ∨ a3.heap.size ≤ k) (.slice (some ⟨gS, 0, none⟩) p.heaps.length cS) s9.hs) := ⟨by
                 have h : SR a3 w0.heap.size a1 .hs s9.vHs s9.hs := HS10.out .hs
                 rw [d6] at h
                 exact Kd.R_mono h fun k hk => .inl hk⟩
               have a2 := Aside0.mk (And.intro g1 (And.intro hhl9b d6))
               have g6 := Aside0.mk b7
               have HR10e := Aside0.mk b2
               clear b7 b4 a7 b2 e5 hup g9 HS9 d1 d3 g1 hhl9b d6)
            | (at_builtin
               rw [← g6.out]
               refine Kd.R_append kSl (w0 := w0) w0.heap.size rfl (.tmp 89) (.tmp 92) 40 28 (.slice none 0 0) 24 rfl Try.underlying40 infoSI rfl (by decide) (by omega) (.slice (some ⟨gS, 0, none⟩) p.heaps.length cS) s9.hs a0 [.slice (some ⟨w9.heap.size, 0, none⟩) 1 1] (fun k => a1 k = .hs ∨ a3.heap.size ≤ k) (fun _ => False) rfl (by rw [show a3.heap.size = w9.heap.size + 1 by rw [g6.out]; simp]; rfl) (by rw [HR10e.out]; rfl) (fun _ hk => hk.elim) (fun _ hk => .inr hk) h0.out d9.out d9.out.size (by rw [a2.out.1]; omega) ?_
               intro v9 f1 ho hb hg hat
               obtain ⟨A9, c9, h8⟩ := Kd.R_slice ho
               rw [show (s9.hs ++ [a0]).length = p.heaps.length + 1 by rw [List.length_append, a2.out.1]; rfl] at h8
               subst h8
               have hgk : Kept a3 f1 (fun k => a1 k = .hs) := kept_grown hg fun k hk => HS10.out.rowHs _ a2.out.2.2 k hk
               have e3 : f1.heap[T]? = some (.cells s9.tc.toArray 90 (0, 0)) := blk_kept (HS10.out .tt).1 hgk (by show ¬ a1 T = _; rw [(HS10.out .tt).2.1]; simp)
               have t7 : f1.cell? ⟨T, 7, none⟩ = some s.vHs := by rw [blk_cell e3 7]; rw [a4.out]; show s.tc.toArray[7]? = _; rw [HD.out.tc]; rfl
               have f7 : f1.frozen? ⟨T, 7, none⟩ = false := blk_frozen e3
               have g5 := Aside0.mk ho
               have g3 := Aside0.mk hg
               have e6 := Aside0.mk hat
               have g0 := Aside0.mk hb
               have HGK := Aside0.mk hgk
               clear ho hb hg hat hgk e3)
            | (refine wpList_st1 rfl _ _ _ rfl T 7 (.slice A9 (p.heaps.length + 1) c9) rfl rfl rfl ⟨_, t7⟩ f7 sizeSSI ?_
               intro f9 b6
               have HS12 := Aside0.mk (HS10.out.pushHs a0 [(y1 : Int)] HRr.out (by rw [a2.out.2.1.1, a2.out.2.1.2]) (by rw [a2.out.1, a2.out.2.1.1]) g5.out (by rw [a2.out.2.2]; exact g3.out) (by rw [a2.out.2.2]; exact e6.out))
               rw [← b6, a2.out.2.1.1] at HS12
               have h9 : a1 T = .tt := (HS10.out .tt).2.1
               have b9 : Kept a3 f9 (fun k => (a1 k).own = true) := by rw [b6]; exact (HGK.out.mono fun k hk => by show (a1 k).own = true; rw [show a1 k = .hs from hk]; rfl).setCell (.inl (by show (a1 T).own = true; rw [h9]; rfl)) _
               have i0 := up_keep (cls := a1) (c := .hs) e6.out (HS10.out.rowHs _ a2.out.2.2)
               have e7 := Aside0.mk (b3.out.step (cls2 := up (up a1 (.slice A9 (p.heaps.length + 1) c9) .hs) (slV a0) (.hro p.heaps.length)) (b9.mono fun _ h => .inl h) (fun k hk i e _ => by
                 rw [up_ne (v := slV a0) fun e2 => by have := i1.out k e2; omega, i0 k (Nat.lt_of_lt_of_le hk b3.out.kept.1)]
                 exact e))
               have g4 := Aside0.mk (show Below w0.heap.size w0 f9 by rw [b6]; exact below_set g0.out (HS10.out .tt).2.2)
               obtain ⟨f0, g7⟩ : ∃ f0, f0 = up (up a1 (.slice A9 (p.heaps.length + 1) c9) .hs) (slV a0) (.hro p.heaps.length) := ⟨_, rfl⟩
               rw [← g7] at HS12 e7
               obtain ⟨a8, a6⟩ : ∃ a8 : Sg, a8 = { s9 with vHs := .slice A9 (p.heaps.length + 1) c9, hs := s9.hs ++ [a0], hsl := s9.hsl ++ [a0], heaps := s9.heaps ++ [[(y1 : Int)]], tc := s9.tc.set 7 (.slice A9 (p.heaps.length + 1) c9) } := ⟨_, rfl⟩
               rw [← a6] at HS12
               have b5 : a8.heap = p.heap := by rw [a6, a4.out]; exact HD.out.heap
               obtain ⟨gH, cH, hvH, hcH⟩ := IR.slice (HS12.out .hp) (by rw [b5, HP.out.hl]; omega)
               rw [b5, HP.out.hl] at hvH hcH
               have t6 : f9.cell? ⟨T, 6, none⟩ = some (.slice (some ⟨gH, 0, none⟩) p.blocks.length cH) := by rw [HS12.out.cell 6 a8.vH (by rw [a6]; show (s9.tc.set 7 _)[6]? = some s9.vH; rw [a4.out]; show (s.tc.set 7 _)[6]? = some s.vH; rw [HD.out.tc]; rfl), hvH]
               obtain ⟨q6, f6⟩ := hcH y1 (y1n)
               have HVH := Aside0.mk hvH
               have e4 := Aside0.mk a6
               have i2 := Aside0.mk b5
               clear hvH hcH a6 b5 g7 i0 b9 h9 b6 HS10 b3 d9 h0 g5 g3 e6 g0 HGK t7 f7 HRr)
            | (refine wpList_st1 rfl _ _ _ rfl gH y1 (.int .i64 (p.heaps.length : Int)) rfl rfl rfl ⟨_, q6⟩ f6 sizeI ?_
               intro h5 a9
               have HS13 := Aside0.mk (HS12.out.setHp (by rw [i2.out, HP.out.hl]; exact HVH.out) y1 (p.heaps.length : Int))
               rw [← a9] at HS13
               have i3 := Aside0.mk (e7.out.step (w2 := h5) (cls2 := f0) (by rw [a9]; exact (Kept.refl _ _).setCell (.inl (.inl (by show (f0 gH).own = true; rw [HS12.out.rowHp _ HVH.out gH rfl]; rfl))) _) fun _ _ _ e _ => e)
               have i5 := Aside0.mk (show Below w0.heap.size w0 h5 by rw [a9]; exact below_set g4.out (Kd.R_base (HS12.out .hp) gH (by rw [HVH.out]; rfl)))
               clear a9 HS12 e7 g4 t6 q6 f6))
          go_ret2
          refine ⟨old, 1, rfl, holdn, by rw [← HL.out.1]; omega, by rw [← HL.out.1]; exact i9, _, _, (fun x => wt x && !(decide (x = (old : Int)) && decide ((gl p.heaps (old : Int)).length = 2))), HS13.out, ?_, (by intro x hx; show a8.fW x = _; rw [e4.out]; exact k0.out x hx), HWt.out.take (nd_iff.2 holdn) (by rw [← HL.out.1]; omega) (by rw [← HL.out.1]; exact i9), ?_, i3.out, i5.out⟩
          · have hgd : (gl p.heaps (old : Int)).getD 1 0 = (y1 : Int) := by rw [← HL.out.1, HL.out.2]; rfl
            have htp : takeP p (old : Int) 1 = { block := p.block, blocks := p.blocks, heap := p.heap.set y1 (p.heaps.length : Int), heaps := p.heaps.set old (L.eraseIdx 1) ++ [[(y1 : Int)]] } := by
              unfold takeP
              rw [hgd, ← HL.out.1]
              rfl
            rw [htp]
            have j3 : a8 = { s with hs := s.hsl.set old r7 ++ [a0], hsl := s.hsl.set old r7 ++ [a0], heaps := p.heaps.set old (L.eraseIdx 1) ++ [[(y1 : Int)]], vHs := .slice A9 (p.heaps.length + 1) c9, tc := s.tc.set 7 (.slice A9 (p.heaps.length + 1) c9), fW := b8, cW := e8 } := by
              rw [e4.out, a4.out]
              show ({ s with hs := _, hsl := _, heaps := s.heaps.set old _ ++ _, vHs := _, tc := _, fW := _, cW := _ } : Sg) = _
              rw [HD.out.heaps]
            rw [j3]
            refine ⟨?_, HD.out.block, by show s.heap.set y1 _ = _; rw [HD.out.heap], HD.out.blocks, rfl, HD.out.bs, HD.out.bl, rfl, by show (s.hsl.set old r7 ++ [a0]).length = _; simp [HD.out.hl]⟩
            show s.tc.set 7 _ = _
            rw [HD.out.tc]
            rfl
          · rw [e4.out, a4.out]
            exact ⟨rfl, rfl, rfl, rfl, rfl, rfl, rfl, rfl, rfl, rfl⟩
        · first
            | (exfalso; omega)
            | (skip
               have hq : (((L.length - 1 : Nat) : Int) == 1) = false := by simp; omega
               have l9 : ¬ L.length - 1 = 1 := by omega
               have HS9 := Aside0.mk (show SP w0.heap.size T w8 a5 { s with hs := s.hsl.set old r7, hsl := s.hsl.set old r7, heaps := s.heaps.set old (L.eraseIdx 1) } by
                 have h := HS8.out
                 rw [j7.out, HD.out.hs] at h
                 exact h)
               obtain ⟨b8, d5⟩ : ∃ b8, b8 = s.fW := ⟨_, rfl⟩
               obtain ⟨e8, j6⟩ : ∃ e8, e8 = s.cW := ⟨_, rfl⟩
               obtain ⟨s9, d2⟩ : ∃ s9 : Sg, s9 = { s with hs := s.hsl.set old r7, hsl := s.hsl.set old r7, heaps := s.heaps.set old (L.eraseIdx 1), fW := b8, cW := e8 } := ⟨_, rfl⟩
               rw [show ({ s with hs := s.hsl.set old r7, hsl := s.hsl.set old r7, heaps := s.heaps.set old (L.eraseIdx 1) } : Sg) = s9 by rw [d2, d5, j6]] at HS9
               have a4 := Aside0.mk d2
               have d1 := j8
               have d3 := HB9'
               have k0 := Aside0.mk (show StdW s9 (fun x => wt x && !(decide (x = (old : Int)) && decide ((gl p.heaps (old : Int)).length = 2))) from fun x hx => by
                 rw [d2]
                 show b8 x = _
                 rw [d5, HW.out x hx, ← HL.out.1]
                 simp [hlen])
               clear d2 d5 j6 t9
               obtain ⟨w9, l2⟩ : ∃ w9, w9 = w8 := ⟨_, rfl⟩
               rw [← l2] at HS9 d1 d3 t7 q7 ⊢
               clear l2
               have HS9t := HS9.out.cell 7 s.vHs (by rw [a4.out]; show s.tc[7]? = _; rw [HD.out.tc]; rfl)
               rw [HVS.out.1] at HS9t
               obtain ⟨a3, b7⟩ : ∃ a3, a3 = w9.alloc (.cells #[.int .i64 (y1 : Int)] 3) := ⟨_, rfl⟩
               have b4 : Below w9.heap.size w9 a3 := by rw [b7]; exact below_alloc (Below.refl _ _) _
               have a7 := IR.one w9 w0.heap.size a5 (.far 7001) (y1 : Int) d3.out.size
               rw [← b7] at a7
               obtain ⟨a0, b2⟩ : ∃ a0 : Sl, a0 = (some ⟨w9.heap.size, 0, none⟩, 1, 1) := ⟨_, rfl⟩
               rw [← b2] at a7
               have e5 : ∀ k, (slV a0).ownBlock = some k → w9.heap.size ≤ k := fun k hk => by rw [b2] at hk; cases hk; exact Nat.le_refl _
               have hup : ∀ k, k < w9.heap.size → up a5 (slV a0) (.far 7001) k = a5 k := fun k hk => up_ne fun e => by have := e5 k e; omega
               have HS10 := Aside0.mk (HS9.out.stay (cls' := up a5 (slV a0) (.far 7001)) (Kept.of_below b4 _) fun k hk _ => hup k hk)
               have b3 := Aside0.mk (d1.out.step (cls2 := up a5 (slV a0) (.far 7001)) (Kept.of_below b4 _) fun k hk j e _ => by rw [hup k (Nat.lt_of_lt_of_le hk d1.out.kept.1)]; exact e)
               have d9 := Aside0.mk (below_then d3.out d3.out.size b4)
               obtain ⟨a1, g9⟩ : ∃ a1, a1 = up a5 (slV a0) (.far 7001) := ⟨_, rfl⟩
               rw [← g9] at a7 HS10 b3
               have HRr := Aside0.mk a7
               have i1 := Aside0.mk (show ∀ k, (slV a0).ownBlock = some k → w.heap.size ≤ k from fun k hk => Nat.le_trans d1.out.kept.1 (e5 k hk))
               have g1 : s9.hs.length = p.heaps.length := by rw [a4.out]; show (s.hsl.set old r7).length = _; rw [List.length_set, HD.out.hl]
               have hhl9b : s9.hsl.length = p.heaps.length ∧ s9.heaps.length = p.heaps.length := by rw [a4.out]; exact ⟨by show (s.hsl.set old r7).length = _; rw [List.length_set, HD.out.hl], by show (s.heaps.set old _).length = _; rw [List.length_set, HD.out.heaps]⟩
               have d6 : s9.vHs = .slice (some ⟨gS, 0, none⟩) p.heaps.length cS := by rw [a4.out]; exact HVS.out.1
               have h0 : Aside0 (Kd.R kSl 28 a3 w0.heap.size (fun k => a1 k = .hs ∨ a3.heap.size ≤ k) (.slice (some ⟨gS, 0, none⟩) p.heaps.length cS) s9.hs) := ⟨by
                 have h : SR a3 w0.heap.size a1 .hs s9.vHs s9.hs := HS10.out .hs
                 rw [d6] at h
                 exact Kd.R_mono h fun k hk => .inl hk⟩
               have a2 := Aside0.mk (And.intro g1 (And.intro hhl9b d6))
               have g6 := Aside0.mk b7
               have HR10e := Aside0.mk b2
               clear b7 b4 a7 b2 e5 hup g9 HS9 d1 d3 g1 hhl9b d6
               go_wp2_with (first
                 | (at_builtin
                    rw [← g6.out]
                    refine Kd.R_append kSl (w0 := w0) w0.heap.size rfl (.tmp 89) (.tmp 92) 40 28 (.slice none 0 0) 24 rfl Try.underlying40 infoSI rfl (by decide) (by omega) (.slice (some ⟨gS, 0, none⟩) p.heaps.length cS) s9.hs a0 [.slice (some ⟨w9.heap.size, 0, none⟩) 1 1] (fun k => a1 k = .hs ∨ a3.heap.size ≤ k) (fun _ => False) rfl (by rw [show a3.heap.size = w9.heap.size + 1 by rw [g6.out]; simp]; rfl) (by rw [HR10e.out]; rfl) (fun _ hk => hk.elim) (fun _ hk => .inr hk) h0.out d9.out d9.out.size (by rw [a2.out.1]; omega) ?_
                    intro v9 f1 ho hb hg hat
                    obtain ⟨A9, c9, h8⟩ := Kd.R_slice ho
                    rw [show (s9.hs ++ [a0]).length = p.heaps.length + 1 by rw [List.length_append, a2.out.1]; rfl] at h8
                    subst h8
                    have hgk : Kept a3 f1 (fun k => a1 k = .hs) := kept_grown hg fun k hk => HS10.out.rowHs _ a2.out.2.2 k hk
                    have e3 : f1.heap[T]? = some (.cells s9.tc.toArray 90 (0, 0)) := blk_kept (HS10.out .tt).1 hgk (by show ¬ a1 T = _; rw [(HS10.out .tt).2.1]; simp)
                    have t7 : f1.cell? ⟨T, 7, none⟩ = some s.vHs := by rw [blk_cell e3 7]; rw [a4.out]; show s.tc.toArray[7]? = _; rw [HD.out.tc]; rfl
                    have f7 : f1.frozen? ⟨T, 7, none⟩ = false := blk_frozen e3
                    have g5 := Aside0.mk ho
                    have g3 := Aside0.mk hg
                    have e6 := Aside0.mk hat
                    have g0 := Aside0.mk hb
                    have HGK := Aside0.mk hgk
                    clear ho hb hg hat hgk e3)
                 | (refine wpList_st1 rfl _ _ _ rfl T 7 (.slice A9 (p.heaps.length + 1) c9) rfl rfl rfl ⟨_, t7⟩ f7 sizeSSI ?_
                    intro f9 b6
                    have HS12 := Aside0.mk (HS10.out.pushHs a0 [(y1 : Int)] HRr.out (by rw [a2.out.2.1.1, a2.out.2.1.2]) (by rw [a2.out.1, a2.out.2.1.1]) g5.out (by rw [a2.out.2.2]; exact g3.out) (by rw [a2.out.2.2]; exact e6.out))
                    rw [← b6, a2.out.2.1.1] at HS12
                    have h9 : a1 T = .tt := (HS10.out .tt).2.1
                    have b9 : Kept a3 f9 (fun k => (a1 k).own = true) := by rw [b6]; exact (HGK.out.mono fun k hk => by show (a1 k).own = true; rw [show a1 k = .hs from hk]; rfl).setCell (.inl (by show (a1 T).own = true; rw [h9]; rfl)) _
                    have i0 := up_keep (cls := a1) (c := .hs) e6.out (HS10.out.rowHs _ a2.out.2.2)
                    have e7 := Aside0.mk (b3.out.step (cls2 := up (up a1 (.slice A9 (p.heaps.length + 1) c9) .hs) (slV a0) (.hro p.heaps.length)) (b9.mono fun _ h => .inl h) (fun k hk i e _ => by
                      rw [up_ne (v := slV a0) fun e2 => by have := i1.out k e2; omega, i0 k (Nat.lt_of_lt_of_le hk b3.out.kept.1)]
                      exact e))
                    have g4 := Aside0.mk (show Below w0.heap.size w0 f9 by rw [b6]; exact below_set g0.out (HS10.out .tt).2.2)
                    obtain ⟨f0, g7⟩ : ∃ f0, f0 = up (up a1 (.slice A9 (p.heaps.length + 1) c9) .hs) (slV a0) (.hro p.heaps.length) := ⟨_, rfl⟩
                    rw [← g7] at HS12 e7
                    obtain ⟨a8, a6⟩ : ∃ a8 : Sg, a8 = { s9 with vHs := .slice A9 (p.heaps.length + 1) c9, hs := s9.hs ++ [a0], hsl := s9.hsl ++ [a0], heaps := s9.heaps ++ [[(y1 : Int)]], tc := s9.tc.set 7 (.slice A9 (p.heaps.length + 1) c9) } := ⟨_, rfl⟩
                    rw [← a6] at HS12
                    have b5 : a8.heap = p.heap := by rw [a6, a4.out]; exact HD.out.heap
                    obtain ⟨gH, cH, hvH, hcH⟩ := IR.slice (HS12.out .hp) (by rw [b5, HP.out.hl]; omega)
                    rw [b5, HP.out.hl] at hvH hcH
                    have t6 : f9.cell? ⟨T, 6, none⟩ = some (.slice (some ⟨gH, 0, none⟩) p.blocks.length cH) := by rw [HS12.out.cell 6 a8.vH (by rw [a6]; show (s9.tc.set 7 _)[6]? = some s9.vH; rw [a4.out]; show (s.tc.set 7 _)[6]? = some s.vH; rw [HD.out.tc]; rfl), hvH]
                    obtain ⟨q6, f6⟩ := hcH y1 (y1n)
                    have HVH := Aside0.mk hvH
                    have e4 := Aside0.mk a6
                    have i2 := Aside0.mk b5
                    clear hvH hcH a6 b5 g7 i0 b9 h9 b6 HS10 b3 d9 h0 g5 g3 e6 g0 HGK t7 f7 HRr)
                 | (refine wpList_st1 rfl _ _ _ rfl gH y1 (.int .i64 (p.heaps.length : Int)) rfl rfl rfl ⟨_, q6⟩ f6 sizeI ?_
                    intro h5 a9
                    have HS13 := Aside0.mk (HS12.out.setHp (by rw [i2.out, HP.out.hl]; exact HVH.out) y1 (p.heaps.length : Int))
                    rw [← a9] at HS13
                    have i3 := Aside0.mk (e7.out.step (w2 := h5) (cls2 := f0) (by rw [a9]; exact (Kept.refl _ _).setCell (.inl (.inl (by show (f0 gH).own = true; rw [HS12.out.rowHp _ HVH.out gH rfl]; rfl))) _) fun _ _ _ e _ => e)
                    have i5 := Aside0.mk (show Below w0.heap.size w0 h5 by rw [a9]; exact below_set g4.out (Kd.R_base (HS12.out .hp) gH (by rw [HVH.out]; rfl)))
                    clear a9 HS12 e7 g4 t6 q6 f6))
               go_ret2
               refine ⟨old, 1, rfl, holdn, by rw [← HL.out.1]; omega, by rw [← HL.out.1]; exact i9, _, _, (fun x => wt x && !(decide (x = (old : Int)) && decide ((gl p.heaps (old : Int)).length = 2))), HS13.out, ?_, (by intro x hx; show a8.fW x = _; rw [e4.out]; exact k0.out x hx), HWt.out.take (nd_iff.2 holdn) (by rw [← HL.out.1]; omega) (by rw [← HL.out.1]; exact i9), ?_, i3.out, i5.out⟩
               · have hgd : (gl p.heaps (old : Int)).getD 1 0 = (y1 : Int) := by rw [← HL.out.1, HL.out.2]; rfl
                 have htp : takeP p (old : Int) 1 = { block := p.block, blocks := p.blocks, heap := p.heap.set y1 (p.heaps.length : Int), heaps := p.heaps.set old (L.eraseIdx 1) ++ [[(y1 : Int)]] } := by
                   unfold takeP
                   rw [hgd, ← HL.out.1]
                   rfl
                 rw [htp]
                 have j3 : a8 = { s with hs := s.hsl.set old r7 ++ [a0], hsl := s.hsl.set old r7 ++ [a0], heaps := p.heaps.set old (L.eraseIdx 1) ++ [[(y1 : Int)]], vHs := .slice A9 (p.heaps.length + 1) c9, tc := s.tc.set 7 (.slice A9 (p.heaps.length + 1) c9), fW := b8, cW := e8 } := by
                   rw [e4.out, a4.out]
                   show ({ s with hs := _, hsl := _, heaps := s.heaps.set old _ ++ _, vHs := _, tc := _, fW := _, cW := _ } : Sg) = _
                   rw [HD.out.heaps]
                 rw [j3]
                 refine ⟨?_, HD.out.block, by show s.heap.set y1 _ = _; rw [HD.out.heap], HD.out.blocks, rfl, HD.out.bs, HD.out.bl, rfl, by show (s.hsl.set old r7 ++ [a0]).length = _; simp [HD.out.hl]⟩
                 show s.tc.set 7 _ = _
                 rw [HD.out.tc]
                 rfl
               · rw [e4.out, a4.out]
                 exact ⟨rfl, rfl, rfl, rfl, rfl, rfl, rfl, rfl, rfl, rfl⟩)
end Go.Proofs.Ytmcbkmfpmcbdpaa.H
