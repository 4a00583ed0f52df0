/-
  Parts of the proof of QuotOf (joined by wip/tools/bundle.py), part 4: plain words and walks of the functions that the law reaches.
-/
import Derived.Test.YtmcbkmfpmcbdpaaZQuotOf3
set_option linter.unusedVariables false
set_option linter.unusedSimpArgs false
namespace Go.Proofs.Ytmcbkmfpmcbdpaa.Sem
open Go.Proofs.Ytmcbkmfpmcbdpaa.Pr
theorem elt_trans {a b c : Ed} (h1 : elt a b) (h2 : elt b c) : elt a c := by unfold elt at *; omega
theorem elt_irr (a : Ed) : ¬ elt a a := by unfold elt; omega
theorem elt_tri {a b : Ed} (h : ¬ elt a b) (h2 : ¬ cmpE a b = 0) : elt b a := by
 rw [cmpE_zero] at h2
 rcases Classical.em (elt b a) with q | q
 ·exact q
 ·exfalso
  apply h2
  obtain ⟨a0, a1, a2⟩ := a
  obtain ⟨b0, b1, b2⟩ := b
  unfold elt at h q
  simp only at h q
  rw [S80.mk.injEq]
  omega
theorem insE_mem (e x : Ed) : ∀ l, x ∈ insE e l ↔ x = e ∨ x ∈ l
 | [] => by simp [insE]
 | y :: r => by
  unfold insE
  split
  ·simp
  ·split
   ·rename_i h
    rw [cmpE_zero] at h
    subst h
    simp
   ·rw [List.mem_cons, insE_mem e x r, List.mem_cons]
    constructor
    ·rintro (h | h | h)
     ·exact .inr (.inl h)
     ·exact .inl h
     ·exact .inr (.inr h)
    ·rintro (h | h | h)
     ·exact .inr (.inl h)
     ·exact .inl h
     ·exact .inr (.inr h)
theorem insE_sorted (e : Ed) : ∀ l, l.Pairwise elt → (insE e l).Pairwise elt
 | [], _ => by simp [insE]
 | y :: r, h => by
  have h' := List.pairwise_cons.1 h
  unfold insE
  split
  ·rename_i q
   refine List.pairwise_cons.2 ⟨fun x hx => ?_, h⟩
   rcases List.mem_cons.1 hx with rfl | hx
   ·exact q
   ·exact elt_trans q (h'.1 x hx)
  ·split
   ·exact h
   ·rename_i q1 q2
    refine List.pairwise_cons.2 ⟨fun x hx => ?_, insE_sorted e r h'.2⟩
    rcases (insE_mem e x r).1 hx with rfl | hx
    ·exact elt_tri q1 q2
    ·exact h'.1 x hx
theorem strict_unique : ∀ (a b : List Ed), a.Pairwise elt → b.Pairwise elt → (∀ x, x ∈ a ↔ x ∈ b) → a = b
 | [], [], _, _, _ => rfl
 | [], y :: r, _, _, h => by have := (h y).2 (List.mem_cons_self ..); cases this
 | x :: r, [], _, _, h => by have := (h x).1 (List.mem_cons_self ..); cases this
 | x :: r, y :: s, ha, hb, h => by
  have ha' := List.pairwise_cons.1 ha
  have hb' := List.pairwise_cons.1 hb
  have e : x = y := by
   rcases List.mem_cons.1 ((h x).1 (List.mem_cons_self ..)) with q | q
   ·exact q
   ·rcases List.mem_cons.1 ((h y).2 (List.mem_cons_self ..)) with q2 | q2
    ·exact q2.symm
    ·exact absurd (elt_trans (hb'.1 x q) (ha'.1 y q2)) (elt_irr y)
  subst e
  rw [strict_unique r s ha'.2 hb'.2 fun z => ?_]
  have hz := h z
  constructor
  ·intro q
   rcases List.mem_cons.1 (hz.1 (List.mem_cons_of_mem _ q)) with rfl | q2
   ·exact absurd (ha'.1 _ q) (elt_irr _)
   ·exact q2
  ·intro q
   rcases List.mem_cons.1 (hz.2 (List.mem_cons_of_mem _ q)) with rfl | q2
   ·exact absurd (hb'.1 _ q) (elt_irr _)
   ·exact q2
def dd : List Ed → List Ed
 | [] => []
 | [a] => [a]
 | a :: b :: r => if cmpE a b = 0 then dd (b :: r) else a :: dd (b :: r)
theorem dd_mem (x : Ed) : ∀ l, x ∈ dd l ↔ x ∈ l
 | [] => by simp [dd]
 | [a] => by simp [dd]
 | a :: b :: r => by
  have ih := dd_mem x (b :: r)
  unfold dd
  split
  ·rename_i h
   rw [cmpE_zero] at h
   subst h
   rw [ih]
   simp
  ·rw [List.mem_cons, ih, List.mem_cons (a := x) (b := a)]
theorem elt_or {a b : Ed} (h : ¬ elt b a) : a = b ∨ elt a b := by
 by_cases q : cmpE b a = 0
 ·exact .inl ((cmpE_zero b a).1 q).symm
 ·exact .inr (elt_tri h q)
theorem dd_sorted : ∀ l : List Ed, l.Pairwise (fun a b => ¬ elt b a) → (dd l).Pairwise elt
 | [], _ => by simp [dd]
 | [a], _ => by simp [dd]
 | a :: b :: r, h => by
  have h' := List.pairwise_cons.1 h
  have ih := dd_sorted (b :: r) h'.2
  unfold dd
  split
  ·exact ih
  ·rename_i q
   refine List.pairwise_cons.2 ⟨fun x hx => ?_, ih⟩
   have hab : elt a b := by
    rcases elt_or (h'.1 b (List.mem_cons_self ..)) with e | e
    ·exact absurd ((cmpE_zero a b).2 e) q
    ·exact e
   rcases List.mem_cons.1 ((dd_mem x (b :: r)).1 hx) with rfl | hx
   ·exact hab
   ·rcases elt_or ((List.pairwise_cons.1 h'.2).1 x hx) with e | e
    ·rw [← e]; exact hab
    ·exact elt_trans hab e
theorem fold_ins : ∀ (es o : List Ed), o.Pairwise elt → (es.foldl (fun o e => insE e o) o).Pairwise elt ∧ ∀ x, x ∈ es.foldl (fun o e => insE e o) o ↔ x ∈ es ∨ x ∈ o
 | [], o, h => ⟨h, fun x => by simp⟩
 | e :: r, o, h => by
  have ih := fold_ins r (insE e o) (insE_sorted e o h)
  refine ⟨ih.1, fun x => ?_⟩
  rw [List.foldl_cons, ih.2 x, insE_mem, List.mem_cons]
  constructor
  ·rintro (h | h | h)
   ·exact .inl (.inr h)
   ·exact .inl (.inl h)
   ·exact .inr h
  ·rintro ((h | h) | h)
   ·exact .inr (.inl h)
   ·exact .inl h
   ·exact .inr (.inr h)
theorem dd_sortE {es l : List Ed} (h : l.Pairwise (fun a b => ¬ elt b a)) (hm : ∀ x, x ∈ l ↔ x ∈ es) : dd l = sortE es := by
 have hf := fold_ins es [] List.Pairwise.nil
 exact strict_unique _ _ (dd_sorted l h) hf.1 fun x => by rw [dd_mem, hm]; show _ ↔ x ∈ es.foldl (fun o e => insE e o) []; rw [hf.2 x]; simp
end Go.Proofs.Ytmcbkmfpmcbdpaa.Sem
namespace Go.Proofs.Ytmcbkmfpmcbdpaa.H
open Go.RowKit Go.Proofs.Ytmcbkmfpmcbdpaa.Pr Go.Proofs.YtmcbkmfpmcbdpaaW.PrintWords Go.Proofs.Ytmcbkmfpmcbdpaa.Sem Go.Lib Go.Sort
section
variable {α : Type} [Inhabited α] (enc : α → List Value) (k : Nat) (hk : ∀ x, (enc x).length = k)
include hk
theorem flat_set (d : Array α) (i : Nat) (x : α) (hi : i < d.size) : setMany (flatK enc k d) (i * k) (enc x) = flatK enc k (d.setIfInBounds i x) := by
 refine ext_get! (by simp) fun t ht => ?_
 have ht' : t < d.size * k := by simpa using ht
 have k0 : 0 < k := by
  rcases Nat.eq_zero_or_pos k with h | h
  ·subst h; simp at ht'
  ·exact h
 rw [get_setMany _ _ _ t (by simpa using ht'), get_flatK _ _ _ t ht', get_flatK _ _ _ t (by simpa using ht'), hk]
 by_cases a : t / k = i
 ·rw [if_pos ((blk_iff k i t k0).2 a), a, getElem!_set_same d i x hi]
  subst a
  rw [Nat.mod_eq_sub_div_mul]
 ·rw [if_neg (fun h => a ((blk_iff k i t k0).1 h)), getElem!_set_other d i _ x a]
theorem flat_lay (d : Array α) (j m : Nat) (z : α) (vs : List Value) (hj : j + m ≤ d.size) (hl : vs.length = m * k) (hv : ∀ t, t < m * k → vs[t]! = (enc z)[t % k]!) : setMany (flatK enc k d) (j * k) vs = flatK enc k (lay d j (List.replicate m z)) := by
 have hsz : (lay d j (List.replicate m z)).size = d.size := by
  have : ∀ (xs : List α) (d : Array α) (k : Nat), (lay d k xs).size = d.size := by
   intro xs
   induction xs with
   | nil => intro d k; rfl
   | cons x r ih => intro d k; show (lay (d.setIfInBounds k x) (k + 1) r).size = _; rw [ih]; simp
  exact this _ _ _
 refine ext_get! (by simp [hsz]) fun t ht => ?_
 have ht' : t < d.size * k := by simpa using ht
 have k0 : 0 < k := by
  rcases Nat.eq_zero_or_pos k with h | h
  ·subst h; simp at ht'
  ·exact h
 have hq : t / k < d.size := Nat.div_lt_of_lt_mul (by rwa [Nat.mul_comm] at ht')
 have hget : (lay d j (List.replicate m z))[t / k]! = if j ≤ t / k ∧ t / k < j + m then z else d[t / k]! := by
  have := lay_get? (List.replicate m z) d j (t / k) (by simpa using hj);rw [getElem!_pos _ (t / k) (by rw [hsz]; exact hq)];rw [Array.getElem?_eq_getElem (by rw [hsz]; exact hq)] at this;simp only [List.length_replicate] at this;split
  ·rename_i c;rw [if_pos c, List.getElem?_replicate, if_pos (by omega)] at this;exact Option.some.inj this
  ·rename_i c;rw [if_neg c, Array.getElem?_eq_getElem hq] at this;rw [getElem!_pos d (t / k) hq];exact Option.some.inj this
 rw [get_setMany _ _ _ t (by simpa using ht'), get_flatK _ _ _ t ht', get_flatK _ _ _ t (by rw [hsz]; exact ht'), hget, hl];have hmod : t = k * (t / k) + t % k := (Nat.div_add_mod t k).symm;have hm : t % k < k := Nat.mod_lt _ k0
 have iff1 : (j * k ≤ t ∧ t < j * k + m * k) ↔ (j ≤ t / k ∧ t / k < j + m) := by
  rw [Nat.le_div_iff_mul_le k0, Nat.div_lt_iff_lt_mul k0, Nat.add_mul]
 by_cases c : j ≤ t / k ∧ t / k < j + m
 ·rw [if_pos (iff1.2 c), if_pos c];have c2 := iff1.2 c;rw [hv _ (by omega)];congr 1
  have : t = (t - j * k) + k * j := by rw [Nat.mul_comm k j]; omega
  conv => rhs; rw [this]
  rw [Nat.add_mul_mod_self_left]
 ·rw [if_neg (fun h => c (iff1.1 h)), if_neg c]
theorem store_worldK (w wr : World) (n g off : Nat) (d : Array α) (i : Nat) (x : α) (hi : i < d.size) (h : wr = putRowK enc k (Sort.ahead w n) g off d) : wr.setCells g (off + i * k) (enc x) = putRowK enc k (Sort.ahead w n) g off (d.setIfInBounds i x) := by
 subst h
 have hb : i * k + k ≤ d.size * k := by
  have := Nat.mul_le_mul_right k (show i + 1 ≤ d.size from hi); rwa [Nat.add_mul, Nat.one_mul] at this
 unfold putRowK
 rw [setCells_putRow _ _ _ _ _ _ (by rw [hk, size_flatK]; exact hb), flat_set enc k hk d i x hi]
theorem clear_worldK (w wr : World) (n g off : Nat) (d : Array α) (j m : Nat) (z : α) (vs : List Value) (hj : j + m ≤ d.size) (hl : vs.length = m * k) (hv : ∀ t, t < m * k → vs[t]! = (enc z)[t % k]!) (h : wr = putRowK enc k (Sort.ahead w n) g off d) : wr.setCells g (off + j * k) vs = putRowK enc k (Sort.ahead w n) g off (lay d j (List.replicate m z)) := by
 subst h
 have hb : j * k + m * k ≤ d.size * k := by rw [← Nat.add_mul]; exact Nat.mul_le_mul_right k hj
 unfold putRowK
 rw [setCells_putRow _ _ _ _ _ _ (by rw [hl, size_flatK]; exact hb), flat_lay enc k hk d j m z vs hj hl hv]
end
instance : DecidableEq Ed := fun a b => decidable_of_iff (cmpE a b = 0) (cmpE_zero a b)
theorem dd_snoc : ∀ (l : List Ed) (b a : Ed), dd (l ++ [b, a]) = if b = a then dd (l ++ [b]) else dd (l ++ [b]) ++ [a]
 | [], b, a => by
  show dd [b, a] = _
  unfold dd
  by_cases q : b = a
  ·rw [if_pos ((cmpE_zero b a).2 q), if_pos q, q]; rfl
  ·rw [if_neg (fun h => q ((cmpE_zero b a).1 h)), if_neg q]; rfl
 | [x], b, a => by
  have ih := dd_snoc [] b a
  show dd (x :: b :: [a]) = _
  show _ = if b = a then dd (x :: b :: []) else dd (x :: b :: []) ++ [a]
  unfold dd
  rw [show dd [b, a] = _ from ih]
  split
  ·split <;> rfl
  ·split <;> rfl
 | x :: y :: r, b, a => by
  have ih := dd_snoc (y :: r) b a
  show dd (x :: y :: (r ++ [b, a])) = _
  show _ = if b = a then dd (x :: y :: (r ++ [b])) else dd (x :: y :: (r ++ [b])) ++ [a]
  unfold dd
  rw [show dd (y :: (r ++ [b, a])) = _ from ih]
  split
  ·rfl
  ·split <;> rfl
theorem compact_dd (es : List Ed) : compact es = dd es := by
 have : ∀ m, m ≤ es.length → compactUpTo es.toArray m = dd (es.take m) := by
  intro m
  induction m with
  | zero => intro _; simp [compactUpTo, dd]
  | succ m ih =>
   intro h
   have hm : m < es.length := by omega
   have e0 : es.toArray[m]! = es[m] := by rw [getElem!_pos es.toArray m (by simpa using hm)]; simp
   rw [compactUpTo_succ, ih (by omega), e0]
   rw [List.take_add_one, List.getElem?_eq_getElem hm]
   cases m with
   | zero => simp [keeps, dd]
   | succ m =>
    have hm' : m < es.length := by omega
    have e1 : es.toArray[m]! = es[m] := by rw [getElem!_pos es.toArray m (by simpa using hm')]; simp
    have ek : keeps es.toArray (m + 1) = decide (es[m] ≠ es[m + 1]) := by
     unfold keeps
     rw [e0, show m + 1 - 1 = m from rfl, e1]
     rw [decide_eq_decide]
     constructor
     ·rintro (h | h)
      ·omega
      ·exact fun q => h q.symm
     ·exact fun h => .inr fun q => h q.symm
    rw [ek, List.take_add_one, List.getElem?_eq_getElem hm']
    simp only [Option.toList_some, List.append_assoc, List.cons_append, List.nil_append]
    rw [dd_snoc]
    by_cases q : es[m] = es[m + 1]
    ·simp [q]
    ·simp [q]
 unfold compact
 rw [this _ (Nat.le_refl _), List.take_length]
theorem eqE (x0 x1 x2 y0 y1 y2 : Int) (w : World) : (Op.equalIn 10000 80 (.agg #[.int .i64 x0, .int .i64 x1, .int .i64 x2]) (.agg #[.int .i64 y0, .int .i64 y1, .int .i64 y2])).run Try.prog w = .ok (x0 == y0 && (x1 == y1 && x2 == y2)) w := by
 refine eqA_of Try.underlying80 (by kernel_rfl) ?_
 refine eqf_cons (by rfl) (by go_simp; rfl) (by go_simp; rfl) (by go_simp) ?_
 refine eqf_cons (by rfl) (by go_simp; rfl) (by go_simp; rfl) (by go_simp) ?_
 exact eqf_last (by rfl) (by go_simp; rfl) (by go_simp; rfl) (by go_simp)
theorem eqE_yes {x y : Ed} (h : x = y) (w : World) : (Op.equalIn 10000 80 (.agg #[.int .i64 x.f0, .int .i64 x.f1, .int .i64 x.f2]) (.agg #[.int .i64 y.f0, .int .i64 y.f1, .int .i64 y.f2])).run Try.prog w = .ok true w := by
 subst h; rw [eqE]; simp
theorem eqE_no {x y : Ed} (h : ¬ x = y) (w : World) : (Op.equalIn 10000 80 (.agg #[.int .i64 x.f0, .int .i64 x.f1, .int .i64 x.f2]) (.agg #[.int .i64 y.f0, .int .i64 y.f1, .int .i64 y.f2])).run Try.prog w = .ok false w := by
 rw [eqE]
 congr 1
 obtain ⟨x0, x1, x2⟩ := x
 obtain ⟨y0, y1, y2⟩ := y
 rw [S80.mk.injEq] at h
 simpa using h
theorem cellE {w : World} {g : Nat} {d : Array Ed} (h : HoldsK encE 3 w g 0 d) {i : Nat} (hi : i < d.size) : w.cell? ⟨g, i * 3, none⟩ = some (.int .i64 d[i]!.f0) ∧ w.cell? ⟨g, i * 3 + 1, none⟩ = some (.int .i64 d[i]!.f1) ∧ w.cell? ⟨g, i * 3 + 2, none⟩ = some (.int .i64 d[i]!.f2) ∧
  (w.frozen? ⟨g, i * 3, none⟩ = false ∧ w.frozen? ⟨g, i * 3 + 1, none⟩ = false ∧ w.frozen? ⟨g, i * 3 + 2, none⟩ = false) := by
 have c0 := h.cell hi (show 0 < 3 by omega)
 have c1 := h.cell hi (show 1 < 3 by omega)
 have c2 := h.cell hi (show 2 < 3 by omega)
 simp only [Nat.zero_add, Nat.add_zero] at c0 c1 c2
 exact ⟨c0.1, c1.1, c2.1, c0.2, c1.2, c2.2⟩
set_option maxHeartbeats 4000000 in
set_option maxRecDepth 1000000 in
theorem compact_arr (g cap : Nat) (d : Array Ed) (w : World) (hH : HoldsK encE 3 w g 0 d) (hsz : d.size ≤ 1000000) (hcap : d.size ≤ cap) :
  Calls Try.prog 134 #[.slice (some ⟨g, 0, none⟩) d.size cap] w fun e w' => e = .returned (.slice (some ⟨g, 0, none⟩) (compactUpTo d d.size).length cap) ∧ ∃ q, w' = putRowK encE 3 (Sort.ahead w q) g 0 (compactUpTo d d.size ++ List.replicate (d.size - (compactUpTo d d.size).length) z80).toArray := by
 have same : ∀ q, (∀ j, j < d.size → keeps d j = true) → (compactUpTo d d.size).length = d.size ∧ w.drewN q = putRowK encE 3 (Sort.ahead w q) g 0 (compactUpTo d d.size ++ List.replicate (d.size - (compactUpTo d d.size).length) z80).toArray := by
  intro q hall;have e : compactUpTo d d.size = d.toList := by rw [compactUpTo_all d _ hall, range_map_get]
  rw [e];refine ⟨by simp, ?_⟩;simp only [Array.length_toList, Nat.sub_self, List.replicate_zero, List.append_nil, Array.toArray_toList];exact (putRowK_self encE 3 (Sort.ahead w q) g 0 d (holdsK_ahead encE 3 w q g 0 d hH)).symm
 have HS := Aside0.mk same;clear same;by_cases h2 : d.size < 2
 ·have HH := Aside0.mk hH;clear hH;go_enter Try.func134, Try.ntmps134
  go_wp2
  go_ret
  obtain ⟨e1, e2⟩ := HS.out 0 (fun j hj => keeps_lt_one d j (by omega));exact ⟨by rw [e1]; rfl, 0, e2⟩
 ·have HH := Aside0.mk hH;clear hH;go_enter Try.func134, Try.ntmps134
  go_wp2
  go_loopg [3] d.size (fun gg s3 wr => ∃ k q : Nat, 1 ≤ k ∧ k ≤ d.size ∧ d.size - k ≤ gg ∧ s3 = .int .i64 k ∧ wr = w.drewN q ∧ Aside0 (∀ j, j < k → keeps d j = true))
  case atStart => exact ⟨1, 0, Nat.le_refl _, by omega, by omega, rfl, rfl, ⟨keeps_lt_one d⟩⟩
  case round =>
   obtain ⟨k, q, a7, hk, hg, rfl, rfl, hall⟩ := hrel;by_cases hlt : k < d.size
   ·obtain ⟨c10, a3, a4, f10⟩ := cellE HH.out hlt;obtain ⟨a0, a1, a2, f00⟩ := cellE HH.out (show k - 1 < d.size by omega);generalize hx : d[k]! = x at c10 a3 a4;generalize hy : d[k - 1]! = y at a0 a1 a2;have B := Aside0.mk (And.intro hx hy);clear hx hy f10 f00;by_cases hdup : x = y
    ·have hE := fun W => eqE_yes (x := x) (y := y) hdup W
     go_wp2_with fail
     go_quiet (fail)
     go_wp2
     clear c10 a3 a4 a0 a1 a2 hE;have HD := Aside0.mk (B.out.1.trans (hdup.trans B.out.2.symm));clear hdup B;go_loopg [3, 5] d.size (fun gg s3 s5 wr => ∃ (kk k2 q2 : Nat) (dk : Array Ed), s3 = .int .i64 kk ∧ s5 = .int .i64 k2 ∧ 1 ≤ k2 ∧ k + k2 ≤ d.size ∧ d.size - (k + k2) ≤ gg ∧ Aside0 (wr = putRowK encE 3 (Sort.ahead w q2) g 0 dk) ∧ Aside0 (CompInv d (k + k2) kk dk))
     case atStart => exact ⟨k, 1, _, d, rfl, rfl, Nat.le_refl _, by omega, by omega, ⟨(putRowK_self encE 3 (Sort.ahead w _) g 0 d (holdsK_ahead encE 3 w _ g 0 d HH.out)).symm⟩, ⟨CompInv.start hall.out (keeps_neg (by omega) HD.out)⟩⟩
     case round =>
      obtain ⟨kk, k2, q2, dk, rfl, rfl, h1, hle, a6, W2, I2⟩ := hrel;have hkk := I2.out.lt;have hds := I2.out.size;have HK := Aside0.mk (show HoldsK encE 3 wr g 0 dk by rw [W2.out]; exact holdsK_putRowK encE 3 _ g 0 d dk (holdsK_ahead encE 3 w q2 g 0 d HH.out) hds);by_cases hlt2 : k + k2 < d.size
      ·obtain ⟨m0, m1, m2, _⟩ := cellE HK.out (i := k + k2) (by omega);obtain ⟨p0, p1, p2, _⟩ := cellE HK.out (i := k + (k2 - 1)) (by omega);obtain ⟨o0, o1, o2, f0, f1, f2⟩ := cellE HK.out (i := kk) (by omega);rw [I2.out.high _ (by omega), Nat.add_mul] at m0 m1 m2;rw [I2.out.high _ (by omega), Nat.add_mul] at p0 p1 p2;generalize hu : d[k + k2]! = u at m0 m1 m2;generalize hv : d[k + (k2 - 1)]! = v at p0 p1 p2;generalize dk[kk]! = old at o0 o1 o2;have C := Aside0.mk (And.intro hu hv);clear hu hv;by_cases huv : u = v
       ·have hE := fun W => eqE_yes (x := u) (y := v) huv W
        clear o0 o1 o2 f0 f1 f2;go_wp2_with fail
        go_quiet (fail)
        go_wp2
        go_roundg (d.size - (k + (k2 + 1)))
        case measure => omega
        case rel => exact ⟨kk, k2 + 1, _, dk, rfl, by go_num, by omega, by omega, Nat.le_refl _, ⟨by rw [W2.out]; exact putRowK_drewN encE 3 w q2 _ g 0 dk⟩, ⟨I2.out.skip (keeps_neg (by omega) (by rw [show k + k2 - 1 = k + (k2 - 1) by omega, C.out.1, C.out.2]; exact huv))⟩⟩
       ·have hE := fun W => eqE_no (x := u) (y := v) huv W
        go_wp2_with fail
        go_quiet (fail)
        go_wp2
        go_roundg (d.size - (k + (k2 + 1)))
        case measure => omega
        case rel =>
         have a5 := store_worldK encE 3 (fun _ => rfl) w (wr.drewN nq) (q2 + nq) g 0 dk kk u (by omega) (by rw [W2.out]; exact putRowK_drewN encE 3 w q2 nq g 0 dk);rw [Nat.zero_add] at a5;refine ⟨kk + 1, k2 + 1, q2 + nq, dk.setIfInBounds kk u, by go_num, by go_num, by omega, by omega, Nat.le_refl _, ⟨a5⟩, ⟨?_⟩⟩;have := I2.out.keep hlt2 (keeps_pos (by rw [show k + k2 - 1 = k + (k2 - 1) by omega, C.out.1, C.out.2]; exact huv));rwa [C.out.1] at this
      ·have hend : k + k2 = d.size := by omega
       have hzl : (Builtin.zeroCells #[Value.int .i64 0, .int .i64 0, .int .i64 0] (d.size - kk)).toList.length = (d.size - kk) * 3 := by simp [Builtin.zeroCells, Nat.mul_comm]
       have hcl : ∀ ty, (Builtin.clear_ #[23] ty #[.slice (some ⟨g, kk * 3, none⟩) (d.size - kk) (cap - kk)]).run Try.prog wr = .ok (.tuple #[]) (wr.setCells g (kk * 3) (Builtin.zeroCells #[Value.int .i64 0, .int .i64 0, .int .i64 0] (d.size - kk)).toList) := by
        intro ty;refine run_clear_edges wr ty g (kk * 3) (d.size - kk) (cap - kk) (by omega) (fun j hj => ?_) (fun j hj => ?_)
        ·rw [hzl] at hj;have := HK.out.cell (i := kk + j / 3) (c := j % 3) (by omega) (Nat.mod_lt _ (by omega));rw [show 0 + (kk + j / 3) * 3 + j % 3 = kk * 3 + j by omega] at this;rw [this.1]; rfl
        ·rw [hzl] at hj;have := HK.out.cell (i := kk + j / 3) (c := j % 3) (by omega) (Nat.mod_lt _ (by omega));rw [show 0 + (kk + j / 3) * 3 + j % 3 = kk * 3 + j by omega] at this;exact this.2
       have HW := Aside0.mk (clear_worldK encE 3 (fun _ => rfl) w wr q2 g 0 dk kk (d.size - kk) z80 (Builtin.zeroCells #[Value.int .i64 0, .int .i64 0, .int .i64 0] (d.size - kk)).toList (by omega) hzl (by
        intro t ht;rw [getElem!_pos _ t (by rw [hzl]; exact ht)];have h3 : t % 3 < 3 := Nat.mod_lt _ (by omega);rcases (show t % 3 = 0 ∨ t % 3 = 1 ∨ t % 3 = 2 by omega) with h | h | h <;> simp [Builtin.zeroCells, h, encE, z80]) W2.out)
       generalize (Builtin.zeroCells #[Value.int .i64 0, .int .i64 0, .int .i64 0] (d.size - kk)).toList = zc at hcl HW;clear hzl;go_wp2
       go_ret
       have hI := I2.out;rw [hend] at hI;refine ⟨by rw [hI.len]; rfl, q2, ?_⟩;have hw := HW.out;rw [Nat.zero_add] at hw;rw [hw, hI.len, ← hI.done z80]
    ·have hE := fun W => eqE_no (x := x) (y := y) hdup W
     go_wp2_with fail
     go_quiet (fail)
     go_wp2
     go_roundg (d.size - (k + 1))
     case measure => omega
     case rel =>
      refine ⟨k + 1, _, by omega, by omega, Nat.le_refl _, by go_num, rfl, ⟨fun j hj => ?_⟩⟩;by_cases e : j = k
      ·subst e;exact keeps_pos (by rw [B.out.1, B.out.2]; exact hdup)
      ·exact hall.out j (by omega)
   ·have : k = d.size := by omega
    subst this;go_wp2
    go_ret
    obtain ⟨e1, e2⟩ := HS.out q hall.out;exact ⟨by rw [e1]; rfl, q, e2⟩
theorem dd_len : ∀ l : List Ed, (dd l).length ≤ l.length
 | [] => Nat.le_refl _
 | [a] => Nat.le_refl _
 | a :: b :: r => by
  have ih := dd_len (b :: r)
  unfold dd
  split
  ·simp at ih ⊢; omega
  ·simp at ih ⊢; omega
theorem grown_sortedK (W : World) (g m : Nat) (d : Array Ed) (os : Array Obj) : W.grownBy (sortWorldK encE 3 W g 0 m d os) (some g) := by
 refine ⟨rfl, rfl, rfl, ?_, fun k hk hne => ?_⟩
 ·show W.heap.size ≤ ((W.heap.modify g (onCells (putCells id 0 (flatK encE 3 d)))) ++ os).size
  rw [Array.size_append, Array.size_modify]
  omega
 ·show ((W.heap.modify g (onCells (putCells id 0 (flatK encE 3 d)))) ++ os)[k]? = _
  rw [Array.getElem?_append_left (by rw [Array.size_modify]; omega), Array.getElem?_modify, if_neg (fun e => hne (by rw [e]))]
theorem sortC_any (base : Nat) (v : Value) (es : List Ed) (w : World) (h : Kd.R k80 80 w base (fun _ => True) v es) (hel : es.length ≤ 1000000) :
  Calls Try.prog 133 #[v, .func (.func 122) #[] #[]] w fun e w' => e = .returned (.tuple #[]) ∧ Kd.R k80 80 w' base (fun _ => True) v (sortedE es) ∧ w.grownBy w' v.ownBlock := by
 obtain ⟨A, c, rfl⟩ := Kd.R_slice h
 rcases A with _ | ad
 ·have h0 : es = [] := by
   obtain ⟨A', c', hv, _, hC⟩ := Kd.R_reads h
   injection hv with hA _ _
   subst hA
   rcases es with _ | ⟨x, r⟩
   ·rfl
   ·obtain ⟨ad, h, _⟩ := hC.2.2 (by simp)
    cases h
  subst h0
  refine (Calls.mono (R := fun e w' => e = .returned (.tuple #[]) ∧ w' = w) ?_ ?_)
  ·have := AnyF.slices_SortFunc_none Try.sortE none c (.func (.func 122) #[] #[]) w
   exact this
  ·rintro e w' ⟨rfl, rfl⟩
   exact ⟨rfl, by simpa [sortedE] using h, grown_of_below (Below.refl _ _) _⟩
 ·obtain ⟨g, rfl⟩ := Kd.R_head h
  refine (sortF_any g c es w (holdsK_of_R h) (Kd.R_lt h g rfl) hel).mono ?_
  rintro e w' ⟨rfl, n, os, rfl⟩
  have := R_sorted (es' := sortedE es) h (List.length_mergeSort es) n os
  rw [show (sortedE es).length = es.length from List.length_mergeSort es] at this
  exact ⟨rfl, this, grown_sortedK w g n _ os⟩
theorem sortedE_length (es : List Ed) : (sortedE es).length = es.length := List.length_mergeSort es
theorem compactE_any (g cap base : Nat) (es : List Ed) (w : World) (h : Kd.R k80 80 w base (fun _ => True) (.slice (some ⟨g, 0, none⟩) es.length cap) es) (hel : es.length ≤ 1000000) :
  Calls Try.prog 134 #[.slice (some ⟨g, 0, none⟩) es.length cap] w fun e w' => e = .returned (.slice (some ⟨g, 0, none⟩) (dd es).length cap) ∧ Kd.R k80 80 w' base (fun _ => True) (.slice (some ⟨g, 0, none⟩) (dd es).length cap) (dd es) ∧ w.grownBy w' (some g) := by
 have hc : es.length ≤ cap := (Kd.R_reads' h).2.1
 have hcd : compactUpTo es.toArray es.toArray.size = dd es := by rw [List.size_toArray]; exact compact_dd es
 have hw := compact_arr g cap es.toArray w (holdsK_of_R h) (by simpa using hel) (by simpa using hc)
 rw [hcd] at hw
 simp only [List.size_toArray] at hw
 refine hw.mono ?_
 rintro e w' ⟨rfl, q, rfl⟩
 have hl := dd_len es
 have hL : (dd es ++ List.replicate (es.length - (dd es).length) z80).length = es.length := by simp; omega
 have hs : putRowK encE 3 (Sort.ahead w q) g 0 (dd es ++ List.replicate (es.length - (dd es).length) z80).toArray = sortWorldK encE 3 w g 0 q (dd es ++ List.replicate (es.length - (dd es).length) z80).toArray #[] := by unfold sortWorldK; simp [grow]
 rw [hs]
 have hR := R_sorted h hL q #[]
 have hT := Kd.R_take (m := (dd es).length) hR (by simp)
 rw [List.take_left] at hT
 exact ⟨rfl, hT, grown_sortedK w g q _ #[]⟩
set_option maxHeartbeats 1000000 in
theorem compactE_none (A : Option Addr) (c : Nat) (w : World) : Calls Try.prog 134 #[.slice A 0 c] w fun e w' => e = .returned (.slice A 0 c) ∧ w' = w := by
 go_enter Try.func134, Try.ntmps134
 go_wp2
 go_ret
 exact ⟨rfl, rfl⟩
theorem compactC_any (base : Nat) (v : Value) (es : List Ed) (w : World) (h : Kd.R k80 80 w base (fun _ => True) v es) (hel : es.length ≤ 1000000) :
  Calls Try.prog 134 #[v] w fun e w' => ∃ v', e = .returned v' ∧ Kd.R k80 80 w' base (fun _ => True) v' (dd es) ∧ w.grownBy w' v.ownBlock := by
 obtain ⟨A, c, rfl⟩ := Kd.R_slice h
 rcases A with _ | ad
 ·have h0 : es = [] := by
   obtain ⟨A', c', hv, _, hC⟩ := Kd.R_reads h
   injection hv with hA _ _
   subst hA
   rcases es with _ | ⟨x, r⟩
   ·rfl
   ·obtain ⟨ad, h, _⟩ := hC.2.2 (by simp)
    cases h
  subst h0
  refine (compactE_none none c w).mono ?_
  rintro e w' ⟨rfl, rfl⟩
  exact ⟨_, rfl, h, grown_of_below (Below.refl _ _) _⟩
 ·obtain ⟨g, rfl⟩ := Kd.R_head h
  refine (compactE_any g c base es w h hel).mono ?_
  rintro e w' ⟨rfl, hR, hG⟩
  exact ⟨_, rfl, hR, hG⟩
end Go.Proofs.Ytmcbkmfpmcbdpaa.H
namespace Go.Proofs.Ytmcbkmfpmcbdpaa.H
open Go.RowKit Go.Proofs.Ytmcbkmfpmcbdpaa.Pr Go.Proofs.YtmcbkmfpmcbdpaaW.PrintWords Go.Proofs.Ytmcbkmfpmcbdpaa.Sem Go.Proofs.YtmcbkmfpmcbdpaaW.PrintLast
set_option maxHeartbeats 4000000 in
set_option maxRecDepth 100000 in
theorem cloneS_any (xs : List ByteArray) (A : Option Addr) (c : Nat) (w : World) (hC : Kd.C Kd.string w A xs.length xs) (hel : xs.length ≤ 1000000) :
  Calls Try.prog 135 #[.slice A xs.length c] w fun e w' => ∃ v0 : Value, e = .returned v0 ∧ Kd.R Kd.string 9 w' w.heap.size (fun _ => True) v0 xs ∧ Below w.heap.size w w' := by
 have HC := Aside0.mk hC;have HB := Aside0.mk (Below.refl w.heap.size w);rcases A with _ | ad
 ·have h0 : xs.length = 0 := by
   rcases Nat.eq_zero_or_pos xs.length with h | h
   ·exact h
   ·obtain ⟨ad, h, _⟩ := hC.2.2 h
    cases h
  obtain rfl : xs = [] := List.eq_nil_of_length_eq_zero h0;clear hC HC h0;have q_ : ∀ (W : World) (a : Option Addr) (n c n' c' : Nat), (binOp .eql 22 (.slice a n c) (.slice none n' c')).run Try.prog W = .ok (.bool a.isNone) W := fun W a n c n' c' => Lib.run_eql_slice_nil W _ _ a n c n' c' Try.underlying22
  go_enter Try.func135, Try.ntmps135
  go_wp2
  go_ret
  exact ⟨_, rfl, Kd.R_nil _ _ _ _ _, HB.out⟩
 ·clear hC;have q_ : ∀ (W : World) (a : Option Addr) (n c n' c' : Nat), (binOp .eql 22 (.slice a n c) (.slice none n' c')).run Try.prog W = .ok (.bool a.isNone) W := fun W a n c n' c' => Lib.run_eql_slice_nil W _ _ a n c n' c' Try.underlying22
  go_enter Try.func135, Try.ntmps135
  go_wp2_with (first
   | ((with_reducible refine gate_dst (N := 5) rfl ?_); refine Kd.R_lit Kd.string _ 9 ?hg (N := 5) ?hd (xs := ([] : List ByteArray)) (inner := []) (ok := fun _ => True) (okp := fun _ => True) ?hr ?hp (fun _ hk => hk) trivial (Below.refl _ _) (Nat.le_refl _) (by simp) ?_; (case hd => rfl); (case hg => rfl); (case hr => first | (go_simp; done) | (go_simp; rfl)); (case hp => exact (Reps.none _ _)); intro v1 w1 ho hb hg_ hnew_; clear hg_ hnew_; have HO := Aside0.mk ho; have HB1 := Aside0.mk (below_step HB.out hb); clear ho hb)
   | (at_builtin; refine Kd.R_append_rows Kd.string (w0 := w) w.heap.size rfl (.tmp 5) (.tmp 6) 22 9 (.string ⟨#[]⟩) 16 rfl Try.underlying22 info9 rfl (by decide) (by omega) v1 [] xs (some ad) _ c (fun _ => True) (fun _ => False) rfl rfl HO.out (Kd.C_below HC.out HB1.out) (fun _ _ h => h) (fun _ h => h.elim) (fun _ _ => trivial) HB1.out HB1.out.size (by simp; omega) ?_; intro v2 w2 ho hb hg hat; have HO2 := Aside0.mk ho; have HB2 := Aside0.mk hb; clear ho hb hg hat))
  go_ret
  exact ⟨_, rfl, by simpa using HO2.out, HB2.out⟩
theorem sortedE_sortE (es : List Ed) : dd (sortedE es) = sortE es := by
 refine dd_sortE ?_ fun x => (List.mergeSort_perm _ _).mem_iff
 have := List.pairwise_mergeSort (le := fun x y => !(ltOf cmpE) y x) (fun a b c h1 h2 => by
  simp only [ltE, Bool.not_eq_true', decide_eq_false_iff_not] at *
  unfold elt at *; omega) (fun a b => by
  simp only [ltE, Bool.or_eq_true, Bool.not_eq_true', decide_eq_false_iff_not]
  unfold elt; omega) es
 refine this.imp fun {a b} h => ?_
 simpa only [ltE, Bool.not_eq_true', decide_eq_false_iff_not] using h
theorem sortE_length (es : List Ed) : (sortE es).length ≤ es.length := by
 rw [← sortedE_sortE]
 exact Nat.le_trans (dd_len _) (Nat.le_of_eq (sortedE_length es))
theorem BoxL.set2 {w : World} {b : Nat} {n : Int} {v1 v2 : Value} (h : BoxL w b n v1 v2) (u : Value) : BoxL (w.setCell ⟨b, 2, none⟩ u) b n v1 u := blk_put h 2 u rfl
set_option maxRecDepth 100000 in
theorem sort_any (n : Int) (ls : List ByteArray) (es : List Ed) (A1 A2 : Option Addr) (c1 c2 : Nat) (w : World) (hr1 : Kd.C Kd.string w A1 ls.length ls) (hc1 : ls.length ≤ c1) (hr2 : Kd.C k80 w A2 es.length es) (hc2 : es.length ≤ c2) (hl : ls.length ≤ 1000000) (he : es.length ≤ 1000000) {r1 : Int} {r2 : List ByteArray} {r3 : List Ed} {r4 : Int} (h : (if mayR n ls (sortE es) then (n, ls, sortE es, (0 : Int)) else (0, [], [], 1)) = (r1, r2, r3, r4)) :
  Calls Try.prog 104 #[.agg #[.int .i64 n, .slice A1 ls.length c1, .slice A2 es.length c2]] w fun e w' => ∃ v1_ v2_ : Value, e = .returned (.tuple #[.agg #[.int .i64 r1, v1_, v2_], .int .i64 r4]) ∧ Kd.R Kd.string 9 w' w.heap.size (fun _ => True) v1_ r2 ∧ Kd.R k80 80 w' w.heap.size (fun _ => True) v2_ r3 ∧ Below w.heap.size w w' := by
 have HB := Aside0.mk (Below.refl w.heap.size w);have b9 := Aside0.mk hr1;have e5 := Aside0.mk hr2;have HH := Aside0.mk h;clear hr1 hr2 h;go_enter Try.func104, Try.ntmps104
 go_wp2_with fail
 refine (clone_any es A2 c2 _ (Kd.C_below e5.out (below_alloc (below_alloc HB.out _) _)) he).mono ?_;rintro e w1 ⟨v1, rfl, hR, hB⟩;have d2 := Kd.R_lower (base' := w.heap.size) hR (below_alloc (below_alloc HB.out _) _).size;have a8 := Aside0.mk (show BoxL w1 w.heap.size n (.slice A1 ls.length c1) (.slice A2 es.length c2) from blk_below (blk_alloc (blk_new w _) _) hB);have e1 := Aside0.mk (show w1.heap[w.heap.size + 1]? = some (.cells #[.int .i64 0, .slice none 0 0, .slice none 0 0] 25 (0, 0)) from blk_below (by have := blk_new (w.alloc (.cells #[.int .i64 n, .slice A1 ls.length c1, .slice A2 es.length c2] 25)) (.cells #[.int .i64 0, .slice none 0 0, .slice none 0 0] 25); simpa using this) hB);have d5 := Aside0.mk (below_then (below_alloc (below_alloc HB.out _) _) (below_alloc (below_alloc HB.out _) _).size hB);have d8 := Aside0.mk d2;have b2 := a8.out.c2;have f2 := Go.Proofs.YtmcbkmfpmcbdpaaW.PrintWords.blk_frozen a8.out 2;obtain ⟨A4, c4, e8⟩ := Kd.R_slice d2;subst e8;clear hR hB d2;go_wp2_with fail
 have b4 := Aside0.mk (a8.out.set2 (.slice A4 es.length c4));have b6 := Aside0.mk (blk_far e1.out (p := ⟨w.heap.size, 2, none⟩) (by simp) (.slice A4 es.length c4));have a5 := Aside0.mk (Kd.R_set d8.out a8.out (by decide) 2 (.slice A4 es.length c4));have a9 := Aside0.mk (below_set d5.out (Nat.le_refl _) (j := 2) (v := .slice A4 es.length c4));clear b2 f2 a8 e1 d8 d5;generalize w1.setCell ⟨w.heap.size, 2, none⟩ (.slice A4 es.length c4) = w2 at b4 b6 a5 a9 ⊢;refine (sortC_any w.heap.size _ es w2 a5.out he).mono ?_;rintro e w3 ⟨rfl, hR, hG⟩;have b5 := Aside0.mk (show BoxL w3 w.heap.size n (.slice A1 ls.length c1) (.slice A4 es.length c4) from blk_grown b4.out hG (Kd.R_ne a5.out b4.out (by decide)));have d1 := Aside0.mk (blk_grown b6.out hG (Kd.R_ne a5.out b6.out (by decide)));have b8 := Aside0.mk (pw_below_grown a9.out _ a9.out.size hG (fun k hk => Kd.R_base a5.out k hk));have a7 := Aside0.mk hR;have b2 := b5.out.c2;clear b4 b6 a5 a9 hR hG;go_wp2_with fail
 refine (compactC_any w.heap.size _ (sortedE es) w3 a7.out (by rw [sortedE_length]; exact he)).mono ?_;rintro e w4 ⟨v5, rfl, hR, hG⟩;rw [sortedE_sortE] at hR;have a3 := Aside0.mk (show BoxL w4 w.heap.size n (.slice A1 ls.length c1) (.slice A4 es.length c4) from blk_grown b5.out hG (Kd.R_ne a7.out b5.out (by decide)));have e2 := Aside0.mk (blk_grown d1.out hG (Kd.R_ne a7.out d1.out (by decide)));have d6 := Aside0.mk (pw_below_grown b8.out _ b8.out.size hG (fun k hk => Kd.R_base a7.out k hk));obtain ⟨A6, c6, e9⟩ := Kd.R_slice hR;subst e9;have d9 := Aside0.mk hR;have b0 := a3.out.c0;have b1 := a3.out.c1;have b2' := a3.out.c2;have f2 := Go.Proofs.YtmcbkmfpmcbdpaaW.PrintWords.blk_frozen a3.out 2;clear b2 b5 d1 a7 b8 hR hG;go_wp2_with fail
 have d0 := Aside0.mk (a3.out.set2 (.slice A6 (sortE es).length c6));have b7 := Aside0.mk (blk_far e2.out (p := ⟨w.heap.size, 2, none⟩) (by simp) (.slice A6 (sortE es).length c6));have b3 := Aside0.mk (Kd.R_set d9.out a3.out (by decide) 2 (.slice A6 (sortE es).length c6));have a1 := Aside0.mk (below_set d6.out (Nat.le_refl _) (j := 2) (v := .slice A6 (sortE es).length c6));clear b0 b1 b2' f2 a3 e2 d9 d6;generalize w4.setCell ⟨w.heap.size, 2, none⟩ (.slice A6 (sortE es).length c6) = w5 at d0 b7 b3 a1 ⊢;obtain ⟨_, _, hv, hcl, hC⟩ := Kd.R_reads b3.out;injection hv with hA _ hc
 subst hA hc;have d7 := Aside0.mk hC;have f3 := Aside0.mk hcl;clear hC hcl
 cases hm : mayR n ls (sortE es) with
 | false =>
  have HF := HH.out;rw [hm, if_neg (by simp)] at HF;simp only [Prod.mk.injEq] at HF;obtain ⟨rfl, rfl, rfl, rfl⟩ := HF;refine (check_no n ls (sortE es) A1 A6 c1 c6 w5 (Kd.C_below b9.out a1.out) d7.out (by rw [may_same]; exact hm)).mono ?_;rintro e w6 ⟨rfl, hB⟩;have a0 := Aside0.mk (blk_below b7.out hB);have a4 := Aside0.mk (below_then a1.out a1.out.size hB);have y0 := bcz a0 0 rfl;have y1 := bcz a0 1 rfl;have y2 := bcz a0 2 rfl;have g0 := Go.Proofs.YtmcbkmfpmcbdpaaW.PrintWords.blk_frozen a0.out 0;have g1 := Go.Proofs.YtmcbkmfpmcbdpaaW.PrintWords.blk_frozen a0.out 1;have g2 := Go.Proofs.YtmcbkmfpmcbdpaaW.PrintWords.blk_frozen a0.out 2;clear hB hm;go_wp2
  refine bodyPost_ret (results_ct rfl _ _ (w.heap.size + 1) 25 #[.int .i64 0, .slice none 0 0, .slice none 0 0] (0, 0) _ rfl (blk_put (blk_put (blk_put a0.out 0 (.int .i64 0) rfl) 1 (.slice none 0 0) rfl) 2 (.slice none 0 0) rfl) Try.underlying25 rfl (by kernel_rfl)) rfl ?_;exact ⟨_, _, rfl, Kd.R_nil _ _ _ _ _, Kd.R_nil _ _ _ _ _, below_set (below_set (below_set a4.out (by omega)) (by omega)) (by omega)⟩
 | true =>
  have HF := HH.out;rw [hm, if_pos rfl] at HF;simp only [Prod.mk.injEq] at HF;obtain ⟨rfl, rfl, rfl, rfl⟩ := HF;refine (check_yes n ls (sortE es) A1 A6 c1 c6 w5 (Kd.C_below b9.out a1.out) d7.out (by rw [may_same]; exact hm)).mono ?_;rintro e w6 ⟨rfl, hB⟩;have e0 := Aside0.mk (d0.out.below hB);have a0 := Aside0.mk (blk_below b7.out hB);have e6 := Aside0.mk (Kd.R_below b3.out hB);have a4 := Aside0.mk (below_then a1.out a1.out.size hB);have b1 := e0.out.c1;clear hB hm d0 b7 b3 a1;go_wp2_with fail
  refine (cloneS_any ls A1 c1 w6 (Kd.C_below b9.out a4.out) hl).mono ?_;rintro e w7 ⟨v8, rfl, hR, hB⟩;obtain ⟨A8, c8, f0⟩ := Kd.R_slice hR;subst f0;have a6 := Aside0.mk (e0.out.below hB);have a2 := Aside0.mk (blk_below a0.out hB);have e7 := Aside0.mk (Kd.R_below e6.out hB);have e4 := Aside0.mk (Kd.R_lower hR a4.out.size);have e3 := Aside0.mk (below_then a4.out a4.out.size hB);have b0 := a6.out.c0;have b1' := a6.out.c1;have b2 := a6.out.c2;have f1 := Go.Proofs.YtmcbkmfpmcbdpaaW.PrintWords.blk_frozen a6.out 1;have y0 := bcz a2 0 rfl;have y1 := bcz a2 1 rfl;have y2 := bcz a2 2 rfl;have g0 := Go.Proofs.YtmcbkmfpmcbdpaaW.PrintWords.blk_frozen a2.out 0;have g1 := Go.Proofs.YtmcbkmfpmcbdpaaW.PrintWords.blk_frozen a2.out 1;have g2 := Go.Proofs.YtmcbkmfpmcbdpaaW.PrintWords.blk_frozen a2.out 2;clear b1 hB hR;go_wp2
  refine bodyPost_ret (results_ct rfl _ _ (w.heap.size + 1) 25 #[.int .i64 n, .slice A8 ls.length c8, .slice A6 (sortE es).length c6] (0, 0) _ rfl (blk_put (blk_put (blk_put (blk_far a2.out (p := ⟨w.heap.size, 1, none⟩) (by simp) _) 0 (.int .i64 n) rfl) 1 (.slice A8 ls.length c8) rfl) 2 (.slice A6 (sortE es).length c6) rfl) Try.underlying25 rfl (by kernel_rfl)) rfl ?_;have d3 := blk_far a2.out (p := ⟨w.heap.size, 1, none⟩) (by simp) (.slice A8 ls.length c8);have d4 := blk_put d3 0 (.int .i64 n) rfl;have hYa := blk_put d4 1 (.slice A8 ls.length c8) rfl
  exact ⟨_, _, rfl, Kd.R_set (Kd.R_set (Kd.R_set (Kd.R_set e4.out a6.out (by decide) 1 _) d3 (by decide) 0 _) d4 (by decide) 1 _) hYa (by decide) 2 _,
   Kd.R_set (Kd.R_set (Kd.R_set (Kd.R_set e7.out a6.out (by decide) 1 _) d3 (by decide) 0 _) d4 (by decide) 1 _) hYa (by decide) 2 _,
   below_set (below_set (below_set (below_set e3.out (Nat.le_refl _)) (by omega)) (by omega)) (by omega)⟩
end Go.Proofs.Ytmcbkmfpmcbdpaa.H
namespace Go.Proofs.Ytmcbkmfpmcbdpaa.Pr
open Go.RowKit Go.Proofs.YtmcbkmfpmcbdpaaW.PrintWords Go.Proofs.YtmcbkmfpmcbdpaaW.PrintLast Go.Proofs.YtmcbkmfpmcbdpaaW.PrintMore
def Pr26b.f (a0_0 : Int) (l0_1 : List ByteArray) (l0_2 : List S80) : Option Bool := some (H.mayR a0_0 l0_1 l0_2)
theorem Pr26b.calls (a0_0 : Int) (A0_1 : Option Addr) (c0_1 : Nat) (l0_1 : List ByteArray) (A0_2 : Option Addr) (c0_2 : Nat) (l0_2 : List S80) (r : Bool) (w : World) (hr0_1 : Kd.C Kd.string w A0_1 l0_1.length l0_1) (hc0_1 : l0_1.length ≤ c0_1) (hr0_2 : Kd.C k80 w A0_2 l0_2.length l0_2) (hc0_2 : l0_2.length ≤ c0_2) (h : Pr26b.f a0_0 l0_1 l0_2 = some r) :
  Calls Try.prog 18 #[.agg #[.int .i64 a0_0, .slice A0_1 l0_1.length c0_1, .slice A0_2 l0_2.length c0_2]] w fun e w' => e = .returned (.bool r) ∧ Below w.heap.size w w' := by
 have e : H.mayR a0_0 l0_1 l0_2 = r := by simpa [Pr26b.f] using h
 subst e
 exact H.may_any a0_0 l0_1 l0_2 A0_1 A0_2 c0_1 c0_2 w hr0_1 hr0_2
def Pxe.f (a0_0 : Int) (l0_1 : List ByteArray) (l0_2 : List S80) : Option Int := some (H.errB (H.mayR a0_0 l0_1 l0_2))
theorem Pxe.calls (a0_0 : Int) (A0_1 : Option Addr) (c0_1 : Nat) (l0_1 : List ByteArray) (A0_2 : Option Addr) (c0_2 : Nat) (l0_2 : List S80) (r : Int) (w : World) (hr0_1 : Kd.C Kd.string w A0_1 l0_1.length l0_1) (hc0_1 : l0_1.length ≤ c0_1) (hr0_2 : Kd.C k80 w A0_2 l0_2.length l0_2) (hc0_2 : l0_2.length ≤ c0_2) (h : Pxe.f a0_0 l0_1 l0_2 = some r) :
  Calls Try.prog 72 #[.agg #[.int .i64 a0_0, .slice A0_1 l0_1.length c0_1, .slice A0_2 l0_2.length c0_2]] w fun e w' => e = .returned (.int .i64 r) ∧ Below w.heap.size w w' := by
 have e : H.errB (H.mayR a0_0 l0_1 l0_2) = r := by simpa [Pxe.f] using h
 subst e
 rw [← H.may_same]
 exact H.check_any a0_0 l0_1 l0_2 A0_1 A0_2 c0_1 c0_2 w hr0_1 hr0_2
def Pxf.f (a0_0 : Int) (l0_1 : List ByteArray) (l0_2 : List S80) : Option (Int × List ByteArray × List S80 × Int) :=
 if l0_2.length ≤ 1000000 ∧ l0_1.length ≤ 1000000 then some (if H.mayR a0_0 l0_1 (Sem.sortE l0_2) then (a0_0, l0_1, Sem.sortE l0_2, 0) else (0, [], [], 1)) else none
theorem Pxf.calls (a0_0 : Int) (A0_1 : Option Addr) (c0_1 : Nat) (l0_1 : List ByteArray) (A0_2 : Option Addr) (c0_2 : Nat) (l0_2 : List S80) (r1 : Int) (r2 : List ByteArray) (r3 : List S80) (r4 : Int) (w : World) (hr0_1 : Kd.C Kd.string w A0_1 l0_1.length l0_1) (hc0_1 : l0_1.length ≤ c0_1) (hr0_2 : Kd.C k80 w A0_2 l0_2.length l0_2) (hc0_2 : l0_2.length ≤ c0_2) (h : Pxf.f a0_0 l0_1 l0_2 = some (r1, r2, r3, r4)) :
  Calls Try.prog 104 #[.agg #[.int .i64 a0_0, .slice A0_1 l0_1.length c0_1, .slice A0_2 l0_2.length c0_2]] w fun e w' => ∃ v1_ v2_ : Value, e = .returned (.tuple #[.agg #[.int .i64 r1, v1_, v2_], .int .i64 r4]) ∧ Kd.R Kd.string 9 w' w.heap.size (fun _ => True) v1_ r2 ∧ Kd.R k80 80 w' w.heap.size (fun _ => True) v2_ r3 ∧ Below w.heap.size w w' := by
 unfold Pxf.f at h
 split at h
 ·rename_i hn
  simp only [Option.some.injEq] at h
  exact H.sort_any a0_0 l0_1 l0_2 A0_1 A0_2 c0_1 c0_2 w hr0_1 hc0_1 hr0_2 hc0_2 hn.2 hn.1 h
 ·cases h
attribute [local go_sem] max2_int min2_int max_two min_two max_three min_three max_four min_four
set_option linter.unusedVariables false
set_option linter.unusedSimpArgs false
theorem eqA80 (d : Nat) (w : World) (x0 y0 : Int) (x1 y1 : Int) (x2 y2 : Int) :
  (Op.equalIn (d + 2) 80 (.agg #[.int .i64 x0, .int .i64 x1, .int .i64 x2]) (.agg #[.int .i64 y0, .int .i64 y1, .int .i64 y2])).run Try.prog w = .ok (x0 == y0 && (x1 == y1 && (x2 == y2))) w := by
 refine eqA_of Try.underlying80 (by kernel_rfl) ?_
 refine eqf_cons (by rfl) (by go_simp; rfl) (by go_simp; rfl) (by go_simp) ?_
 refine eqf_cons (by rfl) (by go_simp; rfl) (by go_simp; rfl) (by go_simp) ?_
 exact eqf_last (by rfl) (by go_simp; rfl) (by go_simp; rfl) (by go_simp)
def Pr01a.l0 : Nat → List ByteArray → List ByteArray → Int → Option (Bool)
 | 0, _, _, _ => none
 | k + 1, x0, x1, x5 => if x5 < (x0.length : Int) then (if 0 ≤ x5 then (if x5 < (x1.length : Int) then (if (rdOf ByteArray.empty x0 x5).toList = (rdOf ByteArray.empty x1 x5).toList then (Pr01a.l0 k x0 x1 (wrap64 (x5 + 1))) else (some false)) else (none)) else (none)) else (some true)
def Pr01a.f (k : Nat) (l0 : List ByteArray) (l1 : List ByteArray) : Option (Bool) := if (l0.length : Int) = (l1.length : Int) then (Pr01a.l0 k l0 l1 0) else (some false)
theorem Pr01a.mono_l : ∀ k, (∀ y0 y1 y2, LeO (Pr01a.l0 k y0 y1 y2) (Pr01a.l0 (k + 1) y0 y1 y2))
 | 0 => fun _ _ _ r h => by simp [Pr01a.l0] at h
 | k + 1 => by
  have ih0 := Pr01a.mono_l k
  ·intro y0 y1 y2
   unfold Pr01a.l0
   repeat' first
   | (with_reducible exact ih0 _ _ _)
   | (with_reducible exact LeO.refl _)
   | (with_reducible exact LeO.none _)
   | (with_reducible refine LeO.ite ?_ ?_)
   | (with_reducible refine LeO.bind ?_ (fun _ => ?_))
   | exact ih0 _ _ _
   | exact LeO.none _
   | refine LeO.ite ?_ ?_
   | refine LeO.bind ?_ (fun _ => ?_)
theorem Pr01a.mono : ∀ a0 a1 k, LeO (Pr01a.f k a0 a1) (Pr01a.f (k + 1) a0 a1) := by
 intro a0 a1 k
 have ih0 := Pr01a.mono_l k
 unfold Pr01a.f
 repeat' first
   | (with_reducible exact ih0 _ _ _)
   | (with_reducible exact LeO.refl _)
   | (with_reducible exact LeO.none _)
   | (with_reducible refine LeO.ite ?_ ?_)
   | (with_reducible refine LeO.bind ?_ (fun _ => ?_))
   | exact ih0 _ _ _
   | exact LeO.none _
   | refine LeO.ite ?_ ?_
   | refine LeO.bind ?_ (fun _ => ?_)
set_option maxHeartbeats 8000000 in
set_option maxRecDepth 100000 in
theorem Pr01a.calls (k : Nat) (A0 : Option Addr) (c0 : Nat) (l0 : List ByteArray) (A1 : Option Addr) (c1 : Nat) (l1 : List ByteArray) (r : Bool) (w : World) (hr0 : Kd.C Kd.string w A0 l0.length l0) (hc0 : l0.length ≤ c0) (hr1 : Kd.C Kd.string w A1 l1.length l1) (hc1 : l1.length ≤ c1) (h : Pr01a.f k l0 l1 = some r) :
  Calls Try.prog 28 #[.slice A0 l0.length c0, .slice A1 l1.length c1] w fun e w' => e = .returned (.bool r) ∧ Drawn0 w w' := by
 have b2 := Aside0.mk hr0;have b4 := Aside0.mk hc0;clear hr0 hc0;have b3 := Aside0.mk hr1;have b5 := Aside0.mk hc1;clear hr1 hc1;have H : (if (l0.length : Int) = (l1.length : Int) then (Pr01a.l0 k l0 l1 0) else (some false)) = some r := h;clear h;by_cases c3 : (l0.length : Int) = (l1.length : Int)
 ·rw [if_pos c3] at H;have c3b0 : ((l0.length : Int) == (l1.length : Int)) = true := beq_iff_eq.mpr c3;have c3b1 : ((l0.length : Int) != (l1.length : Int)) = false := bne_eq_false_iff_eq.mpr c3;have c3b2 : (l0.length == l1.length) = true := by first | simpa using c3 | (simp at c3 ⊢; omega)
  clear c3;have H' := Aside0.mk H;clear H;go_enter Try.func28, Try.ntmps28
  go_wp2
  repeat (go_quiet (fail); try go_wp2)
  go_loopg [5] k (fun kq v5 w' => ∃ (a0 : Int), v5 = .int .i64 a0 ∧ Aside0 (Pr01a.l0 kq l0 l1 a0 = some r) ∧ Aside0 (kq ≤ k) ∧ Drawn0 w w')
  case atStart => exact ⟨(0), (by first | rfl | (simp; done) | (simp [*]; done)), H', ⟨Nat.le_refl _⟩, by repeat (first | exact Drawn0.refl _ | apply Drawn0.step)⟩
  case round =>
   clear H';(try clear c1);(try clear c3);(try clear c3b0);(try clear c3b1);(try clear c3b2);obtain ⟨a0, rfl, HA, b1, ⟨m1, rfl⟩⟩ := hrel
   cases gk with
   | zero => exact absurd HA.out (by simp [Pr01a.l0])
   | succ k1 =>
    have H := HA.out;clear HA;simp only [Pr01a.l0] at H;by_cases c4 : a0 < (l0.length : Int)
    ·rw [if_pos c4] at H;have c4b0 : decide (a0 < (l0.length : Int)) = true := decide_eq_true c4;clear c4;by_cases c5 : 0 ≤ a0
     ·rw [if_pos c5] at H;have c5b0 : decide (0 ≤ a0) = true := decide_eq_true c5;clear c5;by_cases c6 : a0 < (l1.length : Int)
      ·rw [if_pos c6] at H;have c6b0 : decide (a0 < (l1.length : Int)) = true := decide_eq_true c6;clear c6;by_cases c7 : (rdOf ByteArray.empty l0 a0).toList = (rdOf ByteArray.empty l1 a0).toList
       ·rw [if_pos c7] at H;have c7b0 : ((rdOf ByteArray.empty l0 a0).toList == (rdOf ByteArray.empty l1 a0).toList) = true := beq_iff_eq.mpr c7;have c7b1 : ((rdOf ByteArray.empty l0 a0).toList != (rdOf ByteArray.empty l1 a0).toList) = false := bne_eq_false_iff_eq.mpr c7;clear c7;have H' := Aside0.mk H;clear H;have a1 : 0 ≤ (a0 : Int) := of_decide_eq_true (by first | (with_reducible assumption) | assumption);have a3 : a0 < (l0.length : Int) := of_decide_eq_true (by first | (with_reducible assumption) | assumption);obtain ⟨a9, a5, a7⟩ := Kd.at_string b2.out a0 a1 a3
        cases a5;replace a1 := eq_true a1;replace a3 := eq_true a3;have a2 : 0 ≤ (a0 : Int) := of_decide_eq_true (by first | (with_reducible assumption) | assumption);have a4 : a0 < (l1.length : Int) := of_decide_eq_true (by first | (with_reducible assumption) | assumption);obtain ⟨b0, a6, a8⟩ := Kd.at_string b3.out a0 a2 a4
        cases a6;replace a2 := eq_true a2;replace a4 := eq_true a4;go_wp2
        repeat (go_quiet (fail); try go_wp2)
        go_roundg k1
        case measure => have := b1.out; omega
        case rel => exact ⟨(wrap64 (a0 + 1)), (by first | rfl | (simp; done) | (simp [*]; done)), H', ⟨by have := b1.out; omega⟩, by repeat (first | exact Drawn0.refl _ | apply Drawn0.step)⟩
       ·rw [if_neg c7] at H;have c7b0 : ((rdOf ByteArray.empty l0 a0).toList == (rdOf ByteArray.empty l1 a0).toList) = false := beq_eq_false_iff_ne.mpr c7;have c7b1 : ((rdOf ByteArray.empty l0 a0).toList != (rdOf ByteArray.empty l1 a0).toList) = true := bne_iff_ne.mpr c7;obtain rfl := Option.some.inj H;have a1 : 0 ≤ (a0 : Int) := of_decide_eq_true (by first | (with_reducible assumption) | assumption);have a3 : a0 < (l0.length : Int) := of_decide_eq_true (by first | (with_reducible assumption) | assumption);obtain ⟨a9, a5, a7⟩ := Kd.at_string b2.out a0 a1 a3
        cases a5;replace a1 := eq_true a1;replace a3 := eq_true a3;have a2 : 0 ≤ (a0 : Int) := of_decide_eq_true (by first | (with_reducible assumption) | assumption);have a4 : a0 < (l1.length : Int) := of_decide_eq_true (by first | (with_reducible assumption) | assumption);obtain ⟨b0, a6, a8⟩ := Kd.at_string b3.out a0 a2 a4
        cases a6;replace a2 := eq_true a2;replace a4 := eq_true a4;go_wp2
        repeat (go_quiet (fail); try go_wp2)
        go_ret
        exact ⟨by first | rfl | (simp; done) | (simp [*]; done), by repeat (first | exact Drawn0.refl _ | apply Drawn0.step)⟩
      ·rw [if_neg c6] at H;exact absurd H (by simp)
     ·rw [if_neg c5] at H;exact absurd H (by simp)
    ·rw [if_neg c4] at H;have c4b0 : decide (a0 < (l0.length : Int)) = false := decide_eq_false c4;clear c4;obtain rfl := Option.some.inj H;go_wp2
     repeat (go_quiet (fail); try go_wp2)
     go_ret
     exact ⟨by first | rfl | (simp; done) | (simp [*]; done), by repeat (first | exact Drawn0.refl _ | apply Drawn0.step)⟩
 ·rw [if_neg c3] at H;have c3b0 : ((l0.length : Int) == (l1.length : Int)) = false := beq_eq_false_iff_ne.mpr c3;have c3b1 : ((l0.length : Int) != (l1.length : Int)) = true := bne_iff_ne.mpr c3;have c3b2 : (l0.length == l1.length) = false := by first | simpa using c3 | (simp at c3 ⊢; omega)
  obtain rfl := Option.some.inj H;go_enter Try.func28, Try.ntmps28
  go_wp2
  repeat (go_quiet (fail); try go_wp2)
  go_ret
  exact ⟨by first | rfl | (simp; done) | (simp [*]; done), by repeat (first | exact Drawn0.refl _ | apply Drawn0.step)⟩
attribute [local go_sem high] eqA80
mutual
def Pr26a.j0 : Nat → Bool → Int → List ByteArray → List (S80) → Int → List ByteArray → List (S80) → Option (Bool)
 | 0, _, _, _, _, _, _, _ => none
 | k + 1, x27, x108000, x108001, x108002, x109000, x109001, x109002 => if x27 = true then (some false) else (Pr26a.l0 k 0 x108000 x108001 x108002 x109000 x109001 x109002)
def Pr26a.l0 : Nat → Int → Int → List ByteArray → List (S80) → Int → List ByteArray → List (S80) → Option (Bool)
 | 0, _, _, _, _, _, _, _ => none
 | k + 1, x5, x108000, x108001, x108002, x109000, x109001, x109002 => if x5 < (x108002.length : Int) then (if 0 ≤ x5 then (if x5 < (x109002.length : Int) then (if (!(((rd_T80 x108002 x5).f0) == ((rd_T80 x109002 x5).f0)) || (!(((rd_T80 x108002 x5).f1) == ((rd_T80 x109002 x5).f1)) || (!(((rd_T80 x108002 x5).f2) == ((rd_T80 x109002 x5).f2))))) = true then (some false) else (Pr26a.l0 k (wrap64 (x5 + 1)) x108000 x108001 x108002 x109000 x109001 x109002)) else (none)) else (none)) else (some true)
end
def Pr26a.f (k : Nat) (a0_0 : Int) (l0_1 : List ByteArray) (l0_2 : List (S80)) (a1_0 : Int) (l1_1 : List ByteArray) (l1_2 : List (S80)) : Option (Bool) := if a0_0 = a1_0 then ((Pr01a.f k l0_1 l1_1).bind fun t109 => (if t109 = true then (Pr26a.j0 k ((l0_2.length : Int) != (l1_2.length : Int)) a0_0 l0_1 l0_2 a1_0 l1_1 l1_2) else (Pr26a.j0 k true a0_0 l0_1 l0_2 a1_0 l1_1 l1_2))) else (Pr26a.j0 k true a0_0 l0_1 l0_2 a1_0 l1_1 l1_2)
theorem Pr26a.mono_l : ∀ k, (∀ y0 y1 y2 y3 y4 y5 y6, LeO (Pr26a.j0 k y0 y1 y2 y3 y4 y5 y6) (Pr26a.j0 (k + 1) y0 y1 y2 y3 y4 y5 y6)) ∧ (∀ y0 y1 y2 y3 y4 y5 y6, LeO (Pr26a.l0 k y0 y1 y2 y3 y4 y5 y6) (Pr26a.l0 (k + 1) y0 y1 y2 y3 y4 y5 y6))
 | 0 => ⟨fun _ _ _ _ _ _ _ r h => by simp [Pr26a.j0] at h, fun _ _ _ _ _ _ _ r h => by simp [Pr26a.l0] at h⟩
 | k + 1 => by
  obtain ⟨ih0, ih1⟩ := Pr26a.mono_l k
  refine ⟨?_, ?_⟩
  ·intro y0 y1 y2 y3 y4 y5 y6
   unfold Pr26a.j0
   repeat' first
   | (with_reducible exact ih0 _ _ _ _ _ _ _)
   | (with_reducible exact ih1 _ _ _ _ _ _ _)
   | (with_reducible exact Pr01a.mono _ _ _)
   | (with_reducible exact LeO.refl _)
   | (with_reducible exact LeO.none _)
   | (with_reducible refine LeO.ite ?_ ?_)
   | (with_reducible refine LeO.bind ?_ (fun _ => ?_))
   | exact ih0 _ _ _ _ _ _ _
   | exact ih1 _ _ _ _ _ _ _
   | exact Pr01a.mono _ _ _
   | exact LeO.none _
   | refine LeO.ite ?_ ?_
   | refine LeO.bind ?_ (fun _ => ?_)
  ·intro y0 y1 y2 y3 y4 y5 y6
   unfold Pr26a.l0
   repeat' first
   | (with_reducible exact ih0 _ _ _ _ _ _ _)
   | (with_reducible exact ih1 _ _ _ _ _ _ _)
   | (with_reducible exact Pr01a.mono _ _ _)
   | (with_reducible exact LeO.refl _)
   | (with_reducible exact LeO.none _)
   | (with_reducible refine LeO.ite ?_ ?_)
   | (with_reducible refine LeO.bind ?_ (fun _ => ?_))
   | exact ih0 _ _ _ _ _ _ _
   | exact ih1 _ _ _ _ _ _ _
   | exact Pr01a.mono _ _ _
   | exact LeO.none _
   | refine LeO.ite ?_ ?_
   | refine LeO.bind ?_ (fun _ => ?_)
theorem Pr26a.mono : ∀ a0 a1 a2 a3 a4 a5 k, LeO (Pr26a.f k a0 a1 a2 a3 a4 a5) (Pr26a.f (k + 1) a0 a1 a2 a3 a4 a5) := by
 intro a0 a1 a2 a3 a4 a5 k
 obtain ⟨ih0, ih1⟩ := Pr26a.mono_l k
 unfold Pr26a.f
 repeat' first
   | (with_reducible exact ih0 _ _ _ _ _ _ _)
   | (with_reducible exact ih1 _ _ _ _ _ _ _)
   | (with_reducible exact Pr01a.mono _ _ _)
   | (with_reducible exact LeO.refl _)
   | (with_reducible exact LeO.none _)
   | (with_reducible refine LeO.ite ?_ ?_)
   | (with_reducible refine LeO.bind ?_ (fun _ => ?_))
   | exact ih0 _ _ _ _ _ _ _
   | exact ih1 _ _ _ _ _ _ _
   | exact Pr01a.mono _ _ _
   | exact LeO.none _
   | refine LeO.ite ?_ ?_
   | refine LeO.bind ?_ (fun _ => ?_)
set_option maxHeartbeats 8000000 in
set_option maxRecDepth 100000 in
theorem Pr26a.calls (k : Nat) (a0_0 : Int) (A0_1 : Option Addr) (c0_1 : Nat) (l0_1 : List ByteArray) (A0_2 : Option Addr) (c0_2 : Nat) (l0_2 : List (S80)) (a1_0 : Int) (A1_1 : Option Addr) (c1_1 : Nat) (l1_1 : List ByteArray) (A1_2 : Option Addr) (c1_2 : Nat) (l1_2 : List (S80)) (r : Bool) (w : World) (hr0_1 : Kd.C Kd.string w A0_1 l0_1.length l0_1) (hc0_1 : l0_1.length ≤ c0_1) (hr0_2 : Kd.C k80 w A0_2 l0_2.length l0_2) (hc0_2 : l0_2.length ≤ c0_2) (hr1_1 : Kd.C Kd.string w A1_1 l1_1.length l1_1) (hc1_1 : l1_1.length ≤ c1_1) (hr1_2 : Kd.C k80 w A1_2 l1_2.length l1_2) (hc1_2 : l1_2.length ≤ c1_2) (h : Pr26a.f k a0_0 l0_1 l0_2 a1_0 l1_1 l1_2 = some r) :
  Calls Try.prog 44 #[.agg #[.int .i64 a0_0, .slice A0_1 l0_1.length c0_1, .slice A0_2 l0_2.length c0_2], .agg #[.int .i64 a1_0, .slice A1_1 l1_1.length c1_1, .slice A1_2 l1_2.length c1_2]] w fun e w' => e = .returned (.bool r) ∧ Below w.heap.size w w' := by
 have p5 := Try.underlying25;have p6 := Try.underlying80;have b9 := Aside0.mk hr0_1;have b7 := Aside0.mk hc0_1;clear hr0_1 hc0_1;have j5 := Aside0.mk hr0_2;have o1 := Aside0.mk hc0_2;clear hr0_2 hc0_2;have d0 := Aside0.mk hr1_1;have b8 := Aside0.mk hc1_1;clear hr1_1 hc1_1;have j6 := Aside0.mk hr1_2;have o2 := Aside0.mk hc1_2;clear hr1_2 hc1_2;have HB := Aside0.mk (Below.refl w.heap.size w);have H : (if a0_0 = a1_0 then ((Pr01a.f k l0_1 l1_1).bind fun i4 => (if i4 = true then (Pr26a.j0 k ((l0_2.length : Int) != (l1_2.length : Int)) a0_0 l0_1 l0_2 a1_0 l1_1 l1_2) else (Pr26a.j0 k true a0_0 l0_1 l0_2 a1_0 l1_1 l1_2))) else (Pr26a.j0 k true a0_0 l0_1 l0_2 a1_0 l1_1 l1_2)) = some r := h;clear h;have j9 := Aside0.mk H;clear H;go_enter Try.func44, Try.ntmps44
 go_upto_region 1 with (first | ((with_reducible refine gate_dst (N := 2) rfl ?_); (try (refine gate_guard (by rfl) ?_; dsimp only)); refine box_event ?hg (N := 2) ?hd (cs := #[.int .i64 a0_0, .slice A0_1 l0_1.length c0_1, .slice A0_2 l0_2.length c0_2]) (t := 25) ?hr ?_; (case hd => rfl); (case hg => rfl); (case hr => first | (go_simp; done) | (go_simp; rfl)); intro a1 hg w4 hbox hb; have b3 := Aside0.mk (below_step (wz HB.out) hb); have b4 := Aside0.mk (hbox); have b5 := Aside0.mk ((by rw [hg]; exact (below_size (wz HB.out)) : w.heap.size ≤ a1)); have b6 := Aside0.mk ((by rw [hg]; exact (below_size (wz HB.out)) : w.heap.size ≤ a1)); clear HB; have HB := b3; have a0 := b4; have j3 := b5; have i9 := b6; clear b3 b4 b5 b6 hb hbox hg) | ((with_reducible refine gate_dst (N := 3) rfl ?_); (try (refine gate_guard (by rfl) ?_; dsimp only)); refine box_event ?hg (N := 3) ?hd (cs := #[.int .i64 a1_0, .slice A1_1 l1_1.length c1_1, .slice A1_2 l1_2.length c1_2]) (t := 25) ?hr ?_; (case hd => rfl); (case hg => rfl); (case hr => first | (go_simp; done) | (go_simp; rfl)); intro a4 hg w5 hbox hb; have b3 := Aside0.mk (blk_below (bz a0.out) hb); have b4 := Aside0.mk (below_step (wz HB.out) hb); have b5 := Aside0.mk (hbox); have b6 := Aside0.mk ((by rw [hg]; exact (below_size (wz HB.out)) : w.heap.size ≤ a4)); have d9 := Aside0.mk ((by rw [hg]; exact (below_size (wz HB.out)) : w.heap.size ≤ a4)); have e0 := Aside0.mk ((by rw [hg]; exact Nat.ne_of_lt (blk_lt (g := a1) (o := .cells #[.int .i64 a0_0, .slice A0_1 l0_1.length c0_1, .slice A0_2 l0_2.length c0_2] 25 (0, 0)) (bz a0.out)) : a1 ≠ a4)); have e1 := Aside0.mk ((by rw [hg]; exact Nat.ne_of_gt (blk_lt (g := a1) (o := .cells #[.int .i64 a0_0, .slice A0_1 l0_1.length c0_1, .slice A0_2 l0_2.length c0_2] 25 (0, 0)) (bz a0.out)) : a4 ≠ a1)); clear a0 HB; have a0 := b3; have HB := b4; have a2 := b5; have j4 := b6; have j2 := d9; have a5 := e0; have a6 := e1; clear b3 b4 b5 b6 d9 e0 e1 hb hbox hg))
 repeat (go_quiet (first | ((with_reducible refine gate_dst (N := 2) rfl ?_); (try (refine gate_guard (by rfl) ?_; dsimp only)); refine box_event ?hg (N := 2) ?hd (cs := #[.int .i64 a0_0, .slice A0_1 l0_1.length c0_1, .slice A0_2 l0_2.length c0_2]) (t := 25) ?hr ?_; (case hd => rfl); (case hg => rfl); (case hr => first | (go_simp; done) | (go_simp; rfl)); intro a1 hg w4 hbox hb; have b3 := Aside0.mk (below_step (wz HB.out) hb); have b4 := Aside0.mk (hbox); have b5 := Aside0.mk ((by rw [hg]; exact (below_size (wz HB.out)) : w.heap.size ≤ a1)); have b6 := Aside0.mk ((by rw [hg]; exact (below_size (wz HB.out)) : w.heap.size ≤ a1)); clear HB; have HB := b3; have a0 := b4; have j3 := b5; have i9 := b6; clear b3 b4 b5 b6 hb hbox hg) | ((with_reducible refine gate_dst (N := 3) rfl ?_); (try (refine gate_guard (by rfl) ?_; dsimp only)); refine box_event ?hg (N := 3) ?hd (cs := #[.int .i64 a1_0, .slice A1_1 l1_1.length c1_1, .slice A1_2 l1_2.length c1_2]) (t := 25) ?hr ?_; (case hd => rfl); (case hg => rfl); (case hr => first | (go_simp; done) | (go_simp; rfl)); intro a4 hg w5 hbox hb; have b3 := Aside0.mk (blk_below (bz a0.out) hb); have b4 := Aside0.mk (below_step (wz HB.out) hb); have b5 := Aside0.mk (hbox); have b6 := Aside0.mk ((by rw [hg]; exact (below_size (wz HB.out)) : w.heap.size ≤ a4)); have d9 := Aside0.mk ((by rw [hg]; exact (below_size (wz HB.out)) : w.heap.size ≤ a4)); have e0 := Aside0.mk ((by rw [hg]; exact Nat.ne_of_lt (blk_lt (g := a1) (o := .cells #[.int .i64 a0_0, .slice A0_1 l0_1.length c0_1, .slice A0_2 l0_2.length c0_2] 25 (0, 0)) (bz a0.out)) : a1 ≠ a4)); have e1 := Aside0.mk ((by rw [hg]; exact Nat.ne_of_gt (blk_lt (g := a1) (o := .cells #[.int .i64 a0_0, .slice A0_1 l0_1.length c0_1, .slice A0_2 l0_2.length c0_2] 25 (0, 0)) (bz a0.out)) : a4 ≠ a1)); clear a0 HB; have a0 := b3; have HB := b4; have a2 := b5; have j4 := b6; have j2 := d9; have a5 := e0; have a6 := e1; clear b3 b4 b5 b6 d9 e0 e1 hb hbox hg)); go_upto_region 1 with (first | ((with_reducible refine gate_dst (N := 2) rfl ?_); (try (refine gate_guard (by rfl) ?_; dsimp only)); refine box_event ?hg (N := 2) ?hd (cs := #[.int .i64 a0_0, .slice A0_1 l0_1.length c0_1, .slice A0_2 l0_2.length c0_2]) (t := 25) ?hr ?_; (case hd => rfl); (case hg => rfl); (case hr => first | (go_simp; done) | (go_simp; rfl)); intro a1 hg w4 hbox hb; have b3 := Aside0.mk (below_step (wz HB.out) hb); have b4 := Aside0.mk (hbox); have b5 := Aside0.mk ((by rw [hg]; exact (below_size (wz HB.out)) : w.heap.size ≤ a1)); have b6 := Aside0.mk ((by rw [hg]; exact (below_size (wz HB.out)) : w.heap.size ≤ a1)); clear HB; have HB := b3; have a0 := b4; have j3 := b5; have i9 := b6; clear b3 b4 b5 b6 hb hbox hg) | ((with_reducible refine gate_dst (N := 3) rfl ?_); (try (refine gate_guard (by rfl) ?_; dsimp only)); refine box_event ?hg (N := 3) ?hd (cs := #[.int .i64 a1_0, .slice A1_1 l1_1.length c1_1, .slice A1_2 l1_2.length c1_2]) (t := 25) ?hr ?_; (case hd => rfl); (case hg => rfl); (case hr => first | (go_simp; done) | (go_simp; rfl)); intro a4 hg w5 hbox hb; have b3 := Aside0.mk (blk_below (bz a0.out) hb); have b4 := Aside0.mk (below_step (wz HB.out) hb); have b5 := Aside0.mk (hbox); have b6 := Aside0.mk ((by rw [hg]; exact (below_size (wz HB.out)) : w.heap.size ≤ a4)); have d9 := Aside0.mk ((by rw [hg]; exact (below_size (wz HB.out)) : w.heap.size ≤ a4)); have e0 := Aside0.mk ((by rw [hg]; exact Nat.ne_of_lt (blk_lt (g := a1) (o := .cells #[.int .i64 a0_0, .slice A0_1 l0_1.length c0_1, .slice A0_2 l0_2.length c0_2] 25 (0, 0)) (bz a0.out)) : a1 ≠ a4)); have e1 := Aside0.mk ((by rw [hg]; exact Nat.ne_of_gt (blk_lt (g := a1) (o := .cells #[.int .i64 a0_0, .slice A0_1 l0_1.length c0_1, .slice A0_2 l0_2.length c0_2] 25 (0, 0)) (bz a0.out)) : a4 ≠ a1)); clear a0 HB; have a0 := b3; have HB := b4; have a2 := b5; have j4 := b6; have j2 := d9; have a5 := e0; have a6 := e1; clear b3 b4 b5 b6 d9 e0 e1 hb hbox hg)))
 (try simp only [Act.put, qz1, qz2, qz3])
 go_cut [27] (fun o0 wc => ∃ (kq : Nat) (e2 : Bool), o0 = .bool e2 ∧ Aside0 (Pr26a.j0 kq e2 a0_0 l0_1 l0_2 a1_0 l1_1 l1_2 = some r) ∧ Aside0 (kq ≤ k) ∧ Aside0 (wc.heap[a1]? = some (.cells #[.int .i64 a0_0, (.slice A0_1 l0_1.length c0_1), (.slice A0_2 l0_2.length c0_2)] 25 (0, 0))) ∧ Aside0 (wc.heap[a4]? = some (.cells #[.int .i64 a1_0, (.slice A1_1 l1_1.length c1_1), (.slice A1_2 l1_2.length c1_2)] 25 (0, 0))) ∧ Aside0 (Below w.heap.size w wc))
 case first =>
  have H := j9.out;clear j9;by_cases c6 : a0_0 = a1_0
  ·rw [if_pos c6] at H;have c6b0 : (a0_0 == a1_0) = true := beq_iff_eq.mpr c6;have c6b1 : (a0_0 != a1_0) = false := bne_eq_false_iff_eq.mpr c6;clear c6
   (first | rw [c6b0] | (simp only [i64_w, i32_w]; rw [c6b0]) | skip)
   replace H := Option.bind_eq_some_iff.mp H;obtain ⟨i4, k3, H⟩ := H;replace H : (if i4 = true then (Pr26a.j0 k ((l0_2.length : Int) != (l1_2.length : Int)) a0_0 l0_1 l0_2 a1_0 l1_1 l1_2) else (Pr26a.j0 k true a0_0 l0_1 l0_2 a1_0 l1_1 l1_2)) = some r := H;have A7 := Aside0.mk k3;clear k3;by_cases c8 : i4 = true
   ·subst c8;have H1 : (Pr26a.j0 k ((l0_2.length : Int) != (l1_2.length : Int)) a0_0 l0_1 l0_2 a1_0 l1_1 l1_2) = some r := by rw [if_pos rfl] at H; exact H
    clear H;have H := H1;clear H1;have H' := Aside0.mk H;clear H;have p3 := a5.out;have p4 := a6.out;have e5 : w5.cell? ⟨a1, 0, none⟩ = some (.int .i64 a0_0) := bcz a0 0 rfl;have e6 : w5.cell? ⟨a1, 1, none⟩ = some (.slice A0_1 l0_1.length c0_1) := bcz a0 1 rfl;have e7 : w5.cell? ⟨a1, 2, none⟩ = some (.slice A0_2 l0_2.length c0_2) := bcz a0 2 rfl;have g6 := blk_frozen a0.out 0;have g7 := blk_frozen a0.out 1;have g8 := blk_frozen a0.out 2;have e8 : w5.cell? ⟨a4, 0, none⟩ = some (.int .i64 a1_0) := bcz a2 0 rfl;have e9 : w5.cell? ⟨a4, 1, none⟩ = some (.slice A1_1 l1_1.length c1_1) := bcz a2 1 rfl;have f3 : w5.cell? ⟨a4, 2, none⟩ = some (.slice A1_2 l1_2.length c1_2) := bcz a2 2 rfl;have g9 := blk_frozen a2.out 0;have h0 := blk_frozen a2.out 1;have h1 := blk_frozen a2.out 2;go_wp2_with (first | (go_at_call 28; (with_reducible refine (Pr01a.calls k _ _ l0_1 _ _ l1_1 true _ ?d5 ?d6 ?d7 ?d8 A7.out).mono ?_); (case d5 => exact cz b9.out HB.out); (case d6 => exact b7.out); (case d7 => exact cz d0.out HB.out); (case d8 => exact b8.out); rintro e w' ⟨rfl, ⟨nd, rfl⟩⟩; (try first | exact ⟨rfl, _, World.drewN_drewN _ _ _⟩ | exact ⟨rfl, _, Eq.trans (World.drewN_drewN _ _ _) (congrArg (World.drewN _) (Nat.add_assoc _ _ _))⟩)))
    repeat (go_quiet (first | (go_at_call 28; (with_reducible refine (Pr01a.calls k _ _ l0_1 _ _ l1_1 true _ ?d5 ?d6 ?d7 ?d8 A7.out).mono ?_); (case d5 => exact cz b9.out HB.out); (case d6 => exact b7.out); (case d7 => exact cz d0.out HB.out); (case d8 => exact b8.out); rintro e w' ⟨rfl, ⟨nd, rfl⟩⟩; (try first | exact ⟨rfl, _, World.drewN_drewN _ _ _⟩ | exact ⟨rfl, _, Eq.trans (World.drewN_drewN _ _ _) (congrArg (World.drewN _) (Nat.add_assoc _ _ _))⟩))); try go_wp2_with (first | (go_at_call 28; (with_reducible refine (Pr01a.calls k _ _ l0_1 _ _ l1_1 true _ ?d5 ?d6 ?d7 ?d8 A7.out).mono ?_); (case d5 => exact cz b9.out HB.out); (case d6 => exact b7.out); (case d7 => exact cz d0.out HB.out); (case d8 => exact b8.out); rintro e w' ⟨rfl, ⟨nd, rfl⟩⟩; (try first | exact ⟨rfl, _, World.drewN_drewN _ _ _⟩ | exact ⟨rfl, _, Eq.trans (World.drewN_drewN _ _ _) (congrArg (World.drewN _) (Nat.add_assoc _ _ _))⟩))))
    go_meet
    case rel => exact ⟨_, (((l0_2.length : Int) != (l1_2.length : Int))), (by first | rfl | (simp; done) | (simp [*]; done)), H', ⟨by first | omega | exact Nat.le_refl _⟩, ⟨bz a0.out⟩, ⟨bz a2.out⟩, ⟨wz HB.out⟩⟩
   ·replace c8 := Bool.eq_false_iff.mpr c8;subst c8;have H1 : (Pr26a.j0 k true a0_0 l0_1 l0_2 a1_0 l1_1 l1_2) = some r := by rw [if_neg (show ¬ (false = true) by decide)] at H; exact H
    clear H;have H := H1;clear H1;have H' := Aside0.mk H;clear H;have o3 := a5.out;have o8 := a6.out;have f4 : w5.cell? ⟨a1, 0, none⟩ = some (.int .i64 a0_0) := bcz a0 0 rfl;have f5 : w5.cell? ⟨a1, 1, none⟩ = some (.slice A0_1 l0_1.length c0_1) := bcz a0 1 rfl;have f6 : w5.cell? ⟨a1, 2, none⟩ = some (.slice A0_2 l0_2.length c0_2) := bcz a0 2 rfl;have h2 := blk_frozen a0.out 0;have h3 := blk_frozen a0.out 1;have h4 := blk_frozen a0.out 2;have f7 : w5.cell? ⟨a4, 0, none⟩ = some (.int .i64 a1_0) := bcz a2 0 rfl;have f8 : w5.cell? ⟨a4, 1, none⟩ = some (.slice A1_1 l1_1.length c1_1) := bcz a2 1 rfl;have f9 : w5.cell? ⟨a4, 2, none⟩ = some (.slice A1_2 l1_2.length c1_2) := bcz a2 2 rfl;have h5 := blk_frozen a2.out 0;have h6 := blk_frozen a2.out 1;have h7 := blk_frozen a2.out 2;go_wp2_with (first | (go_at_call 28; (with_reducible refine (Pr01a.calls k _ _ l0_1 _ _ l1_1 false _ ?d5 ?d6 ?d7 ?d8 A7.out).mono ?_); (case d5 => exact cz b9.out HB.out); (case d6 => exact b7.out); (case d7 => exact cz d0.out HB.out); (case d8 => exact b8.out); rintro e w' ⟨rfl, ⟨nd, rfl⟩⟩; (try first | exact ⟨rfl, _, World.drewN_drewN _ _ _⟩ | exact ⟨rfl, _, Eq.trans (World.drewN_drewN _ _ _) (congrArg (World.drewN _) (Nat.add_assoc _ _ _))⟩)))
    repeat (go_quiet (first | (go_at_call 28; (with_reducible refine (Pr01a.calls k _ _ l0_1 _ _ l1_1 false _ ?d5 ?d6 ?d7 ?d8 A7.out).mono ?_); (case d5 => exact cz b9.out HB.out); (case d6 => exact b7.out); (case d7 => exact cz d0.out HB.out); (case d8 => exact b8.out); rintro e w' ⟨rfl, ⟨nd, rfl⟩⟩; (try first | exact ⟨rfl, _, World.drewN_drewN _ _ _⟩ | exact ⟨rfl, _, Eq.trans (World.drewN_drewN _ _ _) (congrArg (World.drewN _) (Nat.add_assoc _ _ _))⟩))); try go_wp2_with (first | (go_at_call 28; (with_reducible refine (Pr01a.calls k _ _ l0_1 _ _ l1_1 false _ ?d5 ?d6 ?d7 ?d8 A7.out).mono ?_); (case d5 => exact cz b9.out HB.out); (case d6 => exact b7.out); (case d7 => exact cz d0.out HB.out); (case d8 => exact b8.out); rintro e w' ⟨rfl, ⟨nd, rfl⟩⟩; (try first | exact ⟨rfl, _, World.drewN_drewN _ _ _⟩ | exact ⟨rfl, _, Eq.trans (World.drewN_drewN _ _ _) (congrArg (World.drewN _) (Nat.add_assoc _ _ _))⟩))))
    go_meet
    case rel => exact ⟨_, (true), (by first | rfl | (simp; done) | (simp [*]; done)), H', ⟨by first | omega | exact Nat.le_refl _⟩, ⟨bz a0.out⟩, ⟨bz a2.out⟩, ⟨wz HB.out⟩⟩
  ·rw [if_neg c6] at H;have c6b0 : (a0_0 == a1_0) = false := beq_eq_false_iff_ne.mpr c6;have c6b1 : (a0_0 != a1_0) = true := bne_iff_ne.mpr c6
   (first | rw [c6b0] | (simp only [i64_w, i32_w]; rw [c6b0]) | skip)
   have H' := Aside0.mk H;clear H;have o4 := a5.out;have o9 := a6.out;have g0 : w5.cell? ⟨a1, 0, none⟩ = some (.int .i64 a0_0) := bcz a0 0 rfl;have g1 : w5.cell? ⟨a1, 1, none⟩ = some (.slice A0_1 l0_1.length c0_1) := bcz a0 1 rfl;have g2 : w5.cell? ⟨a1, 2, none⟩ = some (.slice A0_2 l0_2.length c0_2) := bcz a0 2 rfl;have h8 := blk_frozen a0.out 0;have h9 := blk_frozen a0.out 1;have i0 := blk_frozen a0.out 2;have g3 : w5.cell? ⟨a4, 0, none⟩ = some (.int .i64 a1_0) := bcz a2 0 rfl;have g4 : w5.cell? ⟨a4, 1, none⟩ = some (.slice A1_1 l1_1.length c1_1) := bcz a2 1 rfl;have g5 : w5.cell? ⟨a4, 2, none⟩ = some (.slice A1_2 l1_2.length c1_2) := bcz a2 2 rfl;have i1 := blk_frozen a2.out 0;have i2 := blk_frozen a2.out 1;have i3 := blk_frozen a2.out 2;go_wp2
   repeat (go_quiet (fail); try go_wp2)
   go_meet
   case rel => exact ⟨_, (true), (by first | rfl | (simp; done) | (simp [*]; done)), H', ⟨by first | omega | exact Nat.le_refl _⟩, ⟨bz a0.out⟩, ⟨bz a2.out⟩, ⟨wz HB.out⟩⟩
 case rest =>
  clear j9;(try clear c6);(try clear c6b0);(try clear c6b1);(try clear c8);(try clear e5);(try clear e6);(try clear e7);(try clear e8);(try clear e9);(try clear f3);(try clear f4);(try clear f5);(try clear f6);(try clear f7);(try clear f8);(try clear f9);(try clear g0);(try clear g1);(try clear g2);(try clear g3);(try clear g4);(try clear g5);(try clear g6);(try clear g7);(try clear g8);(try clear g9);(try clear h0);(try clear h1);(try clear h2);(try clear h3);(try clear h4);(try clear h5);(try clear h6);(try clear h7);(try clear h8);(try clear h9);(try clear i0);(try clear i1);(try clear i2);(try clear i3);obtain ⟨kq, e2, rfl, HA, k4, a0, a2, HB⟩ := hcut
  cases kq with
  | zero => exact absurd HA.out (by simp [Pr26a.j0])
  | succ kj2 =>
   have H := HA.out;clear HA;simp only [Pr26a.j0] at H;by_cases i5 : e2 = true
   ·subst i5;have H1 : (some false) = some r := by rw [if_pos rfl] at H; exact H
    clear H;have H := H1;clear H1;obtain rfl := Option.some.inj H;go_wp2
    repeat (go_quiet (fail); try go_wp2)
    go_ret
    exact ⟨by first | rfl | (simp [errW_none, errW_some] <;> rfl) | (simp [*, errW_none, errW_some] <;> rfl), wz HB.out⟩
   ·replace i5 := Bool.eq_false_iff.mpr i5;subst i5;have H1 : (Pr26a.l0 kj2 0 a0_0 l0_1 l0_2 a1_0 l1_1 l1_2) = some r := by rw [if_neg (show ¬ (false = true) by decide)] at H; exact H
    clear H;have H := H1;clear H1;have H' := Aside0.mk H;clear H;go_wp2
    repeat (go_quiet (fail); try go_wp2)
    go_loopg [5] kj2 (fun kq v5 w' => ∃ (a3 : Int), v5 = .int .i64 a3 ∧ Aside0 (Pr26a.l0 kq a3 a0_0 l0_1 l0_2 a1_0 l1_1 l1_2 = some r) ∧ Aside0 (kq ≤ kj2) ∧ Aside0 (w'.heap[a1]? = some (.cells #[.int .i64 a0_0, (.slice A0_1 l0_1.length c0_1), (.slice A0_2 l0_2.length c0_2)] 25 (0, 0))) ∧ Aside0 (w'.heap[a4]? = some (.cells #[.int .i64 a1_0, (.slice A1_1 l1_1.length c1_1), (.slice A1_2 l1_2.length c1_2)] 25 (0, 0))) ∧ Aside0 (Below w.heap.size w w'))
    case atStart => exact ⟨(0), (by first | rfl | (simp; done) | (simp [*]; done)), H', ⟨Nat.le_refl _⟩, ⟨bz a0.out⟩, ⟨bz a2.out⟩, ⟨wz HB.out⟩⟩
    case round =>
     clear H';(try clear c6);(try clear c6b0);(try clear c6b1);(try clear c8);(try clear i5);(try clear e5);(try clear e6);(try clear e7);(try clear e8);(try clear e9);(try clear f3);(try clear f4);(try clear f5);(try clear f6);(try clear f7);(try clear f8);(try clear f9);(try clear g0);(try clear g1);(try clear g2);(try clear g3);(try clear g4);(try clear g5);(try clear g6);(try clear g7);(try clear g8);(try clear g9);(try clear h0);(try clear h1);(try clear h2);(try clear h3);(try clear h4);(try clear h5);(try clear h6);(try clear h7);(try clear h8);(try clear h9);(try clear i0);(try clear i1);(try clear i2);(try clear i3);obtain ⟨a3, rfl, HA, k5, a0, a2, HB⟩ := hrel
     cases gk with
     | zero => exact absurd HA.out (by simp [Pr26a.l0])
     | succ k2 =>
      have H := HA.out;clear HA;simp only [Pr26a.l0] at H;by_cases e3 : a3 < (l0_2.length : Int)
      ·rw [if_pos e3] at H;have c19b0 : decide (a3 < (l0_2.length : Int)) = true := decide_eq_true e3;clear e3;by_cases j7 : 0 ≤ a3
       ·rw [if_pos j7] at H;have c20b0 : decide (0 ≤ a3) = true := decide_eq_true j7;clear j7;by_cases j8 : a3 < (l1_2.length : Int)
        ·rw [if_pos j8] at H;have c21b0 : decide (a3 < (l1_2.length : Int)) = true := decide_eq_true j8;clear j8;by_cases e4 : (!(((rd_T80 l0_2 a3).f0) == ((rd_T80 l1_2 a3).f0)) || (!(((rd_T80 l0_2 a3).f1) == ((rd_T80 l1_2 a3).f1)) || (!(((rd_T80 l0_2 a3).f2) == ((rd_T80 l1_2 a3).f2))))) = true
         ·rw [if_pos e4] at H;have c22b0 : (!(((rd_T80 l0_2 a3).f0) == ((rd_T80 l1_2 a3).f0)) || (!(((rd_T80 l0_2 a3).f1) == ((rd_T80 l1_2 a3).f1)) || (!(((rd_T80 l0_2 a3).f2) == ((rd_T80 l1_2 a3).f2))))) = true := e4;clear e4;obtain rfl := Option.some.inj H;have o5 := a5.out;have p0 := a6.out;have k6 : wr.cell? ⟨a1, 0, none⟩ = some (.int .i64 a0_0) := bcz a0 0 rfl;have k7 : wr.cell? ⟨a1, 1, none⟩ = some (.slice A0_1 l0_1.length c0_1) := bcz a0 1 rfl;have k8 : wr.cell? ⟨a1, 2, none⟩ = some (.slice A0_2 l0_2.length c0_2) := bcz a0 2 rfl;have m5 := blk_frozen a0.out 0;have m6 := blk_frozen a0.out 1;have m7 := blk_frozen a0.out 2;have d1 : 0 ≤ (a3 : Int) := of_decide_eq_true (by first | (with_reducible assumption) | assumption);have d3 : a3 < (l0_2.length : Int) := of_decide_eq_true (by first | (with_reducible assumption) | assumption);obtain ⟨k0, i7, a7, a8, a9⟩ := at_T80 j5.out a3 d1 d3
          cases i7;replace a7 := (HB.out.cell (World.block_lt_of_cell? w _ a7)).trans a7;replace a8 := (HB.out.cell (World.block_lt_of_cell? w _ a8)).trans a8;replace a9 := (HB.out.cell (World.block_lt_of_cell? w _ a9)).trans a9;replace d1 := eq_true d1;replace d3 := eq_true d3;have k9 : wr.cell? ⟨a4, 0, none⟩ = some (.int .i64 a1_0) := bcz a2 0 rfl;have l4 : wr.cell? ⟨a4, 1, none⟩ = some (.slice A1_1 l1_1.length c1_1) := bcz a2 1 rfl;have l5 : wr.cell? ⟨a4, 2, none⟩ = some (.slice A1_2 l1_2.length c1_2) := bcz a2 2 rfl;have m8 := blk_frozen a2.out 0;have m9 := blk_frozen a2.out 1;have n0 := blk_frozen a2.out 2;have d2 : 0 ≤ (a3 : Int) := of_decide_eq_true (by first | (with_reducible assumption) | assumption);have d4 : a3 < (l1_2.length : Int) := of_decide_eq_true (by first | (with_reducible assumption) | assumption);obtain ⟨k1, i8, b0, b1, b2⟩ := at_T80 j6.out a3 d2 d4
          cases i8;replace b0 := (HB.out.cell (World.block_lt_of_cell? w _ b0)).trans b0;replace b1 := (HB.out.cell (World.block_lt_of_cell? w _ b1)).trans b1;replace b2 := (HB.out.cell (World.block_lt_of_cell? w _ b2)).trans b2;replace d2 := eq_true d2;replace d4 := eq_true d4;go_wp2
          repeat (go_quiet (fail); try go_wp2)
          go_ret
          exact ⟨by first | rfl | (simp [errW_none, errW_some] <;> rfl) | (simp [*, errW_none, errW_some] <;> rfl), wz HB.out⟩
         ·rw [if_neg e4] at H;have c22b0 : (!(((rd_T80 l0_2 a3).f0) == ((rd_T80 l1_2 a3).f0)) || (!(((rd_T80 l0_2 a3).f1) == ((rd_T80 l1_2 a3).f1)) || (!(((rd_T80 l0_2 a3).f2) == ((rd_T80 l1_2 a3).f2))))) = false := by simpa using e4
          clear e4;have H' := Aside0.mk H;clear H;have o6 := a5.out;have p1 := a6.out;have l6 : wr.cell? ⟨a1, 0, none⟩ = some (.int .i64 a0_0) := bcz a0 0 rfl;have l7 : wr.cell? ⟨a1, 1, none⟩ = some (.slice A0_1 l0_1.length c0_1) := bcz a0 1 rfl;have l8 : wr.cell? ⟨a1, 2, none⟩ = some (.slice A0_2 l0_2.length c0_2) := bcz a0 2 rfl;have n1 := blk_frozen a0.out 0;have n2 := blk_frozen a0.out 1;have n3 := blk_frozen a0.out 2;have d1 : 0 ≤ (a3 : Int) := of_decide_eq_true (by first | (with_reducible assumption) | assumption);have d3 : a3 < (l0_2.length : Int) := of_decide_eq_true (by first | (with_reducible assumption) | assumption);obtain ⟨k0, i7, a7, a8, a9⟩ := at_T80 j5.out a3 d1 d3
          cases i7;replace a7 := (HB.out.cell (World.block_lt_of_cell? w _ a7)).trans a7;replace a8 := (HB.out.cell (World.block_lt_of_cell? w _ a8)).trans a8;replace a9 := (HB.out.cell (World.block_lt_of_cell? w _ a9)).trans a9;replace d1 := eq_true d1;replace d3 := eq_true d3;have l9 : wr.cell? ⟨a4, 0, none⟩ = some (.int .i64 a1_0) := bcz a2 0 rfl;have m0 : wr.cell? ⟨a4, 1, none⟩ = some (.slice A1_1 l1_1.length c1_1) := bcz a2 1 rfl;have m1 : wr.cell? ⟨a4, 2, none⟩ = some (.slice A1_2 l1_2.length c1_2) := bcz a2 2 rfl;have n4 := blk_frozen a2.out 0;have n5 := blk_frozen a2.out 1;have n6 := blk_frozen a2.out 2;have d2 : 0 ≤ (a3 : Int) := of_decide_eq_true (by first | (with_reducible assumption) | assumption);have d4 : a3 < (l1_2.length : Int) := of_decide_eq_true (by first | (with_reducible assumption) | assumption);obtain ⟨k1, i8, b0, b1, b2⟩ := at_T80 j6.out a3 d2 d4
          cases i8;replace b0 := (HB.out.cell (World.block_lt_of_cell? w _ b0)).trans b0;replace b1 := (HB.out.cell (World.block_lt_of_cell? w _ b1)).trans b1;replace b2 := (HB.out.cell (World.block_lt_of_cell? w _ b2)).trans b2;replace d2 := eq_true d2;replace d4 := eq_true d4;go_wp2
          repeat (go_quiet (fail); try go_wp2)
          go_roundg k2
          case measure => have := k4.out; have := k5.out; omega
          case rel => exact ⟨(wrap64 (a3 + 1)), (by first | rfl | (simp; done) | (simp [*]; done)), H', ⟨by have := k4.out; have := k5.out; omega⟩, ⟨bz a0.out⟩, ⟨bz a2.out⟩, ⟨wz HB.out⟩⟩
        ·rw [if_neg j8] at H;exact absurd H (by simp)
       ·rw [if_neg j7] at H;exact absurd H (by simp)
      ·rw [if_neg e3] at H;have c19b0 : decide (a3 < (l0_2.length : Int)) = false := decide_eq_false e3;clear e3;obtain rfl := Option.some.inj H;have o7 := a5.out;have p2 := a6.out;have m2 : wr.cell? ⟨a1, 0, none⟩ = some (.int .i64 a0_0) := bcz a0 0 rfl;have m3 : wr.cell? ⟨a1, 1, none⟩ = some (.slice A0_1 l0_1.length c0_1) := bcz a0 1 rfl;have m4 : wr.cell? ⟨a1, 2, none⟩ = some (.slice A0_2 l0_2.length c0_2) := bcz a0 2 rfl;have n7 := blk_frozen a0.out 0;have n8 := blk_frozen a0.out 1;have n9 := blk_frozen a0.out 2;go_wp2
       repeat (go_quiet (fail); try go_wp2)
       go_ret
       exact ⟨by first | rfl | (simp [errW_none, errW_some] <;> rfl) | (simp [*, errW_none, errW_some] <;> rfl), wz HB.out⟩
def Pr01b.l0 : Nat → List Int → List Int → Int → Option (Bool)
 | 0, _, _, _ => none
 | k + 1, x0, x1, x5 => if x5 < (x0.length : Int) then (if 0 ≤ x5 then (if x5 < (x1.length : Int) then (if (rd x0 x5) = (rd x1 x5) then (Pr01b.l0 k x0 x1 (wrap64 (x5 + 1))) else (some false)) else (none)) else (none)) else (some true)
def Pr01b.f (k : Nat) (l0 : List Int) (l1 : List Int) : Option (Bool) := if (l0.length : Int) = (l1.length : Int) then (Pr01b.l0 k l0 l1 0) else (some false)
theorem Pr01b.mono_l : ∀ k, (∀ y0 y1 y2, LeO (Pr01b.l0 k y0 y1 y2) (Pr01b.l0 (k + 1) y0 y1 y2))
 | 0 => fun _ _ _ r h => by simp [Pr01b.l0] at h
 | k + 1 => by
  have ih0 := Pr01b.mono_l k
  ·intro y0 y1 y2
   unfold Pr01b.l0
   repeat' first
   | (with_reducible exact ih0 _ _ _)
   | (with_reducible exact LeO.refl _)
   | (with_reducible exact LeO.none _)
   | (with_reducible refine LeO.ite ?_ ?_)
   | (with_reducible refine LeO.bind ?_ (fun _ => ?_))
   | exact ih0 _ _ _
   | exact LeO.none _
   | refine LeO.ite ?_ ?_
   | refine LeO.bind ?_ (fun _ => ?_)
theorem Pr01b.mono : ∀ a0 a1 k, LeO (Pr01b.f k a0 a1) (Pr01b.f (k + 1) a0 a1) := by
 intro a0 a1 k
 have ih0 := Pr01b.mono_l k
 unfold Pr01b.f
 repeat' first
   | (with_reducible exact ih0 _ _ _)
   | (with_reducible exact LeO.refl _)
   | (with_reducible exact LeO.none _)
   | (with_reducible refine LeO.ite ?_ ?_)
   | (with_reducible refine LeO.bind ?_ (fun _ => ?_))
   | exact ih0 _ _ _
   | exact LeO.none _
   | refine LeO.ite ?_ ?_
   | refine LeO.bind ?_ (fun _ => ?_)
set_option maxHeartbeats 8000000 in
set_option maxRecDepth 100000 in
theorem Pr01b.calls (k : Nat) (A0 : Option Addr) (c0 : Nat) (l0 : List Int) (A1 : Option Addr) (c1 : Nat) (l1 : List Int) (r : Bool) (w : World) (hr0 : Kd.C (Kd.int .i64) w A0 l0.length l0) (hc0 : l0.length ≤ c0) (hr1 : Kd.C (Kd.int .i64) w A1 l1.length l1) (hc1 : l1.length ≤ c1) (h : Pr01b.f k l0 l1 = some r) :
  Calls Try.prog 21 #[.slice A0 l0.length c0, .slice A1 l1.length c1] w fun e w' => e = .returned (.bool r) ∧ Drawn0 w w' := by
 have b2 := Aside0.mk hr0;have b4 := Aside0.mk hc0;clear hr0 hc0;have b3 := Aside0.mk hr1;have b5 := Aside0.mk hc1;clear hr1 hc1;have H : (if (l0.length : Int) = (l1.length : Int) then (Pr01b.l0 k l0 l1 0) else (some false)) = some r := h;clear h;by_cases c3 : (l0.length : Int) = (l1.length : Int)
 ·rw [if_pos c3] at H;have c3b0 : ((l0.length : Int) == (l1.length : Int)) = true := beq_iff_eq.mpr c3;have c3b1 : ((l0.length : Int) != (l1.length : Int)) = false := bne_eq_false_iff_eq.mpr c3;have c3b2 : (l0.length == l1.length) = true := by first | simpa using c3 | (simp at c3 ⊢; omega)
  clear c3;have H' := Aside0.mk H;clear H;go_enter Try.func21, Try.ntmps21
  go_wp2
  repeat (go_quiet (fail); try go_wp2)
  go_loopg [5] k (fun kq v5 w' => ∃ (a0 : Int), v5 = .int .i64 a0 ∧ Aside0 (Pr01b.l0 kq l0 l1 a0 = some r) ∧ Aside0 (kq ≤ k) ∧ Drawn0 w w')
  case atStart => exact ⟨(0), (by first | rfl | (simp; done) | (simp [*]; done)), H', ⟨Nat.le_refl _⟩, by repeat (first | exact Drawn0.refl _ | apply Drawn0.step)⟩
  case round =>
   clear H';(try clear c1);(try clear c3);(try clear c3b0);(try clear c3b1);(try clear c3b2);obtain ⟨a0, rfl, HA, b1, ⟨m1, rfl⟩⟩ := hrel
   cases gk with
   | zero => exact absurd HA.out (by simp [Pr01b.l0])
   | succ k1 =>
    have H := HA.out;clear HA;simp only [Pr01b.l0] at H;by_cases c4 : a0 < (l0.length : Int)
    ·rw [if_pos c4] at H;have c4b0 : decide (a0 < (l0.length : Int)) = true := decide_eq_true c4;clear c4;by_cases c5 : 0 ≤ a0
     ·rw [if_pos c5] at H;have c5b0 : decide (0 ≤ a0) = true := decide_eq_true c5;clear c5;by_cases c6 : a0 < (l1.length : Int)
      ·rw [if_pos c6] at H;have c6b0 : decide (a0 < (l1.length : Int)) = true := decide_eq_true c6;clear c6;by_cases c7 : (rd l0 a0) = (rd l1 a0)
       ·rw [if_pos c7] at H;have c7b0 : ((rd l0 a0) == (rd l1 a0)) = true := beq_iff_eq.mpr c7;have c7b1 : ((rd l0 a0) != (rd l1 a0)) = false := bne_eq_false_iff_eq.mpr c7;clear c7;have H' := Aside0.mk H;clear H;have a1 : 0 ≤ (a0 : Int) := of_decide_eq_true (by first | (with_reducible assumption) | assumption);have a3 : a0 < (l0.length : Int) := of_decide_eq_true (by first | (with_reducible assumption) | assumption);obtain ⟨a9, a5, a7⟩ := Kd.at_int b2.out a0 a1 a3
        cases a5;replace a1 := eq_true a1;replace a3 := eq_true a3;have a2 : 0 ≤ (a0 : Int) := of_decide_eq_true (by first | (with_reducible assumption) | assumption);have a4 : a0 < (l1.length : Int) := of_decide_eq_true (by first | (with_reducible assumption) | assumption);obtain ⟨b0, a6, a8⟩ := Kd.at_int b3.out a0 a2 a4
        cases a6;replace a2 := eq_true a2;replace a4 := eq_true a4;go_wp2
        repeat (go_quiet (fail); try go_wp2)
        go_roundg k1
        case measure => have := b1.out; omega
        case rel => exact ⟨(wrap64 (a0 + 1)), (by first | rfl | (simp; done) | (simp [*]; done)), H', ⟨by have := b1.out; omega⟩, by repeat (first | exact Drawn0.refl _ | apply Drawn0.step)⟩
       ·rw [if_neg c7] at H;have c7b0 : ((rd l0 a0) == (rd l1 a0)) = false := beq_eq_false_iff_ne.mpr c7;have c7b1 : ((rd l0 a0) != (rd l1 a0)) = true := bne_iff_ne.mpr c7;obtain rfl := Option.some.inj H;have a1 : 0 ≤ (a0 : Int) := of_decide_eq_true (by first | (with_reducible assumption) | assumption);have a3 : a0 < (l0.length : Int) := of_decide_eq_true (by first | (with_reducible assumption) | assumption);obtain ⟨a9, a5, a7⟩ := Kd.at_int b2.out a0 a1 a3
        cases a5;replace a1 := eq_true a1;replace a3 := eq_true a3;have a2 : 0 ≤ (a0 : Int) := of_decide_eq_true (by first | (with_reducible assumption) | assumption);have a4 : a0 < (l1.length : Int) := of_decide_eq_true (by first | (with_reducible assumption) | assumption);obtain ⟨b0, a6, a8⟩ := Kd.at_int b3.out a0 a2 a4
        cases a6;replace a2 := eq_true a2;replace a4 := eq_true a4;go_wp2
        repeat (go_quiet (fail); try go_wp2)
        go_ret
        exact ⟨by first | rfl | (simp; done) | (simp [*]; done), by repeat (first | exact Drawn0.refl _ | apply Drawn0.step)⟩
      ·rw [if_neg c6] at H;exact absurd H (by simp)
     ·rw [if_neg c5] at H;exact absurd H (by simp)
    ·rw [if_neg c4] at H;have c4b0 : decide (a0 < (l0.length : Int)) = false := decide_eq_false c4;clear c4;obtain rfl := Option.some.inj H;go_wp2
     repeat (go_quiet (fail); try go_wp2)
     go_ret
     exact ⟨by first | rfl | (simp; done) | (simp [*]; done), by repeat (first | exact Drawn0.refl _ | apply Drawn0.step)⟩
 ·rw [if_neg c3] at H;have c3b0 : ((l0.length : Int) == (l1.length : Int)) = false := beq_eq_false_iff_ne.mpr c3;have c3b1 : ((l0.length : Int) != (l1.length : Int)) = true := bne_iff_ne.mpr c3;have c3b2 : (l0.length == l1.length) = false := by first | simpa using c3 | (simp at c3 ⊢; omega)
  obtain rfl := Option.some.inj H;go_enter Try.func21, Try.ntmps21
  go_wp2
  repeat (go_quiet (fail); try go_wp2)
  go_ret
  exact ⟨by first | rfl | (simp; done) | (simp [*]; done), by repeat (first | exact Drawn0.refl _ | apply Drawn0.step)⟩
mutual
def Pxg.j0 : Nat → List Int → Bool → Int → List ByteArray → List (S80) → Option (Int × List ByteArray × (List (S80)) × Int)
 | 0, _, _, _, _, _ => none
 | k + 1, x1, x18, x115000, x115001, x115002 => if x18 = true then (some (0, ([] : List ByteArray), ([] : List (S80)), 1)) else ((Pxd.f x1).bind fun t117 => ((Pxc.f t117).bind fun t120 => (Pxg.l0 k t117 x115002 (x115002.length : Int) 0 t120 x115001 ([] : List (S80)))))
def Pxg.l0 : Nat → List Int → List (S80) → Int → Int → Int → List ByteArray → List (S80) → Option (Int × List ByteArray × (List (S80)) × Int)
 | 0, _, _, _, _, _, _, _ => none
 | k + 1, x1, x28, x29, x30, x122000, x122001, x122002 => if x30 < x29 then (if 0 ≤ x30 then (if x30 < (x28.length : Int) then (if 0 ≤ ((rd_T80 x28 x30).f0) then (if ((rd_T80 x28 x30).f0) < (x1.length : Int) then (if 0 ≤ ((rd_T80 x28 x30).f2) then (if ((rd_T80 x28 x30).f2) < (x1.length : Int) then (if x122002.length < 5864062014805 then (Pxg.l0 k x1 x28 x29 (wrap64 (x30 + 1)) x122000 x122001 (x122002 ++ [(⟨rd x1 ((rd_T80 x28 x30).f0), (rd_T80 x28 x30).f1, rd x1 ((rd_T80 x28 x30).f2)⟩ : S80)])) else (none)) else (none)) else (none)) else (none)) else (none)) else (none)) else (none)) else ((Pxf.f x122000 x122001 x122002).bind fun bt129 => (some (bt129.1, bt129.2.1, bt129.2.2.1, bt129.2.2.2)))
end
def Pxg.f (k : Nat) (a0_0 : Int) (l0_1 : List ByteArray) (l0_2 : List (S80)) (l1 : List Int) : Option (Int × List ByteArray × (List (S80)) × Int) := (Pxe.f a0_0 l0_1 l0_2).bind fun t116 => (if t116 = 0 then (Pxg.j0 k l1 ((l1.length : Int) != a0_0) a0_0 l0_1 l0_2) else (Pxg.j0 k l1 true a0_0 l0_1 l0_2))
theorem Pxg.mono_l : ∀ k, (∀ y0 y1 y2 y3 y4, LeO (Pxg.j0 k y0 y1 y2 y3 y4) (Pxg.j0 (k + 1) y0 y1 y2 y3 y4)) ∧ (∀ y0 y1 y2 y3 y4 y5 y6, LeO (Pxg.l0 k y0 y1 y2 y3 y4 y5 y6) (Pxg.l0 (k + 1) y0 y1 y2 y3 y4 y5 y6))
 | 0 => ⟨fun _ _ _ _ _ r h => by simp [Pxg.j0] at h, fun _ _ _ _ _ _ _ r h => by simp [Pxg.l0] at h⟩
 | k + 1 => by
  obtain ⟨ih0, ih1⟩ := Pxg.mono_l k
  refine ⟨?_, ?_⟩
  ·intro y0 y1 y2 y3 y4
   unfold Pxg.j0
   repeat' first
   | (with_reducible exact ih0 _ _ _ _ _)
   | (with_reducible exact ih1 _ _ _ _ _ _ _)
   | (with_reducible exact LeO.refl _)
   | (with_reducible exact LeO.none _)
   | (with_reducible refine LeO.ite ?_ ?_)
   | (with_reducible refine LeO.bind ?_ (fun _ => ?_))
   | exact ih0 _ _ _ _ _
   | exact ih1 _ _ _ _ _ _ _
   | exact LeO.none _
   | refine LeO.ite ?_ ?_
   | refine LeO.bind ?_ (fun _ => ?_)
  ·intro y0 y1 y2 y3 y4 y5 y6
   unfold Pxg.l0
   repeat' first
   | (with_reducible exact ih0 _ _ _ _ _)
   | (with_reducible exact ih1 _ _ _ _ _ _ _)
   | (with_reducible exact LeO.refl _)
   | (with_reducible exact LeO.none _)
   | (with_reducible refine LeO.ite ?_ ?_)
   | (with_reducible refine LeO.bind ?_ (fun _ => ?_))
   | exact ih0 _ _ _ _ _
   | exact ih1 _ _ _ _ _ _ _
   | exact LeO.none _
   | refine LeO.ite ?_ ?_
   | refine LeO.bind ?_ (fun _ => ?_)
theorem Pxg.mono : ∀ a0 a1 a2 a3 k, LeO (Pxg.f k a0 a1 a2 a3) (Pxg.f (k + 1) a0 a1 a2 a3) := by
 intro a0 a1 a2 a3 k
 obtain ⟨ih0, ih1⟩ := Pxg.mono_l k
 unfold Pxg.f
 repeat' first
   | (with_reducible exact ih0 _ _ _ _ _)
   | (with_reducible exact ih1 _ _ _ _ _ _ _)
   | (with_reducible exact LeO.refl _)
   | (with_reducible exact LeO.none _)
   | (with_reducible refine LeO.ite ?_ ?_)
   | (with_reducible refine LeO.bind ?_ (fun _ => ?_))
   | exact ih0 _ _ _ _ _
   | exact ih1 _ _ _ _ _ _ _
   | exact LeO.none _
   | refine LeO.ite ?_ ?_
   | refine LeO.bind ?_ (fun _ => ?_)
def Pxg.T8 : Bool × List (List Nat × List Nat) := (true, [([], []), ([0], [0]), ([], []), ([], []), ([3], [3]), ([2, 4], [2, 4]), ([5], [5]), ([], []), ([7], [7]), ([], []), ([], []), ([10], [10]), ([9, 11], [9, 11]), ([12], [12]), ([6, 8, 13], [6, 8, 13]), ([14], [14]), ([1, 15], [1, 15]), ([0, 1, 2, 3, 4, 5, 6, 7, 8, 9, 10, 11, 12, 13, 14, 15, 16], []), ([17, 16, 16, 0, 1, 2, 3, 4, 5, 6, 7, 8, 9, 10, 11, 12, 13, 14, 15, 16], [16, 17])])
def Pxg.B8 : List Nat := [0, 1, 0, 0, 8, 28, 60, 0, 128, 0, 0, 1024, 3584, 7680, 16380, 32764, 65535, 131071, 262143]
theorem Pxg.tab8 : rtab .any (opsOf Try.f47 8) = Pxg.T8 := by kernel_rfl
theorem Pxg.bits8 : waitsOk Pxg.T8.2 Pxg.B8 = true := by kernel_rfl
set_option maxHeartbeats 8000000 in
set_option maxRecDepth 100000 in
theorem Pxg.calls (k : Nat) (a0_0 : Int) (A0_1 : Option Addr) (c0_1 : Nat) (l0_1 : List ByteArray) (A0_2 : Option Addr) (c0_2 : Nat) (l0_2 : List (S80)) (A1 : Option Addr) (c1 : Nat) (l1 : List Int) (r1 : Int) (r2 : List ByteArray) (r3 : List (S80)) (r4 : Int) (w : World) (hr0_1 : Kd.C Kd.string w A0_1 l0_1.length l0_1) (hc0_1 : l0_1.length ≤ c0_1) (hr0_2 : Kd.C k80 w A0_2 l0_2.length l0_2) (hc0_2 : l0_2.length ≤ c0_2) (hr1 : Kd.C (Kd.int .i64) w A1 l1.length l1) (hc1 : l1.length ≤ c1) (h : Pxg.f k a0_0 l0_1 l0_2 l1 = some (r1, r2, r3, r4)) :
  Calls Try.prog 47 #[.agg #[.int .i64 a0_0, .slice A0_1 l0_1.length c0_1, .slice A0_2 l0_2.length c0_2], .slice A1 l1.length c1] w fun e w' => ∃ v1_ v2_ : Value, e = .returned (.tuple #[.agg #[.int .i64 r1, v1_, v2_], .int .i64 r4]) ∧ Kd.R Kd.string 9 w' w.heap.size (fun _ => True) v1_ r2 ∧ Kd.R k80 80 w' w.heap.size (fun _ => True) v2_ r3 ∧ Below w.heap.size w w' := by
 have D1 := Try.underlying25;have D2 := Try.underlying80;have i5 := Aside0.mk hr0_1;have i4 := Aside0.mk hc0_1;clear hr0_1 hc0_1;have i7 := Aside0.mk hr0_2;have l9 := Aside0.mk hc0_2;clear hr0_2 hc0_2;have y3 := Aside0.mk hr1;have y2 := Aside0.mk hc1;clear hr1 hc1;have HB := Aside0.mk (Below.refl w.heap.size w);have H : ((Pxe.f a0_0 l0_1 l0_2).bind fun e2 => (if e2 = 0 then (Pxg.j0 k l1 ((l1.length : Int) != a0_0) a0_0 l0_1 l0_2) else (Pxg.j0 k l1 true a0_0 l0_1 l0_2))) = some (r1, r2, r3, r4) := h;clear h;have o8 := Aside0.mk H;clear H;go_enter Try.func47, Try.ntmps47
 go_upto_region 1 with (first | ((with_reducible refine gate_dst (N := 2) rfl ?_); (try (refine gate_guard (by rfl) ?_; dsimp only)); refine box_event ?hg (N := 2) ?hd (cs := #[.int .i64 a0_0, .slice A0_1 l0_1.length c0_1, .slice A0_2 l0_2.length c0_2]) (t := 25) ?hr ?_; (case hd => rfl); (case hg => rfl); (case hr => first | (go_simp; done) | (go_simp; rfl)); intro a6 hg w4 hbox hb; have b1 := Aside0.mk (below_step (wz HB.out) hb); have b2 := Aside0.mk (hbox); have b3 := Aside0.mk ((by rw [hg]; exact (below_size (wz HB.out)) : w.heap.size ≤ a6)); have b5 := Aside0.mk ((by rw [hg]; exact (below_size (wz HB.out)) : w.heap.size ≤ a6)); clear HB; have HB := b1; have a0 := b2; have z4 := b3; have z1 := b5; clear b1 b2 b3 b5 hb hbox hg) | ((with_reducible refine gate_dst (N := 4) rfl ?_); (try (refine gate_guard (by rfl) ?_; dsimp only)); refine box_event ?hg (N := 4) ?hd (cs := #[.int .i64 0, .slice none 0 0, .slice none 0 0]) (t := 25) ?hr ?_; (case hd => rfl); (case hg => rfl); (case hr => first | (go_simp; done) | (go_simp; rfl)); intro a8 hg w5 hbox hb; have b1 := Aside0.mk (blk_below (bz a0.out) hb); have b2 := Aside0.mk (below_step (wz HB.out) hb); have b3 := Aside0.mk (hbox); have b5 := Aside0.mk ((by rw [hg]; exact (below_size (wz HB.out)) : w.heap.size ≤ a8)); have d0 := Aside0.mk ((by rw [hg]; exact (below_size (wz HB.out)) : w.heap.size ≤ a8)); have d4 := Aside0.mk ((by rw [hg]; exact Nat.ne_of_lt (blk_lt (g := a6) (o := .cells #[.int .i64 a0_0, .slice A0_1 l0_1.length c0_1, .slice A0_2 l0_2.length c0_2] 25 (0, 0)) (bz a0.out)) : a6 ≠ a8)); have d5 := Aside0.mk ((by rw [hg]; exact Nat.ne_of_gt (blk_lt (g := a6) (o := .cells #[.int .i64 a0_0, .slice A0_1 l0_1.length c0_1, .slice A0_2 l0_2.length c0_2] 25 (0, 0)) (bz a0.out)) : a8 ≠ a6)); clear a0 HB; have a0 := b1; have HB := b2; have a2 := b3; have z5 := b5; have z2 := d0; have d7 := d4; have d8 := d5; clear b1 b2 b3 b5 d0 d4 d5 hb hbox hg))
 (try simp only [Act.put, qz1, qz2, qz3])
 go_cut [18] (fun y4 wc => ∃ (kq : Nat) (g5 : Bool), y4 = .bool g5 ∧ Aside0 (Pxg.j0 kq l1 g5 a0_0 l0_1 l0_2 = some (r1, r2, r3, r4)) ∧ Aside0 (kq ≤ k) ∧ Aside0 (wc.heap[a6]? = some (.cells #[.int .i64 a0_0, (.slice A0_1 l0_1.length c0_1), (.slice A0_2 l0_2.length c0_2)] 25 (0, 0))) ∧ Aside0 (wc.heap[a8]? = some (.cells #[.int .i64 0, (.slice none 0 0), (.slice none 0 0)] 25 (0, 0))) ∧ Aside0 (Below w.heap.size w wc))
 case first =>
  have H := o8.out;clear o8;replace H := Option.bind_eq_some_iff.mp H;obtain ⟨e2, q3, H⟩ := H;replace H : (if e2 = 0 then (Pxg.j0 k l1 ((l1.length : Int) != a0_0) a0_0 l0_1 l0_2) else (Pxg.j0 k l1 true a0_0 l0_1 l0_2)) = some (r1, r2, r3, r4) := H;have A6 := Aside0.mk q3;clear q3;by_cases c7 : e2 = 0
  ·rw [if_pos c7] at H;have c7b0 : (e2 == 0) = true := beq_iff_eq.mpr c7;have c7b1 : (e2 != 0) = false := bne_eq_false_iff_eq.mpr c7;clear c7
   (first | rw [c7b0] | (simp only [i64_w, i32_w]; rw [c7b0]) | skip)
   have H' := Aside0.mk H;clear H;have C5 := d7.out;have C6 := d8.out;have j7 : w5.cell? ⟨a6, 0, none⟩ = some (.int .i64 a0_0) := bcz a0 0 rfl;have j8 : w5.cell? ⟨a6, 1, none⟩ = some (.slice A0_1 l0_1.length c0_1) := bcz a0 1 rfl;have j9 : w5.cell? ⟨a6, 2, none⟩ = some (.slice A0_2 l0_2.length c0_2) := bcz a0 2 rfl;have k0 := blk_frozen a0.out 0;have k1 := blk_frozen a0.out 1;have k3 := blk_frozen a0.out 2;go_wp2_with (first | ((with_reducible refine gate_callee (f := 72) rfl ?_); refine goesL_ (some 10) rfl rfl Try.func72 (by kernel_rfl) rfl #[.agg #[.int .i64 a0_0, .slice A0_1 l0_1.length c0_1, .slice A0_2 l0_2.length c0_2]] rfl (by (try simp only [List.map_toArray, List.map_cons, List.map_nil]); first | done | rfl | (simp only [List.length_drop, List.length_take]; rfl)) ?_; (with_reducible refine (Pxe.calls a0_0 _ _ l0_1 _ _ l0_2 e2 _ ?e9 ?f3 ?n0 ?n1 A6.out).mono ?_); (case e9 => exact cz i5.out HB.out); (case f3 => exact i4.out); (case n0 => exact cz i7.out HB.out); (case n1 => exact l9.out); rintro e p7 ⟨rfl, hb⟩; refine ⟨_, rfl, ?_⟩; have b1 := Aside0.mk (blk_below (bz a0.out) hb); have b2 := Aside0.mk (blk_below (bz a2.out) hb); have b3 := Aside0.mk (below_step (wz HB.out) hb); clear a0; clear a2; clear HB; have a0 := b1; have a2 := b2; have HB := b3; clear b1 b2 b3; (try clear hb); (try clear j6); (try clear hk); (try clear hi); have g9 : p7.cell? ⟨a6, 0, none⟩ = some (.int .i64 a0_0) := bcz a0 0 rfl; have h0 : p7.cell? ⟨a6, 1, none⟩ = some (.slice A0_1 l0_1.length c0_1) := bcz a0 1 rfl; have h1 : p7.cell? ⟨a6, 2, none⟩ = some (.slice A0_2 l0_2.length c0_2) := bcz a0 2 rfl; have h5 := blk_frozen a0.out 0; have h6 := blk_frozen a0.out 1; have h7 := blk_frozen a0.out 2))
   go_meet
   case rel => exact ⟨_, (((l1.length : Int) != a0_0)), (by first | rfl | (simp; done) | (simp [*]; done)), H', ⟨by first | omega | exact Nat.le_refl _⟩, ⟨bz a0.out⟩, ⟨bz a2.out⟩, ⟨wz HB.out⟩⟩
  ·rw [if_neg c7] at H;have c7b0 : (e2 == 0) = false := beq_eq_false_iff_ne.mpr c7;have c7b1 : (e2 != 0) = true := bne_iff_ne.mpr c7
   (first | rw [c7b0] | (simp only [i64_w, i32_w]; rw [c7b0]) | skip)
   have H' := Aside0.mk H;clear H;have A2 := d7.out;have B3 := d8.out;have h2 : w5.cell? ⟨a6, 0, none⟩ = some (.int .i64 a0_0) := bcz a0 0 rfl;have h3 : w5.cell? ⟨a6, 1, none⟩ = some (.slice A0_1 l0_1.length c0_1) := bcz a0 1 rfl;have h4 : w5.cell? ⟨a6, 2, none⟩ = some (.slice A0_2 l0_2.length c0_2) := bcz a0 2 rfl;have h8 := blk_frozen a0.out 0;have h9 := blk_frozen a0.out 1;have i0 := blk_frozen a0.out 2;go_wp2_with (first | ((with_reducible refine gate_callee (f := 72) rfl ?_); refine goesL_ (some 10) rfl rfl Try.func72 (by kernel_rfl) rfl #[.agg #[.int .i64 a0_0, .slice A0_1 l0_1.length c0_1, .slice A0_2 l0_2.length c0_2]] rfl (by (try simp only [List.map_toArray, List.map_cons, List.map_nil]); first | done | rfl | (simp only [List.length_drop, List.length_take]; rfl)) ?_; (with_reducible refine (Pxe.calls a0_0 _ _ l0_1 _ _ l0_2 e2 _ ?e9 ?f3 ?n0 ?n1 A6.out).mono ?_); (case e9 => exact cz i5.out HB.out); (case f3 => exact i4.out); (case n0 => exact cz i7.out HB.out); (case n1 => exact l9.out); rintro e D7 ⟨rfl, hb⟩; refine ⟨_, rfl, ?_⟩; have b1 := Aside0.mk (blk_below (bz a0.out) hb); have b2 := Aside0.mk (blk_below (bz a2.out) hb); have b3 := Aside0.mk (below_step (wz HB.out) hb); clear a0; clear a2; clear HB; have a0 := b1; have a2 := b2; have HB := b3; clear b1 b2 b3; (try clear hb); (try clear j6); (try clear hk); (try clear hi)))
   go_meet
   case rel => exact ⟨_, (true), (by first | rfl | (simp; done) | (simp [*]; done)), H', ⟨by first | omega | exact Nat.le_refl _⟩, ⟨bz a0.out⟩, ⟨bz a2.out⟩, ⟨wz HB.out⟩⟩
 case rest =>
  clear o8;(try clear c1);(try clear c7);(try clear c7b0);(try clear c7b1);(try clear g9);(try clear h0);(try clear h1);(try clear h2);(try clear h3);(try clear h4);(try clear j7);(try clear j8);(try clear j9);(try clear h5);(try clear h6);(try clear h7);(try clear h8);(try clear h9);(try clear i0);(try clear k0);(try clear k1);(try clear k3);obtain ⟨kq, g5, rfl, HA, q4, a0, a2, HB⟩ := hcut
  cases kq with
  | zero => exact absurd HA.out (by simp [Pxg.j0])
  | succ kj2 =>
   have H := HA.out;clear HA;simp only [Pxg.j0] at H;by_cases j5 : g5 = true
   ·subst j5;have H1 : (some (0, ([] : List ByteArray), ([] : List (S80)), 1)) = some (r1, r2, r3, r4) := by rw [if_pos rfl] at H; exact H
    clear H;have H := H1;clear H1;simp only [Option.some.injEq, Prod.mk.injEq] at H;obtain ⟨rfl, rfl, rfl, rfl⟩ := H;have A3 := d8.out;have B4 := d7.out;have n2 : wc.cell? ⟨a8, 0, none⟩ = some (.int .i64 0) := bcz a2 0 rfl;have n3 : wc.cell? ⟨a8, 1, none⟩ = some (.slice none 0 0) := bcz a2 1 rfl;have n4 : wc.cell? ⟨a8, 2, none⟩ = some (.slice none 0 0) := bcz a2 2 rfl;have n8 := blk_frozen a2.out 0;have n9 := blk_frozen a2.out 1;have o0 := blk_frozen a2.out 2;go_wp2
    refine bodyPost_ret (results_ct rfl _ _ a8 25 #[.int .i64 0, .slice none 0 0, .slice none 0 0] (0, 0) _ rfl (by (with_reducible repeat (first | refine blk_drewN ?_ _ | refine blk_drew ?_ | refine blk_alloc ?_ _)); refine blk_put (cs := #[.int .i64 0, .slice none 0 0, .slice none 0 0]) ?_ 2 _ rfl; (with_reducible repeat (first | refine blk_drewN ?_ _ | refine blk_drew ?_ | refine blk_alloc ?_ _)); refine blk_put (cs := #[.int .i64 0, .slice none 0 0, .slice none 0 0]) ?_ 1 _ rfl; (with_reducible repeat (first | refine blk_drewN ?_ _ | refine blk_drew ?_ | refine blk_alloc ?_ _)); refine blk_put (cs := #[.int .i64 0, .slice none 0 0, .slice none 0 0]) ?_ 0 _ rfl; (with_reducible repeat (first | refine blk_drewN ?_ _ | refine blk_drew ?_ | refine blk_alloc ?_ _)); exact a2.out) Try.underlying25 rfl (by kernel_rfl)) rfl ?_;exact ⟨_, _, by first | rfl | (simp [errW_none, errW_some] <;> rfl) | (simp [*, errW_none, errW_some] <;> rfl), by first | exact Kd.R_nil _ _ _ _ _ | exact Kd.N_nil _ _ _ _ _ | exact Kd.V_nil _ _ _ _ _ | exact Kd.Q_nil _ _ _ _ _ | exact Kd.S_nil _ _ _ _ _, by first | exact Kd.R_nil _ _ _ _ _ | exact Kd.N_nil _ _ _ _ _ | exact Kd.V_nil _ _ _ _ _ | exact Kd.Q_nil _ _ _ _ _ | exact Kd.S_nil _ _ _ _ _, wz HB.out⟩
   ·replace j5 := Bool.eq_false_iff.mpr j5;subst j5;have H1 : ((Pxd.f l1).bind fun b0 => ((Pxc.f b0).bind fun b9 => (Pxg.l0 kj2 b0 l0_2 (l0_2.length : Int) 0 b9 l0_1 ([] : List (S80))))) = some (r1, r2, r3, r4) := by rw [if_neg (show ¬ (false = true) by decide)] at H; exact H
    clear H;have H := H1;clear H1;replace H := Option.bind_eq_some_iff.mp H;obtain ⟨b0, o4, H⟩ := H;replace H : ((Pxc.f b0).bind fun b9 => (Pxg.l0 kj2 b0 l0_2 (l0_2.length : Int) 0 b9 l0_1 ([] : List (S80)))) = some (r1, r2, r3, r4) := H;have y0 := Aside0.mk o4;clear o4;replace H := Option.bind_eq_some_iff.mp H;obtain ⟨b9, o5, H⟩ := H;replace H : (Pxg.l0 kj2 b0 l0_2 (l0_2.length : Int) 0 b9 l0_1 ([] : List (S80))) = some (r1, r2, r3, r4) := H;have q2 := Aside0.mk o5;clear o5;have H' := Aside0.mk H;clear H;try go_wp2_with (first | ((with_reducible refine gate_callee (f := 69) rfl ?_); refine goesL_ (some 21) rfl rfl Try.func69 (by kernel_rfl) rfl #[.slice A1 l1.length c1] rfl (by (try simp only [List.map_toArray, List.map_cons, List.map_nil]); first | done | rfl | (simp only [List.length_drop, List.length_take]; rfl)) ?_; (with_reducible refine (Pxd.calls _ _ l1 b0 _ ?e9 ?f3 y0.out).mono ?_); (case e9 => exact cz y3.out HB.out); (case f3 => exact y2.out); rintro e y6 ⟨D3, rfl, k4, hb⟩; refine ⟨_, rfl, ?_⟩; have b1 := Aside0.mk (Kd.R_lower k4 (below_size (wz HB.out))); have b2 := Aside0.mk (blk_below (bz a0.out) hb); have b3 := Aside0.mk (blk_below (bz a2.out) hb); have b5 := Aside0.mk (below_step (wz HB.out) hb); clear a0; clear a2; clear HB; have b4 := b1; have a0 := b2; have a2 := b3; have HB := b5; clear b1 b2 b3 b5; (try clear hb); (try clear j6); (try clear hk); (try clear hi); (try clear k4); obtain ⟨f4, f5, t6⟩ := Kd.R_slice b4.out; subst t6))
    have b1 := Aside0.mk (Kd.R_drew b4.out);have b2 := Aside0.mk (blk_drew a0.out);have b3 := Aside0.mk (blk_drew a2.out);have b5 := Aside0.mk (below_drew1 HB.out);clear b4 a0 a2 HB;have b4 := b1;have a0 := b2;have a2 := b3;have HB := b5;clear b1 b2 b3 b5;refine start_ (n := 7) (S := fun w' => w'.cell? ⟨a6, 0, none⟩ = some (.int .i64 a0_0) ∧ w'.cell? ⟨a6, 1, none⟩ = some (.slice A0_1 l0_1.length c0_1) ∧ w'.cell? ⟨a6, 2, none⟩ = some (.slice A0_2 l0_2.length c0_2)) (ds := []) (bqz 7 0) (by kernel_rfl) rfl rfl ⟨bcz a0 0 rfl, bcz a0 1 rfl, bcz a0 2 rfl⟩ (fun hHeld => ?_);generalize y6.drew = w22 at b4 a0 a2 HB hHeld ⊢;refine pqz 0 (some 22) (bqz 7 1) rfl rfl (by kernel_rfl) ?_ ?_ (fun _ _ _ h => h) (by rfl) ?_ ?_ ?_;rotate_left 2;intro w';go_simp;(with_reducible rfl);simp only [Act.put, qz1, qz2, qz3, i64_w, i32_w];rfl
    refine pqz 2 (some 24) (bqz 7 5) rfl rfl (by kernel_rfl) ?_ ?_ (fun _ _ _ h => h) (by rfl) ?_ ?_ ?_;rotate_left 2;intro w';go_simp;(with_reducible rfl);simp only [Act.put, qz1, qz2, qz3, i64_w, i32_w];rfl
    refine tqz 3 (some 25) (bqz 7 13) rfl rfl (by kernel_rfl) ?_ ?_ (fun _ _ _ h => h) (by rfl) ?_ hHeld ?_ ?_;rotate_left 2;rintro w' ⟨s0, s1, s2⟩;go_simp;(with_reducible rfl);simp only [Act.put, qz1, qz2, qz3, i64_w, i32_w];rfl
    refine join_ (σ := Nat) 1 (bqz 7 63) (fun s_ => [(23, .int .i64 b9), (6, .pointer (some ⟨s_, 0, none⟩)), (26, .agg #[.int .i64 b9, .slice A0_1 l0_1.length c0_1, .slice none 0 0])]) (fun s_ w' => (w'.cell? ⟨a6, 0, none⟩ = some (.int .i64 a0_0) ∧ w'.cell? ⟨a6, 1, none⟩ = some (.slice A0_1 l0_1.length c0_1) ∧ w'.cell? ⟨a6, 2, none⟩ = some (.slice A0_2 l0_2.length c0_2)) ∧ (Kd.R (Kd.int .i64) 3 w' w.heap.size (fun _ => True) (.slice f4 b0.length f5) b0) ∧ (w'.heap[a6]? = some (.cells #[.int .i64 a0_0, .slice A0_1 l0_1.length c0_1, .slice A0_2 l0_2.length c0_2] 25 (0, 0))) ∧ (w'.heap[a8]? = some (.cells #[.int .i64 0, .slice none 0 0, .slice none 0 0] 25 (0, 0))) ∧ (w'.heap[s_]? = some (.cells #[.int .i64 0, .slice none 0 0, .slice none 0 0] 25 (0, 0))) ∧ (w.heap.size ≤ s_) ∧ (w.heap.size ≤ s_) ∧ (a6 ≠ s_) ∧ (s_ ≠ a6) ∧ (a8 ≠ s_) ∧ (s_ ≠ a8) ∧ (Below w.heap.size w w')) ?_ ?_;rotate_left
    ·intro hCont;refine two_ (i := 1) (j := 5) (Ni := some 23) (Nj := some 6) (bqz 7 15) (bqz 7 45) rfl rfl rfl rfl (by kernel_rfl) (by decide) (by decide) (fun K hK => ?_) (fun K hK => ?_)
     ·skip
      refine goes_ Try.func103 (by kernel_rfl) rfl #[.slice f4 b0.length f5] (by rfl) rfl rfl (by (try simp only [List.map_toArray, List.map_cons, List.map_nil]); first | done | rfl | (simp only [List.length_drop, List.length_take]; rfl)) ?_;with_reducible refine (Pxc.calls _ _ b0 b9 _ ?e9 ?f3 q2.out).mono ?_
      (case e9 => repeat (first | exact (Kd.R_reads' b4.out).2.2 | (with_reducible refine Kd.C_alloc ?_ _) | (with_reducible refine Kd.C_drewN ?_ _) | (with_reducible refine Kd.C_drew ?_)))
      (case f3 => exact (Kd.R_reads' b4.out).2.1)
      rintro e y7 ⟨rfl, hb⟩;refine ⟨_, rfl, ?_⟩;have b1 := Aside0.mk (Kd.R_below (rz b4.out) hb);have b2 := Aside0.mk (blk_below (bz a0.out) hb);have b3 := Aside0.mk (blk_below (bz a2.out) hb);have b5 := Aside0.mk (below_step (wz HB.out) hb);clear b4 a0 a2 HB;have b4 := b1;have a0 := b2;have a2 := b3;have HB := b5;clear b1 b2 b3 b5
      (try clear hb)
      (try clear j6)
      (try clear hk)
      (try clear hi)
      refine hK.out _ _ ⟨bcz a0 0 rfl, bcz a0 1 rfl, bcz a0 2 rfl⟩ (fun hHeld => ?_);clear hK K;refine norm_ (a' := ?_) ?_ ?_;rotate_left
      ·show Act.put _ (some 23) _ = _;simp only [Act.put, qz1, qz2, qz3, i64_w, i32_w];rfl
      refine pqz 4 (some 26) (bqz 7 31) rfl rfl (by kernel_rfl) ?_ ?_ (fun _ _ _ h => h) (by rfl) ?_ ?_ ?_;rotate_left 2;intro w';go_simp;(with_reducible rfl);simp only [Act.put, qz1, qz2, qz3, i64_w, i32_w];rfl
      refine one_ (i := 5) (N := some 6) (bqz 7 63) rfl rfl (by kernel_rfl) (by decide) (fun K hK => ?_);refine box_step ?hg (N := 6) ?hd (cs := #[.int .i64 0, .slice none 0 0, .slice none 0 0]) (t := 25) ?hr ?_; (case hd => rfl); (case hg => rfl); (case hr => first | (go_simp; done) | (go_simp; rfl))
      intro a3 hg y8 hbox hb;have b1 := Aside0.mk (Kd.R_below (rz b4.out) hb);have b2 := Aside0.mk (blk_below (bz a0.out) hb);have b3 := Aside0.mk (blk_below (bz a2.out) hb);have b5 := Aside0.mk (below_step (wz HB.out) hb);have d0 := Aside0.mk (hbox);have d4 := Aside0.mk ((by rw [hg]; exact (below_size (wz HB.out)) : w.heap.size ≤ a3));have d5 := Aside0.mk ((by rw [hg]; exact (below_size (wz HB.out)) : w.heap.size ≤ a3));have e0 := Aside0.mk ((by rw [hg]; exact Nat.ne_of_lt (blk_lt (g := a6) (o := .cells #[.int .i64 a0_0, .slice A0_1 l0_1.length c0_1, .slice A0_2 l0_2.length c0_2] 25 (0, 0)) (bz a0.out)) : a6 ≠ a3));have e4 := Aside0.mk ((by rw [hg]; exact Nat.ne_of_gt (blk_lt (g := a6) (o := .cells #[.int .i64 a0_0, .slice A0_1 l0_1.length c0_1, .slice A0_2 l0_2.length c0_2] 25 (0, 0)) (bz a0.out)) : a3 ≠ a6));have e5 := Aside0.mk ((by rw [hg]; exact Nat.ne_of_lt (blk_lt (g := a8) (o := .cells #[.int .i64 0, .slice none 0 0, .slice none 0 0] 25 (0, 0)) (bz a2.out)) : a8 ≠ a3));have d9 := Aside0.mk ((by rw [hg]; exact Nat.ne_of_gt (blk_lt (g := a8) (o := .cells #[.int .i64 0, .slice none 0 0, .slice none 0 0] 25 (0, 0)) (bz a2.out)) : a3 ≠ a8));clear b4 a0 a2 HB;have b4 := b1;have a0 := b2;have a2 := b3;have HB := b5;have a4 := d0;have g4 := d4;have g3 := d5;have a9 := e0;have b8 := e4;have b7 := e5;have d2 := d9;clear b1 b2 b3 b5 d0 d4 d5 e0 e4 e5 d9 hb hbox hg;refine hK.out _ _ ⟨bcz a0 0 rfl, bcz a0 1 rfl, bcz a0 2 rfl⟩ (fun hHeld => ?_);clear hK K;refine norm_ (a' := ?_) ?_ ?_;rotate_left
      ·show Act.put _ (some 6) _ = _;simp only [Act.put, qz1, qz2, qz3, i64_w, i32_w];rfl
      exact norm_ (by simp only [putAll, Act.put, qz1, qz2, qz3]) (hCont (a3) _ ⟨hHeld, (rz b4.out), (bz a0.out), (bz a2.out), (bz a4.out), g4.out, g3.out, a9.out, b8.out, b7.out, d2.out, (wz HB.out)⟩)
     ·skip
      refine box_step ?hg (N := 6) ?hd (cs := #[.int .i64 0, .slice none 0 0, .slice none 0 0]) (t := 25) ?hr ?_; (case hd => rfl); (case hg => rfl); (case hr => first | (go_simp; done) | (go_simp; rfl))
      intro a3 hg y7 hbox hb;have b1 := Aside0.mk (Kd.R_below (rz b4.out) hb);have b2 := Aside0.mk (blk_below (bz a0.out) hb);have b3 := Aside0.mk (blk_below (bz a2.out) hb);have b5 := Aside0.mk (below_step (wz HB.out) hb);have d0 := Aside0.mk (hbox);have d4 := Aside0.mk ((by rw [hg]; exact (below_size (wz HB.out)) : w.heap.size ≤ a3));have d5 := Aside0.mk ((by rw [hg]; exact (below_size (wz HB.out)) : w.heap.size ≤ a3));have e0 := Aside0.mk ((by rw [hg]; exact Nat.ne_of_lt (blk_lt (g := a6) (o := .cells #[.int .i64 a0_0, .slice A0_1 l0_1.length c0_1, .slice A0_2 l0_2.length c0_2] 25 (0, 0)) (bz a0.out)) : a6 ≠ a3));have e4 := Aside0.mk ((by rw [hg]; exact Nat.ne_of_gt (blk_lt (g := a6) (o := .cells #[.int .i64 a0_0, .slice A0_1 l0_1.length c0_1, .slice A0_2 l0_2.length c0_2] 25 (0, 0)) (bz a0.out)) : a3 ≠ a6));have e5 := Aside0.mk ((by rw [hg]; exact Nat.ne_of_lt (blk_lt (g := a8) (o := .cells #[.int .i64 0, .slice none 0 0, .slice none 0 0] 25 (0, 0)) (bz a2.out)) : a8 ≠ a3));have d9 := Aside0.mk ((by rw [hg]; exact Nat.ne_of_gt (blk_lt (g := a8) (o := .cells #[.int .i64 0, .slice none 0 0, .slice none 0 0] 25 (0, 0)) (bz a2.out)) : a3 ≠ a8));clear b4 a0 a2 HB;have b4 := b1;have a0 := b2;have a2 := b3;have HB := b5;have a4 := d0;have g4 := d4;have g3 := d5;have a9 := e0;have b8 := e4;have b7 := e5;have d2 := d9;clear b1 b2 b3 b5 d0 d4 d5 e0 e4 e5 d9 hb hbox hg;refine hK.out _ _ ⟨bcz a0 0 rfl, bcz a0 1 rfl, bcz a0 2 rfl⟩ (fun hHeld => ?_);clear hK K;refine norm_ (a' := ?_) ?_ ?_;rotate_left
      ·show Act.put _ (some 6) _ = _;simp only [Act.put, qz1, qz2, qz3, i64_w, i32_w];rfl
      refine one_ (i := 1) (N := some 23) (bqz 7 47) rfl rfl (by kernel_rfl) (by decide) (fun K hK => ?_);refine goes_ Try.func103 (by kernel_rfl) rfl #[.slice f4 b0.length f5] (by rfl) rfl rfl (by (try simp only [List.map_toArray, List.map_cons, List.map_nil]); first | done | rfl | (simp only [List.length_drop, List.length_take]; rfl)) ?_;with_reducible refine (Pxc.calls _ _ b0 b9 _ ?e9 ?f3 q2.out).mono ?_
      (case e9 => repeat (first | exact (Kd.R_reads' b4.out).2.2 | (with_reducible refine Kd.C_alloc ?_ _) | (with_reducible refine Kd.C_drewN ?_ _) | (with_reducible refine Kd.C_drew ?_)))
      (case f3 => exact (Kd.R_reads' b4.out).2.1)
      rintro e y8 ⟨rfl, hb⟩;refine ⟨_, rfl, ?_⟩;have b1 := Aside0.mk (Kd.R_below (rz b4.out) hb);have b2 := Aside0.mk (blk_below (bz a0.out) hb);have b3 := Aside0.mk (blk_below (bz a2.out) hb);have b5 := Aside0.mk (blk_below (bz a4.out) hb);have d0 := Aside0.mk (below_step (wz HB.out) hb);clear b4 a0 a2 a4 HB;have b4 := b1;have a0 := b2;have a2 := b3;have a4 := b5;have HB := d0;clear b1 b2 b3 b5 d0
      (try clear hb)
      (try clear j6)
      (try clear hk)
      (try clear hi)
      refine hK.out _ _ ⟨bcz a0 0 rfl, bcz a0 1 rfl, bcz a0 2 rfl⟩ (fun hHeld => ?_);clear hK K;refine norm_ (a' := ?_) ?_ ?_;rotate_left
      ·show Act.put _ (some 23) _ = _;simp only [Act.put, qz1, qz2, qz3, i64_w, i32_w];rfl
      refine pqz 4 (some 26) (bqz 7 63) rfl rfl (by kernel_rfl) ?_ ?_ (fun _ _ _ h => h) (by rfl) ?_ ?_ ?_;rotate_left 2;intro w';go_simp;(with_reducible rfl);simp only [Act.put, qz1, qz2, qz3, i64_w, i32_w];rfl
      exact norm_ (by simp only [putAll, Act.put, qz1, qz2, qz3]) (hCont (a3) _ ⟨hHeld, (rz b4.out), (bz a0.out), (bz a2.out), (bz a4.out), g4.out, g3.out, a9.out, b8.out, b7.out, d2.out, (wz HB.out)⟩)
    rintro a3 e1 ⟨hS_, q6, q7, q8, q9, r0, r5, r6, r7, r8, r9, p0⟩;have b1 : Aside0 (Kd.R (Kd.int .i64) 3 e1 w.heap.size (fun _ => True) (.slice f4 b0.length f5) b0) := ⟨q6⟩
    have b2 : Aside0 (e1.heap[a6]? = some (.cells #[.int .i64 a0_0, .slice A0_1 l0_1.length c0_1, .slice A0_2 l0_2.length c0_2] 25 (0, 0))) := ⟨q7⟩
    have b3 : Aside0 (e1.heap[a8]? = some (.cells #[.int .i64 0, .slice none 0 0, .slice none 0 0] 25 (0, 0))) := ⟨q8⟩
    have b5 : Aside0 (e1.heap[a3]? = some (.cells #[.int .i64 0, .slice none 0 0, .slice none 0 0] 25 (0, 0))) := ⟨q9⟩
    have d0 : Aside0 (w.heap.size ≤ a3) := ⟨r0⟩
    have d4 : Aside0 (w.heap.size ≤ a3) := ⟨r5⟩
    have d5 : Aside0 (a6 ≠ a3) := ⟨r6⟩
    have e0 : Aside0 (a3 ≠ a6) := ⟨r7⟩
    have e4 : Aside0 (a8 ≠ a3) := ⟨r8⟩
    have e5 : Aside0 (a3 ≠ a8) := ⟨r9⟩
    have d9 : Aside0 (Below w.heap.size w e1) := ⟨p0⟩
    clear b4 a0 a2 HB q6 q7 q8 q9 r0 r5 r6 r7 r8 r9 p0;have b4 := b1;have a0 := b2;have a2 := b3;have a4 := b5;have g4 := d0;have g3 := d4;have a9 := d5;have b8 := e0;have b7 := e4;have d2 := e5;have HB := d9;clear b1 b2 b3 b5 d0 d4 d5 e0 e4 e5 d9;have hHeld : e1.cell? ⟨a6, 0, none⟩ = some (.int .i64 a0_0) ∧ e1.cell? ⟨a6, 1, none⟩ = some (.slice A0_1 l0_1.length c0_1) ∧ e1.cell? ⟨a6, 2, none⟩ = some (.slice A0_2 l0_2.length c0_2) := hS_;refine norm_ (a' := ?_) ?_ ?_;rotate_left
    ·simp only [putAll, Act.put, qz1, qz2, qz3];rfl
    refine one_ (i := 6) (N := none) (bqz 7 127) rfl rfl (by kernel_rfl) (by decide) (fun K hK => ?_);have C7 : e1.cell? ⟨a3, 0, none⟩ = some (.int .i64 0) := bcz a4 0 rfl;have z7 := blk_frozen a4.out 0;have x1 := a9.out;have x2 := b7.out;have v8 := b8.out;have v9 := d2.out;have C8 : e1.cell? ⟨a3, 1, none⟩ = some (.slice none 0 0) := bcz a4 1 rfl;have z8 := blk_frozen a4.out 1;have x3 := a9.out;have x4 := b7.out;have w2 := b8.out;have w3 := d2.out;have C9 : e1.cell? ⟨a3, 2, none⟩ = some (.slice none 0 0) := bcz a4 2 rfl;have z9 := blk_frozen a4.out 2;have x5 := a9.out;have x6 := b7.out;have w6 := b8.out;have w7 := d2.out;refine skip_ (w1 := ?_) (by rfl) rfl ?_ ?_;rotate_left
    ·go_simp;rfl
    refine hK.out _ _ ⟨((cell_far (p := ⟨a3, _, none⟩) a9.out _).trans (((cell_far (p := ⟨a3, _, none⟩) a9.out _).trans (((cell_far (p := ⟨a3, _, none⟩) a9.out _).trans (hHeld.1)))))), ((cell_far (p := ⟨a3, _, none⟩) a9.out _).trans (((cell_far (p := ⟨a3, _, none⟩) a9.out _).trans (((cell_far (p := ⟨a3, _, none⟩) a9.out _).trans (hHeld.2.1)))))), ((cell_far (p := ⟨a3, _, none⟩) a9.out _).trans (((cell_far (p := ⟨a3, _, none⟩) a9.out _).trans (((cell_far (p := ⟨a3, _, none⟩) a9.out _).trans (hHeld.2.2))))))⟩ (fun hHeld => ?_);clear hK K;refine done_ (by kernel_rfl) ?_;have A4 := d7.out;have B5 := d8.out;have A5 := a9.out;have B7 := b8.out;have n5 : e1.cell? ⟨a6, 0, none⟩ = some (.int .i64 a0_0) := bcz a0 0 rfl;have n6 : e1.cell? ⟨a6, 1, none⟩ = some (.slice A0_1 l0_1.length c0_1) := bcz a0 1 rfl;have n7 : e1.cell? ⟨a6, 2, none⟩ = some (.slice A0_2 l0_2.length c0_2) := bcz a0 2 rfl;have o1 := blk_frozen a0.out 0;have o2 := blk_frozen a0.out 1;have o3 := blk_frozen a0.out 2;try go_wp2
    go_loopg [30] kj2 (fun kq y5 w' => ∃ (a1 : Int) (d3 : List (S80)) (d1 : Value), y5 = .int .i64 a1 ∧ Aside0 (Pxg.l0 kq b0 l0_2 (l0_2.length : Int) a1 b9 l0_1 d3 = some (r1, r2, r3, r4)) ∧ Aside0 (kq ≤ kj2) ∧ Aside0 (Kd.R (Kd.int .i64) 3 w' w.heap.size (fun _ => True) (.slice f4 b0.length f5) b0) ∧ Aside0 (Kd.R k80 80 w' w.heap.size (fun _ => True) d1 d3) ∧ Aside0 (w'.heap[a6]? = some (.cells #[.int .i64 a0_0, (.slice A0_1 l0_1.length c0_1), (.slice A0_2 l0_2.length c0_2)] 25 (0, 0))) ∧ Aside0 (w'.heap[a8]? = some (.cells #[.int .i64 0, (.slice none 0 0), (.slice none 0 0)] 25 (0, 0))) ∧ Aside0 (w'.heap[a3]? = some (.cells #[.int .i64 b9, (.slice A0_1 l0_1.length c0_1), d1] 25 (0, 0))) ∧ Aside0 (Below w.heap.size w w'))
    case atStart => exact ⟨(0), (([] : List (S80))), (.slice none 0 0), (by first | rfl | (simp; done) | (simp [*]; done)), H', ⟨Nat.le_refl _⟩, ⟨rz (Kd.R_mono (Kd.R_far (p := ⟨a3, 2, none⟩) (Kd.R_far (p := ⟨a3, 1, none⟩) (Kd.R_far (p := ⟨a3, 0, none⟩) (Kd.R_types b4.out a4.out (by decide)) (fun _ hk => hk.2) (.int .i64 b9)) (fun _ hk => hk.2) (.slice A0_1 l0_1.length c0_1)) (fun _ hk => hk.2) (.slice none 0 0)) (fun _ hk => trivial))⟩, ⟨by first | exact Kd.R_nil _ _ _ _ _ | exact Kd.N_nil _ _ _ _ _ | exact Kd.V_nil _ _ _ _ _ | exact Kd.Q_nil _ _ _ _ _ | exact Kd.S_nil _ _ _ _ _⟩, ⟨fz a0.out a9.out⟩, ⟨fz a2.out b7.out⟩, ⟨by (with_reducible repeat (first | refine blk_drewN ?_ _ | refine blk_drew ?_ | refine blk_alloc ?_ _)); refine blk_put (cs := #[.int .i64 b9, .slice A0_1 l0_1.length c0_1, .slice none 0 0]) ?_ 2 _ rfl; (with_reducible repeat (first | refine blk_drewN ?_ _ | refine blk_drew ?_ | refine blk_alloc ?_ _)); refine blk_put (cs := #[.int .i64 b9, .slice none 0 0, .slice none 0 0]) ?_ 1 _ rfl; (with_reducible repeat (first | refine blk_drewN ?_ _ | refine blk_drew ?_ | refine blk_alloc ?_ _)); refine blk_put (cs := #[.int .i64 0, .slice none 0 0, .slice none 0 0]) ?_ 0 _ rfl; (with_reducible repeat (first | refine blk_drewN ?_ _ | refine blk_drew ?_ | refine blk_alloc ?_ _)); exact a4.out⟩, ⟨wz HB.out⟩⟩
    case round =>
     clear H';(try clear c1);(try clear c7);(try clear c7b0);(try clear c7b1);(try clear j5);(try clear g9);(try clear h0);(try clear h1);(try clear h2);(try clear h3);(try clear h4);(try clear n2);(try clear n3);(try clear n4);(try clear n5);(try clear n6);(try clear n7);(try clear j7);(try clear j8);(try clear j9);(try clear h5);(try clear h6);(try clear h7);(try clear h8);(try clear h9);(try clear i0);(try clear n8);(try clear n9);(try clear o0);(try clear o1);(try clear o2);(try clear o3);(try clear k0);(try clear k1);(try clear k3);obtain ⟨a1, d3, d1, rfl, HA, q5, d6, a7, a0, a2, a4, HB⟩ := hrel
     cases gk with
     | zero => exact absurd HA.out (by simp [Pxg.l0])
     | succ k2 =>
      have H := HA.out;clear HA;simp only [Pxg.l0] at H;by_cases g8 : a1 < (l0_2.length : Int)
      ·rw [if_pos g8] at H;have c32b0 : decide (a1 < (l0_2.length : Int)) = true := decide_eq_true g8;clear g8;by_cases m3 : 0 ≤ a1
       ·rw [if_pos m3] at H;have c33b0 : decide (0 ≤ a1) = true := decide_eq_true m3;clear m3;by_cases m4 : a1 < (l0_2.length : Int)
        ·rw [if_pos m4] at H;have c34b0 : decide (a1 < (l0_2.length : Int)) = true := decide_eq_true m4;clear m4;by_cases m5 : 0 ≤ ((rd_T80 l0_2 a1).f0)
         ·rw [if_pos m5] at H;have c35b0 : decide (0 ≤ ((rd_T80 l0_2 a1).f0)) = true := decide_eq_true m5;clear m5;by_cases m6 : ((rd_T80 l0_2 a1).f0) < (b0.length : Int)
          ·rw [if_pos m6] at H;have c36b0 : decide (((rd_T80 l0_2 a1).f0) < (b0.length : Int)) = true := decide_eq_true m6;clear m6;by_cases m7 : 0 ≤ ((rd_T80 l0_2 a1).f2)
           ·rw [if_pos m7] at H;have c37b0 : decide (0 ≤ ((rd_T80 l0_2 a1).f2)) = true := decide_eq_true m7;clear m7;by_cases m8 : ((rd_T80 l0_2 a1).f2) < (b0.length : Int)
            ·rw [if_pos m8] at H;have c38b0 : decide (((rd_T80 l0_2 a1).f2) < (b0.length : Int)) = true := decide_eq_true m8;clear m8;by_cases m9 : d3.length < 5864062014805
             ·rw [if_pos m9] at H;have p9 := Aside0.mk m9;clear m9;obtain ⟨g7, e8⟩ : ∃ y_ : List (S80), y_ = (d3 ++ [(⟨rd b0 ((rd_T80 l0_2 a1).f0), (rd_T80 l0_2 a1).f1, rd b0 ((rd_T80 l0_2 a1).f2)⟩ : S80)]) := ⟨_, rfl⟩
              replace H : (Pxg.l0 k2 b0 l0_2 (l0_2.length : Int) (wrap64 (a1 + 1)) b9 l0_1 g7) = some (r1, r2, r3, r4) := by first | (rw [e8]; with_reducible exact H) | (have o7 := (Option.bind_some _ _).symm.trans H; rw [e8]; with_reducible exact o7) | (have o7 := (Option.bind_some _ _).symm.trans H; with_reducible exact o7) | with_reducible exact H | (rw [e8]; exact H) | exact H
              have q0 := Aside0.mk e8;clear e8;have H' := Aside0.mk H;clear H;have k9 : 0 ≤ (a1 : Int) := of_decide_eq_true (by first | (with_reducible assumption) | assumption);have l6 : a1 < (l0_2.length : Int) := of_decide_eq_true (by first | (with_reducible assumption) | assumption);obtain ⟨i8, t2, f6, f7, f8⟩ := at_T80 i7.out a1 k9 l6
              cases t2;replace f6 := (HB.out.cell (World.block_lt_of_cell? w _ f6)).trans f6;replace f7 := (HB.out.cell (World.block_lt_of_cell? w _ f7)).trans f7;replace f8 := (HB.out.cell (World.block_lt_of_cell? w _ f8)).trans f8;replace k9 := eq_true k9;replace l6 := eq_true l6;try go_wp2_with (first | ((with_reducible refine gate_dst (N := 8) rfl ?_); (try (refine gate_guard (by rfl) ?_; dsimp only)); refine box_event ?hg (N := 8) ?hd (cs := #[.int .i64 0, .int .i64 0, .int .i64 0]) (t := 80) ?hr ?_; (case hd => rfl); (case hg => rfl); (case hr => first | (go_simp; done) | (go_simp; rfl)); intro a5 hg e6 hbox hb; have b1 := Aside0.mk (Kd.R_below (rz d6.out) hb); have b2 := Aside0.mk (Kd.R_below (Kd.R_elderB (rz a7.out) a5 (Nat.le_of_eq hg.symm)) hb); have b3 := Aside0.mk (blk_below (bz a0.out) hb); have b5 := Aside0.mk (blk_below (bz a2.out) hb); have d0 := Aside0.mk (blk_below (bz a4.out) hb); have d4 := Aside0.mk (below_step (wz HB.out) hb); have d5 := Aside0.mk (hbox); have e0 := Aside0.mk ((by rw [hg]; exact (below_size (wz HB.out)) : w.heap.size ≤ a5)); have e4 := Aside0.mk ((by rw [hg]; exact (below_size (wz HB.out)) : w.heap.size ≤ a5)); have e5 := Aside0.mk ((by rw [hg]; exact Nat.ne_of_lt (blk_lt (g := a6) (o := .cells #[.int .i64 a0_0, .slice A0_1 l0_1.length c0_1, .slice (some i8) l0_2.length c0_2] 25 (0, 0)) (bz a0.out)) : a6 ≠ a5)); have d9 := Aside0.mk ((by rw [hg]; exact Nat.ne_of_gt (blk_lt (g := a6) (o := .cells #[.int .i64 a0_0, .slice A0_1 l0_1.length c0_1, .slice (some i8) l0_2.length c0_2] 25 (0, 0)) (bz a0.out)) : a5 ≠ a6)); have p2 := Aside0.mk ((by rw [hg]; exact Nat.ne_of_lt (blk_lt (g := a8) (o := .cells #[.int .i64 0, .slice none 0 0, .slice none 0 0] 25 (0, 0)) (bz a2.out)) : a8 ≠ a5)); have p3 := Aside0.mk ((by rw [hg]; exact Nat.ne_of_gt (blk_lt (g := a8) (o := .cells #[.int .i64 0, .slice none 0 0, .slice none 0 0] 25 (0, 0)) (bz a2.out)) : a5 ≠ a8)); have p4 := Aside0.mk ((by rw [hg]; exact Nat.ne_of_lt (blk_lt (g := a3) (o := .cells #[.int .i64 b9, .slice A0_1 l0_1.length c0_1, d1] 25 (0, 0)) (bz a4.out)) : a3 ≠ a5)); have p5 := Aside0.mk ((by rw [hg]; exact Nat.ne_of_gt (blk_lt (g := a3) (o := .cells #[.int .i64 b9, .slice A0_1 l0_1.length c0_1, d1] 25 (0, 0)) (bz a4.out)) : a5 ≠ a3)); clear d6 a7 a0 a2 a4 HB; have d6 := b1; have a7 := b2; have a0 := b3; have a2 := b5; have a4 := d0; have HB := d4; have b6 := d5; have z6 := e0; have z3 := e4; have g0 := e5; have j3 := d9; have g1 := p2; have j4 := p3; have e3 := p4; have g2 := p5; clear b1 b2 b3 b5 d0 d4 d5 e0 e4 e5 d9 p2 p3 p4 p5 hb hbox hg; have A7 := j3.out; have B9 := g0.out; have A8 := j4.out; have C0 := g1.out; have A9 := g2.out; have C1 := e3.out; have u0 : e6.cell? ⟨a5, 0, none⟩ = some (.int .i64 0) := bcz b6 0 rfl; have u1 : e6.cell? ⟨a5, 1, none⟩ = some (.int .i64 0) := bcz b6 1 rfl; have u2 : e6.cell? ⟨a5, 2, none⟩ = some (.int .i64 0) := bcz b6 2 rfl; have u9 := blk_frozen b6.out 0; have v0 := blk_frozen b6.out 1; have v1 := blk_frozen b6.out 2))
              have b1 : Aside0 (Kd.R (Kd.int .i64) 3 (((e6.setCell ⟨a5, 0, none⟩ (.int .i64 ((rd_T80 l0_2 a1).f0))).setCell ⟨a5, 1, none⟩ (.int .i64 ((rd_T80 l0_2 a1).f1))).setCell ⟨a5, 2, none⟩ (.int .i64 ((rd_T80 l0_2 a1).f2))) w.heap.size (fun _ => True) (.slice f4 b0.length f5) b0) := ⟨rz (Kd.R_mono (Kd.R_far (p := ⟨a5, 2, none⟩) (Kd.R_far (p := ⟨a5, 1, none⟩) (Kd.R_far (p := ⟨a5, 0, none⟩) (Kd.R_types d6.out b6.out (by decide)) (fun _ hk => hk.2) (.int .i64 ((rd_T80 l0_2 a1).f0))) (fun _ hk => hk.2) (.int .i64 ((rd_T80 l0_2 a1).f1))) (fun _ hk => hk.2) (.int .i64 ((rd_T80 l0_2 a1).f2))) (fun _ hk => trivial))⟩
              have b2 : Aside0 (Kd.R k80 80 (((e6.setCell ⟨a5, 0, none⟩ (.int .i64 ((rd_T80 l0_2 a1).f0))).setCell ⟨a5, 1, none⟩ (.int .i64 ((rd_T80 l0_2 a1).f1))).setCell ⟨a5, 2, none⟩ (.int .i64 ((rd_T80 l0_2 a1).f2))) w.heap.size (fun k_ => k_ ≠ a5) d1 d3) := ⟨rz (Kd.R_mono (Kd.R_far (p := ⟨a5, 2, none⟩) (Kd.R_far (p := ⟨a5, 1, none⟩) (Kd.R_far (p := ⟨a5, 0, none⟩) (Kd.R_mono a7.out (fun k_ hk => (⟨hk, hk.2⟩ : _ ∧ k_ ≠ a5))) (fun _ hk => hk.2) (.int .i64 ((rd_T80 l0_2 a1).f0))) (fun _ hk => hk.2) (.int .i64 ((rd_T80 l0_2 a1).f1))) (fun _ hk => hk.2) (.int .i64 ((rd_T80 l0_2 a1).f2))) (fun _ hk => hk.1.2))⟩
              have b3 : Aside0 ((((e6.setCell ⟨a5, 0, none⟩ (.int .i64 ((rd_T80 l0_2 a1).f0))).setCell ⟨a5, 1, none⟩ (.int .i64 ((rd_T80 l0_2 a1).f1))).setCell ⟨a5, 2, none⟩ (.int .i64 ((rd_T80 l0_2 a1).f2))).heap[a6]? = some (.cells #[.int .i64 a0_0, .slice A0_1 l0_1.length c0_1, .slice (some i8) l0_2.length c0_2] 25 (0, 0))) := ⟨fz a0.out g0.out⟩
              have b5 : Aside0 ((((e6.setCell ⟨a5, 0, none⟩ (.int .i64 ((rd_T80 l0_2 a1).f0))).setCell ⟨a5, 1, none⟩ (.int .i64 ((rd_T80 l0_2 a1).f1))).setCell ⟨a5, 2, none⟩ (.int .i64 ((rd_T80 l0_2 a1).f2))).heap[a8]? = some (.cells #[.int .i64 0, .slice none 0 0, .slice none 0 0] 25 (0, 0))) := ⟨fz a2.out g1.out⟩
              have d0 : Aside0 ((((e6.setCell ⟨a5, 0, none⟩ (.int .i64 ((rd_T80 l0_2 a1).f0))).setCell ⟨a5, 1, none⟩ (.int .i64 ((rd_T80 l0_2 a1).f1))).setCell ⟨a5, 2, none⟩ (.int .i64 ((rd_T80 l0_2 a1).f2))).heap[a3]? = some (.cells #[.int .i64 b9, .slice A0_1 l0_1.length c0_1, d1] 25 (0, 0))) := ⟨fz a4.out e3.out⟩
              have d4 : Aside0 ((((e6.setCell ⟨a5, 0, none⟩ (.int .i64 ((rd_T80 l0_2 a1).f0))).setCell ⟨a5, 1, none⟩ (.int .i64 ((rd_T80 l0_2 a1).f1))).setCell ⟨a5, 2, none⟩ (.int .i64 ((rd_T80 l0_2 a1).f2))).heap[a5]? = some (.cells #[.int .i64 ((rd_T80 l0_2 a1).f0), .int .i64 ((rd_T80 l0_2 a1).f1), .int .i64 ((rd_T80 l0_2 a1).f2)] 80 (0, 0))) := ⟨by (with_reducible repeat (first | refine blk_drewN ?_ _ | refine blk_drew ?_ | refine blk_alloc ?_ _)); refine blk_put (cs := #[.int .i64 ((rd_T80 l0_2 a1).f0), .int .i64 ((rd_T80 l0_2 a1).f1), .int .i64 0]) ?_ 2 _ rfl; (with_reducible repeat (first | refine blk_drewN ?_ _ | refine blk_drew ?_ | refine blk_alloc ?_ _)); refine blk_put (cs := #[.int .i64 ((rd_T80 l0_2 a1).f0), .int .i64 0, .int .i64 0]) ?_ 1 _ rfl; (with_reducible repeat (first | refine blk_drewN ?_ _ | refine blk_drew ?_ | refine blk_alloc ?_ _)); refine blk_put (cs := #[.int .i64 0, .int .i64 0, .int .i64 0]) ?_ 0 _ rfl; (with_reducible repeat (first | refine blk_drewN ?_ _ | refine blk_drew ?_ | refine blk_alloc ?_ _)); exact b6.out⟩
              have d5 : Aside0 (Below w.heap.size w (((e6.setCell ⟨a5, 0, none⟩ (.int .i64 ((rd_T80 l0_2 a1).f0))).setCell ⟨a5, 1, none⟩ (.int .i64 ((rd_T80 l0_2 a1).f1))).setCell ⟨a5, 2, none⟩ (.int .i64 ((rd_T80 l0_2 a1).f2)))) := ⟨wz HB.out⟩
              (try clear d6)
              (try clear a7)
              (try clear a0)
              (try clear a2)
              (try clear a4)
              (try clear b6)
              (try clear HB)
              generalize (((e6.setCell ⟨a5, 0, none⟩ (.int .i64 ((rd_T80 l0_2 a1).f0))).setCell ⟨a5, 1, none⟩ (.int .i64 ((rd_T80 l0_2 a1).f1))).setCell ⟨a5, 2, none⟩ (.int .i64 ((rd_T80 l0_2 a1).f2))) = y9 at b1 b2 b3 b5 d0 d4 d5 ⊢;have d6 := b1;have a7 := b2;have a0 := b3;have a2 := b5;have a4 := d0;have b6 := d4;have HB := d5;clear b1 b2 b3 b5 d0 d4 d5;have b1 := Aside0.mk (Kd.R_drew d6.out);have b2 := Aside0.mk (Kd.R_drew a7.out);have b3 := Aside0.mk (blk_drew a0.out);have b5 := Aside0.mk (blk_drew a2.out);have d0 := Aside0.mk (blk_drew a4.out);have d4 := Aside0.mk (blk_drew b6.out);have d5 := Aside0.mk (below_drew1 HB.out);clear d6 a7 a0 a2 a4 b6 HB;have d6 := b1;have a7 := b2;have a0 := b3;have a2 := b5;have a4 := d0;have b6 := d4;have HB := d5;clear b1 b2 b3 b5 d0 d4 d5;have l4 : 0 ≤ (((rd_T80 l0_2 a1).f0) : Int) := of_decide_eq_true (by first | (with_reducible assumption) | assumption);have l7 : ((rd_T80 l0_2 a1).f0) < (b0.length : Int) := of_decide_eq_true (by first | (with_reducible assumption) | assumption);obtain ⟨i9, t4, i1⟩ := Kd.at_int (Kd.R_reads' d6.out).2.2 ((rd_T80 l0_2 a1).f0) l4 l7
              cases t4;replace l4 := eq_true l4;replace l7 := eq_true l7;have l5 : 0 ≤ (((rd_T80 l0_2 a1).f2) : Int) := of_decide_eq_true (by first | (with_reducible assumption) | assumption);have l8 : ((rd_T80 l0_2 a1).f2) < (b0.length : Int) := of_decide_eq_true (by first | (with_reducible assumption) | assumption);obtain ⟨q1, t5, i2⟩ := Kd.at_int (Kd.R_reads' d6.out).2.2 ((rd_T80 l0_2 a1).f2) l5 l8;obtain rfl : i9 = q1 := (by injection t5)
              replace l5 := eq_true l5;replace l8 := eq_true l8;refine start_ (n := 19) (S := fun w' => w'.cell? ⟨a3, 0, none⟩ = some (.int .i64 b9) ∧ w'.cell? ⟨a3, 1, none⟩ = some (.slice A0_1 l0_1.length c0_1) ∧ w'.cell? ⟨a3, 2, none⟩ = some (d1) ∧ w'.cell? ⟨a5, 0, none⟩ = some (.int .i64 ((rd_T80 l0_2 a1).f0)) ∧ w'.cell? ⟨a5, 1, none⟩ = some (.int .i64 ((rd_T80 l0_2 a1).f1)) ∧ w'.cell? ⟨a5, 2, none⟩ = some (.int .i64 ((rd_T80 l0_2 a1).f2)) ∧ w'.cell? (i9.add (((rd_T80 l0_2 a1).f0)).toNat) = some (.int .i64 (rd b0 ((rd_T80 l0_2 a1).f0))) ∧ w'.cell? (i9.add (((rd_T80 l0_2 a1).f2)).toNat) = some (.int .i64 (rd b0 ((rd_T80 l0_2 a1).f2)))) (ds := [16, 18]) (bqz 19 0) (by kernel_rfl) rfl rfl ⟨bcz a4 0 rfl, bcz a4 1 rfl, bcz a4 2 rfl, bcz b6 0 rfl, bcz b6 1 rfl, bcz b6 2 rfl, i1, i2⟩ (fun hHeld => ?_); refine with_tabW Pxg.tab8 Pxg.bits8 (fun HT_ HW_ => ?_)
              generalize y9.drew = w46 at d6 a7 a0 a2 a4 b6 HB i1 i2 hHeld ⊢;refine pqz 0 (some 34) (bqz 19 1) rfl rfl (any_of HT_.out (by kernel_rfl)) ?_ ?_ (fun _ _ _ h => h) (by rfl) ?_ ?_ ?_;rotate_left 2;intro w';go_simp;(with_reducible rfl);simp only [Act.put, qz1, qz2, qz3, i64_w, i32_w];rfl
              refine pqz 2 (some 36) (bqz 19 5) rfl rfl (any_of HT_.out (by kernel_rfl)) ?_ ?_ (fun _ _ _ h => h) (by rfl) ?_ ?_ ?_;rotate_left 2;intro w';go_simp;(with_reducible rfl);simp only [Act.put, qz1, qz2, qz3, i64_w, i32_w];rfl
              refine pqz 3 (some 37) (bqz 19 13) rfl rfl (any_of HT_.out (by kernel_rfl)) ?_ ?_ (fun _ _ _ h => h) (by rfl) ?_ ?_ ?_;rotate_left 2;intro w';go_simp;(with_reducible rfl);simp only [Act.put, qz1, qz2, qz3, i64_w, i32_w];rfl
              refine pqz 7 (some 41) (bqz 19 141) rfl rfl (any_of HT_.out (by kernel_rfl)) ?_ ?_ (fun _ _ _ h => h) (by rfl) ?_ ?_ ?_;rotate_left 2;intro w';go_simp;(with_reducible rfl);simp only [Act.put, qz1, qz2, qz3, i64_w, i32_w];rfl
              refine pqz 9 (some 43) (bqz 19 653) rfl rfl (any_of HT_.out (by kernel_rfl)) ?_ ?_ (fun _ _ _ h => h) (by rfl) ?_ ?_ ?_;rotate_left 2;intro w';go_simp;(with_reducible rfl);simp only [Act.put, qz1, qz2, qz3, i64_w, i32_w];rfl
              refine pqz 10 (some 44) (bqz 19 1677) rfl rfl (any_of HT_.out (by kernel_rfl)) ?_ ?_ (fun _ _ _ h => h) (by rfl) ?_ ?_ ?_;rotate_left 2;intro w';go_simp;(with_reducible rfl);simp only [Act.put, qz1, qz2, qz3, i64_w, i32_w];rfl
              refine tqz 1 (some 35) (bqz 19 1679) rfl rfl (take_ofW HT_.out HW_.out (by kernel_rfl)) ?_ ?_ (fun _ _ _ h => h) (by rfl) ?_ hHeld ?_ ?_;rotate_left 2;rintro w' ⟨s0, s1, s2, s3, s4, s5, s6, s7⟩;go_simp;(with_reducible rfl);simp only [Act.put, qz1, qz2, qz3, i64_w, i32_w];rfl
              refine tqz 4 (some 38) (bqz 19 1695) rfl rfl (take_ofW HT_.out HW_.out (by kernel_rfl)) ?_ ?_ (fun _ _ _ h => h) (by rfl) ?_ hHeld ?_ ?_;rotate_left 2;rintro w' ⟨s0, s1, s2, s3, s4, s5, s6, s7⟩;go_simp;(with_reducible rfl);simp only [Act.put, qz1, qz2, qz3, i64_w, i32_w];rfl
              refine pqz 5 (some 39) (bqz 19 1727) rfl rfl (any_of HT_.out (by kernel_rfl)) ?_ ?_ (fun _ _ _ h => h) (by rfl) ?_ ?_ ?_;rotate_left 2;intro w';go_simp;(with_reducible rfl);simp only [Act.put, qz1, qz2, qz3, i64_w, i32_w];rfl
              refine tqz 6 (some 40) (bqz 19 1791) rfl rfl (take_ofW HT_.out HW_.out (by kernel_rfl)) ?_ ?_ (fun _ _ _ h => h) (by rfl) ?_ hHeld ?_ ?_;rotate_left 2;rintro w' ⟨s0, s1, s2, s3, s4, s5, s6, s7⟩;go_simp;(with_reducible rfl);simp only [Act.put, qz1, qz2, qz3, i64_w, i32_w];rfl
              refine tqz 8 (some 42) (bqz 19 2047) rfl rfl (take_ofW HT_.out HW_.out (by kernel_rfl)) ?_ ?_ (fun _ _ _ h => h) (by rfl) ?_ hHeld ?_ ?_;rotate_left 2;rintro w' ⟨s0, s1, s2, s3, s4, s5, s6, s7⟩;go_simp;(with_reducible rfl);simp only [Act.put, qz1, qz2, qz3, i64_w, i32_w];rfl
              refine tqz 11 (some 45) (bqz 19 4095) rfl rfl (take_ofW HT_.out HW_.out (by kernel_rfl)) ?_ ?_ (fun _ _ _ h => h) (by rfl) ?_ hHeld ?_ ?_;rotate_left 2;rintro w' ⟨s0, s1, s2, s3, s4, s5, s6, s7⟩;go_simp;(with_reducible rfl);simp only [Act.put, qz1, qz2, qz3, i64_w, i32_w];rfl
              refine pqz 12 (some 46) (bqz 19 8191) rfl rfl (any_of HT_.out (by kernel_rfl)) ?_ ?_ (fun _ _ _ h => h) (by rfl) ?_ ?_ ?_;rotate_left 2;intro w';go_simp;(with_reducible rfl);simp only [Act.put, qz1, qz2, qz3, i64_w, i32_w];rfl
              refine tqz 13 (some 47) (bqz 19 16383) rfl rfl (take_ofW HT_.out HW_.out (by kernel_rfl)) ?_ ?_ (fun _ _ _ h => h) (by rfl) ?_ hHeld ?_ ?_;rotate_left 2;rintro w' ⟨s0, s1, s2, s3, s4, s5, s6, s7⟩;go_simp;(with_reducible rfl);simp only [Act.put, qz1, qz2, qz3, i64_w, i32_w];rfl
              refine pqz 14 (some 48) (bqz 19 32767) rfl rfl (any_of HT_.out (by kernel_rfl)) ?_ ?_ (fun _ _ _ h => h) (by rfl) ?_ ?_ ?_;rotate_left 2;intro w';go_simp;(with_reducible rfl);simp only [Act.put, qz1, qz2, qz3, i64_w, i32_w];rfl
              refine one_ (i := 15) (N := some 49) (bqz 19 65535) rfl rfl (one_of HT_.out (by kernel_rfl)) (by decide) (fun K hK => ?_);refine value_ (w1 := ?_) (v := ?_) (by rfl) rfl ?_ ?_;rotate_left 2
              ·go_simp;constructor
               ·rfl
               ·rfl
              refine hK.out _ _ ⟨(blk_cell (blk_alloc a4.out _) 0).trans rfl, (blk_cell (blk_alloc a4.out _) 1).trans rfl, (blk_cell (blk_alloc a4.out _) 2).trans rfl, (blk_cell (blk_alloc b6.out _) 0).trans rfl, (blk_cell (blk_alloc b6.out _) 1).trans rfl, (blk_cell (blk_alloc b6.out _) 2).trans rfl, (World.cell?_alloc_lt _ _ _ (World.block_lt_of_cell? _ _ (hHeld.2.2.2.2.2.2.1))).trans (hHeld.2.2.2.2.2.2.1), (World.cell?_alloc_lt _ _ _ (World.block_lt_of_cell? _ _ (hHeld.2.2.2.2.2.2.2))).trans (hHeld.2.2.2.2.2.2.2)⟩ (fun hHeld => ?_);clear hK K;refine norm_ (a' := ?_) ?_ ?_;rotate_left
              ·show Act.put _ (some 49) _ = _;simp only [Act.put, qz1, qz2, qz3, i64_w, i32_w];rfl
              refine last_ (i := 16) (N := some 50) (bqz 19 131071) rfl rfl (one_of HT_.out (by kernel_rfl)) (by decide) (fun K hK => ?_);refine Kd.R_append_step k80 (w0 := w) w.heap.size (by rfl) (.tmp 35) (.tmp 49) 23 80 (.agg #[(.int .i64 0), (.int .i64 0), (.int .i64 0)]) 24 rfl Try.underlying23 info80 rfl (by decide) (by omega) d1 d3 (⟨rd b0 ((rd_T80 l0_2 a1).f0), (rd_T80 l0_2 a1).f1, rd b0 ((rd_T80 l0_2 a1).f2)⟩ : S80) [.int .i64 (rd b0 ((rd_T80 l0_2 a1).f0)), .int .i64 ((rd_T80 l0_2 a1).f1), .int .i64 (rd b0 ((rd_T80 l0_2 a1).f2))] (fun k_ => k_ ≠ a5) (fun _ => False) rfl rfl ?aP (fun _ hk => hk.elim) ?aF ?aO ?aB ?aS ?aL ?_
              (case aP => exact k80_mkM _ _ _ (⟨rd b0 ((rd_T80 l0_2 a1).f0), (rd_T80 l0_2 a1).f1, rd b0 ((rd_T80 l0_2 a1).f2)⟩ : S80))
              (case aB => exact (wz HB.out))
              (case aF => exact (fun k_ hk => Kd.freshB (g := a5) (o := .cells #[.int .i64 ((rd_T80 l0_2 a1).f0), .int .i64 ((rd_T80 l0_2 a1).f1), .int .i64 ((rd_T80 l0_2 a1).f2)] 80 (0, 0)) (bz b6.out) k_ hk))
              (case aO => exact (rz a7.out))
              (case aS => exact (below_size (wz HB.out)))
              (case aL => have := p9.out; omega)
              intro D4 z0 ho hb hg hat;rw [← q0.out] at ho;have b1 := Aside0.mk (Kd.R_over' (rz d6.out) (Kd.R_typed (rz a7.out)) (by decide) hg);have b2 := Aside0.mk (blk_grown (bz a0.out) hg (Kd.R_ne a7.out a0.out (by decide)));have b3 := Aside0.mk (blk_grown (bz a2.out) hg (Kd.R_ne a7.out a2.out (by decide)));have b5 := Aside0.mk (blk_grown (bz a4.out) hg (Kd.R_ne a7.out a4.out (by decide)));have d0 := Aside0.mk (blk_grown (bz b6.out) hg (Kd.R_away a7.out (fun _ hk => hk)));have d4 := Aside0.mk (hb);have d5 := Aside0.mk (ho);clear d6 a0 a2 a4 b6 HB a7;have d6 := b1;have a0 := b2;have a2 := b3;have a4 := b5;have b6 := d0;have HB := d4;have m0 := d5;clear b1 b2 b3 b5 d0 d4 d5 ho hb hg hat;obtain ⟨k5, k7, o9⟩ := Kd.R_slice m0.out
              (first | subst o9 | (injection o9 with f1_ f2_ f3_; have f4_ := f1_.symm; have f5_ := f3_.symm; clear f1_ f2_ f3_; subst f4_; subst f5_))
              refine hK.out _ _ ?_;clear hK K;refine norm_ (a' := ?_) ?_ ?_;rotate_left
              ·show Act.put _ (some 50) _ = _;simp only [Act.put, qz1, qz2, qz3, i64_w, i32_w];rfl
              refine pqz 17 (some 51) (bqz 19 262143) rfl rfl (any_of HT_.out (by kernel_rfl)) ?_ ?_ (fun _ _ _ h => h) (by rfl) ?_ ?_ ?_;rotate_left 2;intro w';go_simp;(with_reducible rfl);simp only [Act.put, qz1, qz2, qz3, i64_w, i32_w];rfl
              refine last_ (i := 18) (N := none) (bqz 19 524287) rfl rfl (one_of HT_.out (by kernel_rfl)) (by decide) (fun K hK => ?_);have D0 : z0.cell? ⟨a3, 2, none⟩ = some (d1) := bcz a4 2 rfl;have A0 := blk_frozen a4.out 2;have x7 := a9.out;have x8 := b7.out;have x9 := g2.out;have w8 := b8.out;have w9 := d2.out;have x0 := e3.out;refine skip_ (w1 := ?_) (by rfl) rfl ?_ ?_;rotate_left
              ·go_simp;rfl
              refine hK.out _ _ ?_;clear hK K;refine done_ (done_of HT_.out (by kernel_rfl)) ?_;try go_wp2
              go_roundg k2
              case measure => have := q4.out; have := q5.out; omega
              case rel => exact ⟨(wrap64 (a1 + 1)), (g7), (.slice k5 g7.length k7), (by first | rfl | (simp; done) | (simp [*]; done)), H', ⟨by have := q4.out; have := q5.out; omega⟩, ⟨rz (Kd.R_mono (Kd.R_far (p := ⟨a3, 2, none⟩) (Kd.R_types d6.out a4.out (by decide)) (fun _ hk => hk.2) (.slice k5 g7.length k7)) (fun _ hk => trivial))⟩, ⟨rz (Kd.R_mono (Kd.R_far (p := ⟨a3, 2, none⟩) (Kd.R_types m0.out a4.out (by decide)) (fun _ hk => hk.2) (.slice k5 g7.length k7)) (fun _ hk => trivial))⟩, ⟨fz a0.out a9.out⟩, ⟨fz a2.out b7.out⟩, ⟨by (with_reducible repeat (first | refine blk_drewN ?_ _ | refine blk_drew ?_ | refine blk_alloc ?_ _)); refine blk_put (cs := #[.int .i64 b9, .slice A0_1 l0_1.length c0_1, d1]) ?_ 2 _ rfl; (with_reducible repeat (first | refine blk_drewN ?_ _ | refine blk_drew ?_ | refine blk_alloc ?_ _)); exact a4.out⟩, ⟨wz HB.out⟩⟩
             ·rw [if_neg m9] at H;exact absurd H (by simp)
            ·rw [if_neg m8] at H;exact absurd H (by simp)
           ·rw [if_neg m7] at H;exact absurd H (by simp)
          ·rw [if_neg m6] at H;exact absurd H (by simp)
         ·rw [if_neg m5] at H;exact absurd H (by simp)
        ·rw [if_neg m4] at H;exact absurd H (by simp)
       ·rw [if_neg m3] at H;exact absurd H (by simp)
      ·rw [if_neg g8] at H;have c32b0 : decide (a1 < (l0_2.length : Int)) = false := decide_eq_false g8;clear g8;replace H := Option.bind_eq_some_iff.mp H;obtain ⟨⟨e7, f9, g6, p6⟩, o6, H⟩ := H;replace H : (some (e7, f9, g6, p6)) = some (r1, r2, r3, r4) := H;have y1 := Aside0.mk o6;clear o6;simp only [Option.some.injEq, Prod.mk.injEq] at H;obtain ⟨rfl, rfl, rfl, rfl⟩ := H;have B0 := b8.out;have C2 := a9.out;have B1 := d2.out;have C3 := b7.out;have u3 : wr.cell? ⟨a3, 0, none⟩ = some (.int .i64 b9) := bcz a4 0 rfl;have u4 : wr.cell? ⟨a3, 1, none⟩ = some (.slice A0_1 l0_1.length c0_1) := bcz a4 1 rfl;have u5 : wr.cell? ⟨a3, 2, none⟩ = some (d1) := bcz a4 2 rfl;have v2 := blk_frozen a4.out 0;have v3 := blk_frozen a4.out 1;have v4 := blk_frozen a4.out 2;obtain ⟨s8, s9, t7⟩ := Kd.R_slice a7.out;subst t7;go_wp2_with (first | ((with_reducible refine gate_callee (f := 104) rfl ?_); refine goesL_ (some 54) rfl rfl Try.func104 (by kernel_rfl) rfl #[.agg #[.int .i64 b9, .slice A0_1 l0_1.length c0_1, .slice s8 d3.length s9]] rfl (by (try simp only [List.map_toArray, List.map_cons, List.map_nil]); first | done | rfl | (simp only [List.length_drop, List.length_take]; rfl)) ?_; (with_reducible refine (Pxf.calls b9 _ _ l0_1 _ _ d3 e7 f9 g6 p6 _ ?e9 ?f3 ?n0 ?n1 y1.out).mono ?_); (case e9 => exact cz i5.out HB.out); (case f3 => exact i4.out); (case n0 => repeat (first | exact (Kd.R_reads' a7.out).2.2 | (with_reducible refine Kd.C_alloc ?_ _) | (with_reducible refine Kd.C_drewN ?_ _) | (with_reducible refine Kd.C_drew ?_))); (case n1 => exact (Kd.R_reads' a7.out).2.1); rintro e p8 ⟨D5, D6, rfl, k4, p1, hb⟩; refine ⟨_, rfl, ?_⟩; have b1 := Aside0.mk (Kd.R_below (rz d6.out) hb); have b2 := Aside0.mk (Kd.R_elder' (rz a7.out) (Kd.R_base p1) hb); have b3 := Aside0.mk (Kd.R_lower k4 (below_size (wz HB.out))); have b5 := Aside0.mk (Kd.R_lower (Kd.R_new' p1 (Kd.R_lt (rz a7.out))) (below_size (wz HB.out))); have d0 := Aside0.mk (blk_below (bz a0.out) hb); have d4 := Aside0.mk (blk_below (bz a2.out) hb); have d5 := Aside0.mk (blk_below (bz a4.out) hb); have e0 := Aside0.mk (below_step (wz HB.out) hb); clear d6; clear a7; clear a0; clear a2; clear a4; clear HB; have d6 := b1; have a7 := b2; have m1 := b3; have m2 := b5; have a0 := d0; have a2 := d4; have a4 := d5; have HB := e0; clear b1 b2 b3 b5 d0 d4 d5 e0; (try clear hb); (try clear j6); (try clear hk); (try clear hi); (try clear k4); (try clear p1); have B2 := d8.out; have C4 := d7.out; have u6 : p8.cell? ⟨a8, 0, none⟩ = some (.int .i64 0) := bcz a2 0 rfl; have u7 : p8.cell? ⟨a8, 1, none⟩ = some (.slice none 0 0) := bcz a2 1 rfl; have u8 : p8.cell? ⟨a8, 2, none⟩ = some (.slice none 0 0) := bcz a2 2 rfl; have v5 := blk_frozen a2.out 0; have v6 := blk_frozen a2.out 1; have v7 := blk_frozen a2.out 2; obtain ⟨i3, j2, t8⟩ := Kd.R_slice m1.out; subst t8; obtain ⟨k6, k8, t9⟩ := Kd.R_slice m2.out; subst t9))
       refine bodyPost_ret (results_ct rfl _ _ a8 25 #[.int .i64 e7, .slice i3 f9.length j2, .slice k6 g6.length k8] (0, 0) _ rfl (by (with_reducible repeat (first | refine blk_drewN ?_ _ | refine blk_drew ?_ | refine blk_alloc ?_ _)); refine blk_put (cs := #[.int .i64 e7, .slice i3 f9.length j2, .slice none 0 0]) ?_ 2 _ rfl; (with_reducible repeat (first | refine blk_drewN ?_ _ | refine blk_drew ?_ | refine blk_alloc ?_ _)); refine blk_put (cs := #[.int .i64 e7, .slice none 0 0, .slice none 0 0]) ?_ 1 _ rfl; (with_reducible repeat (first | refine blk_drewN ?_ _ | refine blk_drew ?_ | refine blk_alloc ?_ _)); refine blk_put (cs := #[.int .i64 0, .slice none 0 0, .slice none 0 0]) ?_ 0 _ rfl; (with_reducible repeat (first | refine blk_drewN ?_ _ | refine blk_drew ?_ | refine blk_alloc ?_ _)); exact a2.out) Try.underlying25 rfl (by kernel_rfl)) rfl ?_;exact ⟨_, _, by first | rfl | (simp [errW_none, errW_some] <;> rfl) | (simp [*, errW_none, errW_some] <;> rfl), rz (Kd.R_mono (Kd.R_far (p := ⟨a8, 2, none⟩) (Kd.R_far (p := ⟨a8, 1, none⟩) (Kd.R_far (p := ⟨a8, 0, none⟩) (Kd.R_types m1.out a2.out (by decide)) (fun _ hk => hk.2) (.int .i64 e7)) (fun _ hk => hk.2) (.slice i3 f9.length j2)) (fun _ hk => hk.2) (.slice k6 g6.length k8)) (fun _ hk => trivial)), rz (Kd.R_mono (Kd.R_far (p := ⟨a8, 2, none⟩) (Kd.R_far (p := ⟨a8, 1, none⟩) (Kd.R_far (p := ⟨a8, 0, none⟩) (Kd.R_types m2.out a2.out (by decide)) (fun _ hk => hk.2) (.int .i64 e7)) (fun _ hk => hk.2) (.slice i3 f9.length j2)) (fun _ hk => hk.2) (.slice k6 g6.length k8)) (fun _ hk => trivial)), wz HB.out⟩
def Pxb.f (k : Nat) (a0_0 : Int) (l0_1 : List ByteArray) (l0_2 : List (S80)) : Option (Int × List ByteArray × (List (S80)) × List Int × Int) := (Pra.f a0_0 l0_1 l0_2).bind fun bt139 => (if bt139.2 = 0 then ((Pxg.f k a0_0 l0_1 l0_2 bt139.1).bind fun bt143 => (some (bt143.1, bt143.2.1, bt143.2.2.1, bt139.1, bt143.2.2.2))) else (some (0, ([] : List ByteArray), ([] : List (S80)), ([] : List Int), bt139.2)))
theorem Pxb.mono : ∀ a0 a1 a2 k, LeO (Pxb.f k a0 a1 a2) (Pxb.f (k + 1) a0 a1 a2) := by
 intro a0 a1 a2 k
 unfold Pxb.f
 repeat' first
   | (with_reducible exact Pxg.mono _ _ _ _ _)
   | (with_reducible exact LeO.refl _)
   | (with_reducible exact LeO.none _)
   | (with_reducible refine LeO.ite ?_ ?_)
   | (with_reducible refine LeO.bind ?_ (fun _ => ?_))
   | exact Pxg.mono _ _ _ _ _
   | exact LeO.none _
   | refine LeO.ite ?_ ?_
   | refine LeO.bind ?_ (fun _ => ?_)
set_option maxHeartbeats 8000000 in
set_option maxRecDepth 100000 in
theorem Pxb.calls (k : Nat) (a0_0 : Int) (A0_1 : Option Addr) (c0_1 : Nat) (l0_1 : List ByteArray) (A0_2 : Option Addr) (c0_2 : Nat) (l0_2 : List (S80)) (r1 : Int) (r2 : List ByteArray) (r3 : List (S80)) (r4 : List Int) (r5 : Int) (w : World) (hr0_1 : Kd.C Kd.string w A0_1 l0_1.length l0_1) (hc0_1 : l0_1.length ≤ c0_1) (hr0_2 : Kd.C k80 w A0_2 l0_2.length l0_2) (hc0_2 : l0_2.length ≤ c0_2) (h : Pxb.f k a0_0 l0_1 l0_2 = some (r1, r2, r3, r4, r5)) :
  Calls Try.prog 49 #[.agg #[.int .i64 a0_0, .slice A0_1 l0_1.length c0_1, .slice A0_2 l0_2.length c0_2]] w fun e w' => ∃ v1_ v2_ v3_ : Value, e = .returned (.tuple #[.agg #[.int .i64 r1, v1_, v2_], v3_, .int .i64 r5]) ∧ Kd.R Kd.string 9 w' w.heap.size (fun _ => True) v1_ r2 ∧ Kd.R k80 80 w' w.heap.size (fun _ => True) v2_ r3 ∧ Kd.R (Kd.int .i64) 3 w' w.heap.size (fun _ => True) v3_ r4 ∧ Below w.heap.size w w' := by
 have n1 := Try.underlying25;have e4 := Aside0.mk hr0_1;have e2 := Aside0.mk hc0_1;clear hr0_1 hc0_1;have e5 := Aside0.mk hr0_2;have e3 := Aside0.mk hc0_2;clear hr0_2 hc0_2;have HB := Aside0.mk (Below.refl w.heap.size w);have H : ((Pra.f a0_0 l0_1 l0_2).bind fun e0 => (if e0.2 = 0 then ((Pxg.f k a0_0 l0_1 l0_2 e0.1).bind fun b1 => (some (b1.1, b1.2.1, b1.2.2.1, e0.1, b1.2.2.2))) else (some (0, ([] : List ByteArray), ([] : List (S80)), ([] : List Int), e0.2)))) = some (r1, r2, r3, r4, r5) := h;clear h;replace H := Option.bind_eq_some_iff.mp H;obtain ⟨⟨d5, b5⟩, g3, H⟩ := H;replace H : (if b5 = 0 then ((Pxg.f k a0_0 l0_1 l0_2 d5).bind fun b1 => (some (b1.1, b1.2.1, b1.2.2.1, d5, b1.2.2.2))) else (some (0, ([] : List ByteArray), ([] : List (S80)), ([] : List Int), b5))) = some (r1, r2, r3, r4, r5) := H;have A2 := Aside0.mk g3;clear g3;by_cases c3 : b5 = 0
 ·rw [if_pos c3] at H;have c3b0 : (b5 == 0) = true := beq_iff_eq.mpr c3;have c3b1 : (b5 != 0) = false := bne_eq_false_iff_eq.mpr c3;clear c3;replace H := Option.bind_eq_some_iff.mp H;obtain ⟨⟨b2, b4, b6, f6⟩, g4, H⟩ := H;replace H : (some (b2, b4, b6, d5, f6)) = some (r1, r2, r3, r4, r5) := H;have A4 := Aside0.mk g4;clear g4;simp only [Option.some.injEq, Prod.mk.injEq] at H;obtain ⟨rfl, rfl, rfl, rfl, rfl⟩ := H;go_enter Try.func49, Try.ntmps49
  go_wp2_with (first | ((with_reducible refine gate_dst (N := 1) rfl ?_); refine box_event ?hg (N := 1) ?hd (cs := #[.int .i64 a0_0, .slice A0_1 l0_1.length c0_1, .slice A0_2 l0_2.length c0_2]) (t := 25) ?hr ?_; (case hd => rfl); (case hg => rfl); (case hr => first | (go_simp; done) | (go_simp; rfl)); intro a3 hg w5 hbox hb; have a5 := Aside0.mk (below_step (wz HB.out) hb); have a6 := Aside0.mk (hbox); have a7 := Aside0.mk ((by rw [hg]; exact (below_size (wz HB.out)) : w.heap.size ≤ a3)); have a8 := Aside0.mk ((by rw [hg]; exact (below_size (wz HB.out)) : w.heap.size ≤ a3)); clear HB; have HB := a5; have a0 := a6; have g1 := a7; have f9 := a8; clear a5 a6 a7 a8; clear hb hbox hg) | ((with_reducible refine gate_dst (N := 2) rfl ?_); refine box_event ?hg (N := 2) ?hd (cs := #[.int .i64 0, .slice none 0 0, .slice none 0 0]) (t := 25) ?hr ?_; (case hd => rfl); (case hg => rfl); (case hr => first | (go_simp; done) | (go_simp; rfl)); intro a2 hg w6 hbox hb; have a5 := Aside0.mk (blk_below (bz a0.out) hb); have a6 := Aside0.mk (below_step (wz HB.out) hb); have a7 := Aside0.mk (hbox); have a8 := Aside0.mk ((by rw [hg]; exact (below_size (wz HB.out)) : w.heap.size ≤ a2)); have d1 := Aside0.mk ((by rw [hg]; exact (below_size (wz HB.out)) : w.heap.size ≤ a2)); have d2 := Aside0.mk ((by rw [hg]; exact Nat.ne_of_lt (blk_lt (g := a3) (o := .cells #[.int .i64 a0_0, .slice A0_1 l0_1.length c0_1, .slice A0_2 l0_2.length c0_2] 25 (0, 0)) (bz a0.out)) : a3 ≠ a2)); have d9 := Aside0.mk ((by rw [hg]; exact Nat.ne_of_gt (blk_lt (g := a3) (o := .cells #[.int .i64 a0_0, .slice A0_1 l0_1.length c0_1, .slice A0_2 l0_2.length c0_2] 25 (0, 0)) (bz a0.out)) : a2 ≠ a3)); clear a0; clear HB; have a0 := a5; have HB := a6; have a1 := a7; have g2 := a8; have g0 := d1; have b8 := d2; have b9 := d9; clear a5 a6 a7 a8 d1 d2 d9; clear hb hbox hg; have m9 := b8.out; have n0 := b9.out; have k9 : w6.cell? ⟨a3, 0, none⟩ = some (.int .i64 a0_0) := bcz a0 0 rfl; have l4 : w6.cell? ⟨a3, 1, none⟩ = some (.slice A0_1 l0_1.length c0_1) := bcz a0 1 rfl; have l5 : w6.cell? ⟨a3, 2, none⟩ = some (.slice A0_2 l0_2.length c0_2) := bcz a0 2 rfl; have l6 := blk_frozen a0.out 0; have l7 := blk_frozen a0.out 1; have l8 := blk_frozen a0.out 2) | ((with_reducible refine gate_callee (f := 17) rfl ?_); refine goesL_ (some 10) rfl rfl Try.func17 (by kernel_rfl) rfl #[.agg #[.int .i64 a0_0, .slice A0_1 l0_1.length c0_1, .slice A0_2 l0_2.length c0_2]] rfl (by (try simp only [List.map_toArray, List.map_cons, List.map_nil]); first | done | rfl | (simp only [List.length_drop, List.length_take]; rfl)) ?_; (with_reducible refine (Pra.calls a0_0 _ _ l0_1 _ _ l0_2 d5 b5 _ ?e9 ?f0 ?f1 ?f2 A2.out).mono ?_); (case e9 => exact cz e4.out HB.out); (case f0 => exact e2.out); (case f1 => exact cz e5.out HB.out); (case f2 => exact e3.out); rintro e w9 ⟨h5, rfl, d8, hb⟩; refine ⟨_, rfl, ?_⟩; have a5 := Aside0.mk (Kd.R_lower d8 (below_size (wz HB.out))); have a6 := Aside0.mk (blk_below (bz a0.out) hb); have a7 := Aside0.mk (blk_below (bz a1.out) hb); have a8 := Aside0.mk (below_step (wz HB.out) hb); clear a0; clear a1; clear HB; have a9 := a5; have a0 := a6; have a1 := a7; have HB := a8; clear a5 a6 a7 a8; (try clear hb); (try clear g5); (try clear hk); (try clear hi); (try clear d8); have h6 : w9.cell? ⟨a3, 0, none⟩ = some (.int .i64 a0_0) := bcz a0 0 rfl; have h7 : w9.cell? ⟨a3, 1, none⟩ = some (.slice A0_1 l0_1.length c0_1) := bcz a0 1 rfl; have h8 : w9.cell? ⟨a3, 2, none⟩ = some (.slice A0_2 l0_2.length c0_2) := bcz a0 2 rfl; have j4 := blk_frozen a0.out 0; have j5 := blk_frozen a0.out 1; have j6 := blk_frozen a0.out 2; obtain ⟨h0, h1, h2⟩ := Kd.R_slice a9.out; subst h2) | ((with_reducible refine gate_callee (f := 47) rfl ?_); refine goesL_ (some 20) rfl rfl Try.func47 (by kernel_rfl) rfl #[.agg #[.int .i64 a0_0, .slice A0_1 l0_1.length c0_1, .slice A0_2 l0_2.length c0_2], .slice h0 d5.length h1] rfl (by (try simp only [List.map_toArray, List.map_cons, List.map_nil]); first | done | rfl | (simp only [List.length_drop, List.length_take]; rfl)) ?_; (with_reducible refine (Pxg.calls k a0_0 _ _ l0_1 _ _ l0_2 _ _ d5 b2 b4 b6 f6 _ ?e9 ?f0 ?f1 ?f2 ?m7 ?m8 A4.out).mono ?_); (case e9 => exact cz e4.out HB.out); (case f0 => exact e2.out); (case f1 => exact cz e5.out HB.out); (case f2 => exact e3.out); (case m7 => repeat (first | exact (Kd.R_reads' a9.out).2.2 | (with_reducible refine Kd.C_alloc ?_ _) | (with_reducible refine Kd.C_drewN ?_ _) | (with_reducible refine Kd.C_drew ?_))); (case m8 => exact (Kd.R_reads' a9.out).2.1); rintro e n4 ⟨n2, n3, rfl, d8, g6, hb⟩; refine ⟨_, rfl, ?_⟩; have a5 := Aside0.mk (Kd.R_below (rz a9.out) hb); have a6 := Aside0.mk (Kd.R_lower d8 (below_size (wz HB.out))); have a7 := Aside0.mk (Kd.R_lower g6 (below_size (wz HB.out))); have a8 := Aside0.mk (blk_below (bz a0.out) hb); have d1 := Aside0.mk (blk_below (bz a1.out) hb); have d2 := Aside0.mk (below_step (wz HB.out) hb); clear a9; clear a0; clear a1; clear HB; have a9 := a5; have d6 := a6; have d7 := a7; have a0 := a8; have a1 := d1; have HB := d2; clear a5 a6 a7 a8 d1 d2; (try clear hb); (try clear g5); (try clear hk); (try clear hi); (try clear d8); (try clear g6)) | ((with_reducible refine gate_dst (N := 7) rfl ?_); refine box_event ?hg (N := 7) ?hd (cs := #[.int .i64 0, .slice none 0 0, .slice none 0 0]) (t := 25) ?hr ?_; (case hd => rfl); (case hg => rfl); (case hr => first | (go_simp; done) | (go_simp; rfl)); intro a4 hg e1 hbox hb; have a5 := Aside0.mk (Kd.R_below (rz a9.out) hb); have a6 := Aside0.mk (Kd.R_below (rz d6.out) hb); have a7 := Aside0.mk (Kd.R_below (rz d7.out) hb); have a8 := Aside0.mk (blk_below (bz a0.out) hb); have d1 := Aside0.mk (blk_below (bz a1.out) hb); have d2 := Aside0.mk (below_step (wz HB.out) hb); have d9 := Aside0.mk (hbox); have g7 := Aside0.mk ((by rw [hg]; exact (below_size (wz HB.out)) : w.heap.size ≤ a4)); have g8 := Aside0.mk ((by rw [hg]; exact (below_size (wz HB.out)) : w.heap.size ≤ a4)); have g9 := Aside0.mk ((by rw [hg]; exact Nat.ne_of_lt (blk_lt (g := a3) (o := .cells #[.int .i64 a0_0, .slice A0_1 l0_1.length c0_1, .slice A0_2 l0_2.length c0_2] 25 (0, 0)) (bz a0.out)) : a3 ≠ a4)); have f3 := Aside0.mk ((by rw [hg]; exact Nat.ne_of_gt (blk_lt (g := a3) (o := .cells #[.int .i64 a0_0, .slice A0_1 l0_1.length c0_1, .slice A0_2 l0_2.length c0_2] 25 (0, 0)) (bz a0.out)) : a4 ≠ a3)); have f4 := Aside0.mk ((by rw [hg]; exact Nat.ne_of_lt (blk_lt (g := a2) (o := .cells #[.int .i64 0, .slice none 0 0, .slice none 0 0] 25 (0, 0)) (bz a1.out)) : a2 ≠ a4)); have f5 := Aside0.mk ((by rw [hg]; exact Nat.ne_of_gt (blk_lt (g := a2) (o := .cells #[.int .i64 0, .slice none 0 0, .slice none 0 0] 25 (0, 0)) (bz a1.out)) : a4 ≠ a2)); clear a9; clear d6; clear d7; clear a0; clear a1; clear HB; have a9 := a5; have d6 := a6; have d7 := a7; have a0 := a8; have a1 := d1; have HB := d2; have b0 := d9; have m0 := g7; have l9 := g8; have e6 := g9; have e7 := f3; have b3 := f4; have e8 := f5; clear a5 a6 a7 a8 d1 d2 d9 g7 g8 g9 f3 f4 f5; clear hb hbox hg; have m1 := e7.out; have m4 := e6.out; have m2 := e8.out; have m5 := b3.out; have h9 : e1.cell? ⟨a4, 0, none⟩ = some (.int .i64 0) := bcz b0 0 rfl; have i0 : e1.cell? ⟨a4, 1, none⟩ = some (.slice none 0 0) := bcz b0 1 rfl; have i1 : e1.cell? ⟨a4, 2, none⟩ = some (.slice none 0 0) := bcz b0 2 rfl; have j7 := blk_frozen b0.out 0; have j8 := blk_frozen b0.out 1; have j9 := blk_frozen b0.out 2; obtain ⟨b7, d0, h3⟩ := Kd.R_slice d6.out; subst h3; obtain ⟨d3, d4, h4⟩ := Kd.R_slice d7.out; subst h4; have i2 : e1.cell? ⟨a2, 0, none⟩ = some (.int .i64 0) := bcz a1 0 rfl; have i3 : e1.cell? ⟨a2, 1, none⟩ = some (.slice none 0 0) := bcz a1 1 rfl; have i4 : e1.cell? ⟨a2, 2, none⟩ = some (.slice none 0 0) := bcz a1 2 rfl; have k0 := blk_frozen a1.out 0; have k1 := blk_frozen a1.out 1; have k2 := blk_frozen a1.out 2))
  refine bodyPost_ret (results_ctt rfl _ _ a2 25 #[.int .i64 b2, .slice b7 b4.length d0, .slice d3 b6.length d4] (0, 0) _ rfl (by (with_reducible repeat (first | refine blk_drewN ?_ _ | refine blk_drew ?_ | refine blk_alloc ?_ _)); refine blk_put (cs := #[.int .i64 b2, .slice b7 b4.length d0, .slice none 0 0]) ?_ 2 _ rfl; (with_reducible repeat (first | refine blk_drewN ?_ _ | refine blk_drew ?_ | refine blk_alloc ?_ _)); refine blk_put (cs := #[.int .i64 b2, .slice none 0 0, .slice none 0 0]) ?_ 1 _ rfl; (with_reducible repeat (first | refine blk_drewN ?_ _ | refine blk_drew ?_ | refine blk_alloc ?_ _)); refine blk_put (cs := #[.int .i64 0, .slice none 0 0, .slice none 0 0]) ?_ 0 _ rfl; (with_reducible repeat (first | refine blk_drewN ?_ _ | refine blk_drew ?_ | refine blk_alloc ?_ _)); refine blk_far ?_ b3.out _; (with_reducible repeat (first | refine blk_drewN ?_ _ | refine blk_drew ?_ | refine blk_alloc ?_ _)); refine blk_far ?_ b3.out _; (with_reducible repeat (first | refine blk_drewN ?_ _ | refine blk_drew ?_ | refine blk_alloc ?_ _)); refine blk_far ?_ b3.out _; (with_reducible repeat (first | refine blk_drewN ?_ _ | refine blk_drew ?_ | refine blk_alloc ?_ _)); exact a1.out) Try.underlying25 rfl (by kernel_rfl)) rfl ?_;exact ⟨_, _, _, by first | rfl | (simp [errW_none, errW_some] <;> rfl) | (simp [*, errW_none, errW_some] <;> rfl), rz (Kd.R_mono (Kd.R_far (p := ⟨a2, 2, none⟩) (Kd.R_far (p := ⟨a2, 1, none⟩) (Kd.R_far (p := ⟨a2, 0, none⟩) (Kd.R_far (p := ⟨a4, 2, none⟩) (Kd.R_far (p := ⟨a4, 1, none⟩) (Kd.R_far (p := ⟨a4, 0, none⟩) (Kd.R_types (Kd.R_types d6.out b0.out (by decide)) a1.out (by decide)) (fun _ hk => hk.1.2) (.int .i64 b2)) (fun _ hk => hk.1.2) (.slice b7 b4.length d0)) (fun _ hk => hk.1.2) (.slice d3 b6.length d4)) (fun _ hk => hk.2) (.int .i64 b2)) (fun _ hk => hk.2) (.slice b7 b4.length d0)) (fun _ hk => hk.2) (.slice d3 b6.length d4)) (fun _ hk => trivial)), rz (Kd.R_mono (Kd.R_far (p := ⟨a2, 2, none⟩) (Kd.R_far (p := ⟨a2, 1, none⟩) (Kd.R_far (p := ⟨a2, 0, none⟩) (Kd.R_far (p := ⟨a4, 2, none⟩) (Kd.R_far (p := ⟨a4, 1, none⟩) (Kd.R_far (p := ⟨a4, 0, none⟩) (Kd.R_types (Kd.R_types d7.out b0.out (by decide)) a1.out (by decide)) (fun _ hk => hk.1.2) (.int .i64 b2)) (fun _ hk => hk.1.2) (.slice b7 b4.length d0)) (fun _ hk => hk.1.2) (.slice d3 b6.length d4)) (fun _ hk => hk.2) (.int .i64 b2)) (fun _ hk => hk.2) (.slice b7 b4.length d0)) (fun _ hk => hk.2) (.slice d3 b6.length d4)) (fun _ hk => trivial)), rz (Kd.R_mono (Kd.R_far (p := ⟨a2, 2, none⟩) (Kd.R_far (p := ⟨a2, 1, none⟩) (Kd.R_far (p := ⟨a2, 0, none⟩) (Kd.R_far (p := ⟨a4, 2, none⟩) (Kd.R_far (p := ⟨a4, 1, none⟩) (Kd.R_far (p := ⟨a4, 0, none⟩) (Kd.R_types (Kd.R_types a9.out b0.out (by decide)) a1.out (by decide)) (fun _ hk => hk.1.2) (.int .i64 b2)) (fun _ hk => hk.1.2) (.slice b7 b4.length d0)) (fun _ hk => hk.1.2) (.slice d3 b6.length d4)) (fun _ hk => hk.2) (.int .i64 b2)) (fun _ hk => hk.2) (.slice b7 b4.length d0)) (fun _ hk => hk.2) (.slice d3 b6.length d4)) (fun _ hk => trivial)), wz HB.out⟩
 ·rw [if_neg c3] at H;have c3b0 : (b5 == 0) = false := beq_eq_false_iff_ne.mpr c3;have c3b1 : (b5 != 0) = true := bne_iff_ne.mpr c3;simp only [Option.some.injEq, Prod.mk.injEq] at H;obtain ⟨rfl, rfl, rfl, rfl, rfl⟩ := H;go_enter Try.func49, Try.ntmps49
  go_wp2_with (first | ((with_reducible refine gate_dst (N := 1) rfl ?_); refine box_event ?hg (N := 1) ?hd (cs := #[.int .i64 a0_0, .slice A0_1 l0_1.length c0_1, .slice A0_2 l0_2.length c0_2]) (t := 25) ?hr ?_; (case hd => rfl); (case hg => rfl); (case hr => first | (go_simp; done) | (go_simp; rfl)); intro a3 hg n5 hbox hb; have a5 := Aside0.mk (below_step (wz HB.out) hb); have a6 := Aside0.mk (hbox); have a7 := Aside0.mk ((by rw [hg]; exact (below_size (wz HB.out)) : w.heap.size ≤ a3)); have a8 := Aside0.mk ((by rw [hg]; exact (below_size (wz HB.out)) : w.heap.size ≤ a3)); clear HB; have HB := a5; have a0 := a6; have g1 := a7; have f9 := a8; clear a5 a6 a7 a8; clear hb hbox hg) | ((with_reducible refine gate_dst (N := 2) rfl ?_); refine box_event ?hg (N := 2) ?hd (cs := #[.int .i64 0, .slice none 0 0, .slice none 0 0]) (t := 25) ?hr ?_; (case hd => rfl); (case hg => rfl); (case hr => first | (go_simp; done) | (go_simp; rfl)); intro a2 hg f7 hbox hb; have a5 := Aside0.mk (blk_below (bz a0.out) hb); have a6 := Aside0.mk (below_step (wz HB.out) hb); have a7 := Aside0.mk (hbox); have a8 := Aside0.mk ((by rw [hg]; exact (below_size (wz HB.out)) : w.heap.size ≤ a2)); have d1 := Aside0.mk ((by rw [hg]; exact (below_size (wz HB.out)) : w.heap.size ≤ a2)); have d2 := Aside0.mk ((by rw [hg]; exact Nat.ne_of_lt (blk_lt (g := a3) (o := .cells #[.int .i64 a0_0, .slice A0_1 l0_1.length c0_1, .slice A0_2 l0_2.length c0_2] 25 (0, 0)) (bz a0.out)) : a3 ≠ a2)); have d9 := Aside0.mk ((by rw [hg]; exact Nat.ne_of_gt (blk_lt (g := a3) (o := .cells #[.int .i64 a0_0, .slice A0_1 l0_1.length c0_1, .slice A0_2 l0_2.length c0_2] 25 (0, 0)) (bz a0.out)) : a2 ≠ a3)); clear a0; clear HB; have a0 := a5; have HB := a6; have a1 := a7; have g2 := a8; have g0 := d1; have b8 := d2; have b9 := d9; clear a5 a6 a7 a8 d1 d2 d9; clear hb hbox hg; have m3 := b8.out; have m6 := b9.out; have i5 : f7.cell? ⟨a3, 0, none⟩ = some (.int .i64 a0_0) := bcz a0 0 rfl; have i7 : f7.cell? ⟨a3, 1, none⟩ = some (.slice A0_1 l0_1.length c0_1) := bcz a0 1 rfl; have i8 : f7.cell? ⟨a3, 2, none⟩ = some (.slice A0_2 l0_2.length c0_2) := bcz a0 2 rfl; have k3 := blk_frozen a0.out 0; have k4 := blk_frozen a0.out 1; have k5 := blk_frozen a0.out 2) | ((with_reducible refine gate_callee (f := 17) rfl ?_); refine goesL_ (some 10) rfl rfl Try.func17 (by kernel_rfl) rfl #[.agg #[.int .i64 a0_0, .slice A0_1 l0_1.length c0_1, .slice A0_2 l0_2.length c0_2]] rfl (by (try simp only [List.map_toArray, List.map_cons, List.map_nil]); first | done | rfl | (simp only [List.length_drop, List.length_take]; rfl)) ?_; (with_reducible refine (Pra.calls a0_0 _ _ l0_1 _ _ l0_2 d5 b5 _ ?e9 ?f0 ?f1 ?f2 A2.out).mono ?_); (case e9 => exact cz e4.out HB.out); (case f0 => exact e2.out); (case f1 => exact cz e5.out HB.out); (case f2 => exact e3.out); rintro e f8 ⟨h5, rfl, d8, hb⟩; refine ⟨_, rfl, ?_⟩; have a5 := Aside0.mk (Kd.R_lower d8 (below_size (wz HB.out))); have a6 := Aside0.mk (blk_below (bz a0.out) hb); have a7 := Aside0.mk (blk_below (bz a1.out) hb); have a8 := Aside0.mk (below_step (wz HB.out) hb); clear a0; clear a1; clear HB; have a9 := a5; have a0 := a6; have a1 := a7; have HB := a8; clear a5 a6 a7 a8; (try clear hb); (try clear g5); (try clear hk); (try clear hi); (try clear d8); have i9 : f8.cell? ⟨a2, 0, none⟩ = some (.int .i64 0) := bcz a1 0 rfl; have j2 : f8.cell? ⟨a2, 1, none⟩ = some (.slice none 0 0) := bcz a1 1 rfl; have j3 : f8.cell? ⟨a2, 2, none⟩ = some (.slice none 0 0) := bcz a1 2 rfl; have k6 := blk_frozen a1.out 0; have k7 := blk_frozen a1.out 1; have k8 := blk_frozen a1.out 2))
  refine bodyPost_ret (results_ctt rfl _ _ a2 25 #[.int .i64 0, .slice none 0 0, .slice none 0 0] (0, 0) _ rfl (by (with_reducible repeat (first | refine blk_drewN ?_ _ | refine blk_drew ?_ | refine blk_alloc ?_ _)); refine blk_put (cs := #[.int .i64 0, .slice none 0 0, .slice none 0 0]) ?_ 2 _ rfl; (with_reducible repeat (first | refine blk_drewN ?_ _ | refine blk_drew ?_ | refine blk_alloc ?_ _)); refine blk_put (cs := #[.int .i64 0, .slice none 0 0, .slice none 0 0]) ?_ 1 _ rfl; (with_reducible repeat (first | refine blk_drewN ?_ _ | refine blk_drew ?_ | refine blk_alloc ?_ _)); refine blk_put (cs := #[.int .i64 0, .slice none 0 0, .slice none 0 0]) ?_ 0 _ rfl; (with_reducible repeat (first | refine blk_drewN ?_ _ | refine blk_drew ?_ | refine blk_alloc ?_ _)); exact a1.out) Try.underlying25 rfl (by kernel_rfl)) rfl ?_;exact ⟨_, _, _, by first | rfl | (simp [errW_none, errW_some] <;> rfl) | (simp [*, errW_none, errW_some] <;> rfl), by first | exact Kd.R_nil _ _ _ _ _ | exact Kd.N_nil _ _ _ _ _ | exact Kd.V_nil _ _ _ _ _ | exact Kd.Q_nil _ _ _ _ _ | exact Kd.S_nil _ _ _ _ _, by first | exact Kd.R_nil _ _ _ _ _ | exact Kd.N_nil _ _ _ _ _ | exact Kd.V_nil _ _ _ _ _ | exact Kd.Q_nil _ _ _ _ _ | exact Kd.S_nil _ _ _ _ _, by first | exact Kd.R_nil _ _ _ _ _ | exact Kd.N_nil _ _ _ _ _ | exact Kd.V_nil _ _ _ _ _ | exact Kd.Q_nil _ _ _ _ _ | exact Kd.S_nil _ _ _ _ _, wz HB.out⟩
end Go.Proofs.Ytmcbkmfpmcbdpaa.Pr
namespace Go.Proofs.Ytmcbkmfpmcbdpaa.Pr
open Go.RowKit Go.Proofs.YtmcbkmfpmcbdpaaW.PrintWords Go.Proofs.YtmcbkmfpmcbdpaaW.PrintLast Go.Proofs.YtmcbkmfpmcbdpaaW.PrintMore
attribute [local go_sem] max2_int min2_int max_two min_two max_three min_three max_four min_four
set_option linter.unusedVariables false
set_option linter.unusedSimpArgs false
def Pl36b.f (k : Nat)  : Option (Bool) := (some (([(⟨#[97]⟩ : ByteArray)] : List ByteArray) : List ByteArray)).bind fun y152 => ((some (([(⟨0, 0, 1⟩ : S80), (⟨1, 0, 0⟩ : S80)] : List (S80)) : List (S80))).bind fun y155 => ((Pxb.f k 2 y152 y155).bind fun bt159 => ((Pxg.f k 2 y152 y155 (([4, 2] : List Int))).bind fun bt174 => (if bt159.2.2.2.2 = 0 then (if bt159.1 = 1 then (if (bt159.2.2.1.length : Int) = 1 then ((Pr01b.f k bt159.2.2.2.1 (([0, 0] : List Int))).bind fun t186 => (if t186 = true then (if bt174.2.2.2 = 0 then ((Pr26a.f k bt174.1 bt174.2.1 bt174.2.2.1 2 y152 y155).bind fun t187 => (some t187)) else (some false)) else (some false))) else (some false)) else (some false)) else (some false)))))
theorem Pl36b.mono : ∀ k, LeO (Pl36b.f k ) (Pl36b.f (k + 1) ) := by
 intro  k
 unfold Pl36b.f
 repeat' first
   | (with_reducible exact Pxb.mono _ _ _ _)
   | (with_reducible exact Pxg.mono _ _ _ _ _)
   | (with_reducible exact Pr01b.mono _ _ _)
   | (with_reducible exact Pr26a.mono _ _ _ _ _ _ _)
   | (with_reducible exact LeO.refl _)
   | (with_reducible exact LeO.none _)
   | (with_reducible refine LeO.ite ?_ ?_)
   | (with_reducible refine LeO.bind ?_ (fun _ => ?_))
   | exact Pxb.mono _ _ _ _
   | exact Pxg.mono _ _ _ _ _
   | exact Pr01b.mono _ _ _
   | exact Pr26a.mono _ _ _ _ _ _ _
   | exact LeO.none _
   | refine LeO.ite ?_ ?_
   | refine LeO.bind ?_ (fun _ => ?_)
set_option maxHeartbeats 8000000 in
set_option maxRecDepth 100000 in
theorem Pl36b.calls (k : Nat)  (r : Bool) (w : World) (h : Pl36b.f k  = some r) (hr_ : Aside0 (r = true)) :
  Calls Try.prog 46 #[] w fun e w' => e = .returned (.bool r) ∧ Below w.heap.size w w' := by
 have s8 := Try.underlying80;have s7 := Try.underlying25;have HB := Aside0.mk (Below.refl w.heap.size w);have H : ((some (([(⟨#[97]⟩ : ByteArray)] : List ByteArray) : List ByteArray)).bind fun a7 => ((some (([(⟨0, 0, 1⟩ : S80), (⟨1, 0, 0⟩ : S80)] : List (S80)) : List (S80))).bind fun a8 => ((Pxb.f k 2 a7 a8).bind fun d7 => ((Pxg.f k 2 a7 a8 (([4, 2] : List Int))).bind fun b0 => (if d7.2.2.2.2 = 0 then (if d7.1 = 1 then (if (d7.2.2.1.length : Int) = 1 then ((Pr01b.f k d7.2.2.2.1 (([0, 0] : List Int))).bind fun e2 => (if e2 = true then (if b0.2.2.2 = 0 then ((Pr26a.f k b0.1 b0.2.1 b0.2.2.1 2 a7 a8).bind fun d0 => (some d0)) else (some false)) else (some false))) else (some false)) else (some false)) else (some false)))))) = some r := h;clear h;obtain ⟨a7, g6⟩ : ∃ y_ : List ByteArray, y_ = (([(⟨#[97]⟩ : ByteArray)] : List ByteArray)) := ⟨_, rfl⟩
 replace H : ((some (([(⟨0, 0, 1⟩ : S80), (⟨1, 0, 0⟩ : S80)] : List (S80)) : List (S80))).bind fun a8 => ((Pxb.f k 2 a7 a8).bind fun d7 => ((Pxg.f k 2 a7 a8 (([4, 2] : List Int))).bind fun b0 => (if d7.2.2.2.2 = 0 then (if d7.1 = 1 then (if (d7.2.2.1.length : Int) = 1 then ((Pr01b.f k d7.2.2.2.1 (([0, 0] : List Int))).bind fun e2 => (if e2 = true then (if b0.2.2.2 = 0 then ((Pr26a.f k b0.1 b0.2.1 b0.2.2.1 2 a7 a8).bind fun d0 => (some d0)) else (some false)) else (some false))) else (some false)) else (some false)) else (some false))))) = some r := by first | (rw [g6]; with_reducible exact H) | (have f7 := (Option.bind_some _ _).symm.trans H; rw [g6]; with_reducible exact f7) | (have f7 := (Option.bind_some _ _).symm.trans H; with_reducible exact f7) | with_reducible exact H | (rw [g6]; exact H) | exact H
 have j3 := Aside0.mk g6;clear g6;obtain ⟨a8, g7⟩ : ∃ y_ : List (S80), y_ = (([(⟨0, 0, 1⟩ : S80), (⟨1, 0, 0⟩ : S80)] : List (S80))) := ⟨_, rfl⟩
 replace H : ((Pxb.f k 2 a7 a8).bind fun d7 => ((Pxg.f k 2 a7 a8 (([4, 2] : List Int))).bind fun b0 => (if d7.2.2.2.2 = 0 then (if d7.1 = 1 then (if (d7.2.2.1.length : Int) = 1 then ((Pr01b.f k d7.2.2.2.1 (([0, 0] : List Int))).bind fun e2 => (if e2 = true then (if b0.2.2.2 = 0 then ((Pr26a.f k b0.1 b0.2.1 b0.2.2.1 2 a7 a8).bind fun d0 => (some d0)) else (some false)) else (some false))) else (some false)) else (some false)) else (some false)))) = some r := by first | (rw [g7]; with_reducible exact H) | (have f7 := (Option.bind_some _ _).symm.trans H; rw [g7]; with_reducible exact f7) | (have f7 := (Option.bind_some _ _).symm.trans H; with_reducible exact f7) | with_reducible exact H | (rw [g7]; exact H) | exact H
 have j4 := Aside0.mk g7;clear g7;replace H := Option.bind_eq_some_iff.mp H;obtain ⟨⟨b4, e9, b8, h1, g2⟩, k6, H⟩ := H;replace H : ((Pxg.f k 2 a7 a8 (([4, 2] : List Int))).bind fun b0 => (if g2 = 0 then (if b4 = 1 then (if (b8.length : Int) = 1 then ((Pr01b.f k h1 (([0, 0] : List Int))).bind fun e2 => (if e2 = true then (if b0.2.2.2 = 0 then ((Pr26a.f k b0.1 b0.2.1 b0.2.2.1 2 a7 a8).bind fun d0 => (some d0)) else (some false)) else (some false))) else (some false)) else (some false)) else (some false))) = some r := H;have A1 := Aside0.mk k6;clear k6;obtain ⟨j2, g8⟩ : ∃ y_ : List Int, y_ = (([4, 2] : List Int)) := ⟨_, rfl⟩
 replace H : ((Pxg.f k 2 a7 a8 j2).bind fun b0 => (if g2 = 0 then (if b4 = 1 then (if (b8.length : Int) = 1 then ((Pr01b.f k h1 (([0, 0] : List Int))).bind fun e2 => (if e2 = true then (if b0.2.2.2 = 0 then ((Pr26a.f k b0.1 b0.2.1 b0.2.2.1 2 a7 a8).bind fun d0 => (some d0)) else (some false)) else (some false))) else (some false)) else (some false)) else (some false))) = some r := by first | (rw [g8]; with_reducible exact H) | (have f7 := (Option.bind_some _ _).symm.trans H; rw [g8]; with_reducible exact f7) | (have f7 := (Option.bind_some _ _).symm.trans H; with_reducible exact f7) | with_reducible exact H | (rw [g8]; exact H) | exact H
 have j5 := Aside0.mk g8;clear g8;replace H := Option.bind_eq_some_iff.mp H;obtain ⟨⟨b9, d3, d6, g1⟩, k7, H⟩ := H;replace H : (if g2 = 0 then (if b4 = 1 then (if (b8.length : Int) = 1 then ((Pr01b.f k h1 (([0, 0] : List Int))).bind fun e2 => (if e2 = true then (if g1 = 0 then ((Pr26a.f k b9 d3 d6 2 a7 a8).bind fun d0 => (some d0)) else (some false)) else (some false))) else (some false)) else (some false)) else (some false)) = some r := H;have A2 := Aside0.mk k7;clear k7;by_cases c3 : g2 = 0
 ·rw [if_pos c3] at H;have c3b0 : (g2 == 0) = true := beq_iff_eq.mpr c3;have c3b1 : (g2 != 0) = false := bne_eq_false_iff_eq.mpr c3;clear c3;by_cases c4 : b4 = 1
  ·rw [if_pos c4] at H;have c4b0 : (b4 == 1) = true := beq_iff_eq.mpr c4;have c4b1 : (b4 != 1) = false := bne_eq_false_iff_eq.mpr c4;clear c4;by_cases c5 : (b8.length : Int) = 1
   ·rw [if_pos c5] at H;have c5b0 : ((b8.length : Int) == 1) = true := beq_iff_eq.mpr c5;have c5b1 : ((b8.length : Int) != 1) = false := bne_eq_false_iff_eq.mpr c5;clear c5;obtain ⟨k3, g9⟩ : ∃ y_ : List Int, y_ = (([0, 0] : List Int)) := ⟨_, rfl⟩
    replace H : ((Pr01b.f k h1 k3).bind fun e2 => (if e2 = true then (if g1 = 0 then ((Pr26a.f k b9 d3 d6 2 a7 a8).bind fun d0 => (some d0)) else (some false)) else (some false))) = some r := by first | (rw [g9]; with_reducible exact H) | (have f7 := (Option.bind_some _ _).symm.trans H; rw [g9]; with_reducible exact f7) | (have f7 := (Option.bind_some _ _).symm.trans H; with_reducible exact f7) | with_reducible exact H | (rw [g9]; exact H) | exact H
    have j6 := Aside0.mk g9;clear g9;replace H := Option.bind_eq_some_iff.mp H;obtain ⟨e2, k8, H⟩ := H;replace H : (if e2 = true then (if g1 = 0 then ((Pr26a.f k b9 d3 d6 2 a7 a8).bind fun d0 => (some d0)) else (some false)) else (some false)) = some r := H;have A6 := Aside0.mk k8;clear k8;by_cases c7 : e2 = true
    ·subst c7;have H1 : (if g1 = 0 then ((Pr26a.f k b9 d3 d6 2 a7 a8).bind fun d0 => (some d0)) else (some false)) = some r := by rw [if_pos rfl] at H; exact H
     clear H;have H := H1;clear H1;by_cases c8 : g1 = 0
     ·rw [if_pos c8] at H;have c8b0 : (g1 == 0) = true := beq_iff_eq.mpr c8;have c8b1 : (g1 != 0) = false := bne_eq_false_iff_eq.mpr c8;clear c8;replace H := Option.bind_eq_some_iff.mp H;obtain ⟨d0, k9, H⟩ := H;replace H : (some d0) = some r := H;have A9 := Aside0.mk k9;clear k9;obtain rfl := Option.some.inj H;go_enter Try.func46, Try.ntmps46
      go_wp2_with (first | ((with_reducible refine gate_dst (N := 7) rfl ?_); (try (refine gate_guard (by rfl) ?_; dsimp only)); refine Kd.R_lit Kd.string _ 9 ?hg (N := 7) ?hd (xs := ([(⟨#[97]⟩ : ByteArray)] : List ByteArray)) (inner := [.string (⟨#[97]⟩ : ByteArray)]) (ok := fun _ => True) (okp := fun _ => True) ?hr ?hp (fun _ hk => hk) trivial (Below.refl _ _) (Nat.le_refl _) (by simp) ?_; (case hd => rfl); (case hg => rfl); (case hr => first | (go_simp; done) | (go_simp; rfl)); (case hp => exact (Reps.one (show Kd.M Kd.string _ _ _ (⟨#[97]⟩ : ByteArray) [.string (⟨#[97]⟩ : ByteArray)] from rfl) (Reps.none _ _))); intro s9 u1 h7 hb hg_ hnew_; clear hg_ hnew_; (first | rw [← j3.out] at h7 | (simp only [Int.reduceToNat] at h7; rw [← j3.out] at h7)); have b5 := Aside0.mk (Kd.R_lower h7 (below_size (wz HB.out))); have b6 := Aside0.mk (below_step (wz HB.out) hb); clear HB; have a3 := b5; have HB := b6; clear b5 b6; clear hb h7) | ((with_reducible refine gate_dst (N := 10) rfl ?_); (try (refine gate_guard (by rfl) ?_; dsimp only)); refine Kd.R_lit k80 _ 80 ?hg (N := 10) ?hd (xs := ([(⟨0, 0, 1⟩ : S80), (⟨1, 0, 0⟩ : S80)] : List (S80))) (inner := [.int .i64 0, .int .i64 0, .int .i64 1, .int .i64 1, .int .i64 0, .int .i64 0]) (ok := fun _ => True) (okp := fun _ => True) ?hr ?hp (fun _ hk => hk) trivial (Below.refl _ _) (Nat.le_refl _) (by simp) ?_; (case hd => rfl); (case hg => rfl); (case hr => first | (go_simp; done) | (go_simp; rfl)); (case hp => exact (Reps.c3 (show Kd.M k80 _ _ _ (⟨0, 0, 1⟩ : S80) [.int .i64 0, .int .i64 0, .int .i64 1] from (k80_mkM _ _ _ (⟨0, 0, 1⟩ : S80) )) (Reps.c3 (show Kd.M k80 _ _ _ (⟨1, 0, 0⟩ : S80) [.int .i64 1, .int .i64 0, .int .i64 0] from (k80_mkM _ _ _ (⟨1, 0, 0⟩ : S80) )) (Reps.none _ _)))); intro t2 u2 h8 hb hg_ hnew_; clear hg_ hnew_; (first | rw [← j4.out] at h8 | (simp only [Int.reduceToNat] at h8; rw [← j4.out] at h8)); have b5 := Aside0.mk (Kd.R_below (rz a3.out) hb); have b6 := Aside0.mk (Kd.R_lower h8 (below_size (wz HB.out))); have d1 := Aside0.mk (below_step (wz HB.out) hb); clear a3; clear HB; have a3 := b5; have a6 := b6; have HB := d1; clear b5 b6 d1; clear hb h8; obtain ⟨d8, d5, l8⟩ := Kd.R_slice a6.out; subst l8; obtain ⟨d4, d2, l9⟩ := Kd.R_slice a3.out; subst l9) | ((with_reducible refine gate_dst (N := 1) rfl ?_); (try (refine gate_guard (by rfl) ?_; dsimp only)); refine box_event ?hg (N := 1) ?hd (cs := #[.int .i64 0, .slice none 0 0, .slice none 0 0]) (t := 25) ?hr ?_; (case hd => rfl); (case hg => rfl); (case hr => first | (go_simp; done) | (go_simp; rfl)); intro a2 hg k2 hbox hb; have b5 := Aside0.mk (Kd.R_below (rz a3.out) hb); have b6 := Aside0.mk (Kd.R_below (rz a6.out) hb); have d1 := Aside0.mk (below_step (wz HB.out) hb); have d9 := Aside0.mk (hbox); have e0 := Aside0.mk ((by rw [hg]; exact (below_size (wz HB.out)) : w.heap.size ≤ a2)); have e1 := Aside0.mk ((by rw [hg]; exact (below_size (wz HB.out)) : w.heap.size ≤ a2)); clear a3; clear a6; clear HB; have a3 := b5; have a6 := b6; have HB := d1; have a0 := d9; have r2 := e0; have q9 := e1; clear b5 b6 d1 d9 e0 e1; clear hb hbox hg; have m7 : k2.cell? ⟨a2, 0, none⟩ = some (.int .i64 0) := bcz a0 0 rfl; have m8 : k2.cell? ⟨a2, 1, none⟩ = some (.slice none 0 0) := bcz a0 1 rfl; have m9 : k2.cell? ⟨a2, 2, none⟩ = some (.slice none 0 0) := bcz a0 2 rfl; have o8 := blk_frozen a0.out 0; have o9 := blk_frozen a0.out 1; have p0 := blk_frozen a0.out 2) | ((with_reducible refine gate_callee (f := 49) rfl ?_); refine goesL_ (some 14) rfl rfl Try.func49 (by kernel_rfl) rfl #[.agg #[.int .i64 2, .slice d4 a7.length d2, .slice d8 a8.length d5]] rfl (by (try simp only [List.map_toArray, List.map_cons, List.map_nil]); first | done | rfl | (simp only [List.length_drop, List.length_take]; rfl)) ?_; (with_reducible refine (Pxb.calls k 2 _ _ a7 _ _ a8 b4 e9 b8 h1 g2 _ ?i2 ?i3 ?i4 ?i5 A1.out).mono ?_); (case i2 => refine (Kd.R_reads' (e := 9) (base := w.heap.size) (ok := fun k_ => True) (n := a7.length) (c := d2) ?_).2.2; exact (rz (Kd.R_mono (Kd.R_far (p := ⟨a2, 2, none⟩) (Kd.R_far (p := ⟨a2, 1, none⟩) (Kd.R_far (p := ⟨a2, 0, none⟩) (Kd.R_types a3.out a0.out (by decide)) (fun _ hk => hk.2) (.int .i64 2)) (fun _ hk => hk.2) (.slice d4 a7.length d2)) (fun _ hk => hk.2) (.slice d8 a8.length d5)) (fun _ h_ => h_.1)))); (case i3 => exact (Kd.R_reads' a3.out).2.1); (case i4 => refine (Kd.R_reads' (e := 80) (base := w.heap.size) (ok := fun k_ => True) (n := a8.length) (c := d5) ?_).2.2; exact (rz (Kd.R_mono (Kd.R_far (p := ⟨a2, 2, none⟩) (Kd.R_far (p := ⟨a2, 1, none⟩) (Kd.R_far (p := ⟨a2, 0, none⟩) (Kd.R_types a6.out a0.out (by decide)) (fun _ hk => hk.2) (.int .i64 2)) (fun _ hk => hk.2) (.slice d4 a7.length d2)) (fun _ hk => hk.2) (.slice d8 a8.length d5)) (fun _ h_ => h_.1)))); (case i5 => exact (Kd.R_reads' a6.out).2.1); rintro e u3 ⟨t4, t5, t6, rfl, h5, h6, l5, hb⟩; refine ⟨_, rfl, ?_⟩; have b5 := Aside0.mk (Kd.R_elder' (rz (Kd.R_mono (Kd.R_far (p := ⟨a2, 2, none⟩) (Kd.R_far (p := ⟨a2, 1, none⟩) (Kd.R_far (p := ⟨a2, 0, none⟩) (Kd.R_types a3.out a0.out (by decide)) (fun _ hk => hk.2) (.int .i64 2)) (fun _ hk => hk.2) (.slice d4 a7.length d2)) (fun _ hk => hk.2) (.slice d8 a8.length d5)) (fun _ h_ => h_.1))) (Kd.R_base h5) hb); have b6 := Aside0.mk (Kd.R_elder' (rz (Kd.R_mono (Kd.R_far (p := ⟨a2, 2, none⟩) (Kd.R_far (p := ⟨a2, 1, none⟩) (Kd.R_far (p := ⟨a2, 0, none⟩) (Kd.R_types a6.out a0.out (by decide)) (fun _ hk => hk.2) (.int .i64 2)) (fun _ hk => hk.2) (.slice d4 a7.length d2)) (fun _ hk => hk.2) (.slice d8 a8.length d5)) (fun _ h_ => h_.1))) (Kd.R_base h6) hb); have d1 := Aside0.mk (Kd.R_lower (Kd.R_new' h5 (Kd.R_lt (rz (Kd.R_mono (Kd.R_far (p := ⟨a2, 2, none⟩) (Kd.R_far (p := ⟨a2, 1, none⟩) (Kd.R_far (p := ⟨a2, 0, none⟩) (Kd.R_types a3.out a0.out (by decide)) (fun _ hk => hk.2) (.int .i64 2)) (fun _ hk => hk.2) (.slice d4 a7.length d2)) (fun _ hk => hk.2) (.slice d8 a8.length d5)) (fun _ h_ => h_.1))))) (below_size (wz HB.out))); have d9 := Aside0.mk (Kd.R_lower (Kd.R_new' h6 (Kd.R_lt (rz (Kd.R_mono (Kd.R_far (p := ⟨a2, 2, none⟩) (Kd.R_far (p := ⟨a2, 1, none⟩) (Kd.R_far (p := ⟨a2, 0, none⟩) (Kd.R_types a6.out a0.out (by decide)) (fun _ hk => hk.2) (.int .i64 2)) (fun _ hk => hk.2) (.slice d4 a7.length d2)) (fun _ hk => hk.2) (.slice d8 a8.length d5)) (fun _ h_ => h_.1))))) (below_size (wz HB.out))); have e0 := Aside0.mk (Kd.R_lower l5 (below_size (wz HB.out))); have e1 := Aside0.mk (blk_below (g := a2) (o := .cells #[.int .i64 2, .slice d4 a7.length d2, .slice d8 a8.length d5] 25 (0, 0)) (by (with_reducible repeat (first | refine blk_drewN ?_ _ | refine blk_drew ?_ | refine blk_alloc ?_ _)); refine blk_put (cs := #[.int .i64 2, .slice d4 a7.length d2, .slice none 0 0]) ?_ 2 _ rfl; (with_reducible repeat (first | refine blk_drewN ?_ _ | refine blk_drew ?_ | refine blk_alloc ?_ _)); refine blk_put (cs := #[.int .i64 2, .slice none 0 0, .slice none 0 0]) ?_ 1 _ rfl; (with_reducible repeat (first | refine blk_drewN ?_ _ | refine blk_drew ?_ | refine blk_alloc ?_ _)); refine blk_put (cs := #[.int .i64 0, .slice none 0 0, .slice none 0 0]) ?_ 0 _ rfl; (with_reducible repeat (first | refine blk_drewN ?_ _ | refine blk_drew ?_ | refine blk_alloc ?_ _)); exact a0.out) hb); have e5 := Aside0.mk (below_step (wz HB.out) hb); clear a3; clear a6; clear a0; clear HB; have a3 := b5; have a6 := b6; have b2 := d1; have b3 := d9; have b1 := e0; have a0 := e1; have HB := e5; clear b5 b6 d1 d9 e0 e1 e5; (try clear hb); (try clear l4); (try clear hk); (try clear hi); (try clear h5); (try clear h6); (try clear l5)) | ((with_reducible refine gate_dst (N := 2) rfl ?_); (try (refine gate_guard (by rfl) ?_; dsimp only)); refine box_event ?hg (N := 2) ?hd (cs := #[.int .i64 0, .slice none 0 0, .slice none 0 0]) (t := 25) ?hr ?_; (case hd => rfl); (case hg => rfl); (case hr => first | (go_simp; done) | (go_simp; rfl)); intro a5 hg h9 hbox hb; have b5 := Aside0.mk (Kd.R_below (rz a3.out) hb); have b6 := Aside0.mk (Kd.R_below (rz a6.out) hb); have d1 := Aside0.mk (Kd.R_below (rz b2.out) hb); have d9 := Aside0.mk (Kd.R_below (rz b3.out) hb); have e0 := Aside0.mk (Kd.R_below (rz b1.out) hb); have e1 := Aside0.mk (blk_below (bz a0.out) hb); have e5 := Aside0.mk (below_step (wz HB.out) hb); have f0 := Aside0.mk (hbox); have f1 := Aside0.mk ((by rw [hg]; exact (below_size (wz HB.out)) : w.heap.size ≤ a5)); have g0 := Aside0.mk ((by rw [hg]; exact (below_size (wz HB.out)) : w.heap.size ≤ a5)); have e6 := Aside0.mk ((by rw [hg]; exact Nat.ne_of_lt (blk_lt (g := a2) (o := .cells #[.int .i64 2, .slice d4 a7.length d2, .slice d8 a8.length d5] 25 (0, 0)) (bz a0.out)) : a2 ≠ a5)); have f9 := Aside0.mk ((by rw [hg]; exact Nat.ne_of_gt (blk_lt (g := a2) (o := .cells #[.int .i64 2, .slice d4 a7.length d2, .slice d8 a8.length d5] 25 (0, 0)) (bz a0.out)) : a5 ≠ a2)); clear a3; clear a6; clear b2; clear b3; clear b1; clear a0; clear HB; have a3 := b5; have a6 := b6; have b2 := d1; have b3 := d9; have b1 := e0; have a0 := e1; have HB := e5; have a4 := f0; have r3 := f1; have r0 := g0; have h2 := e6; have i7 := f9; clear b5 b6 d1 d9 e0 e1 e5 f0 f1 g0 e6 f9; clear hb hbox hg; have r5 := i7.out; have r8 := h2.out; have n0 : h9.cell? ⟨a5, 0, none⟩ = some (.int .i64 0) := bcz a4 0 rfl; have n1 : h9.cell? ⟨a5, 1, none⟩ = some (.slice none 0 0) := bcz a4 1 rfl; have n2 : h9.cell? ⟨a5, 2, none⟩ = some (.slice none 0 0) := bcz a4 2 rfl; have p1 := blk_frozen a4.out 0; have p2 := blk_frozen a4.out 1; have p3 := blk_frozen a4.out 2; obtain ⟨f2, f4, m0⟩ := Kd.R_slice b2.out; subst m0; obtain ⟨f6, f8, m1⟩ := Kd.R_slice b3.out; subst m1; have n3 : h9.cell? ⟨a2, 0, none⟩ = some (.int .i64 2) := bcz a0 0 rfl; have n4 : h9.cell? ⟨a2, 1, none⟩ = some (.slice d4 a7.length d2) := bcz a0 1 rfl; have n5 : h9.cell? ⟨a2, 2, none⟩ = some (.slice d8 a8.length d5) := bcz a0 2 rfl; have p4 := blk_frozen a0.out 0; have p5 := blk_frozen a0.out 1; have p6 := blk_frozen a0.out 2) | ((with_reducible refine gate_dst (N := 20) rfl ?_); (try (refine gate_guard (by rfl) ?_; dsimp only)); refine Kd.R_lit (Kd.int .i64) _ 3 ?hg (N := 20) ?hd (xs := ([4, 2] : List Int)) (inner := [.int .i64 4, .int .i64 2]) (ok := fun _ => True) (okp := fun _ => True) ?hr ?hp (fun _ hk => hk) trivial (Below.refl _ _) (Nat.le_refl _) (by simp) ?_; (case hd => rfl); (case hg => rfl); (case hr => first | (go_simp; done) | (go_simp; rfl)); (case hp => exact (Reps.one (show Kd.M (Kd.int .i64) _ _ _ 4 [.int .i64 4] from rfl) (Reps.one (show Kd.M (Kd.int .i64) _ _ _ 2 [.int .i64 2] from rfl) (Reps.none _ _)))); intro t7 u4 h0 hb hg_ hnew_; clear hg_ hnew_; (first | rw [← j5.out] at h0 | (simp only [Int.reduceToNat] at h0; rw [← j5.out] at h0)); have b5 := Aside0.mk (Kd.R_below (rz (Kd.R_mono (Kd.R_far (p := ⟨a5, 2, none⟩) (Kd.R_far (p := ⟨a5, 1, none⟩) (Kd.R_far (p := ⟨a5, 0, none⟩) (Kd.R_types a3.out a4.out (by decide)) (fun _ hk => hk.2) (.int .i64 b4)) (fun _ hk => hk.2) (.slice f2 e9.length f4)) (fun _ hk => hk.2) (.slice f6 b8.length f8)) (fun _ h_ => h_.1))) hb); have b6 := Aside0.mk (Kd.R_below (rz (Kd.R_mono (Kd.R_far (p := ⟨a5, 2, none⟩) (Kd.R_far (p := ⟨a5, 1, none⟩) (Kd.R_far (p := ⟨a5, 0, none⟩) (Kd.R_types a6.out a4.out (by decide)) (fun _ hk => hk.2) (.int .i64 b4)) (fun _ hk => hk.2) (.slice f2 e9.length f4)) (fun _ hk => hk.2) (.slice f6 b8.length f8)) (fun _ h_ => h_.1))) hb); have d1 := Aside0.mk (Kd.R_below (rz (Kd.R_mono (Kd.R_far (p := ⟨a5, 2, none⟩) (Kd.R_far (p := ⟨a5, 1, none⟩) (Kd.R_far (p := ⟨a5, 0, none⟩) (Kd.R_types b2.out a4.out (by decide)) (fun _ hk => hk.2) (.int .i64 b4)) (fun _ hk => hk.2) (.slice f2 e9.length f4)) (fun _ hk => hk.2) (.slice f6 b8.length f8)) (fun _ h_ => h_.1))) hb); have d9 := Aside0.mk (Kd.R_below (rz (Kd.R_mono (Kd.R_far (p := ⟨a5, 2, none⟩) (Kd.R_far (p := ⟨a5, 1, none⟩) (Kd.R_far (p := ⟨a5, 0, none⟩) (Kd.R_types b3.out a4.out (by decide)) (fun _ hk => hk.2) (.int .i64 b4)) (fun _ hk => hk.2) (.slice f2 e9.length f4)) (fun _ hk => hk.2) (.slice f6 b8.length f8)) (fun _ h_ => h_.1))) hb); have e0 := Aside0.mk (Kd.R_elder' (rz (Kd.R_mono (Kd.R_far (p := ⟨a5, 2, none⟩) (Kd.R_far (p := ⟨a5, 1, none⟩) (Kd.R_far (p := ⟨a5, 0, none⟩) (Kd.R_types b1.out a4.out (by decide)) (fun _ hk => hk.2) (.int .i64 b4)) (fun _ hk => hk.2) (.slice f2 e9.length f4)) (fun _ hk => hk.2) (.slice f6 b8.length f8)) (fun _ h_ => h_.1))) (Kd.R_base h0) hb); have e1 := Aside0.mk (Kd.R_lower (Kd.R_new' h0 (Kd.R_lt (rz (Kd.R_mono (Kd.R_far (p := ⟨a5, 2, none⟩) (Kd.R_far (p := ⟨a5, 1, none⟩) (Kd.R_far (p := ⟨a5, 0, none⟩) (Kd.R_types b1.out a4.out (by decide)) (fun _ hk => hk.2) (.int .i64 b4)) (fun _ hk => hk.2) (.slice f2 e9.length f4)) (fun _ hk => hk.2) (.slice f6 b8.length f8)) (fun _ h_ => h_.1))))) (below_size (wz HB.out))); have e5 := Aside0.mk (blk_below (g := a2) (o := .cells #[.int .i64 2, .slice d4 a7.length d2, .slice d8 a8.length d5] 25 (0, 0)) (fz a0.out h2.out) hb); have f0 := Aside0.mk (blk_below (g := a5) (o := .cells #[.int .i64 b4, .slice f2 e9.length f4, .slice f6 b8.length f8] 25 (0, 0)) (by (with_reducible repeat (first | refine blk_drewN ?_ _ | refine blk_drew ?_ | refine blk_alloc ?_ _)); refine blk_put (cs := #[.int .i64 b4, .slice f2 e9.length f4, .slice none 0 0]) ?_ 2 _ rfl; (with_reducible repeat (first | refine blk_drewN ?_ _ | refine blk_drew ?_ | refine blk_alloc ?_ _)); refine blk_put (cs := #[.int .i64 b4, .slice none 0 0, .slice none 0 0]) ?_ 1 _ rfl; (with_reducible repeat (first | refine blk_drewN ?_ _ | refine blk_drew ?_ | refine blk_alloc ?_ _)); refine blk_put (cs := #[.int .i64 0, .slice none 0 0, .slice none 0 0]) ?_ 0 _ rfl; (with_reducible repeat (first | refine blk_drewN ?_ _ | refine blk_drew ?_ | refine blk_alloc ?_ _)); exact a4.out) hb); have f1 := Aside0.mk (below_step (wz HB.out) hb); clear a3; clear a6; clear b2; clear b3; clear b1; clear a0; clear a4; clear HB; have a3 := b5; have a6 := b6; have b2 := d1; have b3 := d9; have b1 := e0; have b7 := e1; have a0 := e5; have a4 := f0; have HB := f1; clear b5 b6 d1 d9 e0 e1 e5 f0 f1; clear hb h0; obtain ⟨l6, l7, m2⟩ := Kd.R_slice b7.out; subst m2) | ((with_reducible refine gate_callee (f := 47) rfl ?_); refine goesL_ (some 21) rfl rfl Try.func47 (by kernel_rfl) rfl #[.agg #[.int .i64 2, .slice d4 a7.length d2, .slice d8 a8.length d5], .slice l6 j2.length l7] rfl (by (try simp only [List.map_toArray, List.map_cons, List.map_nil]); first | done | rfl | (simp only [List.length_drop, List.length_take]; rfl)) ?_; (with_reducible refine (Pxg.calls k 2 _ _ a7 _ _ a8 _ _ j2 b9 d3 d6 g1 _ ?i2 ?i3 ?i4 ?i5 ?k4 ?k5 A2.out).mono ?_); (case i2 => repeat (first | exact (Kd.R_reads' a3.out).2.2 | (with_reducible refine Kd.C_alloc ?_ _) | (with_reducible refine Kd.C_drewN ?_ _) | (with_reducible refine Kd.C_drew ?_))); (case i3 => exact (Kd.R_reads' a3.out).2.1); (case i4 => repeat (first | exact (Kd.R_reads' a6.out).2.2 | (with_reducible refine Kd.C_alloc ?_ _) | (with_reducible refine Kd.C_drewN ?_ _) | (with_reducible refine Kd.C_drew ?_))); (case i5 => exact (Kd.R_reads' a6.out).2.1); (case k4 => repeat (first | exact (Kd.R_reads' b7.out).2.2 | (with_reducible refine Kd.C_alloc ?_ _) | (with_reducible refine Kd.C_drewN ?_ _) | (with_reducible refine Kd.C_drew ?_))); (case k5 => exact (Kd.R_reads' b7.out).2.1); rintro e u5 ⟨t8, t9, rfl, h5, h6, hb⟩; refine ⟨_, rfl, ?_⟩; have b5 := Aside0.mk (Kd.R_elder' (rz a3.out) (Kd.R_base h5) hb); have b6 := Aside0.mk (Kd.R_elder' (rz a6.out) (Kd.R_base h6) hb); have d1 := Aside0.mk (Kd.R_elder' (rz b2.out) (Kd.R_base h5) hb); have d9 := Aside0.mk (Kd.R_elder' (rz b3.out) (Kd.R_base h6) hb); have e0 := Aside0.mk (Kd.R_below (rz b1.out) hb); have e1 := Aside0.mk (Kd.R_below (rz b7.out) hb); have e5 := Aside0.mk (Kd.R_lower (Kd.R_new' (Kd.R_new' h5 (Kd.R_lt (rz a3.out))) (Kd.R_lt (rz b2.out))) (below_size (wz HB.out))); have f0 := Aside0.mk (Kd.R_lower (Kd.R_new' (Kd.R_new' h6 (Kd.R_lt (rz a6.out))) (Kd.R_lt (rz b3.out))) (below_size (wz HB.out))); have f1 := Aside0.mk (blk_below (bz a0.out) hb); have g0 := Aside0.mk (blk_below (bz a4.out) hb); have e6 := Aside0.mk (below_step (wz HB.out) hb); clear a3; clear a6; clear b2; clear b3; clear b1; clear b7; clear a0; clear a4; clear HB; have a3 := b5; have a6 := b6; have b2 := d1; have b3 := d9; have b1 := e0; have b7 := e1; have e3 := e5; have e4 := f0; have a0 := f1; have a4 := g0; have HB := e6; clear b5 b6 d1 d9 e0 e1 e5 f0 f1 g0 e6; (try clear hb); (try clear l4); (try clear hk); (try clear hi); (try clear h5); (try clear h6)) | ((with_reducible refine gate_dst (N := 5) rfl ?_); (try (refine gate_guard (by rfl) ?_; dsimp only)); refine box_event ?hg (N := 5) ?hd (cs := #[.int .i64 0, .slice none 0 0, .slice none 0 0]) (t := 25) ?hr ?_; (case hd => rfl); (case hg => rfl); (case hr => first | (go_simp; done) | (go_simp; rfl)); intro a1 hg i0 hbox hb; have b5 := Aside0.mk (Kd.R_below (rz a3.out) hb); have b6 := Aside0.mk (Kd.R_below (rz a6.out) hb); have d1 := Aside0.mk (Kd.R_below (rz b2.out) hb); have d9 := Aside0.mk (Kd.R_below (rz b3.out) hb); have e0 := Aside0.mk (Kd.R_below (rz b1.out) hb); have e1 := Aside0.mk (Kd.R_below (rz b7.out) hb); have e5 := Aside0.mk (Kd.R_below (rz e3.out) hb); have f0 := Aside0.mk (Kd.R_below (rz e4.out) hb); have f1 := Aside0.mk (blk_below (bz a0.out) hb); have g0 := Aside0.mk (blk_below (bz a4.out) hb); have e6 := Aside0.mk (below_step (wz HB.out) hb); have f9 := Aside0.mk (hbox); have g3 := Aside0.mk ((by rw [hg]; exact (below_size (wz HB.out)) : w.heap.size ≤ a1)); have j7 := Aside0.mk ((by rw [hg]; exact (below_size (wz HB.out)) : w.heap.size ≤ a1)); have j8 := Aside0.mk ((by rw [hg]; exact Nat.ne_of_lt (blk_lt (g := a2) (o := .cells #[.int .i64 2, .slice d4 a7.length d2, .slice d8 a8.length d5] 25 (0, 0)) (bz a0.out)) : a2 ≠ a1)); have j9 := Aside0.mk ((by rw [hg]; exact Nat.ne_of_gt (blk_lt (g := a2) (o := .cells #[.int .i64 2, .slice d4 a7.length d2, .slice d8 a8.length d5] 25 (0, 0)) (bz a0.out)) : a1 ≠ a2)); have k0 := Aside0.mk ((by rw [hg]; exact Nat.ne_of_lt (blk_lt (g := a5) (o := .cells #[.int .i64 b4, .slice f2 e9.length f4, .slice f6 b8.length f8] 25 (0, 0)) (bz a4.out)) : a5 ≠ a1)); have k1 := Aside0.mk ((by rw [hg]; exact Nat.ne_of_gt (blk_lt (g := a5) (o := .cells #[.int .i64 b4, .slice f2 e9.length f4, .slice f6 b8.length f8] 25 (0, 0)) (bz a4.out)) : a1 ≠ a5)); clear a3; clear a6; clear b2; clear b3; clear b1; clear b7; clear e3; clear e4; clear a0; clear a4; clear HB; have a3 := b5; have a6 := b6; have b2 := d1; have b3 := d9; have b1 := e0; have b7 := e1; have e3 := e5; have e4 := f0; have a0 := f1; have a4 := g0; have HB := e6; have a9 := f9; have r4 := g3; have r1 := j7; have h3 := j8; have i8 := j9; have h4 := k0; have i9 := k1; clear b5 b6 d1 d9 e0 e1 e5 f0 f1 g0 e6 f9 g3 j7 j8 j9 k0 k1; clear hb hbox hg; have r6 := i8.out; have r9 := h3.out; have r7 := i9.out; have s0 := h4.out; have n6 : i0.cell? ⟨a1, 0, none⟩ = some (.int .i64 0) := bcz a9 0 rfl; have n7 : i0.cell? ⟨a1, 1, none⟩ = some (.slice none 0 0) := bcz a9 1 rfl; have n8 : i0.cell? ⟨a1, 2, none⟩ = some (.slice none 0 0) := bcz a9 2 rfl; have p7 := blk_frozen a9.out 0; have p8 := blk_frozen a9.out 1; have p9 := blk_frozen a9.out 2; obtain ⟨e7, e8, m3⟩ := Kd.R_slice e3.out; subst m3; obtain ⟨f3, f5, m4⟩ := Kd.R_slice e4.out; subst m4; have n9 : i0.cell? ⟨a5, 0, none⟩ = some (.int .i64 b4) := bcz a4 0 rfl; have o0 : i0.cell? ⟨a5, 1, none⟩ = some (.slice f2 e9.length f4) := bcz a4 1 rfl; have o1 : i0.cell? ⟨a5, 2, none⟩ = some (.slice f6 b8.length f8) := bcz a4 2 rfl; have q0 := blk_frozen a4.out 0; have q1 := blk_frozen a4.out 1; have q2 := blk_frozen a4.out 2) | ((with_reducible refine gate_dst (N := 39) rfl ?_); (try (refine gate_guard (by rfl) ?_; dsimp only)); refine Kd.R_lit (Kd.int .i64) _ 3 ?hg (N := 39) ?hd (xs := ([0, 0] : List Int)) (inner := [.int .i64 0, .int .i64 0]) (ok := fun _ => True) (okp := fun _ => True) ?hr ?hp (fun _ hk => hk) trivial (Below.refl _ _) (Nat.le_refl _) (by simp) ?_; (case hd => rfl); (case hg => rfl); (case hr => first | (go_simp; done) | (go_simp; rfl)); (case hp => exact (Reps.one (show Kd.M (Kd.int .i64) _ _ _ 0 [.int .i64 0] from rfl) (Reps.one (show Kd.M (Kd.int .i64) _ _ _ 0 [.int .i64 0] from rfl) (Reps.none _ _)))); intro u0 i1 g5 hb hg_ hnew_; clear hg_ hnew_; (first | rw [← j6.out] at g5 | (simp only [Int.reduceToNat] at g5; rw [← j6.out] at g5)); have b5 := Aside0.mk (Kd.R_below (rz (Kd.R_mono (Kd.R_far (p := ⟨a1, 2, none⟩) (Kd.R_far (p := ⟨a1, 1, none⟩) (Kd.R_far (p := ⟨a1, 0, none⟩) (Kd.R_types a3.out a9.out (by decide)) (fun _ hk => hk.2) (.int .i64 b9)) (fun _ hk => hk.2) (.slice e7 d3.length e8)) (fun _ hk => hk.2) (.slice f3 d6.length f5)) (fun _ h_ => h_.1))) hb); have b6 := Aside0.mk (Kd.R_below (rz (Kd.R_mono (Kd.R_far (p := ⟨a1, 2, none⟩) (Kd.R_far (p := ⟨a1, 1, none⟩) (Kd.R_far (p := ⟨a1, 0, none⟩) (Kd.R_types a6.out a9.out (by decide)) (fun _ hk => hk.2) (.int .i64 b9)) (fun _ hk => hk.2) (.slice e7 d3.length e8)) (fun _ hk => hk.2) (.slice f3 d6.length f5)) (fun _ h_ => h_.1))) hb); have d1 := Aside0.mk (Kd.R_below (rz (Kd.R_mono (Kd.R_far (p := ⟨a1, 2, none⟩) (Kd.R_far (p := ⟨a1, 1, none⟩) (Kd.R_far (p := ⟨a1, 0, none⟩) (Kd.R_types b2.out a9.out (by decide)) (fun _ hk => hk.2) (.int .i64 b9)) (fun _ hk => hk.2) (.slice e7 d3.length e8)) (fun _ hk => hk.2) (.slice f3 d6.length f5)) (fun _ h_ => h_.1))) hb); have d9 := Aside0.mk (Kd.R_below (rz (Kd.R_mono (Kd.R_far (p := ⟨a1, 2, none⟩) (Kd.R_far (p := ⟨a1, 1, none⟩) (Kd.R_far (p := ⟨a1, 0, none⟩) (Kd.R_types b3.out a9.out (by decide)) (fun _ hk => hk.2) (.int .i64 b9)) (fun _ hk => hk.2) (.slice e7 d3.length e8)) (fun _ hk => hk.2) (.slice f3 d6.length f5)) (fun _ h_ => h_.1))) hb); have e0 := Aside0.mk (Kd.R_elder' (rz (Kd.R_mono (Kd.R_far (p := ⟨a1, 2, none⟩) (Kd.R_far (p := ⟨a1, 1, none⟩) (Kd.R_far (p := ⟨a1, 0, none⟩) (Kd.R_types b1.out a9.out (by decide)) (fun _ hk => hk.2) (.int .i64 b9)) (fun _ hk => hk.2) (.slice e7 d3.length e8)) (fun _ hk => hk.2) (.slice f3 d6.length f5)) (fun _ h_ => h_.1))) (Kd.R_base g5) hb); have e1 := Aside0.mk (Kd.R_elder' (rz (Kd.R_mono (Kd.R_far (p := ⟨a1, 2, none⟩) (Kd.R_far (p := ⟨a1, 1, none⟩) (Kd.R_far (p := ⟨a1, 0, none⟩) (Kd.R_types b7.out a9.out (by decide)) (fun _ hk => hk.2) (.int .i64 b9)) (fun _ hk => hk.2) (.slice e7 d3.length e8)) (fun _ hk => hk.2) (.slice f3 d6.length f5)) (fun _ h_ => h_.1))) (Kd.R_base g5) hb); have e5 := Aside0.mk (Kd.R_below (rz (Kd.R_mono (Kd.R_far (p := ⟨a1, 2, none⟩) (Kd.R_far (p := ⟨a1, 1, none⟩) (Kd.R_far (p := ⟨a1, 0, none⟩) (Kd.R_types e3.out a9.out (by decide)) (fun _ hk => hk.2) (.int .i64 b9)) (fun _ hk => hk.2) (.slice e7 d3.length e8)) (fun _ hk => hk.2) (.slice f3 d6.length f5)) (fun _ h_ => h_.1))) hb); have f0 := Aside0.mk (Kd.R_below (rz (Kd.R_mono (Kd.R_far (p := ⟨a1, 2, none⟩) (Kd.R_far (p := ⟨a1, 1, none⟩) (Kd.R_far (p := ⟨a1, 0, none⟩) (Kd.R_types e4.out a9.out (by decide)) (fun _ hk => hk.2) (.int .i64 b9)) (fun _ hk => hk.2) (.slice e7 d3.length e8)) (fun _ hk => hk.2) (.slice f3 d6.length f5)) (fun _ h_ => h_.1))) hb); have f1 := Aside0.mk (Kd.R_lower (Kd.R_new' (Kd.R_new' g5 (Kd.R_lt (rz (Kd.R_mono (Kd.R_far (p := ⟨a1, 2, none⟩) (Kd.R_far (p := ⟨a1, 1, none⟩) (Kd.R_far (p := ⟨a1, 0, none⟩) (Kd.R_types b1.out a9.out (by decide)) (fun _ hk => hk.2) (.int .i64 b9)) (fun _ hk => hk.2) (.slice e7 d3.length e8)) (fun _ hk => hk.2) (.slice f3 d6.length f5)) (fun _ h_ => h_.1))))) (Kd.R_lt (rz (Kd.R_mono (Kd.R_far (p := ⟨a1, 2, none⟩) (Kd.R_far (p := ⟨a1, 1, none⟩) (Kd.R_far (p := ⟨a1, 0, none⟩) (Kd.R_types b7.out a9.out (by decide)) (fun _ hk => hk.2) (.int .i64 b9)) (fun _ hk => hk.2) (.slice e7 d3.length e8)) (fun _ hk => hk.2) (.slice f3 d6.length f5)) (fun _ h_ => h_.1))))) (below_size (wz HB.out))); have g0 := Aside0.mk (blk_below (g := a2) (o := .cells #[.int .i64 2, .slice d4 a7.length d2, .slice d8 a8.length d5] 25 (0, 0)) (fz a0.out h3.out) hb); have e6 := Aside0.mk (blk_below (g := a5) (o := .cells #[.int .i64 b4, .slice f2 e9.length f4, .slice f6 b8.length f8] 25 (0, 0)) (fz a4.out h4.out) hb); have f9 := Aside0.mk (blk_below (g := a1) (o := .cells #[.int .i64 b9, .slice e7 d3.length e8, .slice f3 d6.length f5] 25 (0, 0)) (by (with_reducible repeat (first | refine blk_drewN ?_ _ | refine blk_drew ?_ | refine blk_alloc ?_ _)); refine blk_put (cs := #[.int .i64 b9, .slice e7 d3.length e8, .slice none 0 0]) ?_ 2 _ rfl; (with_reducible repeat (first | refine blk_drewN ?_ _ | refine blk_drew ?_ | refine blk_alloc ?_ _)); refine blk_put (cs := #[.int .i64 b9, .slice none 0 0, .slice none 0 0]) ?_ 1 _ rfl; (with_reducible repeat (first | refine blk_drewN ?_ _ | refine blk_drew ?_ | refine blk_alloc ?_ _)); refine blk_put (cs := #[.int .i64 0, .slice none 0 0, .slice none 0 0]) ?_ 0 _ rfl; (with_reducible repeat (first | refine blk_drewN ?_ _ | refine blk_drew ?_ | refine blk_alloc ?_ _)); exact a9.out) hb); have g3 := Aside0.mk (below_step (wz HB.out) hb); clear a3; clear a6; clear b2; clear b3; clear b1; clear b7; clear e3; clear e4; clear a0; clear a4; clear a9; clear HB; have a3 := b5; have a6 := b6; have b2 := d1; have b3 := d9; have b1 := e0; have b7 := e1; have e3 := e5; have e4 := f0; have g4 := f1; have a0 := g0; have a4 := e6; have a9 := f9; have HB := g3; clear b5 b6 d1 d9 e0 e1 e5 f0 f1 g0 e6 f9 g3; clear hb g5; obtain ⟨s3, s5, m5⟩ := Kd.R_slice b1.out; subst m5; obtain ⟨s4, s6, m6⟩ := Kd.R_slice g4.out; subst m6) | (go_at_call 21; (with_reducible refine (Pr01b.calls k _ _ h1 _ _ k3 true _ ?i2 ?i3 ?i4 ?i5 A6.out).mono ?_); (case i2 => repeat (first | exact (Kd.R_reads' b1.out).2.2 | (with_reducible refine Kd.C_alloc ?_ _) | (with_reducible refine Kd.C_drewN ?_ _) | (with_reducible refine Kd.C_drew ?_))); (case i3 => exact (Kd.R_reads' b1.out).2.1); (case i4 => repeat (first | exact (Kd.R_reads' g4.out).2.2 | (with_reducible refine Kd.C_alloc ?_ _) | (with_reducible refine Kd.C_drewN ?_ _) | (with_reducible refine Kd.C_drew ?_))); (case i5 => exact (Kd.R_reads' g4.out).2.1); rintro e w' ⟨rfl, ⟨nd, rfl⟩⟩; have o2 : i1.cell? ⟨a1, 0, none⟩ = some (.int .i64 b9) := bcz a9 0 rfl; have o3 : i1.cell? ⟨a1, 1, none⟩ = some (.slice e7 d3.length e8) := bcz a9 1 rfl; have o4 : i1.cell? ⟨a1, 2, none⟩ = some (.slice f3 d6.length f5) := bcz a9 2 rfl; have q3 := blk_frozen a9.out 0; have q4 := blk_frozen a9.out 1; have q5 := blk_frozen a9.out 2; have o5 : i1.cell? ⟨a2, 0, none⟩ = some (.int .i64 2) := bcz a0 0 rfl; have o6 : i1.cell? ⟨a2, 1, none⟩ = some (.slice d4 a7.length d2) := bcz a0 1 rfl; have o7 : i1.cell? ⟨a2, 2, none⟩ = some (.slice d8 a8.length d5) := bcz a0 2 rfl; have q6 := blk_frozen a0.out 0; have q7 := blk_frozen a0.out 1; have q8 := blk_frozen a0.out 2) | (go_at_call 44; (with_reducible refine (Pr26a.calls k b9 _ _ d3 _ _ d6 2 _ _ a7 _ _ a8 d0 _ ?i2 ?i3 ?i4 ?i5 ?k4 ?k5 ?s1 ?s2 A9.out).mono ?_); (case i2 => repeat (first | exact (Kd.R_reads' e3.out).2.2 | (with_reducible refine Kd.C_alloc ?_ _) | (with_reducible refine Kd.C_drewN ?_ _) | (with_reducible refine Kd.C_drew ?_))); (case i3 => exact (Kd.R_reads' e3.out).2.1); (case i4 => repeat (first | exact (Kd.R_reads' e4.out).2.2 | (with_reducible refine Kd.C_alloc ?_ _) | (with_reducible refine Kd.C_drewN ?_ _) | (with_reducible refine Kd.C_drew ?_))); (case i5 => exact (Kd.R_reads' e4.out).2.1); (case k4 => repeat (first | exact (Kd.R_reads' a3.out).2.2 | (with_reducible refine Kd.C_alloc ?_ _) | (with_reducible refine Kd.C_drewN ?_ _) | (with_reducible refine Kd.C_drew ?_))); (case k5 => exact (Kd.R_reads' a3.out).2.1); (case s1 => repeat (first | exact (Kd.R_reads' a6.out).2.2 | (with_reducible refine Kd.C_alloc ?_ _) | (with_reducible refine Kd.C_drewN ?_ _) | (with_reducible refine Kd.C_drew ?_))); (case s2 => exact (Kd.R_reads' a6.out).2.1); rintro e u6 ⟨rfl, hb⟩; have b5 := Aside0.mk (Kd.R_below (rz a3.out) hb); have b6 := Aside0.mk (Kd.R_below (rz a6.out) hb); have d1 := Aside0.mk (Kd.R_below (rz b2.out) hb); have d9 := Aside0.mk (Kd.R_below (rz b3.out) hb); have e0 := Aside0.mk (Kd.R_below (rz b1.out) hb); have e1 := Aside0.mk (Kd.R_below (rz b7.out) hb); have e5 := Aside0.mk (Kd.R_below (rz e3.out) hb); have f0 := Aside0.mk (Kd.R_below (rz e4.out) hb); have f1 := Aside0.mk (Kd.R_below (rz g4.out) hb); have g0 := Aside0.mk (blk_below (bz a0.out) hb); have e6 := Aside0.mk (blk_below (bz a4.out) hb); have f9 := Aside0.mk (blk_below (bz a9.out) hb); have g3 := Aside0.mk (below_step (wz HB.out) hb); clear a3; clear a6; clear b2; clear b3; clear b1; clear b7; clear e3; clear e4; clear g4; clear a0; clear a4; clear a9; clear HB; have a3 := b5; have a6 := b6; have b2 := d1; have b3 := d9; have b1 := e0; have b7 := e1; have e3 := e5; have e4 := f0; have g4 := f1; have a0 := g0; have a4 := e6; have a9 := f9; have HB := g3; clear b5 b6 d1 d9 e0 e1 e5 f0 f1 g0 e6 f9 g3; (try clear hb); (try clear l4); (try clear hk); (try clear hi)))
      go_ret
      exact ⟨by first | rfl | (simp [errW_none, errW_some] <;> rfl) | (simp [*, errW_none, errW_some] <;> rfl), wz HB.out⟩
     ·rw [if_neg c8] at H;have c8b0 : (g1 == 0) = false := beq_eq_false_iff_ne.mpr c8;have c8b1 : (g1 != 0) = true := bne_iff_ne.mpr c8;obtain rfl := Option.some.inj H;exact absurd hr_.out (by decide)
    ·replace c7 := Bool.eq_false_iff.mpr c7;subst c7;have H1 : (some false) = some r := by rw [if_neg (show ¬ (false = true) by decide)] at H; exact H
     clear H;have H := H1;clear H1;obtain rfl := Option.some.inj H;exact absurd hr_.out (by decide)
   ·rw [if_neg c5] at H;have c5b0 : ((b8.length : Int) == 1) = false := beq_eq_false_iff_ne.mpr c5;have c5b1 : ((b8.length : Int) != 1) = true := bne_iff_ne.mpr c5;obtain rfl := Option.some.inj H;exact absurd hr_.out (by decide)
  ·rw [if_neg c4] at H;have c4b0 : (b4 == 1) = false := beq_eq_false_iff_ne.mpr c4;have c4b1 : (b4 != 1) = true := bne_iff_ne.mpr c4;obtain rfl := Option.some.inj H;exact absurd hr_.out (by decide)
 ·rw [if_neg c3] at H;have c3b0 : (g2 == 0) = false := beq_eq_false_iff_ne.mpr c3;have c3b1 : (g2 != 0) = true := bne_iff_ne.mpr c3;obtain rfl := Option.some.inj H;exact absurd hr_.out (by decide)
end Go.Proofs.Ytmcbkmfpmcbdpaa.Pr
set_option linter.unusedVariables false
set_option linter.unusedSimpArgs false
namespace Go.Proofs.Ytmcbkmfpmcbdpaa.H
open Go.RowKit Go.Proofs.Ytmcbkmfpmcbdpaa.Pr Go.Proofs.YtmcbkmfpmcbdpaaW.PrintWords Go.Proofs.Ytmcbkmfpmcbdpaa.Sem
theorem Ev.pos {α : Type} {c : Prop} [Decidable c] {a b : Nat → Option α} {r : α} (h : c) (e : Ev a r) : Ev (fun k => if c then a k else b k) r := by
 simp only [if_pos h]
 exact e
theorem Ev.neg {α : Type} {c : Prop} [Decidable c] {a b : Nat → Option α} {r : α} (h : ¬ c) (e : Ev b r) : Ev (fun k => if c then a k else b k) r := by
 simp only [if_neg h]
 exact e
theorem Ev.some_ {α : Type} {a : Nat → Option α} {r : α} (h : ∀ k, a k = some r) : Ev a r := ⟨0, fun k _ => h k⟩
theorem Ev.bindS {α β : Type} {g : Option α} {f : Nat → α → Option β} {a : α} {r : β} (h : g = some a) (k : Ev (fun n => f n a) r) : Ev (fun n => g.bind (f n)) r := by
 subst h
 simpa using k
theorem Ev.last {α : Type} {g : Nat → Option α} {r : α} (h : Ev g r) : Ev (fun n => (g n).bind fun t => some t) r := by
 obtain ⟨K, h⟩ := h
 exact ⟨K, fun k hk => by simp [h k hk]⟩
theorem w1 {i : Int} (h0 : 0 ≤ i) (h1 : i < 4611686018427387904) : wrap64 (i + 1) = i + 1 := by unfold wrap64; omega
theorem w1n {k : Nat} (h1 : (k : Int) < 4611686018427387904) : wrap64 ((k : Int) + 1) = ((k + 1 : Nat) : Int) := by unfold wrap64; omega
theorem take_snocD {α : Type} (d : α) {xs : List α} {k : Nat} (hk : k < xs.length) : xs.take (k + 1) = xs.take k ++ [xs.getD k d] := take_snoc d hk
end Go.Proofs.Ytmcbkmfpmcbdpaa.H
set_option linter.unusedVariables false
set_option linter.unusedSimpArgs false
namespace Go.Proofs.Ytmcbkmfpmcbdpaa.H
open Go.RowKit Go.Proofs.Ytmcbkmfpmcbdpaa.Pr Go.Proofs.YtmcbkmfpmcbdpaaW.PrintWords Go.Proofs.Ytmcbkmfpmcbdpaa.Sem Go.Proofs.Ytmcbkmfpmcbdpaa.PL
def slt (a b : ByteArray) : Prop := a.data.toList < b.data.toList
instance : DecidableRel slt := fun a b => by unfold slt; infer_instance
theorem slt_tr (a b c : ByteArray) (h1 : slt a b) (h2 : slt b c) : slt a c := List.lt_trans h1 h2
end Go.Proofs.Ytmcbkmfpmcbdpaa.H
set_option linter.unusedVariables false
set_option linter.unusedSimpArgs false
namespace Go.Proofs.Ytmcbkmfpmcbdpaa.H
open Go.RowKit Go.Proofs.Ytmcbkmfpmcbdpaa.Pr Go.Proofs.YtmcbkmfpmcbdpaaW.PrintWords Go.Proofs.Ytmcbkmfpmcbdpaa.Sem Go.Proofs.Ytmcbkmfpmcbdpaa.PL
theorem may_of {n : Int} {ls : List ByteArray} {es : List Ed} (h1 : 1 ≤ n ∧ n ≤ 2048) (h2 : ls.length ≤ 64) (h3 : ls.Pairwise slt) (h4 : ∀ s ∈ ls, s.size ≤ 200) (h5 : es.length ≤ 1000000) (h6 : es.Pairwise elt) (h7 : ∀ e ∈ es, (0 ≤ e.f0 ∧ e.f0 < n) ∧ (0 ≤ e.f2 ∧ e.f2 < n) ∧ 0 ≤ e.f1 ∧ e.f1 < (ls.length : Int)) : mayR n ls es = true := by
 unfold mayR
 simp only [Bool.and_eq_true, decide_eq_true_eq, List.all_eq_true, List.mem_range]
 refine ⟨h1.1, h1.2, h2, h5, fun k hk => ?_, fun k hk => ?_⟩
 ·unfold labAt tooLong
  simp only [Bool.and_eq_true, Bool.not_eq_true', decide_eq_false_iff_not, Bool.or_eq_true, decide_eq_true_eq]
  refine ⟨?_, ?_⟩
  ·rw [getD_get hk]
   have := h4 _ (List.getElem_mem hk)
   omega
  ·rcases Nat.eq_zero_or_pos k with q | q
   ·exact .inl q
   ·right
    rw [getD_get hk, getD_get (show k - 1 < ls.length by omega), bytesLess_lt, decide_eq_true_eq, ByteArray.toList_eq, ByteArray.toList_eq]
    exact List.pairwise_iff_getElem.1 h3 (k - 1) k (by omega) hk (by omega)
 ·unfold okAt'
  simp only [Bool.and_eq_true, decide_eq_true_eq, Bool.or_eq_true]
  have hm := h7 _ (List.getElem_mem hk)
  rw [getD_get hk]
  refine ⟨hm.1, hm.2.1, hm.2.2.1, hm.2.2.2, ?_⟩
  rcases Nat.eq_zero_or_pos k with q | q
  ·exact .inl q
  ·right
   rw [getD_get (show k - 1 < es.length by omega)]
   exact List.pairwise_iff_getElem.1 h6 (k - 1) k (by omega) hk (by omega)
theorem may_lab {n : Int} {ls : List ByteArray} {es : List Ed} (h : mayR n ls es = true) : ls.length ≤ 64 ∧ ∀ s ∈ ls, s.size ≤ 200 := by
 unfold mayR at h
 simp only [Bool.and_eq_true, decide_eq_true_eq, List.all_eq_true, List.mem_range] at h
 refine ⟨h.2.2.1, fun s hs => ?_⟩
 obtain ⟨k, hk, rfl⟩ := List.getElem_of_mem hs
 have := h.2.2.2.2.1 k hk
 unfold labAt tooLong at this
 simp only [Bool.and_eq_true, Bool.not_eq_true', decide_eq_false_iff_not] at this
 have := this.1
 rw [getD_get hk] at this
 omega
theorem may_rise {n : Int} {ls : List ByteArray} {es : List Ed} (h : mayR n ls es = true) : ls.Pairwise slt := by
 unfold mayR at h
 simp only [Bool.and_eq_true, decide_eq_true_eq, List.all_eq_true, List.mem_range] at h
 have step : ∀ k, 0 < k → (hk : k < ls.length) → slt (ls[k - 1]'(by omega)) ls[k] := by
  intro k h0 hk
  have := h.2.2.2.2.1 k hk
  unfold labAt at this
  simp only [Bool.and_eq_true, Bool.or_eq_true, decide_eq_true_eq] at this
  rcases this.2 with q | q
  ·omega
  ·rw [getD_get hk, getD_get (show k - 1 < ls.length by omega), bytesLess_lt, decide_eq_true_eq, ByteArray.toList_eq, ByteArray.toList_eq] at q
   exact q
 rw [List.pairwise_iff_getElem]
 intro i j hi hj hij
 induction j with
 | zero => omega
 | succ j ih =>
  have hs := step (j + 1) (by omega) hj
  rcases Nat.lt_succ_iff_lt_or_eq.1 hij with q | rfl
  ·exact slt_tr _ _ _ (ih (by omega) q) hs
  ·exact hs
theorem may_edge {n : Int} {ls : List ByteArray} {es : List Ed} (h : mayR n ls es = true) : ∀ e ∈ es, (0 ≤ e.f0 ∧ e.f0 < n) ∧ (0 ≤ e.f2 ∧ e.f2 < n) ∧ 0 ≤ e.f1 ∧ e.f1 < (ls.length : Int) := fun e he => by
 obtain ⟨k, hk, rfl⟩ := List.getElem_of_mem he
 have := lt_ok h hk
 unfold okAt' at this
 simp only [Bool.and_eq_true, decide_eq_true_eq] at this
 rw [getD_get hk] at this
 exact ⟨this.1, this.2.1, this.2.2.1, this.2.2.2.1⟩
end Go.Proofs.Ytmcbkmfpmcbdpaa.H
