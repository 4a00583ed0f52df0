/-
  Parts of the proof of WeakOf (joined by wip/tools/bundle.py), part 5: plain words and walks of the functions that the law reaches.
-/
import Derived.Test.YtmcbkmfpmcbdpaaZWeakOf4
set_option linter.unusedVariables false
set_option linter.unusedSimpArgs false
set_option linter.unusedSectionVars false
namespace Go.Proofs.Ytmcbkmfpmcbdpaa.H
open Go.RowKit Go.Proofs.Ytmcbkmfpmcbdpaa.Pr Go.Proofs.YtmcbkmfpmcbdpaaW.PrintWords Go.Proofs.Ytmcbkmfpmcbdpaa.Sem Go.Proofs.YtmcbkmfpmcbdpaaW.PrintLast
theorem wpList_gdel {α : Type} [DecidableEq α] {P : Program} {k : TypeId} {mk : α → Value} {lt : α → Lit} {ok : α → Prop} (w : World) {ops : Array Oper} {rest : List Oper} {o : Oper} {a : Act} {Q : Exit → Act → World → Prop} (B : KB P k mk lt ok) (hg : o.guard = none) (x y : Operand) (t : TypeId)
  (hop : o.op = Op.call { callee := Callee.builtin Builtin.delete, args := #[x, y], argTypes := #[t, k] }) (e : TypeId) (ht : P.underlying t = some (.map k e)) (m c : Nat) (f : α → Option Value) (hm : a.eval x = .map (some m)) (h : GM P k lt ok w m f c) (b : α) (hb : ok b) (hy : a.eval y = mk b)
  (hK : ∀ w' c', c' ≤ c → GM P k lt ok w' m (delM f b) c' → w.grownBy w' (some m) → w'.heap.size = w.heap.size → wpList P ops Q rest (a.put o.dst (.tuple #[])) w') :
  wpList P ops Q (o :: rest) a w := by
 refine wpList_plain hg fun K' hK' => ?_
 obtain ⟨w', hrun, ⟨c', hc, r1⟩, r2, r3⟩ := h.del B hb ht o.type
 unfold Oper.wp
 simp [execOp, hop, resolve, invoke, builtin, hm, hy, hrun, Result.andThen]
 exact hK' _ _ (hK w' c' hc r1 r2 r3)
theorem IR.one (w : World) (base : Nat) (cls : Nat → Cl) (c : Cl) (y : Int) (hb : base ≤ w.heap.size) : IR (w.alloc (.cells #[.int .i64 y] 3)) base (up cls (slV (some ⟨w.heap.size, 0, none⟩, 1, 1)) c) c (slV (some ⟨w.heap.size, 0, none⟩, 1, 1)) [y] := by
 have h := World.ownsRow_lit (base := base) (e := 3) (size := 1) w #[.int .i64 y] 1 hb (by unfold maxLen; omega) rfl
 exact Kd.R_of_own (enc := Value.int .i64) (xs := [y]) h fun k hk => up_self hk
theorem two_of {l : List Int} (h : 2 ≤ l.length) : ∃ x y r, l = x :: y :: r := by
 match l, h with
 | x :: y :: r, _ => exact ⟨x, y, r, rfl⟩
set_option maxHeartbeats 16000000 in
set_option maxRecDepth 100000 in
theorem take_any {T n : Nat} {v1 v2 : Value} {s : Sg} {p : PSt} {wt : Int → Bool} {cls : Nat → Cl} (w0 w : World) (hS : SP w0.heap.size T w cls s) (hD : Std n v1 v2 s p) (hP : PW n p) (hW : StdW s wt) (hWt : Wt p wt) (hne : ∃ h, wt h = true) (hn : n ≤ 2048) (hB : Below w0.heap.size w0 w) :
    Calls Try.prog 150 #[.pointer (some ⟨T, 0, none⟩)] w fun e w' => ∃ old a : Nat, e = .returned (.tuple #[.int .i64 (p.heaps.length : Int), .int .i64 (old : Int)]) ∧ old < p.heaps.length ∧ a < (gl p.heaps (old : Int)).length ∧ 2 ≤ (gl p.heaps (old : Int)).length ∧
      ∃ s' cls' wt', SP w0.heap.size T w' cls' s' ∧ Std n v1 v2 s' (takeP p (old : Int) a) ∧ StdW s' wt' ∧ Wt (takeP p (old : Int) a) wt' ∧ Same0 s s' ∧ Fr w w' cls cls' (fun _ => False) ∧ Below w0.heap.size w0 w' := by
  have t9 := hS.cell 9 _ (by rw [hD.tc]; rfl);have HS := Aside0.mk hS;have HD := Aside0.mk hD;have HP := Aside0.mk hP;have HW := Aside0.mk hW;have HWt := Aside0.mk hWt;have HN := Aside0.mk hne;have HB := Aside0.mk hB;have HMw := Aside0.mk ((hS .mw).2.1);clear hS hD hP hW hWt hne hB;go_enter Try.func150, Try.ntmps150
  go_wp2_with (at_range; refine wpList_grange _ intKB rfl _ 88 rfl 3 Try.underlying88 s.mW s.cW s.fW rfl HMw.out ?_; intro w1 hgr hg hsz)
  go_frame
  clear t9;have HGr := Aside0.mk hgr;have j3 := Aside0.mk (show Below w.heap.size w w1 from (Below.refl _ _).grown hg (Nat.le_refl _) (fun k e => by cases e));clear hgr hg hsz;go_loopw [3, 4] (fun v3 v4 wr => Aside0 (wr = w1)) (fun _ _ _ => 0)
  case atStart => exact ⟨rfl⟩
  case round =>
    obtain ⟨rfl⟩ := hrel;go_wp2_with (at_next; refine wpList_gnext _ intKB rfl _ rfl s.mW w.heap.size s.fW _ s.cW rfl HGr.out ?_ ?_)
    · intro o2 n9
      exfalso
      obtain ⟨h, hh⟩ := HN.out;have hnd := ((HWt.out h).1 hh).1;have hi : i64in h := by unfold i64in; have := hnd.1; have := hnd.2; have := HP.out.nh_le; have := HP.out.nb_le; omega
      have h1 := n9 h hi;have h2 := HW.out h hi;rw [hh] at h2;rw [h2] at h1
      cases h1
    · intro y v w2 o1 hy hly hfy n5 hlt l9 hsz hen
      have hwy : wt y = true := by
        have h2 := HW.out y hy;rw [hfy] at h2
        cases hq : wt y with
        | true => rfl
        | false => rw [hq] at h2; cases h2
      have l3 := (HWt.out y).1 hwy;obtain ⟨old, rfl, holdn⟩ := l3.1.nat;have i8 := l3.2;have j6 := Aside0.mk (j3.out.grown l9 j3.out.size (fun k e => by cases e; exact Nat.le_refl _));have HS2 := Aside0.mk (HS.out.below j6.out);have l5 := Aside0.mk (Fr.same (cls1 := cls) (D := fun _ => False) (Kept.of_below j6.out _) fun _ _ => rfl);have j7 := Aside0.mk (below_then HB.out HB.out.size j6.out);have hnh := HP.out.nh_le;have hnb := HP.out.nb_le;clear n5 hlt l9 hsz hly hfy hwy l3 HGr j3 HMw HS;have hhs : s.hs.length = p.heaps.length := by rw [HD.out.hs, HD.out.hl]
      obtain ⟨gS, cS, hvS, hcS⟩ := HS2.out.slice (HS2.out .hs) (by rw [hhs]; omega);rw [hhs] at hvS;have t7 := HS2.out.cell 7 s.vHs (by rw [HD.out.tc]; rfl);rw [hvS] at t7;obtain ⟨q7, f7⟩ := hcS old (by rw [hhs]; exact holdn)
      have hRl : IR w2 w0.heap.size cls (.hro old) (slV (s.hsl.getD old nilL)) (gl p.heaps (old : Int)) := by
        have : IR w2 w0.heap.size cls (.hro old) (slV (s.hsl.getD old nilL)) (s.heaps.getD old []) := HS2.out (.hro old) (by rw [HD.out.hl]; exact holdn);rw [HD.out.heaps] at this;exact this
      obtain ⟨x0, x1, rr, hl⟩ := two_of i8;obtain ⟨L, hL⟩ : ∃ L, L = gl p.heaps (old : Int) := ⟨_, rfl⟩
      rw [← hL] at hRl hl i8;obtain ⟨gL, cL, hvL, hcL⟩ := IR.slice hRl (by omega);have q7' : w2.cell? ⟨gS, old, none⟩ = some (.slice (some ⟨gL, 0, none⟩) L.length cL) := by rw [q7, HD.out.hs, hvL]
      have b0 : Nd p.blocks.length x0 := ((HP.out.hm (old : Int) (nd_iff.2 holdn) x0).1 (by rw [← hL, hl]; simp)).1;have b1 : Nd p.blocks.length x1 := ((HP.out.hm (old : Int) (nd_iff.2 holdn) x1).1 (by rw [← hL, hl]; simp)).1;obtain ⟨y0, rfl, y0n⟩ := b0.nat;obtain ⟨y1, rfl, y1n⟩ := b1.nat;have l0 : w2.cell? ⟨gL, 0, none⟩ = some (.int .i64 (y0 : Int)) := by rw [(hcL 0 (by omega)).1, hl]; rfl
      have l1 : w2.cell? ⟨gL, 1, none⟩ = some (.int .i64 (y1 : Int)) := by rw [(hcL 1 (by omega)).1, hl]; rfl
      have hLl : L.length ≤ p.blocks.length := by rw [hL]; exact HP.out.len_h (nd_iff.2 holdn)
      have HRl := Aside0.mk hRl;have HVl := Aside0.mk hvL;have HL := Aside0.mk (And.intro hL hl);have HVS := Aside0.mk (And.intro hvS (And.intro hhs f7));clear hRl hvL hL hl hcL hvS hhs f7 hcS q7 b0 b1;have k2 : (1 : Int) < (L.length : Int) := by omega
      have k3 : (0 : Int) < (L.length : Int) := by omega
      have k4 : 0 < L.length := by omega
      have k5 : 1 < L.length := by omega
      have hbs : s.bs.length = p.blocks.length := by rw [HD.out.bs, HD.out.bl]
      obtain ⟨gQ, cQ, hvQ, hcQ⟩ := HS2.out.slice (HS2.out .bs) (by rw [hbs]; omega);rw [hbs] at hvQ;have t5 := HS2.out.cell 5 s.vBs (by rw [HD.out.tc]; rfl);rw [hvQ] at t5
      have hro : ∀ y : Nat, y < p.blocks.length → ∃ A c, w2.cell? ⟨gQ, y, none⟩ = some (.slice A (gl p.blocks (y : Int)).length c) := fun y hy => by
        have h1 : IR w2 w0.heap.size cls (.bro y) (slV (s.bsl.getD y nilL)) (s.blocks.getD y []) := HS2.out (.bro y) (by rw [HD.out.bl]; exact hy);rw [HD.out.blocks] at h1;obtain ⟨A, c, h2, _⟩ := Kd.R_reads h1;refine ⟨A, c, ?_⟩;rw [(hcQ y (by rw [hbs]; exact hy)).1, HD.out.bs, h2];rfl
      obtain ⟨A0, c0, r0⟩ := hro y0 y0n;obtain ⟨A1, c1, r1⟩ := hro y1 y1n;obtain ⟨n0, m1⟩ : ∃ n0, n0 = (gl p.blocks (y0 : Int)).length := ⟨_, rfl⟩
      obtain ⟨n1, m2⟩ : ∃ n1, n1 = (gl p.blocks (y1 : Int)).length := ⟨_, rfl⟩
      rw [← m1] at r0;rw [← m2] at r1;clear hbs hvQ hcQ hro m1 m2;have a6 := below_drew1 (Below.refl w2.heap.size w2);have HS4 := Aside0.mk (HS2.out.below a6);have e6 := Aside0.mk (l5.out.step (cls2 := cls) (Kept.of_below a6 _) fun _ _ _ e _ => e);have b7 := Aside0.mk (below_then j7.out j7.out.size a6);have e3 := Aside0.mk (Kd.R_below HRl.out a6);go_wp2_with fail
      refine start_ (n := 21) (S := fun w' => w'.cell? ⟨T, 5, none⟩ = some (.slice (some ⟨gQ, 0, none⟩) p.blocks.length cQ) ∧ w'.cell? ⟨gL, 1, none⟩ = some (.int .i64 (y1 : Int)) ∧ w'.cell? ⟨gQ, y1, none⟩ = some (.slice A1 n1 c1) ∧ w'.cell? ⟨gL, 0, none⟩ = some (.int .i64 (y0 : Int)) ∧ w'.cell? ⟨gQ, y0, none⟩ = some (.slice A0 n0 c0)) (ds := []) (bqz 21 0) (by kernel_rfl) rfl rfl ⟨t5, l1, r1, l0, r0⟩ (fun hHeld => ?_);have c7 : w2.drew.cell? ⟨T, 7, none⟩ = _ := t7;have c8 : w2.drew.cell? ⟨gS, old, none⟩ = _ := q7';have e0 : w2.drew.cell? ⟨gL, 0, none⟩ = _ := l0;have e1 : w2.drew.cell? ⟨gL, 1, none⟩ = _ := l1;clear t5 l1 r1 l0 r0 t7 q7';generalize w2.drew = V at HS4 e6 b7 e3 c7 c8 e0 e1 hHeld ⊢;refine pqz 0 (some 25) (bqz 21 1) rfl rfl (by kernel_rfl) ?_ ?_ (fun _ _ _ h => h) (by rfl) ?_ ?_ ?_;rotate_left 2;intro w';go_simp;(with_reducible rfl);simp only [Act.put, qz1, qz2, qz3, i64_w, i32_w];rfl
      refine pqz 1 (some 26) (bqz 21 3) rfl rfl (by kernel_rfl) ?_ ?_ (fun _ _ _ h => h) (by rfl) ?_ ?_ ?_;rotate_left 2;intro w';go_simp;(with_reducible rfl);simp only [Act.put, qz1, qz2, qz3, i64_w, i32_w];rfl
      refine pqz 2 (some 27) (bqz 21 7) rfl rfl (by kernel_rfl) ?_ ?_ (fun _ _ _ h => h) (by rfl) ?_ ?_ ?_;rotate_left 2;intro w';go_simp;(with_reducible rfl);simp only [Act.put, qz1, qz2, qz3, i64_w, i32_w];rfl
      refine pqz 4 (some 29) (bqz 21 23) rfl rfl (by kernel_rfl) ?_ ?_ (fun _ _ _ h => h) (by rfl) ?_ ?_ ?_;rotate_left 2;intro w';go_simp;(with_reducible rfl);simp only [Act.put, qz1, qz2, qz3, i64_w, i32_w];rfl
      refine pqz 5 (some 30) (bqz 21 55) rfl rfl (by kernel_rfl) ?_ ?_ (fun _ _ _ h => h) (by rfl) ?_ ?_ ?_;rotate_left 2;intro w';go_simp;(with_reducible rfl);simp only [Act.put, qz1, qz2, qz3, i64_w, i32_w];rfl
      refine pqz 10 (some 35) (bqz 21 1079) rfl rfl (by kernel_rfl) ?_ ?_ (fun _ _ _ h => h) (by rfl) ?_ ?_ ?_;rotate_left 2;intro w';go_simp;(with_reducible rfl);simp only [Act.put, qz1, qz2, qz3, i64_w, i32_w];rfl
      refine pqz 11 (some 36) (bqz 21 3127) rfl rfl (by kernel_rfl) ?_ ?_ (fun _ _ _ h => h) (by rfl) ?_ ?_ ?_;rotate_left 2;intro w';go_simp;(with_reducible rfl);simp only [Act.put, qz1, qz2, qz3, i64_w, i32_w];rfl
      refine pqz 12 (some 37) (bqz 21 7223) rfl rfl (by kernel_rfl) ?_ ?_ (fun _ _ _ h => h) (by rfl) ?_ ?_ ?_;rotate_left 2;intro w';go_simp;(with_reducible rfl);simp only [Act.put, qz1, qz2, qz3, i64_w, i32_w];rfl
      refine pqz 14 (some 39) (bqz 21 23607) rfl rfl (by kernel_rfl) ?_ ?_ (fun _ _ _ h => h) (by rfl) ?_ ?_ ?_;rotate_left 2;intro w';go_simp;(with_reducible rfl);simp only [Act.put, qz1, qz2, qz3, i64_w, i32_w];rfl
      refine pqz 15 (some 40) (bqz 21 56375) rfl rfl (by kernel_rfl) ?_ ?_ (fun _ _ _ h => h) (by rfl) ?_ ?_ ?_;rotate_left 2;intro w';go_simp;(with_reducible rfl);simp only [Act.put, qz1, qz2, qz3, i64_w, i32_w];rfl
      refine tqz 3 (some 28) (bqz 21 56383) rfl rfl (by kernel_rfl) ?_ ?_ (fun _ _ _ h => h) (by rfl) ?_ hHeld ?_ ?_;rotate_left 2;rintro w' ⟨s0, s1, s2, s3, s4⟩;go_simp;(with_reducible rfl);simp only [Act.put, qz1, qz2, qz3, i64_w, i32_w];rfl
      refine tqz 6 (some 31) (bqz 21 56447) rfl rfl (by kernel_rfl) ?_ ?_ (fun _ _ _ h => h) (by rfl) ?_ hHeld ?_ ?_;rotate_left 2;rintro w' ⟨s0, s1, s2, s3, s4⟩;go_simp;(with_reducible rfl);simp only [Act.put, qz1, qz2, qz3, i64_w, i32_w];rfl
      refine pqz 7 (some 32) (bqz 21 56575) rfl rfl (by kernel_rfl) ?_ ?_ (fun _ _ _ h => h) (by rfl) ?_ ?_ ?_;rotate_left 2;intro w';go_simp;(with_reducible rfl);simp only [Act.put, qz1, qz2, qz3, i64_w, i32_w];rfl
      refine tqz 8 (some 33) (bqz 21 56831) rfl rfl (by kernel_rfl) ?_ ?_ (fun _ _ _ h => h) (by rfl) ?_ hHeld ?_ ?_;rotate_left 2;rintro w' ⟨s0, s1, s2, s3, s4⟩;go_simp;(with_reducible rfl);simp only [Act.put, qz1, qz2, qz3, i64_w, i32_w];rfl
      refine pqz 9 (some 34) (bqz 21 57343) rfl rfl (by kernel_rfl) ?_ ?_ (fun _ _ _ h => h) (by rfl) ?_ ?_ ?_;rotate_left 2;intro w';go_simp;(with_reducible rfl);simp only [Act.put, qz1, qz2, qz3, i64_w, i32_w];rfl
      refine tqz 13 (some 38) (bqz 21 65535) rfl rfl (by kernel_rfl) ?_ ?_ (fun _ _ _ h => h) (by rfl) ?_ hHeld ?_ ?_;rotate_left 2;rintro w' ⟨s0, s1, s2, s3, s4⟩;go_simp;(with_reducible rfl);simp only [Act.put, qz1, qz2, qz3, i64_w, i32_w];rfl
      refine tqz 16 (some 41) (bqz 21 131071) rfl rfl (by kernel_rfl) ?_ ?_ (fun _ _ _ h => h) (by rfl) ?_ hHeld ?_ ?_;rotate_left 2;rintro w' ⟨s0, s1, s2, s3, s4⟩;go_simp;(with_reducible rfl);simp only [Act.put, qz1, qz2, qz3, i64_w, i32_w];rfl
      refine pqz 17 (some 42) (bqz 21 262143) rfl rfl (by kernel_rfl) ?_ ?_ (fun _ _ _ h => h) (by rfl) ?_ ?_ ?_;rotate_left 2;intro w';go_simp;(with_reducible rfl);simp only [Act.put, qz1, qz2, qz3, i64_w, i32_w];rfl
      refine tqz 18 (some 43) (bqz 21 524287) rfl rfl (by kernel_rfl) ?_ ?_ (fun _ _ _ h => h) (by rfl) ?_ hHeld ?_ ?_;rotate_left 2;rintro w' ⟨s0, s1, s2, s3, s4⟩;go_simp;(with_reducible rfl);simp only [Act.put, qz1, qz2, qz3, i64_w, i32_w];rfl
      refine pqz 19 (some 44) (bqz 21 1048575) rfl rfl (by kernel_rfl) ?_ ?_ (fun _ _ _ h => h) (by rfl) ?_ ?_ ?_;rotate_left 2;intro w';go_simp;(with_reducible rfl);simp only [Act.put, qz1, qz2, qz3, i64_w, i32_w];rfl
      refine pqz 20 (some 45) (bqz 21 2097151) rfl rfl (by kernel_rfl) ?_ ?_ (fun _ _ _ h => h) (by rfl) ?_ ?_ ?_;rotate_left 2;intro w';go_simp;(with_reducible rfl);simp only [Act.put, qz1, qz2, qz3, i64_w, i32_w];rfl
      refine done_ (by kernel_rfl) ?_;clear a6 hHeld HS2 l5 j7 HRl
      have hcl : L.length ≤ cL := by
        have h1 := Kd.R_reads' (show Kd.R (Kd.int .i64) 3 V w0.heap.size (fun k => cls k = .hro old) (.slice (some ⟨gL, 0, none⟩) L.length cL) L by rw [← HVl.out]; exact e3.out);exact h1.2.1
      go_upto_if 45 with (fail)
      go_cut [6] (fun v6 wc => ∃ a : Nat, v6 = .int .i64 (a : Int) ∧ Aside0 (a = 0 ∨ a = 1) ∧ Aside0 (wc = V))
      case first =>
        by_cases h1p : n1 < n0
        · have h1 : decide ((n1 : Int) < (n0 : Int)) = true := by simp; omega
          have h1n : decide (n1 < n0) = true := by simp; omega
          go_wp2
          go_meet
          case rel => exact ⟨1, rfl, ⟨.inr rfl⟩, ⟨rfl⟩⟩
        · have h1 : decide ((n1 : Int) < (n0 : Int)) = false := by simp; omega
          have h1n : decide (n1 < n0) = false := by simp; omega
          go_wp2
          go_meet
          case rel => exact ⟨0, rfl, ⟨.inl rfl⟩, ⟨rfl⟩⟩
      case rest =>
        obtain ⟨a, rfl, HAa, ⟨hwc⟩⟩ := hcut;subst hwc
        have HY : ∃ y : Nat, wc.cell? ⟨gL, a, none⟩ = some (.int .i64 (y : Int)) ∧ y < p.blocks.length ∧ L.getD a 0 = (y : Int) := by
          rcases HAa.out with e | e
          · subst e; exact ⟨y0, e0, y0n, by rw [HL.out.2]; rfl⟩
          · subst e; exact ⟨y1, e1, y1n, by rw [HL.out.2]; rfl⟩
        obtain ⟨y, ey, yn, hyL⟩ := HY;have HYL := Aside0.mk hyL;have n7 : a < L.length := by rcases HAa.out with e | e <;> omega
        have n8 : (a : Int) < (L.length : Int) := by omega
        clear hyL e0 e1;go_upto_region 10 with (fail)
        go_cut [] (fun wc => ∃ (A7 : Option Addr) (c7 : Nat) (r7 : Sl) (a2 : Nat → Cl) (s8 : Sg), Aside0 (SP w0.heap.size T wc a2 s8) ∧ Aside0 (s8 = { s with hs := s.hs.set old r7, hsl := s.hsl.set old r7, heaps := s.heaps.set old (L.eraseIdx a) }) ∧ Aside0 (Fr w wc cls a2 fun _ => False) ∧ Aside0 (Below w0.heap.size w0 wc) ∧ Aside0 (wc.cell? ⟨gS, old, none⟩ = some (.slice A7 (L.length - 1) c7)))
        case first =>
          clear ey n7 n8;have htest : a = 0 ∨ (a = 1 ∧ ¬ cL = 1 + 1) ∨ (a = 1 ∧ cL = 1 + 1) := by rcases HAa.out with e | e <;> omega
          rcases htest with e | ⟨e, i7⟩ | ⟨e, i7⟩
          · subst e
            rw [show ((0 : Nat) : Int) = 0 from rfl];have l2 : ¬ cL = 1 := by omega
            have l8 : 1 ≤ cL := by omega
            have m0 : 1 ≤ L.length := by omega
            have hc1z : (1 : Int) ≤ (cL : Int) := by omega
            have hc2z : (2 : Int) ≤ (cL : Int) := by omega
            have hl1z : (1 : Int) ≤ (L.length : Int) := by omega
            have hl2z : (2 : Int) ≤ (L.length : Int) := by omega
            have m5 : wrap64 1 = 1 := by unfold wrap64; omega
            have m6 : wrap64 2 = 2 := by unfold wrap64; omega
            have hdrop : ∀ W, Kd.R (Kd.int .i64) 3 W w0.heap.size (fun k => cls k = .hro old) (.slice (some ⟨gL, 0, none⟩) L.length cL) L → (Kd.int .i64).C W (some ⟨gL, 1, none⟩) (L.length - 1) (L.drop 1) := fun W h => by
              have h2 := Kd.Q_reads' (Kd.Q_drop (k := 1) (Kd.Q_of_R h) (by omega));have h3 := h2.2.2;rw [← h2.1] at h3
              first
                | rwa [if_pos (by omega)] at h3
                | (rw [if_neg (by omega)] at h3
                   exact h3)
            have HDr := Aside0.mk hdrop;clear hdrop;have a6 := below_drew1 (Below.refl wc.heap.size wc);have HS5 := Aside0.mk (HS4.out.below a6);have b6 := Aside0.mk (e6.out.step (cls2 := cls) (Kept.of_below a6 _) fun _ _ _ e _ => e);have b8 := Aside0.mk (below_then b7.out b7.out.size a6);have d1 := Aside0.mk (Kd.R_below e3.out a6);have d7 : wc.drew.cell? ⟨T, 7, none⟩ = _ := c7;have d8 : wc.drew.cell? ⟨gS, old, none⟩ = _ := c8;clear a6 HS4 e6 b7 e3 c7 c8;refine start_ (n := 17) (S := fun w' => w'.cell? ⟨T, 7, none⟩ = some (.slice (some ⟨gS, 0, none⟩) p.heaps.length cS) ∧ w'.cell? ⟨gS, old, none⟩ = some (.slice (some ⟨gL, 0, none⟩) L.length cL)) (ds := [16]) (bqz 17 0) (by kernel_rfl) rfl rfl ⟨d7, d8⟩ (fun hHeld => ?_);clear d7 d8;generalize wc.drew = U at HS5 b6 b8 d1 hHeld ⊢;have HH := Aside0.mk hHeld;refine pqz 0 (some 50) (bqz 17 1) rfl rfl (by kernel_rfl) ?_ ?_ (fun _ _ _ h => h) (by rfl) ?_ ?_ ?_;rotate_left 2;intro w';go_simp;(with_reducible rfl);simp only [Act.put, qz1, qz2, qz3, i64_w, i32_w];rfl
            refine pqz 1 (some 51) (bqz 17 3) rfl rfl (by kernel_rfl) ?_ ?_ (fun _ _ _ h => h) (by rfl) ?_ ?_ ?_;rotate_left 2;intro w';go_simp;(with_reducible rfl);simp only [Act.put, qz1, qz2, qz3, i64_w, i32_w];rfl
            refine pqz 2 (some 52) (bqz 17 7) rfl rfl (by kernel_rfl) ?_ ?_ (fun _ _ _ h => h) (by rfl) ?_ ?_ ?_;rotate_left 2;intro w';go_simp;(with_reducible rfl);simp only [Act.put, qz1, qz2, qz3, i64_w, i32_w];rfl
            refine pqz 4 (some 54) (bqz 17 23) rfl rfl (by kernel_rfl) ?_ ?_ (fun _ _ _ h => h) (by rfl) ?_ ?_ ?_;rotate_left 2;intro w';go_simp;(with_reducible rfl);simp only [Act.put, qz1, qz2, qz3, i64_w, i32_w];rfl
            refine pqz 6 (some 56) (bqz 17 87) rfl rfl (by kernel_rfl) ?_ ?_ (fun _ _ _ h => h) (by rfl) ?_ ?_ ?_;rotate_left 2;intro w';go_simp;(with_reducible rfl);simp only [Act.put, qz1, qz2, qz3, i64_w, i32_w];rfl
            refine pqz 7 (some 57) (bqz 17 215) rfl rfl (by kernel_rfl) ?_ ?_ (fun _ _ _ h => h) (by rfl) ?_ ?_ ?_;rotate_left 2;intro w';go_simp;(with_reducible rfl);simp only [Act.put, qz1, qz2, qz3, i64_w, i32_w];rfl
            refine pqz 8 (some 58) (bqz 17 471) rfl rfl (by kernel_rfl) ?_ ?_ (fun _ _ _ h => h) (by rfl) ?_ ?_ ?_;rotate_left 2;intro w';go_simp;(with_reducible rfl);simp only [Act.put, qz1, qz2, qz3, i64_w, i32_w];rfl
            refine pqz 10 (some 60) (bqz 17 1495) rfl rfl (by kernel_rfl) ?_ ?_ (fun _ _ _ h => h) (by rfl) ?_ ?_ ?_;rotate_left 2;intro w';go_simp;(with_reducible rfl);simp only [Act.put, qz1, qz2, qz3, i64_w, i32_w];rfl
            refine pqz 11 (some 61) (bqz 17 3543) rfl rfl (by kernel_rfl) ?_ ?_ (fun _ _ _ h => h) (by rfl) ?_ ?_ ?_;rotate_left 2;intro w';go_simp;(with_reducible rfl);simp only [Act.put, qz1, qz2, qz3, i64_w, i32_w];rfl
            refine pqz 12 (some 62) (bqz 17 7639) rfl rfl (by kernel_rfl) ?_ ?_ (fun _ _ _ h => h) (by rfl) ?_ ?_ ?_;rotate_left 2;intro w';go_simp;(with_reducible rfl);simp only [Act.put, qz1, qz2, qz3, i64_w, i32_w];rfl
            refine pqz 13 (some 63) (bqz 17 15831) rfl rfl (by kernel_rfl) ?_ ?_ (fun _ _ _ h => h) (by rfl) ?_ ?_ ?_;rotate_left 2;intro w';go_simp;(with_reducible rfl);simp only [Act.put, qz1, qz2, qz3, i64_w, i32_w];rfl
            refine tqz 3 (some 53) (bqz 17 15839) rfl rfl (by kernel_rfl) ?_ ?_ (fun _ _ _ h => h) (by rfl) ?_ hHeld ?_ ?_;rotate_left 2;rintro w' ⟨s0, s1⟩;go_simp;(with_reducible rfl);simp only [Act.put, qz1, qz2, qz3, i64_w, i32_w];rfl
            refine one_ (i := 5) (N := some 55) (bqz 17 15871) rfl rfl (by kernel_rfl) (by decide) (fun K hK => ?_);refine Kd.R_lit_step (Kd.int .i64) (w0 := w0) w0.heap.size 3 (by rfl) (N := 55) rfl (xs := ([] : List Int)) (inner := []) (okp := fun _ => False) (ok := fun k => U.heap.size ≤ k) ?hr ⟨rfl, fun j p h => by simp at h⟩ (fun _ hk => hk.elim) (Nat.le_refl _) b8.out b8.out.size (by simp) ?_
            (case hr => first | (go_simp; done) | (go_simp; rfl))
            intro v5 w5 ho hb hg hat;obtain ⟨A5, c5, h5⟩ := Kd.R_slice ho;subst h5;have a0 := Aside0.mk (show Below U.heap.size U w5 from ⟨hg.os, hg.tape, hg.output, hg.size, fun k hk => hg.block k hk (by simp)⟩);have e7 := Aside0.mk ho;have e4 := Aside0.mk hb;clear ho hb hg hat;refine hK.out _ _ ⟨later a0.out HH.out.1, later a0.out HH.out.2⟩ (fun hHeld => ?_);clear hK K;refine norm_ (a' := ?_) ?_ ?_;rotate_left
            · show Act.put _ (some 55) _ = _
              simp only [Act.put, qz1, qz2, qz3, i64_w, i32_w];rfl
            refine one_ (i := 9) (N := some 59) (bqz 17 16383) rfl rfl (by kernel_rfl) (by decide) (fun K hK => ?_);have d2 := Kd.R_below d1.out a0.out;rw [HVl.out] at d2;have hT := Kd.R_take d2 (m := 0) (by omega);have hC := (Kd.R_reads' hT).2.2;rw [← (Kd.R_reads' hT).1] at hC;refine Kd.R_append_rows_step (Kd.int .i64) (Rr := (Kd.int .i64).K w5) (w0 := w0) w0.heap.size (by rfl) (.tmp 55) (.tmp 58) 28 3 (.int .i64 0) 8 rfl Try.underlying28 infoI rfl (by decide) (by omega) (.slice A5 ([] : List Int).length c5) [] (L.take 0) (some ⟨gL, 0, none⟩) 0 cL (fun k => U.heap.size ≤ k) (fun _ => False) rfl rfl e7.out hC (fun _ _ h => h) (fun _ hk => hk.elim) (fun _ hk => Nat.le_trans a0.out.size hk) e4.out e4.out.size (by simp) ?_;intro v6 w6 ho hb hg hat;obtain ⟨A6, c6, f2⟩ := Kd.R_slice ho;rw [List.nil_append] at ho f2;subst f2;have a1 := Aside0.mk (a0.out.grown hg a0.out.size (fun k hk => e7.out.1 k hk));have e8 := Aside0.mk ho;have e5 := Aside0.mk hb;clear ho hb hg hat hC hT d2;refine hK.out _ _ ⟨later a1.out HH.out.1, later a1.out HH.out.2⟩ (fun hHeld => ?_);clear hK K;refine norm_ (a' := ?_) ?_ ?_;rotate_left
            · show Act.put _ (some 59) _ = _
              simp only [Act.put, qz1, qz2, qz3, i64_w, i32_w];rfl
            refine one_ (i := 14) (N := some 64) (bqz 17 32767) rfl rfl (by kernel_rfl) (by decide) (fun K hK => ?_);have d3 := Kd.R_below d1.out a1.out;rw [HVl.out] at d3;have hC := HDr.out _ d3;refine Kd.R_append_rows_step (Kd.int .i64) (Rr := (Kd.int .i64).K w6) (w0 := w0) w0.heap.size (by rfl) (.tmp 59) (.tmp 63) 28 3 (.int .i64 0) 8 rfl Try.underlying28 infoI rfl (by decide) (by omega) (.slice A6 (L.take 0).length c6) (L.take 0) (L.drop 1) (some ⟨gL, 1, none⟩) (L.length - 1) (cL-1) (fun k => U.heap.size ≤ k) (fun _ => False) rfl rfl e8.out hC (fun _ _ h => h) (fun _ hk => hk.elim) (fun _ hk => Nat.le_trans a1.out.size hk) e5.out e5.out.size (by rw [List.length_take]; omega) ?_;intro v7 w7 ho hb hg hat;rw [← List.eraseIdx_eq_take_drop_succ] at ho;obtain ⟨A7, c7, a7⟩ := Kd.R_slice ho;rw [List.length_eraseIdx_of_lt (by omega)] at a7;subst a7;have a5 := Aside0.mk (a1.out.grown hg a1.out.size (fun k hk => e8.out.1 k hk));have f0 := Aside0.mk ho;have g8 := Aside0.mk hb;have f7 : w7.frozen? ⟨gS, old, none⟩ = false := by obtain ⟨cs, hcs⟩ := Kd.R_typed (HS5.out .hs) gS (by rw [HVS.out.1]; rfl); exact blk_frozen ((a5.out.block gS (blk_lt hcs)).trans hcs)
            clear ho hb hg hat hC d3;refine hK.out _ _ ⟨later a5.out HH.out.1, later a5.out HH.out.2⟩ (fun hHeld => ?_);clear hK K;refine norm_ (a' := ?_) ?_ ?_;rotate_left
            · show Act.put _ (some 64) _ = _
              simp only [Act.put, qz1, qz2, qz3, i64_w, i32_w];rfl
            refine pqz 15 (some 65) (bqz 17 65535) rfl rfl (by kernel_rfl) ?_ ?_ (fun _ _ _ h => h) (by rfl) ?_ ?_ ?_;rotate_left 2;intro w';go_simp;(with_reducible rfl);simp only [Act.put, qz1, qz2, qz3, i64_w, i32_w];rfl
            refine last_ (i := 16) (N := none) (bqz 17 131071) rfl rfl (by kernel_rfl) (by decide) (fun K hK => ?_);refine skip_ (w1 := ?_) (by rfl) rfl ?_ ?_;rotate_left
            · go_simp
              rfl
            refine hK.out _ _ ?_;clear hK K;refine done_ (by kernel_rfl) ?_;have a8 : ∀ k, (slV (A7, L.length - 1, c7)).ownBlock = some k → U.heap.size ≤ k := f0.out.1;obtain ⟨r7, d5⟩ : ∃ r7 : Sl, r7 = (A7, L.length - 1, c7) := ⟨_, rfl⟩
            rw [← d5] at a8;have hup : ∀ k, k < U.heap.size → up cls (slV r7) (.far 7000) k = cls k := fun k hk => up_ne fun e => by have := a8 k e; omega
            have h0 : IR w7 w0.heap.size (up cls (slV r7) (.far 7000)) (.far 7000) (slV r7) (L.eraseIdx 0) := R_up rfl (by rw [d5]; exact f0.out);have HS7 := HS5.out.stay (cls' := up cls (slV r7) (.far 7000)) (Kept.of_below a5.out _) fun k hk _ => hup k hk
            have g9 := b6.out.step (cls2 := up cls (slV r7) (.far 7000)) (Kept.of_below a5.out _) fun k hk j e _ => by rw [hup k (Nat.lt_of_lt_of_le hk b6.out.kept.1)]; exact e
            have a3 := HS7.setHs (by rw [HVS.out.2.1]; exact HVS.out.1) old r7 (L.eraseIdx 0) h0 (by rw [HD.out.hl]; exact holdn) (by rw [HD.out.heaps, HD.out.hl]);obtain ⟨w8, b3⟩ : ∃ w8, w8 = w7.setCell ⟨gS, old, none⟩ (.slice A7 (L.length - 1) c7) := ⟨_, rfl⟩
            have a7 : slV r7 = .slice A7 (L.length - 1) c7 := by rw [d5]; rfl
            rw [a7, ← b3] at a3;have hgc : up cls (slV r7) (.far 7000) gS = .hs := HS7.rowHs _ HVS.out.1 gS rfl;have b4 := Aside0.mk (g9.step (w2 := w8) (cls2 := up (up cls (slV r7) (.far 7000)) (slV r7) (.hro old)) (by rw [b3]; exact (Kept.refl _ _).setCell (.inl (.inl (by show (up cls (slV r7) (.far 7000) gS).own = true; rw [hgc]; rfl))) _) fun k hk j e _ => by rw [up_ne fun e2 => by have := a8 k e2; have := b6.out.kept.1; omega]; exact e);have HB9' := Aside0.mk (show Below w0.heap.size w0 w8 by rw [b3]; exact below_set g8.out (Kd.R_base (HS7 .hs) gS (by rw [HVS.out.1]; rfl)));rw [← b3];obtain ⟨a2, d4⟩ : ∃ a2, a2 = up (up cls (slV r7) (.far 7000)) (slV r7) (.hro old) := ⟨_, rfl⟩
            rw [← a7, ← d4] at a3;rw [← d4] at b4;obtain ⟨s8, a4⟩ : ∃ s8 : Sg, s8 = { s with hs := s.hs.set old r7, hsl := s.hsl.set old r7, heaps := s.heaps.set old (L.eraseIdx 0) } := ⟨_, rfl⟩
            rw [← a4] at a3;have t7 : w8.cell? ⟨T, 7, none⟩ = some (.slice (some ⟨gS, 0, none⟩) p.heaps.length cS) := by rw [a3.cell 7 s.vHs (by rw [a4]; show s.tc[7]? = _; rw [HD.out.tc]; rfl), HVS.out.1]
            have q7 : w8.cell? ⟨gS, old, none⟩ = some (.slice A7 (L.length - 1) c7) := by
              obtain ⟨g', c', e', hc'⟩ := a3.slice (a3 .hs) (by rw [a4]; show 0 < (s.hs.set old r7).length; rw [List.length_set, HVS.out.2.1]; omega);rw [show s8.vHs = .slice (some ⟨gS, 0, none⟩) p.heaps.length cS by rw [a4]; exact HVS.out.1] at e';simp only [Value.slice.injEq, Option.some.injEq, Addr.mk.injEq] at e';obtain ⟨⟨rfl, _⟩, _⟩ := e';have h := (hc' old (by rw [a4]; show old < (s.hs.set old r7).length; rw [List.length_set, HVS.out.2.1]; exact holdn)).1;rw [h, a4];show some (slV ((s.hs.set old r7).getD old nilL)) = _;rw [gD_set _ _ _ _ _ (by rw [HVS.out.2.1]; exact holdn), if_pos rfl, a7]
            have t9 : w8.cell? ⟨T, 9, none⟩ = some (.map (some s.mW)) := a3.cell 9 _ (by rw [a4]; show s.tc[9]? = _; rw [HD.out.tc]; rfl);have HS8 := Aside0.mk a3;have b2 := Aside0.mk a4;(try clear i7);go_wp2_with fail
            go_meet
            case rel =>
              first
                | exact ⟨A7, c7, r7, a2, s8, HS8, b2, b4, HB9', ⟨q7⟩⟩
                | (rw [← b3]; exact ⟨A7, c7, r7, a2, s8, HS8, b2, b4, HB9', ⟨q7⟩⟩)
          · subst e
            rw [show ((1 : Nat) : Int) = 1 from rfl];have l2 : ¬ cL = 1 := by omega
            have l8 : 1 ≤ cL := by omega
            have m0 : 1 ≤ L.length := by omega
            have hc1z : (1 : Int) ≤ (cL : Int) := by omega
            have hc2z : (2 : Int) ≤ (cL : Int) := by omega
            have hl1z : (1 : Int) ≤ (L.length : Int) := by omega
            have hl2z : (2 : Int) ≤ (L.length : Int) := by omega
            have m5 : wrap64 1 = 1 := by unfold wrap64; omega
            have m6 : wrap64 2 = 2 := by unfold wrap64; omega
            have hdrop : ∀ W, Kd.R (Kd.int .i64) 3 W w0.heap.size (fun k => cls k = .hro old) (.slice (some ⟨gL, 0, none⟩) L.length cL) L → (Kd.int .i64).C W (some ⟨gL, 2, none⟩) (L.length - 2) (L.drop 2) := fun W h => by
              have h2 := Kd.Q_reads' (Kd.Q_drop (k := 2) (Kd.Q_of_R h) (by omega));have h3 := h2.2.2;rw [← h2.1] at h3
              first
                | rwa [if_pos (by omega)] at h3
                | (rw [if_neg (by omega)] at h3
                   exact h3)
            have HDr := Aside0.mk hdrop;clear hdrop;have a6 := below_drew1 (Below.refl wc.heap.size wc);have HS5 := Aside0.mk (HS4.out.below a6);have b6 := Aside0.mk (e6.out.step (cls2 := cls) (Kept.of_below a6 _) fun _ _ _ e _ => e);have b8 := Aside0.mk (below_then b7.out b7.out.size a6);have d1 := Aside0.mk (Kd.R_below e3.out a6);have d7 : wc.drew.cell? ⟨T, 7, none⟩ = _ := c7;have d8 : wc.drew.cell? ⟨gS, old, none⟩ = _ := c8;clear a6 HS4 e6 b7 e3 c7 c8;refine start_ (n := 17) (S := fun w' => w'.cell? ⟨T, 7, none⟩ = some (.slice (some ⟨gS, 0, none⟩) p.heaps.length cS) ∧ w'.cell? ⟨gS, old, none⟩ = some (.slice (some ⟨gL, 0, none⟩) L.length cL)) (ds := [16]) (bqz 17 0) (by kernel_rfl) rfl rfl ⟨d7, d8⟩ (fun hHeld => ?_);clear d7 d8;generalize wc.drew = U at HS5 b6 b8 d1 hHeld ⊢;have HH := Aside0.mk hHeld;refine pqz 0 (some 50) (bqz 17 1) rfl rfl (by kernel_rfl) ?_ ?_ (fun _ _ _ h => h) (by rfl) ?_ ?_ ?_;rotate_left 2;intro w';go_simp;(with_reducible rfl);simp only [Act.put, qz1, qz2, qz3, i64_w, i32_w];rfl
            refine pqz 1 (some 51) (bqz 17 3) rfl rfl (by kernel_rfl) ?_ ?_ (fun _ _ _ h => h) (by rfl) ?_ ?_ ?_;rotate_left 2;intro w';go_simp;(with_reducible rfl);simp only [Act.put, qz1, qz2, qz3, i64_w, i32_w];rfl
            refine pqz 2 (some 52) (bqz 17 7) rfl rfl (by kernel_rfl) ?_ ?_ (fun _ _ _ h => h) (by rfl) ?_ ?_ ?_;rotate_left 2;intro w';go_simp;(with_reducible rfl);simp only [Act.put, qz1, qz2, qz3, i64_w, i32_w];rfl
            refine pqz 4 (some 54) (bqz 17 23) rfl rfl (by kernel_rfl) ?_ ?_ (fun _ _ _ h => h) (by rfl) ?_ ?_ ?_;rotate_left 2;intro w';go_simp;(with_reducible rfl);simp only [Act.put, qz1, qz2, qz3, i64_w, i32_w];rfl
            refine pqz 6 (some 56) (bqz 17 87) rfl rfl (by kernel_rfl) ?_ ?_ (fun _ _ _ h => h) (by rfl) ?_ ?_ ?_;rotate_left 2;intro w';go_simp;(with_reducible rfl);simp only [Act.put, qz1, qz2, qz3, i64_w, i32_w];rfl
            refine pqz 7 (some 57) (bqz 17 215) rfl rfl (by kernel_rfl) ?_ ?_ (fun _ _ _ h => h) (by rfl) ?_ ?_ ?_;rotate_left 2;intro w';go_simp;(with_reducible rfl);simp only [Act.put, qz1, qz2, qz3, i64_w, i32_w];rfl
            refine pqz 8 (some 58) (bqz 17 471) rfl rfl (by kernel_rfl) ?_ ?_ (fun _ _ _ h => h) (by rfl) ?_ ?_ ?_;rotate_left 2;intro w';go_simp;(with_reducible rfl);simp only [Act.put, qz1, qz2, qz3, i64_w, i32_w];rfl
            refine pqz 10 (some 60) (bqz 17 1495) rfl rfl (by kernel_rfl) ?_ ?_ (fun _ _ _ h => h) (by rfl) ?_ ?_ ?_;rotate_left 2;intro w';go_simp;(with_reducible rfl);simp only [Act.put, qz1, qz2, qz3, i64_w, i32_w];rfl
            refine pqz 11 (some 61) (bqz 17 3543) rfl rfl (by kernel_rfl) ?_ ?_ (fun _ _ _ h => h) (by rfl) ?_ ?_ ?_;rotate_left 2;intro w';go_simp;(with_reducible rfl);simp only [Act.put, qz1, qz2, qz3, i64_w, i32_w];rfl
            refine pqz 12 (some 62) (bqz 17 7639) rfl rfl (by kernel_rfl) ?_ ?_ (fun _ _ _ h => h) (by rfl) ?_ ?_ ?_;rotate_left 2;intro w';go_simp;(with_reducible rfl);simp only [Act.put, qz1, qz2, qz3, i64_w, i32_w];rfl
            refine pqz 13 (some 63) (bqz 17 15831) rfl rfl (by kernel_rfl) ?_ ?_ (fun _ _ _ h => h) (by rfl) ?_ ?_ ?_;rotate_left 2;intro w';go_simp;(with_reducible rfl);simp only [Act.put, qz1, qz2, qz3, i64_w, i32_w];rfl
            refine tqz 3 (some 53) (bqz 17 15839) rfl rfl (by kernel_rfl) ?_ ?_ (fun _ _ _ h => h) (by rfl) ?_ hHeld ?_ ?_;rotate_left 2;rintro w' ⟨s0, s1⟩;go_simp;(with_reducible rfl);simp only [Act.put, qz1, qz2, qz3, i64_w, i32_w];rfl
            refine one_ (i := 5) (N := some 55) (bqz 17 15871) rfl rfl (by kernel_rfl) (by decide) (fun K hK => ?_);refine Kd.R_lit_step (Kd.int .i64) (w0 := w0) w0.heap.size 3 (by rfl) (N := 55) rfl (xs := ([] : List Int)) (inner := []) (okp := fun _ => False) (ok := fun k => U.heap.size ≤ k) ?hr ⟨rfl, fun j p h => by simp at h⟩ (fun _ hk => hk.elim) (Nat.le_refl _) b8.out b8.out.size (by simp) ?_
            (case hr => first | (go_simp; done) | (go_simp; rfl))
            intro v5 w5 ho hb hg hat;obtain ⟨A5, c5, h5⟩ := Kd.R_slice ho;subst h5;have a0 := Aside0.mk (show Below U.heap.size U w5 from ⟨hg.os, hg.tape, hg.output, hg.size, fun k hk => hg.block k hk (by simp)⟩);have e7 := Aside0.mk ho;have e4 := Aside0.mk hb;clear ho hb hg hat;refine hK.out _ _ ⟨later a0.out HH.out.1, later a0.out HH.out.2⟩ (fun hHeld => ?_);clear hK K;refine norm_ (a' := ?_) ?_ ?_;rotate_left
            · show Act.put _ (some 55) _ = _
              simp only [Act.put, qz1, qz2, qz3, i64_w, i32_w];rfl
            refine one_ (i := 9) (N := some 59) (bqz 17 16383) rfl rfl (by kernel_rfl) (by decide) (fun K hK => ?_);have d2 := Kd.R_below d1.out a0.out;rw [HVl.out] at d2;have hT := Kd.R_take d2 (m := 1) (by omega);have hC := (Kd.R_reads' hT).2.2;rw [← (Kd.R_reads' hT).1] at hC;refine Kd.R_append_rows_step (Kd.int .i64) (Rr := (Kd.int .i64).K w5) (w0 := w0) w0.heap.size (by rfl) (.tmp 55) (.tmp 58) 28 3 (.int .i64 0) 8 rfl Try.underlying28 infoI rfl (by decide) (by omega) (.slice A5 ([] : List Int).length c5) [] (L.take 1) (some ⟨gL, 0, none⟩) 1 cL (fun k => U.heap.size ≤ k) (fun _ => False) rfl rfl e7.out hC (fun _ _ h => h) (fun _ hk => hk.elim) (fun _ hk => Nat.le_trans a0.out.size hk) e4.out e4.out.size (by simp) ?_;intro v6 w6 ho hb hg hat;obtain ⟨A6, c6, f2⟩ := Kd.R_slice ho;rw [List.nil_append] at ho f2;subst f2;have a1 := Aside0.mk (a0.out.grown hg a0.out.size (fun k hk => e7.out.1 k hk));have e8 := Aside0.mk ho;have e5 := Aside0.mk hb;clear ho hb hg hat hC hT d2;refine hK.out _ _ ⟨later a1.out HH.out.1, later a1.out HH.out.2⟩ (fun hHeld => ?_);clear hK K;refine norm_ (a' := ?_) ?_ ?_;rotate_left
            · show Act.put _ (some 59) _ = _
              simp only [Act.put, qz1, qz2, qz3, i64_w, i32_w];rfl
            refine one_ (i := 14) (N := some 64) (bqz 17 32767) rfl rfl (by kernel_rfl) (by decide) (fun K hK => ?_);have d3 := Kd.R_below d1.out a1.out;rw [HVl.out] at d3;have hC := HDr.out _ d3;refine Kd.R_append_rows_step (Kd.int .i64) (Rr := (Kd.int .i64).K w6) (w0 := w0) w0.heap.size (by rfl) (.tmp 59) (.tmp 63) 28 3 (.int .i64 0) 8 rfl Try.underlying28 infoI rfl (by decide) (by omega) (.slice A6 (L.take 1).length c6) (L.take 1) (L.drop 2) (some ⟨gL, 2, none⟩) (L.length - 2) (cL-2) (fun k => U.heap.size ≤ k) (fun _ => False) rfl rfl e8.out hC (fun _ _ h => h) (fun _ hk => hk.elim) (fun _ hk => Nat.le_trans a1.out.size hk) e5.out e5.out.size (by rw [List.length_take]; omega) ?_;intro v7 w7 ho hb hg hat;rw [← List.eraseIdx_eq_take_drop_succ] at ho;obtain ⟨A7, c7, a7⟩ := Kd.R_slice ho;rw [List.length_eraseIdx_of_lt (by omega)] at a7;subst a7;have a5 := Aside0.mk (a1.out.grown hg a1.out.size (fun k hk => e8.out.1 k hk));have f0 := Aside0.mk ho;have g8 := Aside0.mk hb;have f7 : w7.frozen? ⟨gS, old, none⟩ = false := by obtain ⟨cs, hcs⟩ := Kd.R_typed (HS5.out .hs) gS (by rw [HVS.out.1]; rfl); exact blk_frozen ((a5.out.block gS (blk_lt hcs)).trans hcs)
            clear ho hb hg hat hC d3;refine hK.out _ _ ⟨later a5.out HH.out.1, later a5.out HH.out.2⟩ (fun hHeld => ?_);clear hK K;refine norm_ (a' := ?_) ?_ ?_;rotate_left
            · show Act.put _ (some 64) _ = _
              simp only [Act.put, qz1, qz2, qz3, i64_w, i32_w];rfl
            refine pqz 15 (some 65) (bqz 17 65535) rfl rfl (by kernel_rfl) ?_ ?_ (fun _ _ _ h => h) (by rfl) ?_ ?_ ?_;rotate_left 2;intro w';go_simp;(with_reducible rfl);simp only [Act.put, qz1, qz2, qz3, i64_w, i32_w];rfl
            refine last_ (i := 16) (N := none) (bqz 17 131071) rfl rfl (by kernel_rfl) (by decide) (fun K hK => ?_);refine skip_ (w1 := ?_) (by rfl) rfl ?_ ?_;rotate_left
            · go_simp
              rfl
            refine hK.out _ _ ?_;clear hK K;refine done_ (by kernel_rfl) ?_;have a8 : ∀ k, (slV (A7, L.length - 1, c7)).ownBlock = some k → U.heap.size ≤ k := f0.out.1;obtain ⟨r7, d5⟩ : ∃ r7 : Sl, r7 = (A7, L.length - 1, c7) := ⟨_, rfl⟩
            rw [← d5] at a8;have hup : ∀ k, k < U.heap.size → up cls (slV r7) (.far 7000) k = cls k := fun k hk => up_ne fun e => by have := a8 k e; omega
            have h0 : IR w7 w0.heap.size (up cls (slV r7) (.far 7000)) (.far 7000) (slV r7) (L.eraseIdx 1) := R_up rfl (by rw [d5]; exact f0.out);have HS7 := HS5.out.stay (cls' := up cls (slV r7) (.far 7000)) (Kept.of_below a5.out _) fun k hk _ => hup k hk
            have g9 := b6.out.step (cls2 := up cls (slV r7) (.far 7000)) (Kept.of_below a5.out _) fun k hk j e _ => by rw [hup k (Nat.lt_of_lt_of_le hk b6.out.kept.1)]; exact e
            have a3 := HS7.setHs (by rw [HVS.out.2.1]; exact HVS.out.1) old r7 (L.eraseIdx 1) h0 (by rw [HD.out.hl]; exact holdn) (by rw [HD.out.heaps, HD.out.hl]);obtain ⟨w8, b3⟩ : ∃ w8, w8 = w7.setCell ⟨gS, old, none⟩ (.slice A7 (L.length - 1) c7) := ⟨_, rfl⟩
            have a7 : slV r7 = .slice A7 (L.length - 1) c7 := by rw [d5]; rfl
            rw [a7, ← b3] at a3;have hgc : up cls (slV r7) (.far 7000) gS = .hs := HS7.rowHs _ HVS.out.1 gS rfl;have b4 := Aside0.mk (g9.step (w2 := w8) (cls2 := up (up cls (slV r7) (.far 7000)) (slV r7) (.hro old)) (by rw [b3]; exact (Kept.refl _ _).setCell (.inl (.inl (by show (up cls (slV r7) (.far 7000) gS).own = true; rw [hgc]; rfl))) _) fun k hk j e _ => by rw [up_ne fun e2 => by have := a8 k e2; have := b6.out.kept.1; omega]; exact e);have HB9' := Aside0.mk (show Below w0.heap.size w0 w8 by rw [b3]; exact below_set g8.out (Kd.R_base (HS7 .hs) gS (by rw [HVS.out.1]; rfl)));rw [← b3];obtain ⟨a2, d4⟩ : ∃ a2, a2 = up (up cls (slV r7) (.far 7000)) (slV r7) (.hro old) := ⟨_, rfl⟩
            rw [← a7, ← d4] at a3;rw [← d4] at b4;obtain ⟨s8, a4⟩ : ∃ s8 : Sg, s8 = { s with hs := s.hs.set old r7, hsl := s.hsl.set old r7, heaps := s.heaps.set old (L.eraseIdx 1) } := ⟨_, rfl⟩
            rw [← a4] at a3;have t7 : w8.cell? ⟨T, 7, none⟩ = some (.slice (some ⟨gS, 0, none⟩) p.heaps.length cS) := by rw [a3.cell 7 s.vHs (by rw [a4]; show s.tc[7]? = _; rw [HD.out.tc]; rfl), HVS.out.1]
            have q7 : w8.cell? ⟨gS, old, none⟩ = some (.slice A7 (L.length - 1) c7) := by
              obtain ⟨g', c', e', hc'⟩ := a3.slice (a3 .hs) (by rw [a4]; show 0 < (s.hs.set old r7).length; rw [List.length_set, HVS.out.2.1]; omega);rw [show s8.vHs = .slice (some ⟨gS, 0, none⟩) p.heaps.length cS by rw [a4]; exact HVS.out.1] at e';simp only [Value.slice.injEq, Option.some.injEq, Addr.mk.injEq] at e';obtain ⟨⟨rfl, _⟩, _⟩ := e';have h := (hc' old (by rw [a4]; show old < (s.hs.set old r7).length; rw [List.length_set, HVS.out.2.1]; exact holdn)).1;rw [h, a4];show some (slV ((s.hs.set old r7).getD old nilL)) = _;rw [gD_set _ _ _ _ _ (by rw [HVS.out.2.1]; exact holdn), if_pos rfl, a7]
            have t9 : w8.cell? ⟨T, 9, none⟩ = some (.map (some s.mW)) := a3.cell 9 _ (by rw [a4]; show s.tc[9]? = _; rw [HD.out.tc]; rfl);have HS8 := Aside0.mk a3;have b2 := Aside0.mk a4;(try clear i7);go_wp2_with fail
            go_meet
            case rel =>
              first
                | exact ⟨A7, c7, r7, a2, s8, HS8, b2, b4, HB9', ⟨q7⟩⟩
                | (rw [← b3]; exact ⟨A7, c7, r7, a2, s8, HS8, b2, b4, HB9', ⟨q7⟩⟩)
          · subst e
            rw [show ((1 : Nat) : Int) = 1 from rfl];have l2 : ¬ cL = 1 := by omega
            have l8 : 1 ≤ cL := by omega
            have m0 : 1 ≤ L.length := by omega
            have hc1z : (1 : Int) ≤ (cL : Int) := by omega
            have hc2z : (2 : Int) ≤ (cL : Int) := by omega
            have hl1z : (1 : Int) ≤ (L.length : Int) := by omega
            have hl2z : (2 : Int) ≤ (L.length : Int) := by omega
            have m5 : wrap64 1 = 1 := by unfold wrap64; omega
            have m6 : wrap64 2 = 2 := by unfold wrap64; omega
            have hdrop : ∀ W, Kd.R (Kd.int .i64) 3 W w0.heap.size (fun k => cls k = .hro old) (.slice (some ⟨gL, 0, none⟩) L.length cL) L → (Kd.int .i64).C W (some ⟨gL, 0, none⟩) (L.length - 2) (L.drop 2) := fun W h => by
              have h2 := Kd.Q_reads' (Kd.Q_drop (k := 2) (Kd.Q_of_R h) (by omega));have h3 := h2.2.2;rw [← h2.1] at h3
              first
                | rwa [if_pos (by omega)] at h3
                | (rw [if_neg (by omega)] at h3
                   exact h3)
            have HDr := Aside0.mk hdrop;clear hdrop;have a6 := below_drew1 (Below.refl wc.heap.size wc);have HS5 := Aside0.mk (HS4.out.below a6);have b6 := Aside0.mk (e6.out.step (cls2 := cls) (Kept.of_below a6 _) fun _ _ _ e _ => e);have b8 := Aside0.mk (below_then b7.out b7.out.size a6);have d1 := Aside0.mk (Kd.R_below e3.out a6);have d7 : wc.drew.cell? ⟨T, 7, none⟩ = _ := c7;have d8 : wc.drew.cell? ⟨gS, old, none⟩ = _ := c8;clear a6 HS4 e6 b7 e3 c7 c8;refine start_ (n := 17) (S := fun w' => w'.cell? ⟨T, 7, none⟩ = some (.slice (some ⟨gS, 0, none⟩) p.heaps.length cS) ∧ w'.cell? ⟨gS, old, none⟩ = some (.slice (some ⟨gL, 0, none⟩) L.length cL)) (ds := [16]) (bqz 17 0) (by kernel_rfl) rfl rfl ⟨d7, d8⟩ (fun hHeld => ?_);clear d7 d8;generalize wc.drew = U at HS5 b6 b8 d1 hHeld ⊢;have HH := Aside0.mk hHeld;refine pqz 0 (some 50) (bqz 17 1) rfl rfl (by kernel_rfl) ?_ ?_ (fun _ _ _ h => h) (by rfl) ?_ ?_ ?_;rotate_left 2;intro w';go_simp;(with_reducible rfl);simp only [Act.put, qz1, qz2, qz3, i64_w, i32_w];rfl
            refine pqz 1 (some 51) (bqz 17 3) rfl rfl (by kernel_rfl) ?_ ?_ (fun _ _ _ h => h) (by rfl) ?_ ?_ ?_;rotate_left 2;intro w';go_simp;(with_reducible rfl);simp only [Act.put, qz1, qz2, qz3, i64_w, i32_w];rfl
            refine pqz 2 (some 52) (bqz 17 7) rfl rfl (by kernel_rfl) ?_ ?_ (fun _ _ _ h => h) (by rfl) ?_ ?_ ?_;rotate_left 2;intro w';go_simp;(with_reducible rfl);simp only [Act.put, qz1, qz2, qz3, i64_w, i32_w];rfl
            refine pqz 4 (some 54) (bqz 17 23) rfl rfl (by kernel_rfl) ?_ ?_ (fun _ _ _ h => h) (by rfl) ?_ ?_ ?_;rotate_left 2;intro w';go_simp;(with_reducible rfl);simp only [Act.put, qz1, qz2, qz3, i64_w, i32_w];rfl
            refine pqz 6 (some 56) (bqz 17 87) rfl rfl (by kernel_rfl) ?_ ?_ (fun _ _ _ h => h) (by rfl) ?_ ?_ ?_;rotate_left 2;intro w';go_simp;(with_reducible rfl);simp only [Act.put, qz1, qz2, qz3, i64_w, i32_w];rfl
            refine pqz 7 (some 57) (bqz 17 215) rfl rfl (by kernel_rfl) ?_ ?_ (fun _ _ _ h => h) (by rfl) ?_ ?_ ?_;rotate_left 2;intro w';go_simp;(with_reducible rfl);simp only [Act.put, qz1, qz2, qz3, i64_w, i32_w];rfl
            refine pqz 8 (some 58) (bqz 17 471) rfl rfl (by kernel_rfl) ?_ ?_ (fun _ _ _ h => h) (by rfl) ?_ ?_ ?_;rotate_left 2;intro w';go_simp;(with_reducible rfl);simp only [Act.put, qz1, qz2, qz3, i64_w, i32_w];rfl
            refine pqz 10 (some 60) (bqz 17 1495) rfl rfl (by kernel_rfl) ?_ ?_ (fun _ _ _ h => h) (by rfl) ?_ ?_ ?_;rotate_left 2;intro w';go_simp;(with_reducible rfl);simp only [Act.put, qz1, qz2, qz3, i64_w, i32_w];rfl
            refine pqz 11 (some 61) (bqz 17 3543) rfl rfl (by kernel_rfl) ?_ ?_ (fun _ _ _ h => h) (by rfl) ?_ ?_ ?_;rotate_left 2;intro w';go_simp;(with_reducible rfl);simp only [Act.put, qz1, qz2, qz3, i64_w, i32_w];rfl
            refine pqz 12 (some 62) (bqz 17 7639) rfl rfl (by kernel_rfl) ?_ ?_ (fun _ _ _ h => h) (by rfl) ?_ ?_ ?_;rotate_left 2;intro w';go_simp;(with_reducible rfl);simp only [Act.put, qz1, qz2, qz3, i64_w, i32_w];rfl
            refine pqz 13 (some 63) (bqz 17 15831) rfl rfl (by kernel_rfl) ?_ ?_ (fun _ _ _ h => h) (by rfl) ?_ ?_ ?_;rotate_left 2;intro w';go_simp;(with_reducible rfl);simp only [Act.put, qz1, qz2, qz3, i64_w, i32_w];rfl
            refine tqz 3 (some 53) (bqz 17 15839) rfl rfl (by kernel_rfl) ?_ ?_ (fun _ _ _ h => h) (by rfl) ?_ hHeld ?_ ?_;rotate_left 2;rintro w' ⟨s0, s1⟩;go_simp;(with_reducible rfl);simp only [Act.put, qz1, qz2, qz3, i64_w, i32_w];rfl
            refine one_ (i := 5) (N := some 55) (bqz 17 15871) rfl rfl (by kernel_rfl) (by decide) (fun K hK => ?_);refine Kd.R_lit_step (Kd.int .i64) (w0 := w0) w0.heap.size 3 (by rfl) (N := 55) rfl (xs := ([] : List Int)) (inner := []) (okp := fun _ => False) (ok := fun k => U.heap.size ≤ k) ?hr ⟨rfl, fun j p h => by simp at h⟩ (fun _ hk => hk.elim) (Nat.le_refl _) b8.out b8.out.size (by simp) ?_
            (case hr => first | (go_simp; done) | (go_simp; rfl))
            intro v5 w5 ho hb hg hat;obtain ⟨A5, c5, h5⟩ := Kd.R_slice ho;subst h5;have a0 := Aside0.mk (show Below U.heap.size U w5 from ⟨hg.os, hg.tape, hg.output, hg.size, fun k hk => hg.block k hk (by simp)⟩);have e7 := Aside0.mk ho;have e4 := Aside0.mk hb;clear ho hb hg hat;refine hK.out _ _ ⟨later a0.out HH.out.1, later a0.out HH.out.2⟩ (fun hHeld => ?_);clear hK K;refine norm_ (a' := ?_) ?_ ?_;rotate_left
            · show Act.put _ (some 55) _ = _
              simp only [Act.put, qz1, qz2, qz3, i64_w, i32_w];rfl
            refine one_ (i := 9) (N := some 59) (bqz 17 16383) rfl rfl (by kernel_rfl) (by decide) (fun K hK => ?_);have d2 := Kd.R_below d1.out a0.out;rw [HVl.out] at d2;have hT := Kd.R_take d2 (m := 1) (by omega);have hC := (Kd.R_reads' hT).2.2;rw [← (Kd.R_reads' hT).1] at hC;refine Kd.R_append_rows_step (Kd.int .i64) (Rr := (Kd.int .i64).K w5) (w0 := w0) w0.heap.size (by rfl) (.tmp 55) (.tmp 58) 28 3 (.int .i64 0) 8 rfl Try.underlying28 infoI rfl (by decide) (by omega) (.slice A5 ([] : List Int).length c5) [] (L.take 1) (some ⟨gL, 0, none⟩) 1 2 (fun k => U.heap.size ≤ k) (fun _ => False) rfl rfl e7.out hC (fun _ _ h => h) (fun _ hk => hk.elim) (fun _ hk => Nat.le_trans a0.out.size hk) e4.out e4.out.size (by simp) ?_;intro v6 w6 ho hb hg hat;obtain ⟨A6, c6, f2⟩ := Kd.R_slice ho;rw [List.nil_append] at ho f2;subst f2;have a1 := Aside0.mk (a0.out.grown hg a0.out.size (fun k hk => e7.out.1 k hk));have e8 := Aside0.mk ho;have e5 := Aside0.mk hb;clear ho hb hg hat hC hT d2;refine hK.out _ _ ⟨later a1.out HH.out.1, later a1.out HH.out.2⟩ (fun hHeld => ?_);clear hK K;refine norm_ (a' := ?_) ?_ ?_;rotate_left
            · show Act.put _ (some 59) _ = _
              simp only [Act.put, qz1, qz2, qz3, i64_w, i32_w];rfl
            refine one_ (i := 14) (N := some 64) (bqz 17 32767) rfl rfl (by kernel_rfl) (by decide) (fun K hK => ?_);have d3 := Kd.R_below d1.out a1.out;rw [HVl.out] at d3;have hC := HDr.out _ d3;refine Kd.R_append_rows_step (Kd.int .i64) (Rr := (Kd.int .i64).K w6) (w0 := w0) w0.heap.size (by rfl) (.tmp 59) (.tmp 63) 28 3 (.int .i64 0) 8 rfl Try.underlying28 infoI rfl (by decide) (by omega) (.slice A6 (L.take 1).length c6) (L.take 1) (L.drop 2) (some ⟨gL, 0, none⟩) (L.length - 2) (0) (fun k => U.heap.size ≤ k) (fun _ => False) rfl rfl e8.out hC (fun _ _ h => h) (fun _ hk => hk.elim) (fun _ hk => Nat.le_trans a1.out.size hk) e5.out e5.out.size (by rw [List.length_take]; omega) ?_;intro v7 w7 ho hb hg hat;rw [← List.eraseIdx_eq_take_drop_succ] at ho;obtain ⟨A7, c7, a7⟩ := Kd.R_slice ho;rw [List.length_eraseIdx_of_lt (by omega)] at a7;subst a7;have a5 := Aside0.mk (a1.out.grown hg a1.out.size (fun k hk => e8.out.1 k hk));have f0 := Aside0.mk ho;have g8 := Aside0.mk hb;have f7 : w7.frozen? ⟨gS, old, none⟩ = false := by obtain ⟨cs, hcs⟩ := Kd.R_typed (HS5.out .hs) gS (by rw [HVS.out.1]; rfl); exact blk_frozen ((a5.out.block gS (blk_lt hcs)).trans hcs)
            clear ho hb hg hat hC d3;refine hK.out _ _ ⟨later a5.out HH.out.1, later a5.out HH.out.2⟩ (fun hHeld => ?_);clear hK K;refine norm_ (a' := ?_) ?_ ?_;rotate_left
            · show Act.put _ (some 64) _ = _
              simp only [Act.put, qz1, qz2, qz3, i64_w, i32_w];rfl
            refine pqz 15 (some 65) (bqz 17 65535) rfl rfl (by kernel_rfl) ?_ ?_ (fun _ _ _ h => h) (by rfl) ?_ ?_ ?_;rotate_left 2;intro w';go_simp;(with_reducible rfl);simp only [Act.put, qz1, qz2, qz3, i64_w, i32_w];rfl
            refine last_ (i := 16) (N := none) (bqz 17 131071) rfl rfl (by kernel_rfl) (by decide) (fun K hK => ?_);refine skip_ (w1 := ?_) (by rfl) rfl ?_ ?_;rotate_left
            · go_simp
              rfl
            refine hK.out _ _ ?_;clear hK K;refine done_ (by kernel_rfl) ?_;have a8 : ∀ k, (slV (A7, L.length - 1, c7)).ownBlock = some k → U.heap.size ≤ k := f0.out.1;obtain ⟨r7, d5⟩ : ∃ r7 : Sl, r7 = (A7, L.length - 1, c7) := ⟨_, rfl⟩
            rw [← d5] at a8;have hup : ∀ k, k < U.heap.size → up cls (slV r7) (.far 7000) k = cls k := fun k hk => up_ne fun e => by have := a8 k e; omega
            have h0 : IR w7 w0.heap.size (up cls (slV r7) (.far 7000)) (.far 7000) (slV r7) (L.eraseIdx 1) := R_up rfl (by rw [d5]; exact f0.out);have HS7 := HS5.out.stay (cls' := up cls (slV r7) (.far 7000)) (Kept.of_below a5.out _) fun k hk _ => hup k hk
            have g9 := b6.out.step (cls2 := up cls (slV r7) (.far 7000)) (Kept.of_below a5.out _) fun k hk j e _ => by rw [hup k (Nat.lt_of_lt_of_le hk b6.out.kept.1)]; exact e
            have a3 := HS7.setHs (by rw [HVS.out.2.1]; exact HVS.out.1) old r7 (L.eraseIdx 1) h0 (by rw [HD.out.hl]; exact holdn) (by rw [HD.out.heaps, HD.out.hl]);obtain ⟨w8, b3⟩ : ∃ w8, w8 = w7.setCell ⟨gS, old, none⟩ (.slice A7 (L.length - 1) c7) := ⟨_, rfl⟩
            have a7 : slV r7 = .slice A7 (L.length - 1) c7 := by rw [d5]; rfl
            rw [a7, ← b3] at a3;have hgc : up cls (slV r7) (.far 7000) gS = .hs := HS7.rowHs _ HVS.out.1 gS rfl;have b4 := Aside0.mk (g9.step (w2 := w8) (cls2 := up (up cls (slV r7) (.far 7000)) (slV r7) (.hro old)) (by rw [b3]; exact (Kept.refl _ _).setCell (.inl (.inl (by show (up cls (slV r7) (.far 7000) gS).own = true; rw [hgc]; rfl))) _) fun k hk j e _ => by rw [up_ne fun e2 => by have := a8 k e2; have := b6.out.kept.1; omega]; exact e);have HB9' := Aside0.mk (show Below w0.heap.size w0 w8 by rw [b3]; exact below_set g8.out (Kd.R_base (HS7 .hs) gS (by rw [HVS.out.1]; rfl)));rw [← b3];obtain ⟨a2, d4⟩ : ∃ a2, a2 = up (up cls (slV r7) (.far 7000)) (slV r7) (.hro old) := ⟨_, rfl⟩
            rw [← a7, ← d4] at a3;rw [← d4] at b4;obtain ⟨s8, a4⟩ : ∃ s8 : Sg, s8 = { s with hs := s.hs.set old r7, hsl := s.hsl.set old r7, heaps := s.heaps.set old (L.eraseIdx 1) } := ⟨_, rfl⟩
            rw [← a4] at a3;have t7 : w8.cell? ⟨T, 7, none⟩ = some (.slice (some ⟨gS, 0, none⟩) p.heaps.length cS) := by rw [a3.cell 7 s.vHs (by rw [a4]; show s.tc[7]? = _; rw [HD.out.tc]; rfl), HVS.out.1]
            have q7 : w8.cell? ⟨gS, old, none⟩ = some (.slice A7 (L.length - 1) c7) := by
              obtain ⟨g', c', e', hc'⟩ := a3.slice (a3 .hs) (by rw [a4]; show 0 < (s.hs.set old r7).length; rw [List.length_set, HVS.out.2.1]; omega);rw [show s8.vHs = .slice (some ⟨gS, 0, none⟩) p.heaps.length cS by rw [a4]; exact HVS.out.1] at e';simp only [Value.slice.injEq, Option.some.injEq, Addr.mk.injEq] at e';obtain ⟨⟨rfl, _⟩, _⟩ := e';have h := (hc' old (by rw [a4]; show old < (s.hs.set old r7).length; rw [List.length_set, HVS.out.2.1]; exact holdn)).1;rw [h, a4];show some (slV ((s.hs.set old r7).getD old nilL)) = _;rw [gD_set _ _ _ _ _ (by rw [HVS.out.2.1]; exact holdn), if_pos rfl, a7]
            have t9 : w8.cell? ⟨T, 9, none⟩ = some (.map (some s.mW)) := a3.cell 9 _ (by rw [a4]; show s.tc[9]? = _; rw [HD.out.tc]; rfl);have HS8 := Aside0.mk a3;have b2 := Aside0.mk a4;(try clear i7);go_wp2_with fail
            go_meet
            case rel =>
              first
                | exact ⟨A7, c7, r7, a2, s8, HS8, b2, b4, HB9', ⟨q7⟩⟩
                | (rw [← b3]; exact ⟨A7, c7, r7, a2, s8, HS8, b2, b4, HB9', ⟨q7⟩⟩)
        case rest =>
          clear HS4 e6 b7 e3 c7 c8 ey;obtain ⟨A7, c7, r7, a2, s8, HS8, b2, b4, HB9', l6⟩ := hcut;have q7 := l6.out;have t7 : wc.cell? ⟨T, 7, none⟩ = some (.slice (some ⟨gS, 0, none⟩) p.heaps.length cS) := by rw [HS8.out.cell 7 s.vHs (by rw [b2.out]; show s.tc[7]? = _; rw [HD.out.tc]; rfl), HVS.out.1]
          have HMw := Aside0.mk (show G1 wc s.mW s.fW s.cW by have := (HS8.out .mw).2.1; rw [b2.out] at this; exact this);go_upto_if 74 with (fail)
          clear q7 t7 l6;go_cut [] (fun wc => ∃ (d9 : Int → Option Value) (f1 : Nat) (s9 : Sg), Aside0 (SP w0.heap.size T wc a2 s9) ∧ Aside0 (s9 = { s with hs := s.hsl.set old r7, hsl := s.hsl.set old r7, heaps := s.heaps.set old (L.eraseIdx a), fW := d9, cW := f1 }) ∧ Aside0 (StdW s9 (fun x => wt x && !(decide (x = (old : Int)) && decide ((gl p.heaps (old : Int)).length = 2)))) ∧ Aside0 (Fr w wc cls a2 fun _ => False) ∧ Aside0 (Below w0.heap.size w0 wc))
          case first =>
            have t9 : wc.cell? ⟨T, 9, none⟩ = some (.map (some s.mW)) := HS8.out.cell 9 _ (by rw [b2.out]; show s.tc[9]? = _; rw [HD.out.tc]; rfl);by_cases hlen : L.length = 2
            · have hq : (((L.length - 1 : Nat) : Int) == 1) = true := by rw [hlen]; rfl
              have o0 : L.length - 1 = 1 := by omega
              go_wp2_with (refine wpList_gdel _ intKB rfl _ _ 88 rfl 3 Try.underlying88 s.mW s.cW s.fW rfl HMw.out (old : Int) hy rfl ?_
                           intro w9 f1 hcw hgm hgg hsz;have f8 : s8.mW = s.mW := by rw [b2.out]
                           have i5 := HS8.out.setW (f := delM s.fW (old : Int)) (n := f1) (by rw [f8]; exact hgm) (by rw [f8]; exact hgg);have f4 := Aside0.mk (b4.out.step (w2 := w9) (cls2 := a2) (kept_grown hgg fun k e => by cases e; exact .inl (by rw [← f8, (HS8.out .mw).1]; rfl)) fun _ _ _ e _ => e);have f3 := Aside0.mk (HB9'.out.grown hgg HB9'.out.size (fun k e => by cases e; rw [← f8]; exact (HS8.out .mw).2.2));obtain ⟨d9, i1⟩ : ∃ d9, d9 = delM s.fW (old : Int) := ⟨_, rfl⟩
                           rw [← i1] at i5;obtain ⟨s9, i9⟩ : ∃ s9 : Sg, s9 = { s with hs := s.hsl.set old r7, hsl := s.hsl.set old r7, heaps := s.heaps.set old (L.eraseIdx a), fW := d9, cW := f1 } := ⟨_, rfl⟩
                           have e9 : ({ s8 with fW := d9, cW := f1 } : Sg) = s9 := by
                             rw [i9, b2.out];show ({ s with hs := s.hs.set old r7, hsl := _, heaps := _, fW := _, cW := _ } : Sg) = _;rw [HD.out.hs]
                           rw [e9] at i5;have HS9 := Aside0.mk i5;have b9 := Aside0.mk i9
                           have k6 := Aside0.mk (show StdW s9 (fun x => wt x && !(decide (x = (old : Int)) && decide ((gl p.heaps (old : Int)).length = 2))) from fun x hx => by
                             rw [i9];show d9 x = _;rw [i1];unfold delM;by_cases e : x = (old : Int)
                             · rw [if_pos e, ← HL.out.1, hlen]
                               simp [e]
                             · rw [if_neg e, HW.out x hx]
                               simp [e])
                           clear hcw hgm hgg hsz f8 i5 i1 e9 i9)
              go_meet
              case rel => exact ⟨d9, f1, s9, HS9, b9, k6, f4, f3⟩
            · have hq : (((L.length - 1 : Nat) : Int) == 1) = false := by simp; omega
              have o0 : ¬ L.length - 1 = 1 := by omega
              go_wp2
              go_meet
              case rel =>
                refine ⟨s.fW, s.cW, s8, HS8, ⟨?_⟩, ⟨fun x hx => ?_⟩, b4, HB9'⟩
                · rw [b2.out, HD.out.hs]
                · rw [b2.out]
                  show s.fW x = _;rw [HW.out x hx, ← HL.out.1];simp [hlen]
          case rest =>
            clear HS8 b2 b4 HB9' HMw;obtain ⟨d9, f1, s9, HS9, b9, k6, f4, f3⟩ := hcut;obtain ⟨w9, m7⟩ : ∃ w9, w9 = wc := ⟨_, rfl⟩
            rw [← m7] at HS9 f4 f3 ⊢;clear m7;have HS9t := HS9.out.cell 7 s.vHs (by rw [b9.out]; show s.tc[7]? = _; rw [HD.out.tc]; rfl);rw [HVS.out.1] at HS9t;obtain ⟨d6, g3⟩ : ∃ d6, d6 = w9.alloc (.cells #[.int .i64 (y : Int)] 3) := ⟨_, rfl⟩
            have g2 : Below w9.heap.size w9 d6 := by rw [g3]; exact below_alloc (Below.refl _ _) _
            have f5 := IR.one w9 w0.heap.size a2 (.far 7001) (y : Int) f3.out.size;rw [← g3] at f5;obtain ⟨a9, g5⟩ : ∃ a9 : Sl, a9 = (some ⟨w9.heap.size, 0, none⟩, 1, 1) := ⟨_, rfl⟩
            rw [← g5] at f5;have i2 : ∀ k, (slV a9).ownBlock = some k → w9.heap.size ≤ k := fun k hk => by rw [g5] at hk; cases hk; exact Nat.le_refl _
            have hup : ∀ k, k < w9.heap.size → up a2 (slV a9) (.far 7001) k = a2 k := fun k hk => up_ne fun e => by have := i2 k e; omega
            have HS10 := Aside0.mk (HS9.out.stay (cls' := up a2 (slV a9) (.far 7001)) (Kept.of_below g2 _) fun k hk _ => hup k hk);have g1 := Aside0.mk (f4.out.step (cls2 := up a2 (slV a9) (.far 7001)) (Kept.of_below g2 _) fun k hk j e _ => by rw [hup k (Nat.lt_of_lt_of_le hk f4.out.kept.1)]; exact e);have h7 := Aside0.mk (below_then f3.out f3.out.size g2);obtain ⟨b5, k7⟩ : ∃ b5, b5 = up a2 (slV a9) (.far 7001) := ⟨_, rfl⟩
            rw [← k7] at f5 HS10 g1;have HRr := Aside0.mk f5;have n4 := Aside0.mk (show ∀ k, (slV a9).ownBlock = some k → w.heap.size ≤ k from fun k hk => Nat.le_trans f4.out.kept.1 (i2 k hk));have k9 : s9.hs.length = p.heaps.length := by rw [b9.out]; show (s.hsl.set old r7).length = _; rw [List.length_set, HD.out.hl]
            have hhl9b : s9.hsl.length = p.heaps.length ∧ s9.heaps.length = p.heaps.length := by rw [b9.out]; exact ⟨by show (s.hsl.set old r7).length = _; rw [List.length_set, HD.out.hl], by show (s.heaps.set old _).length = _; rw [List.length_set, HD.out.heaps]⟩
            have i3 : s9.vHs = .slice (some ⟨gS, 0, none⟩) p.heaps.length cS := by rw [b9.out]; exact HVS.out.1
            have k0 : Aside0 (Kd.R kSl 28 d6 w0.heap.size (fun k => b5 k = .hs ∨ d6.heap.size ≤ k) (.slice (some ⟨gS, 0, none⟩) p.heaps.length cS) s9.hs) := ⟨by
              have h : SR d6 w0.heap.size b5 .hs s9.vHs s9.hs := HS10.out .hs;rw [i3] at h;exact Kd.R_mono h fun k hk => .inl hk⟩
            have d0 := Aside0.mk (And.intro k9 (And.intro hhl9b i3));have k1 := Aside0.mk g3;have HR10e := Aside0.mk g5;clear g3 g2 f5 g5 i2 hup k7 HS9 f4 f3 k9 hhl9b i3
            go_wp2_with (first
              | (at_builtin
                 rw [← k1.out];refine Kd.R_append kSl (w0 := w0) w0.heap.size rfl (.tmp 89) (.tmp 92) 40 28 (.slice none 0 0) 24 rfl Try.underlying40 infoSI rfl (by decide) (by omega) (.slice (some ⟨gS, 0, none⟩) p.heaps.length cS) s9.hs a9 [.slice (some ⟨w9.heap.size, 0, none⟩) 1 1] (fun k => b5 k = .hs ∨ d6.heap.size ≤ k) (fun _ => False) rfl (by rw [show d6.heap.size = w9.heap.size + 1 by rw [k1.out]; simp]; rfl) (by rw [HR10e.out]; rfl) (fun _ hk => hk.elim) (fun _ hk => .inr hk) k0.out h7.out h7.out.size (by rw [d0.out.1]; omega) ?_;intro v9 j2 ho hb hg hat;obtain ⟨A9, c9, m4⟩ := Kd.R_slice ho;rw [show (s9.hs ++ [a9]).length = p.heaps.length + 1 by rw [List.length_append, d0.out.1]; rfl] at m4;subst m4;have hgk : Kept d6 j2 (fun k => b5 k = .hs) := kept_grown hg fun k hk => HS10.out.rowHs _ d0.out.2.2 k hk
                 have i0 : j2.heap[T]? = some (.cells s9.tc.toArray 90 (0, 0)) := blk_kept (HS10.out .tt).1 hgk (by show ¬ b5 T = _; rw [(HS10.out .tt).2.1]; simp);have t7 : j2.cell? ⟨T, 7, none⟩ = some s.vHs := by rw [blk_cell i0 7]; rw [b9.out]; show s.tc.toArray[7]? = _; rw [HD.out.tc]; rfl
                 have f7 : j2.frozen? ⟨T, 7, none⟩ = false := blk_frozen i0;have j9 := Aside0.mk ho;have j8 := Aside0.mk hg;have h6 := Aside0.mk hat;have j4 := Aside0.mk hb;have HGK := Aside0.mk hgk;clear ho hb hg hat hgk i0)
              | (refine wpList_st1 rfl _ _ _ rfl T 7 (.slice A9 (p.heaps.length + 1) c9) rfl rfl rfl ⟨_, t7⟩ f7 sizeSSI ?_
                 intro l4 g6;have HS12 := Aside0.mk (HS10.out.pushHs a9 [(y : Int)] HRr.out (by rw [d0.out.2.1.1, d0.out.2.1.2]) (by rw [d0.out.1, d0.out.2.1.1]) j9.out (by rw [d0.out.2.2]; exact j8.out) (by rw [d0.out.2.2]; exact h6.out));rw [← g6, d0.out.2.1.1] at HS12;have l7 : b5 T = .tt := (HS10.out .tt).2.1;have h4 : Kept d6 l4 (fun k => (b5 k).own = true) := by rw [g6]; exact (HGK.out.mono fun k hk => by show (b5 k).own = true; rw [show b5 k = .hs from hk]; rfl).setCell (.inl (by show (b5 T).own = true; rw [l7]; rfl)) _
                 have m3 := up_keep (cls := b5) (c := .hs) h6.out (HS10.out.rowHs _ d0.out.2.2)
                 have h9 := Aside0.mk (g1.out.step (cls2 := up (up b5 (.slice A9 (p.heaps.length + 1) c9) .hs) (slV a9) (.hro p.heaps.length)) (h4.mono fun _ h => .inl h) (fun k hk i e _ => by
                   rw [up_ne (v := slV a9) fun e2 => by have := n4.out k e2; omega, m3 k (Nat.lt_of_lt_of_le hk g1.out.kept.1)];exact e))
                 have j5 := Aside0.mk (show Below w0.heap.size w0 l4 by rw [g6]; exact below_set j4.out (HS10.out .tt).2.2);obtain ⟨i4, k8⟩ : ∃ i4, i4 = up (up b5 (.slice A9 (p.heaps.length + 1) c9) .hs) (slV a9) (.hro p.heaps.length) := ⟨_, rfl⟩
                 rw [← k8] at HS12 h9;obtain ⟨g0, f9⟩ : ∃ g0 : Sg, g0 = { s9 with vHs := .slice A9 (p.heaps.length + 1) c9, hs := s9.hs ++ [a9], hsl := s9.hsl ++ [a9], heaps := s9.heaps ++ [[(y : Int)]], tc := s9.tc.set 7 (.slice A9 (p.heaps.length + 1) c9) } := ⟨_, rfl⟩
                 rw [← f9] at HS12;have g4 : g0.heap = p.heap := by rw [f9, b9.out]; exact HD.out.heap
                 obtain ⟨gH, cH, hvH, hcH⟩ := IR.slice (HS12.out .hp) (by rw [g4, HP.out.hl]; omega);rw [g4, HP.out.hl] at hvH hcH;have t6 : l4.cell? ⟨T, 6, none⟩ = some (.slice (some ⟨gH, 0, none⟩) p.blocks.length cH) := by rw [HS12.out.cell 6 g0.vH (by rw [f9]; show (s9.tc.set 7 _)[6]? = some s9.vH; rw [b9.out]; show (s.tc.set 7 _)[6]? = some s.vH; rw [HD.out.tc]; rfl), hvH]
                 obtain ⟨q6, f6⟩ := hcH y yn;have HVH := Aside0.mk hvH;have h8 := Aside0.mk f9;have n2 := Aside0.mk g4;clear hvH hcH f9 g4 k8 m3 h4 l7 g6 HS10 g1 h7 k0 j9 j8 h6 j4 HGK t7 f7 HRr)
              | (refine wpList_st1 rfl _ _ _ rfl gH y (.int .i64 (p.heaps.length : Int)) rfl rfl rfl ⟨_, q6⟩ f6 sizeI ?_
                 intro m8 g7;have HS13 := Aside0.mk (HS12.out.setHp (by rw [n2.out, HP.out.hl]; exact HVH.out) y (p.heaps.length : Int));rw [← g7] at HS13;have n3 := Aside0.mk (h9.out.step (w2 := m8) (cls2 := i4) (by rw [g7]; exact (Kept.refl _ _).setCell (.inl (.inl (by show (i4 gH).own = true; rw [HS12.out.rowHp _ HVH.out gH rfl]; rfl))) _) fun _ _ _ e _ => e);have m9 := Aside0.mk (show Below w0.heap.size w0 m8 by rw [g7]; exact below_set j5.out (Kd.R_base (HS12.out .hp) gH (by rw [HVH.out]; rfl)));clear g7 HS12 h9 j5 t6 q6 f6))
            go_ret2
            refine ⟨old, a, rfl, holdn, by rw [← HL.out.1]; omega, by rw [← HL.out.1]; exact i8, _, _, (fun x => wt x && !(decide (x = (old : Int)) && decide ((gl p.heaps (old : Int)).length = 2))), HS13.out, ?_, (by intro x hx; show g0.fW x = _; rw [h8.out]; exact k6.out x hx), HWt.out.take (nd_iff.2 holdn) (by rw [← HL.out.1]; omega) (by rw [← HL.out.1]; exact i8), ?_, n3.out, m9.out⟩
            · have hgd : (gl p.heaps (old : Int)).getD a 0 = (y : Int) := by rw [← HL.out.1]; exact HYL.out
              have htp : takeP p (old : Int) a = { block := p.block, blocks := p.blocks, heap := p.heap.set y (p.heaps.length : Int), heaps := p.heaps.set old (L.eraseIdx a) ++ [[(y : Int)]] } := by
                unfold takeP;rw [hgd, ← HL.out.1];rfl
              rw [htp]
              have n6 : g0 = { s with hs := s.hsl.set old r7 ++ [a9], hsl := s.hsl.set old r7 ++ [a9], heaps := p.heaps.set old (L.eraseIdx a) ++ [[(y : Int)]], vHs := .slice A9 (p.heaps.length + 1) c9, tc := s.tc.set 7 (.slice A9 (p.heaps.length + 1) c9), fW := d9, cW := f1 } := by
                rw [h8.out, b9.out];show ({ s with hs := _, hsl := _, heaps := s.heaps.set old _ ++ _, vHs := _, tc := _, fW := _, cW := _ } : Sg) = _;rw [HD.out.heaps]
              rw [n6];refine ⟨?_, HD.out.block, by show s.heap.set y _ = _; rw [HD.out.heap], HD.out.blocks, rfl, HD.out.bs, HD.out.bl, rfl, by show (s.hsl.set old r7 ++ [a9]).length = _; simp [HD.out.hl]⟩;show s.tc.set 7 _ = _;rw [HD.out.tc];rfl
            · rw [h8.out, b9.out]
              exact ⟨rfl, rfl, rfl, rfl, rfl, rfl, rfl, rfl, rfl, rfl⟩
set_option maxHeartbeats 16000000 in
set_option maxRecDepth 100000 in
theorem refine_any {T n : Nat} {v1 v2 : Value} {s : Sg} {p : PSt} {wt : Int → Bool} {cls : Nat → Cl} {es : List Ed} {old : Nat} (w0 w : World) (hS : SP w0.heap.size T w cls s) (hD : Std n v1 v2 s p) (hP : PW n p) (hI : StdI n es s) (hn0 : 0 < n) (hn : n ≤ 2048) (hel : es.length ≤ 1000000) (hes : ∀ e ∈ es, Nd n e.f0 ∧ (0 ≤ e.f1 ∧ e.f1 < 64) ∧ Nd n e.f2)
    {fr : Nat} {b : Nat} (hfr : fr < p.heaps.length) (hfb : gl p.heaps (fr : Int) = [(b : Int)]) {H0 : Int → Int} (hC : StdC es s fr H0) (hold : old < fr) (hLo : ∀ x ∈ gl p.blocks (b : Int), H0 x = (old : Int)) (hH : ∀ x, Nd n x → HP p x = if gi p.block x = (b : Int) then (fr : Int) else H0 x) (hH0 : ∀ x, Nd n x → H0 x < (fr : Int)) (hR : RefJ n es (gi p.block) H0 (gi p.block) (HP p) (fr : Int) (old : Int) 0)
    {A1 : Option Addr} {nl c1 : Nat} (hv1 : v1 = .slice A1 nl c1) (hnl : nl ≤ 64) (hW : StdW s wt) (hWt : Wt p wt) (hB : Below w0.heap.size w0 w) :
    Calls Try.prog 149 #[.pointer (some ⟨T, 0, none⟩), .int .i64 (fr : Int), .int .i64 (old : Int)] w fun e w' => e = .returned (.tuple #[]) ∧ ∃ s' cls' p' wt', SP w0.heap.size T w' cls' s' ∧ Std n v1 v2 s' p' ∧ PW n p' ∧ StdW s' wt' ∧ Wt p' wt' ∧ StdI n es s' ∧ StdC es s' (fr + 1) (HP p) ∧ RefJ n es (gi p.block) H0 (gi p'.block) (HP p) (fr : Int) (old : Int) nl ∧ (∀ x, Nd n x → HP p' x = HP p x) ∧ p'.heaps.length = p.heaps.length ∧ Fr w w' cls cls' (fun _ => False) ∧ Below w0.heap.size w0 w' := by
  have hmm := @run_makeMap Try.prog;have hb : Nd p.blocks.length (b : Int) := ((hP.hm (fr : Int) (nd_iff.2 hfr) (b : Int)).1 (by rw [hfb]; simp)).1;have hbn := nd_iff.1 hb;have hnb := hP.nb_le;have hnh := hP.nh_le;have hhs : s.hs.length = p.heaps.length := by rw [hD.hs, hD.hl]
  obtain ⟨gS, cS, hvS, hcS⟩ := hS.slice (hS .hs) (by rw [hhs]; omega);rw [hhs] at hvS;have hbs : s.bs.length = p.blocks.length := by rw [hD.bs, hD.bl]
  obtain ⟨gQ, cQ, hvQ, hcQ⟩ := hS.slice (hS .bs) (by rw [hbs]; omega);rw [hbs] at hvQ;have t5 : w.cell? ⟨T, 5, none⟩ = some (.slice (some ⟨gQ, 0, none⟩) p.blocks.length cQ) := by rw [hS.cell 5 s.vBs (by rw [hD.tc]; rfl), hvQ]
  have t7 : w.cell? ⟨T, 7, none⟩ = some (.slice (some ⟨gS, 0, none⟩) p.heaps.length cS) := by rw [hS.cell 7 s.vHs (by rw [hD.tc]; rfl), hvS]
  have hRf : IR w w0.heap.size cls (.hro fr) (slV (s.hsl.getD fr nilL)) [(b : Int)] := by
    have h : IR w w0.heap.size cls (.hro fr) (slV (s.hsl.getD fr nilL)) (s.heaps.getD fr []) := hS (.hro fr) (by rw [hD.hl]; exact hfr);rw [hD.heaps] at h;rw [← hfb];exact h
  obtain ⟨gF, cF, hvF, hcF⟩ := IR.slice hRf (by simp);have q7 : w.cell? ⟨gS, fr, none⟩ = some (.slice (some ⟨gF, 0, none⟩) 1 cF) := by rw [(hcS fr (by rw [hhs]; exact hfr)).1, hD.hs, hvF]; rfl
  have q8 : w.cell? ⟨gF, 0, none⟩ = some (.int .i64 (b : Int)) := (hcF 0 (by simp)).1;obtain ⟨L, hL⟩ : ∃ L, L = gl p.blocks (b : Int) := ⟨_, rfl⟩
  have hRb : IR w w0.heap.size cls (.bro b) (slV (s.bsl.getD b nilL)) L := by
    have h : IR w w0.heap.size cls (.bro b) (slV (s.bsl.getD b nilL)) (s.blocks.getD b []) := hS (.bro b) (by rw [hD.bl]; exact hbn);rw [hD.blocks] at h;rw [hL];exact h
  obtain ⟨AL, cL, hvL, _, hCL⟩ := Kd.R_reads hRb;have q9 : w.cell? ⟨gQ, b, none⟩ = some (.slice AL L.length cL) := by rw [(hcQ b (by rw [hbs]; exact hbn)).1, hD.bs, hvL]
  have hLl : L.length ≤ n := by rw [hL]; exact hP.len_b hb
  have HS := Aside0.mk hS;have HD := Aside0.mk hD;have HP := Aside0.mk hP;have HI := Aside0.mk hI;have HC := Aside0.mk hC;have k4 := Aside0.mk (And.intro hH (And.intro hH0 hR));have HW := Aside0.mk hW;have HWt := Aside0.mk hWt;subst hv1;have HLo := Aside0.mk hLo;have HEs := Aside0.mk hes;have HB := Aside0.mk hB;have HL := Aside0.mk hL;have HT := Aside0.mk (And.intro t5 (And.intro t7 (And.intro q7 (And.intro q8 q9))));have HCL := Aside0.mk hCL;have HFb := Aside0.mk hfb;clear hS hD hP hI hC hLo hH hH0 hR hW hWt hes hB hL t5 t7 q7 q8 q9 hCL hvS hcS hvQ hcQ hRf hvF hcF hRb hvL hfb hb hhs hbs;go_enter Try.func149, Try.ntmps149
  go_wp2_with fail
  have a0 := below_drew1 (below_alloc (Below.refl w.heap.size w) (Obj.map #[] 0));have i3 := Aside0.mk (show G2 (w.alloc (Obj.map #[] 0)).drew w.heap.size (fun _ => none) 0 from GM.made _ _ _ _ _);have a7 := Aside0.mk a0;have t5 := later a0 HT.out.1;have t7 := later a0 HT.out.2.1;have q7 := later a0 HT.out.2.2.1;have q8 := later a0 HT.out.2.2.2.1;have q9 := later a0 HT.out.2.2.2.2;have k1 : fr < p.heaps.length := hfr;have k2 : b < p.blocks.length := hbn;clear a0 hmm;refine start_ (n := 18) (S := fun w' => w'.cell? ⟨T, 5, none⟩ = some (.slice (some ⟨gQ, 0, none⟩) p.blocks.length cQ) ∧ w'.cell? ⟨T, 7, none⟩ = some (.slice (some ⟨gS, 0, none⟩) p.heaps.length cS) ∧ w'.cell? ⟨gS, fr, none⟩ = some (.slice (some ⟨gF, 0, none⟩) 1 cF) ∧ w'.cell? ⟨gF, 0, none⟩ = some (.int .i64 (b : Int)) ∧ w'.cell? ⟨gQ, b, none⟩ = some (.slice AL L.length cL)) (ds := []) (bqz 18 0) (by kernel_rfl) rfl rfl ⟨t5, t7, q7, q8, q9⟩ (fun hHeld => ?_);clear t5 t7 q7 q8 q9;generalize (w.alloc (Obj.map #[] 0)).drew = V at i3 a7 hHeld ⊢;have HH := Aside0.mk hHeld;have HV := Aside0.mk (Below.refl V.heap.size V);refine pqz 1 (some 20) (bqz 18 2) rfl rfl (by kernel_rfl) ?_ ?_ (fun _ _ _ h => h) (by rfl) ?_ ?_ ?_;rotate_left 2;intro w';go_simp;(with_reducible rfl);simp only [Act.put, qz1, qz2, qz3, i64_w, i32_w];rfl
  refine pqz 2 (some 21) (bqz 18 6) rfl rfl (by kernel_rfl) ?_ ?_ (fun _ _ _ h => h) (by rfl) ?_ ?_ ?_;rotate_left 2;intro w';go_simp;(with_reducible rfl);simp only [Act.put, qz1, qz2, qz3, i64_w, i32_w];rfl
  refine pqz 3 (some 22) (bqz 18 14) rfl rfl (by kernel_rfl) ?_ ?_ (fun _ _ _ h => h) (by rfl) ?_ ?_ ?_;rotate_left 2;intro w';go_simp;(with_reducible rfl);simp only [Act.put, qz1, qz2, qz3, i64_w, i32_w];rfl
  refine pqz 5 (some 24) (bqz 18 46) rfl rfl (by kernel_rfl) ?_ ?_ (fun _ _ _ h => h) (by rfl) ?_ ?_ ?_;rotate_left 2;intro w';go_simp;(with_reducible rfl);simp only [Act.put, qz1, qz2, qz3, i64_w, i32_w];rfl
  refine pqz 6 (some 25) (bqz 18 110) rfl rfl (by kernel_rfl) ?_ ?_ (fun _ _ _ h => h) (by rfl) ?_ ?_ ?_;rotate_left 2;intro w';go_simp;(with_reducible rfl);simp only [Act.put, qz1, qz2, qz3, i64_w, i32_w];rfl
  refine pqz 7 (some 26) (bqz 18 238) rfl rfl (by kernel_rfl) ?_ ?_ (fun _ _ _ h => h) (by rfl) ?_ ?_ ?_;rotate_left 2;intro w';go_simp;(with_reducible rfl);simp only [Act.put, qz1, qz2, qz3, i64_w, i32_w];rfl
  refine pqz 9 (some 28) (bqz 18 750) rfl rfl (by kernel_rfl) ?_ ?_ (fun _ _ _ h => h) (by rfl) ?_ ?_ ?_;rotate_left 2;intro w';go_simp;(with_reducible rfl);simp only [Act.put, qz1, qz2, qz3, i64_w, i32_w];rfl
  refine tqz 4 (some 23) (bqz 18 766) rfl rfl (by kernel_rfl) ?_ ?_ (fun _ _ _ h => h) (by rfl) ?_ hHeld ?_ ?_;rotate_left 2;rintro w' ⟨s0, s1, s2, s3, s4⟩;go_simp;(with_reducible rfl);simp only [Act.put, qz1, qz2, qz3, i64_w, i32_w];rfl
  refine tqz 8 (some 27) (bqz 18 1022) rfl rfl (by kernel_rfl) ?_ ?_ (fun _ _ _ h => h) (by rfl) ?_ hHeld ?_ ?_;rotate_left 2;rintro w' ⟨s0, s1, s2, s3, s4⟩;go_simp;(with_reducible rfl);simp only [Act.put, qz1, qz2, qz3, i64_w, i32_w];rfl
  refine pqz 10 (some 29) (bqz 18 2046) rfl rfl (by kernel_rfl) ?_ ?_ (fun _ _ _ h => h) (by rfl) ?_ ?_ ?_;rotate_left 2;intro w';go_simp;(with_reducible rfl);simp only [Act.put, qz1, qz2, qz3, i64_w, i32_w];rfl
  refine tqz 11 (some 30) (bqz 18 4094) rfl rfl (by kernel_rfl) ?_ ?_ (fun _ _ _ h => h) (by rfl) ?_ hHeld ?_ ?_;rotate_left 2;rintro w' ⟨s0, s1, s2, s3, s4⟩;go_simp;(with_reducible rfl);simp only [Act.put, qz1, qz2, qz3, i64_w, i32_w];rfl
  refine pqz 12 (some 31) (bqz 18 8190) rfl rfl (by kernel_rfl) ?_ ?_ (fun _ _ _ h => h) (by rfl) ?_ ?_ ?_;rotate_left 2;intro w';go_simp;(with_reducible rfl);simp only [Act.put, qz1, qz2, qz3, i64_w, i32_w];rfl
  refine tqz 13 (some 32) (bqz 18 16382) rfl rfl (by kernel_rfl) ?_ ?_ (fun _ _ _ h => h) (by rfl) ?_ hHeld ?_ ?_;rotate_left 2;rintro w' ⟨s0, s1, s2, s3, s4⟩;go_simp;(with_reducible rfl);simp only [Act.put, qz1, qz2, qz3, i64_w, i32_w];rfl
  refine pqz 14 (some 33) (bqz 18 32766) rfl rfl (by kernel_rfl) ?_ ?_ (fun _ _ _ h => h) (by rfl) ?_ ?_ ?_;rotate_left 2;intro w';go_simp;(with_reducible rfl);simp only [Act.put, qz1, qz2, qz3, i64_w, i32_w];rfl
  refine tqz 15 (some 34) (bqz 18 65534) rfl rfl (by kernel_rfl) ?_ ?_ (fun _ _ _ h => h) (by rfl) ?_ hHeld ?_ ?_;rotate_left 2;rintro w' ⟨s0, s1, s2, s3, s4⟩;go_simp;(with_reducible rfl);simp only [Act.put, qz1, qz2, qz3, i64_w, i32_w];rfl
  refine one_ (i := 0) (N := some 19) (bqz 18 65535) rfl rfl (by kernel_rfl) (by decide) (fun K hK => ?_);refine Kd.R_lit_step (Kd.int .i64) (w0 := V) V.heap.size 3 (by rfl) (N := 19) rfl (xs := ([] : List Int)) (inner := []) (okp := fun _ => False) (ok := fun _ => True) ?hr ⟨rfl, fun j p h => by simp at h⟩ (fun _ hk => hk.elim) trivial HV.out (Nat.le_refl _) (by simp) ?_
  (case hr => first | (go_simp; done) | (go_simp; rfl))
  intro v5 w5 ho hb hg hat;obtain ⟨A5, c5, z2⟩ := Kd.R_slice ho;subst z2;have q1 := Aside0.mk ho;have a8 := Aside0.mk hb;clear ho hb hg hat;refine hK.out _ _ ⟨later a8.out HH.out.1, later a8.out HH.out.2.1, later a8.out HH.out.2.2.1, later a8.out HH.out.2.2.2.1, later a8.out HH.out.2.2.2.2⟩ (fun hHeld => ?_);clear hK K;refine norm_ (a' := ?_) ?_ ?_;rotate_left
  · show Act.put _ (some 19) _ = _
    simp only [Act.put, qz1, qz2, qz3, i64_w, i32_w];rfl
  refine one_ (i := 16) (N := some 35) (bqz 18 131071) rfl rfl (by kernel_rfl) (by decide) (fun K hK => ?_);refine Kd.R_append_rows_step (Kd.int .i64) (Rr := (Kd.int .i64).K w5) (w0 := V) V.heap.size (by rfl) (.tmp 19) (.tmp 34) 28 3 (.int .i64 0) 8 rfl Try.underlying28 infoI rfl (by decide) (by omega) (.slice A5 ([] : List Int).length c5) [] L AL L.length cL (fun _ => True) (fun _ => False) rfl rfl q1.out (Kd.C_below (Kd.C_below HCL.out a7.out) a8.out) (fun _ _ h => h) (fun _ hk => hk.elim) (fun _ _ => trivial) a8.out a8.out.size (by simp; omega) ?_;intro v6 w6 ho hb hg hat;obtain ⟨A6, c6, x0⟩ := Kd.R_slice ho;rw [List.nil_append] at ho x0;subst x0;have q2 := Aside0.mk ho;have a1 := Aside0.mk hb;clear ho hb hg hat;refine hK.out _ _ ⟨later a1.out HH.out.1, later a1.out HH.out.2.1, later a1.out HH.out.2.2.1, later a1.out HH.out.2.2.2.1, later a1.out HH.out.2.2.2.2⟩ (fun hHeld => ?_);clear hK K;refine norm_ (a' := ?_) ?_ ?_;rotate_left
  · show Act.put _ (some 35) _ = _
    simp only [Act.put, qz1, qz2, qz3, i64_w, i32_w];rfl
  refine pqz 17 (some 7) (bqz 18 262143) rfl rfl (by kernel_rfl) ?_ ?_ (fun _ _ _ h => h) (by rfl) ?_ ?_ ?_;rotate_left 2;intro w';go_simp;(with_reducible rfl);simp only [Act.put, qz1, qz2, qz3, i64_w, i32_w];rfl
  refine done_ (by kernel_rfl) ?_;have a3 := Aside0.mk (show G2 w6 w.heap.size (fun _ => none) 0 from i3.out.below a1.out);have b2 := Aside0.mk (below_then a7.out a7.out.size a1.out);have HVs := Aside0.mk (show w.heap.size + 1 ≤ V.heap.size from by have := a7.out.size; have h2 := i3.out.lt_; omega);have f8 := Aside0.mk (Kd.R_lower q2.out HVs.out);obtain ⟨M, hM⟩ : ∃ M, M = w.heap.size := ⟨_, rfl⟩
  rw [← hM] at a3 f8 ⊢;have HMe := Aside0.mk hM;clear i3 a7 HH HV q1 a8 a1 q2 hM HT HCL;go_wp2
  go_loopw [38] (fun i wr => ∃ (k : Nat) (f : Int × Int → Option Value) (c : Nat), k ≤ L.length ∧ i = .int .i64 k ∧ Aside0 (G2 wr M f c) ∧ Aside0 (∀ q, ptOk q → f q = encZ (cntL (intoL es (L.take k)) q)) ∧ Aside0 (Kd.R (Kd.int .i64) 3 wr (M + 1) (fun _ => True) (.slice A6 L.length c6) L) ∧ Aside0 (Below w.heap.size w wr)) (fun i _ => L.length - (intOf i).toNat)
  case atStart => exact ⟨0, _, _, Nat.zero_le _, rfl, a3, ⟨fun q hq => rfl⟩, f8, b2⟩
  case round =>
    clear a3 f8 b2 hHeld;obtain ⟨k, f, c, hk, rfl, HG, HF, HN, HBr⟩ := hrel;by_cases hlt : k < L.length
    · obtain ⟨ad, hA, hc⟩ := atI (Kd.R_reads' HN.out).2.2 k hlt
      obtain ⟨x, hx, hxn⟩ := (((HP.out.bm (b : Int) (nd_iff.2 hbn) (L.getD k 0)).1 (by rw [← HL.out, List.getD_eq_getElem?_getD, List.getElem?_eq_getElem hlt]; exact List.getElem_mem hlt)).1).nat;rw [hx] at hc;have HX := Aside0.mk hx;subst hA;have HSr := Aside0.mk (HS.out.below HBr.out);obtain ⟨gI, cI, hvI, hcI⟩ := slR (show XR wr w0.heap.size cls .tab s.vI s.is from HSr.out .tab) (by rw [HI.out.len]; exact hn0);rw [HI.out.len] at hvI;have t3 : wr.cell? ⟨T, 3, none⟩ = some (.slice (some ⟨gI, 0, none⟩) n cI) := by rw [HSr.out.cell 3 s.vI (by rw [HD.out.tc]; rfl), hvI]
      obtain ⟨m, hm⟩ : ∃ m, m = es.filter fun e => decide (e.f2 = (x : Int)) := ⟨_, rfl⟩
      have hrow : ER wr w0.heap.size cls .tro (slV (s.is.getD x nilL)) m := by
        have h : ER wr w0.heap.size cls .tro (slV (s.is.getD x nilL)) (s.ins.getD x []) := HSr.out .tro x (by rw [HI.out.len]; exact hxn);rw [HI.out.ins x hxn, ← hm] at h;exact h
      obtain ⟨Ax, cx, hvx, _, hCx⟩ := Kd.R_reads hrow;have q3 : wr.cell? ⟨gI, x, none⟩ = some (.slice Ax m.length cx) := by rw [(hcI x (by rw [HI.out.len]; exact hxn)).1, hvx]
      have hml : m.length ≤ es.length := by rw [hm]; exact List.length_filter_le _ _
      have HM := Aside0.mk hm;have HRx := Aside0.mk hrow;have HVx := Aside0.mk hvx;clear hx hvI hcI hm hrow hvx hCx;go_wp2
      clear t3 q3 hc;obtain ⟨W1, l8⟩ : ∃ W1, W1 = wr := ⟨_, rfl⟩
      subst l8;go_loopw [50] (fun i wr => ∃ (j : Nat) (f : Int × Int → Option Value) (c : Nat), j ≤ m.length ∧ i = .int .i64 j ∧ Aside0 (G2 wr M f c) ∧ Aside0 (∀ q, ptOk q → f q = encZ (cntL (intoL es (L.take k) ++ m.take j) q)) ∧ Aside0 (Kd.R (Kd.int .i64) 3 wr (M + 1) (fun _ => True) (.slice (some ad) L.length c6) L) ∧ Aside0 (Below w.heap.size w wr)) (fun i _ => m.length - (intOf i).toNat)
      case atStart => exact ⟨0, _, _, Nat.zero_le _, rfl, HG, ⟨fun q hq => by rw [List.take_zero, List.append_nil]; exact HF.out q hq⟩, HN, HBr⟩
      case round =>
        clear HG HF HN;obtain ⟨j, f, c, hj, rfl, HG, HF, HN, HBj⟩ := hrel;by_cases b8 : j < m.length
        · have f4 : ER wr w0.heap.size cls .tro (slV (s.is.getD x nilL)) m := by
            have h : ER wr w0.heap.size cls .tro (slV (s.is.getD x nilL)) (s.ins.getD x []) := (HS.out.below HBj.out) .tro x (by rw [HI.out.len]; exact hxn);rw [HI.out.ins x hxn, ← HM.out] at h;exact h
          rw [HVx.out] at f4;obtain ⟨ae, y9, g0, g1, g2⟩ := atE (Kd.R_reads' f4).2.2 j b8;subst y9;obtain ⟨e, he⟩ : ∃ e, e = m.getD j z80 := ⟨_, rfl⟩
          have hee := HEs.out e (by
            have h : e ∈ m := by rw [he, List.getD_eq_getElem?_getD, List.getElem?_eq_getElem b8]; exact List.getElem_mem b8
            rw [HM.out] at h;exact (List.mem_filter.1 h).1)
          have z0 : Aside0 (m.take (j + 1) = m.take j ++ [e]) := ⟨by rw [take_snoc z80 b8, ← he]⟩
          rw [← he] at g0 g1 g2
          have hok : ptOk (e.f0, e.f1) := by
            obtain ⟨h1, h2, h3⟩ := hee;have := h1.1;have := h1.2;exact ⟨by show i64in e.f0; unfold i64in; omega, by show i64in e.f1; unfold i64in; omega⟩
          obtain ⟨z, hz⟩ : ∃ z, z = cntL (intoL es (L.take k) ++ m.take j) (e.f0, e.f1) := ⟨_, rfl⟩
          have hlen : (intoL es (L.take k) ++ m.take j).length ≤ 3000000000 := by
            rw [List.length_append];have h1 := intoL_len es (L.take k);have h2 : (L.take k).length * es.length ≤ 2048 * 1000000 := Nat.mul_le_mul (by rw [List.length_take]; omega) hel;have h3 : (m.take j).length ≤ m.length := by rw [List.length_take]; omega
            omega
          have z3 := cntL_nn (intoL es (L.take k) ++ m.take j) (e.f0, e.f1);rw [← hz] at z3;have hcn : c < maxLen := by have := cnt_le2 HG.out HF.out; unfold maxLen; omega
          have HOk := Aside0.mk hok;have HZ := Aside0.mk hz;have HCn := Aside0.mk hcn;have hwz : wrap64 (z + 1) = z + 1 := by unfold wrap64; omega
          clear f4 he hee hok hz hcn;go_wp2_with fail
          clear g0 g1 g2;obtain ⟨E, hE⟩ : ∃ E, E = wr.heap.size := ⟨_, rfl⟩
          rw [← hE];have HME := Aside0.mk (show M < E by rw [hE]; exact HG.out.lt_);have b7 := below_drew1 (below_alloc (Below.refl wr.heap.size wr) (Obj.cells #[Value.int IntKind.i64 e.f0, Value.int IntKind.i64 e.f1, Value.int IntKind.i64 e.f2] 80));have e0 := (blk_cell (blk_new wr (Obj.cells #[Value.int IntKind.i64 e.f0, Value.int IntKind.i64 e.f1, Value.int IntKind.i64 e.f2] 80)) 0).trans rfl;have e1 := (blk_cell (blk_new wr (Obj.cells #[Value.int IntKind.i64 e.f0, Value.int IntKind.i64 e.f1, Value.int IntKind.i64 e.f2] 80)) 1).trans rfl;rw [← hE] at e0 e1;have a5 := Aside0.mk (HG.out.below b7);have k8 := Aside0.mk (Kd.R_below HN.out b7);have a7 := Aside0.mk (below_then HBj.out HBj.out.size b7);clear b7 hE HG HN HBj;generalize (wr.alloc (Obj.cells #[Value.int IntKind.i64 e.f0, Value.int IntKind.i64 e.f1, Value.int IntKind.i64 e.f2] 80)) = W at a5 k8 a7 e0 e1 ⊢;have hlook := a5.out.get ptKB HOk.out Try.underlying165 (zeroI _);rw [HF.out _ HOk.out, encZ_get, ← HZ.out] at hlook;have u7 : (Instr.lookup 165 (.map (some M)) (.agg #[.int .i64 e.f0, .int .i64 e.f1]) false).run Try.prog W.drew = .ok (.int .i64 z) W.drew := hlook;clear hlook;refine start_ (n := 11) (S := fun w' => w'.cell? ⟨E, 0, none⟩ = some (.int .i64 e.f0) ∧ w'.cell? ⟨E, 1, none⟩ = some (.int .i64 e.f1) ∧ (Instr.lookup 165 (.map (some M)) (.agg #[.int .i64 e.f0, .int .i64 e.f1]) false).run Try.prog w' = .ok (.int .i64 z) w') (ds := [10]) (bqz 11 0) (by kernel_rfl) rfl rfl ⟨e0, e1, u7⟩ (fun hHeld => ?_);clear e0 e1 u7;generalize W.drew = V at a5 k8 a7 hHeld ⊢;obtain ⟨v0, st, w5, hrun, u5, x6, o2, o7⟩ := a5.out.entry ptKB pt_law HOk.out Try.underlying165 zeroI HCn.out;have HRun := Aside0.mk hrun;have b5 := Aside0.mk u5;have HLk := Aside0.mk o2;have HSt := Aside0.mk o7;have HH := Aside0.mk hHeld;clear hrun u5 x6 o2 o7;refine pqz 0 (some 54) (bqz 11 1) rfl rfl (by kernel_rfl) ?_ ?_ (fun _ _ _ h => h) (by rfl) ?_ ?_ ?_;rotate_left 2;intro w';go_simp;(with_reducible rfl);simp only [Act.put, qz1, qz2, qz3, i64_w, i32_w];rfl
          refine pqz 1 (some 55) (bqz 11 3) rfl rfl (by kernel_rfl) ?_ ?_ (fun _ _ _ h => h) (by rfl) ?_ ?_ ?_;rotate_left 2;intro w';go_simp;(with_reducible rfl);simp only [Act.put, qz1, qz2, qz3, i64_w, i32_w];rfl
          refine pqz 3 (some 57) (bqz 11 11) rfl rfl (by kernel_rfl) ?_ ?_ (fun _ _ _ h => h) (by rfl) ?_ ?_ ?_;rotate_left 2;intro w';go_simp;(with_reducible rfl);simp only [Act.put, qz1, qz2, qz3, i64_w, i32_w];rfl
          refine tqz 2 (some 56) (bqz 11 15) rfl rfl (by kernel_rfl) ?_ ?_ (fun _ _ _ h => h) (by rfl) ?_ hHeld ?_ ?_;rotate_left 2;rintro w' ⟨s0, s1, s2⟩;go_simp;(with_reducible rfl);simp only [Act.put, qz1, qz2, qz3, i64_w, i32_w];rfl
          refine tqz 4 (some 58) (bqz 11 31) rfl rfl (by kernel_rfl) ?_ ?_ (fun _ _ _ h => h) (by rfl) ?_ hHeld ?_ ?_;rotate_left 2;rintro w' ⟨s0, s1, s2⟩;go_simp;(with_reducible rfl);simp only [Act.put, qz1, qz2, qz3, i64_w, i32_w];rfl
          refine pqz 5 (some 59) (bqz 11 63) rfl rfl (by kernel_rfl) ?_ ?_ (fun _ _ _ h => h) (by rfl) ?_ ?_ ?_;rotate_left 2;intro w';go_simp;(with_reducible rfl);simp only [Act.put, qz1, qz2, qz3, i64_w, i32_w];rfl
          refine tqz 6 (some 60) (bqz 11 127) rfl rfl (by kernel_rfl) ?_ ?_ (fun _ _ _ h => h) (by rfl) ?_ hHeld ?_ ?_;rotate_left 2;rintro w' ⟨s0, s1, s2⟩;go_simp;(with_reducible rfl);simp only [Act.put, qz1, qz2, qz3, i64_w, i32_w];rfl
          refine pqz 7 (some 61) (bqz 11 255) rfl rfl (by kernel_rfl) ?_ ?_ (fun _ _ _ h => h) (by rfl) ?_ ?_ ?_;rotate_left 2;intro w';go_simp;(with_reducible rfl);simp only [Act.put, qz1, qz2, qz3, i64_w, i32_w];rfl
          refine one_ (i := 8) (N := some 62) (bqz 11 511) rfl rfl (by kernel_rfl) (by decide) (fun K hK => ?_);refine value_ (w1 := w5) (v := .tuple #[v0, goInt st]) (by rfl) rfl (run_gentry rfl rfl rfl HRun.out) ?_;refine hK.out _ _ ⟨cell_keep b5.out HME.out HH.out.1, cell_keep b5.out HME.out HH.out.2.1, (by have h := HLk.out; rw [HF.out _ HOk.out, encZ_get, ← HZ.out] at h; exact h)⟩ (fun hHeld => ?_);clear hK K;refine norm_ (a' := ?_) ?_ ?_;rotate_left
          · show Act.put _ (some 62) _ = _
            simp only [Act.put, qz1, qz2, qz3, i64_w, i32_w];rfl
          refine pqz 9 (some 63) (bqz 11 1023) rfl rfl (by kernel_rfl) ?_ ?_ (fun _ _ _ h => h) (by rfl) ?_ ?_ ?_;rotate_left 2;intro w';go_simp;(with_reducible rfl);simp only [Act.put, qz1, qz2, qz3, i64_w, i32_w];rfl
          refine last_ (i := 10) (N := none) (bqz 11 2047) rfl rfl (by kernel_rfl) (by decide) (fun K hK => ?_);obtain ⟨w6, j5, n8, n5, i0⟩ := HSt.out w5 (.int .i64 (z + 1)) rfl;refine skip_ (w1 := w6) (by rfl) rfl (run_gstore rfl rfl rfl ?hv j5) ?_
          (case hv => go_simp)
          have a3 := Aside0.mk n8;have HGG := Aside0.mk n5;clear j5 n8 n5 i0;refine hK.out _ _ ?_;clear hK K;refine done_ (by kernel_rfl) ?_;go_wp2
          go_roundw
          case rel =>
            have hMle : w.heap.size ≤ M := by rw [HMe.out]; exact Nat.le_refl _
            have f8 := Kd.R_grown (Kd.R_grown (Kd.R_bound k8.out) b5.out fun q hq e => by cases e; have := hq.2.1; omega) HGG.out fun q hq e => by cases e; have := hq.2.1; omega
            refine ⟨j + 1, _, _, by omega, by go_num, a3, ⟨fun q hq => ?_⟩, ⟨Kd.R_mono f8 fun _ _ => trivial⟩, ⟨(a7.out.grown b5.out a7.out.size fun q e => by cases e; exact hMle).grown HGG.out (Nat.le_trans a7.out.size b5.out.size) fun q e => by cases e; exact hMle⟩⟩;rw [z0.out, ← List.append_assoc, cntL_snoc];unfold putM;by_cases hqe : q = (e.f0, e.f1)
            · rw [if_pos hqe, if_pos hqe, hqe, ← HZ.out]
              unfold encZ;rw [if_neg (by omega)]
            · rw [if_neg hqe, if_neg hqe]
              exact HF.out q hq
          case measure => simp [intOf]; omega
        · have ej : j = m.length := by omega
          subst ej;go_wp2
          go_roundw
          case rel =>
            refine ⟨k + 1, _, _, by omega, by go_num, HG, ⟨fun q hq => ?_⟩, HN, HBj⟩;rw [HF.out q hq, List.take_length, take_snoc (0 : Int) hlt, HX.out, intoL_snoc, ← HM.out]
          case measure => simp [intOf]; omega
    · have ek : k = L.length := by omega
      subst ek;rw [List.take_length] at HF;clear hlt hk HN;have HLn := Aside0.mk (show L.Nodup by rw [HL.out]; exact HP.out.bn _ (nd_iff.2 hbn));have i2 := Aside0.mk (show ∀ q, ptOk q → f q = encZ (cntE es (fun x => decide (x ∈ L)) q.1 q.2) from fun q hq => by rw [HF.out q hq, cntL_into es q L HLn.out]);have hMw : w.heap.size ≤ M := by rw [HMe.out]; exact Nat.le_refl _
      have x1 : w0.heap.size ≤ w.heap.size := HB.out.size
      have hcb : c ≤ es.length := by
        have := HG.out.count_le ptKB (es.map fun e => (e.f0, e.f1)) fun q hq hs => by
          rw [i2.out q hq] at hs;obtain ⟨e, he, h0, h1, _⟩ := cntE_pos.1 (encZ_some.1 hs);exact List.mem_map.2 ⟨e, he, Prod.ext h0 h1⟩
        simpa using this
      obtain ⟨d9, g9⟩ : ∃ d9 : Nat → Cl, d9 = fun k => if k = M then .far 100 else cls k := ⟨_, rfl⟩
      have n1 : ∀ k, k < w.heap.size → d9 k = cls k := fun k hk => by rw [g9]; show (if k = M then _ else _) = _; rw [if_neg (by omega)]
      have hcM : d9 M = .far 100 := by rw [g9]; show (if M = M then _ else _) = _; rw [if_pos rfl]
      have HS1 := Aside0.mk (HS.out.stay (cls' := d9) (Kept.of_below HBr.out _) fun k hk _ => n1 k hk);have p4 := Aside0.mk (Fr.same (D := fun _ => False) (Kept.of_below HBr.out _) n1);have a7 := Aside0.mk (below_then HB.out HB.out.size HBr.out);have HGc := Aside0.mk ((HS1.out .mc).2.1)
      have hcC : s.cC ≤ fr := by
        have := HGc.out.count_le intKB ((List.range fr).map fun k : Nat => (k : Int)) fun a ha hs => by
          rw [HC.out.fC a ha] at hs;by_cases hq : (decide (0 ≤ a) && decide (a < (fr : Int))) = true
          · simp only [Bool.and_eq_true, decide_eq_true_eq] at hq
            exact List.mem_map.2 ⟨a.toNat, List.mem_range.2 (by omega), by omega⟩
          · rw [if_neg hq] at hs; cases hs
        simpa using this
      have hfi : i64in (fr : Int) := by unfold i64in; omega
      have t8 : wr.cell? ⟨T, 8, none⟩ = some (.map (some s.mC)) := HS1.out.cell 8 _ (by rw [HD.out.tc]; rfl);have HCl := Aside0.mk (And.intro hcM (And.intro hcb (And.intro hcC hfi)));have HMw := Aside0.mk (And.intro hMw x1);clear g9 n1 hcM hcb hcC hfi hMw x1 HF
      go_wp2_with (first
        | (refine wpList_gput _ intKB rfl _ _ _ 87 rfl 165 Try.underlying87 s.mC s.cC s.fC rfl HGc.out (by have := HCl.out.2.2.1; unfold maxLen; omega) (fr : Int) HCl.out.2.2.2 (.map (some M)) rfl rfl ?_
           intro w2 hgm hgg hsz;have g7 := HS1.out.pushC (w1 := w2) HCl.out.1 (Nat.le_trans HMw.out.2 HMw.out.1) HG.out hgm hgg;rw [HC.out.ln] at g7
           have f7 := Aside0.mk (p4.out.step (w2 := w2) (cls2 := fun k => if k = M then .cmp fr else d9 k) (kept_grown hgg fun k e => by cases e; exact .inl (by rw [(HS1.out .mc).1]; rfl)) (fun k hk j e _ => by
             show (if k = M then _ else _) = _;rw [if_neg (by have := HMw.out.1; omega)];exact e))
           have i1 := Aside0.mk (a7.out.grown hgg a7.out.size (fun k e => by cases e; exact (HS1.out .mc).2.2))
           have b4 := Aside0.mk (HG.out.grown (fun e => by
             have h1 := (HS1.out .mc).1;have h2 : s.mC = M := by cases e; rfl
             rw [h2, HCl.out.1] at h1
             cases h1) hgg)
           obtain ⟨s2, o6⟩ : ∃ s2 : Sg, s2 = { s with fC := putM s.fC (fr : Int) (.map (some M)), cC := if (s.fC (fr : Int)).isSome = true then s.cC else s.cC + 1, cm := s.cm ++ [M], fc := fun i => if i = fr then f else s.fc i, cc := fun i => if i = fr then c else s.cc i } := ⟨_, rfl⟩
           rw [← o6] at g7;obtain ⟨e2, n2⟩ : ∃ e2 : Nat → Cl, e2 = fun k => if k = M then .cmp fr else d9 k := ⟨_, rfl⟩
           rw [← n2] at g7 f7;have HS2 := Aside0.mk g7;have a4 := Aside0.mk o6;clear hgm hgg hsz g7 o6 n2)
        | (at_range; refine wpList_grange _ ptKB rfl _ 165 rfl 3 Try.underlying165 M c f rfl b4.out ?_; intro w3 hgr hg hsz))
      go_frame
      have HGr := Aside0.mk hgr;have b9 : Below w2.heap.size w2 w3 := (Below.refl _ _).grown hg (Nat.le_refl _) (fun k e => by cases e);have HS3 := Aside0.mk (HS2.out.below b9);have k7 := Aside0.mk (f7.out.step (cls2 := e2) (Kept.of_below b9 _) fun _ _ _ e _ => e);have o9 := Aside0.mk (below_then i1.out i1.out.size b9);have hmo : s2.cm.getD old 0 = s.cm.getD old 0 := by rw [a4.out]; show (s.cm ++ [M]).getD old 0 = _; rw [gD_snoc, if_neg (by rw [HC.out.ln]; omega)]
      have holn : old < s2.cm.length := by rw [a4.out]; show old < (s.cm ++ [M]).length; rw [List.length_append, HC.out.ln]; simp; omega
      obtain ⟨mo, hmoe⟩ : ∃ mo, mo = s2.cm.getD old 0 := ⟨_, rfl⟩
      have HMo := Aside0.mk (And.intro hmoe (And.intro holn hmo))
      have HA := Aside0.mk (show ∀ q, ptOk q → s2.fc old q = encZ (cntE es (fun x => decide (H0 x = (old : Int))) q.1 q.2) from fun q hq => by
        rw [a4.out];show (if old = fr then f else s.fc old) q = _;rw [if_neg (by omega)];exact HC.out.fc old hold q hq)
      have n3 := (HS2.out (.cmp old) holn).1;have HCm := Aside0.mk (show e2 mo = .cmp old by rw [hmoe]; exact n3)
      have HAB := Aside0.mk (show ∀ s l, cntE es (fun x => decide (x ∈ L)) s l ≤ cntE es (fun x => decide (H0 x = (old : Int))) s l from fun s l => by
        have h := cntE_sub es (fun x => decide (H0 x = (old : Int))) (fun x => decide (x ∈ L)) (fun e _ hx => by
          have hx := of_decide_eq_true hx;rw [HL.out] at hx;exact decide_eq_true (HLo.out _ hx)) s l
        have h2 := (cntE_nn es (fun x => decide (H0 x = (old : Int)) && !decide (x ∈ L)) s l).1;omega)
      have b1 := Aside0.mk (show s2.mC = s.mC ∧ e2 s.mC = .mc ∧ (∀ h, i64in h → s2.fC h = if decide (0 ≤ h) && decide (h < ((fr + 1 : Nat) : Int)) then some (.map (some (s2.cm.getD h.toNat 0))) else none) from by
        refine ⟨by rw [a4.out], by have := (HS2.out .mc).1; rw [a4.out] at this; exact this, fun h hh => ?_⟩;rw [a4.out];show putM s.fC (fr : Int) (.map (some M)) h = if _ then some (.map (some ((s.cm ++ [M]).getD h.toNat 0))) else none
        unfold putM;by_cases e : h = (fr : Int)
        · subst e
          rw [if_pos rfl, if_pos (by simp; omega), gD_snoc, if_pos (by rw [HC.out.ln]; simp)]
        · rw [if_neg e, HC.out.fC h hh]
          by_cases hq : (decide (0 ≤ h) && decide (h < (fr : Int))) = true
          · rw [if_pos hq]
            simp only [Bool.and_eq_true, decide_eq_true_eq] at hq;rw [if_pos (by simp; omega), gD_snoc, if_neg (by rw [HC.out.ln]; omega)]
          · rw [if_neg hq, if_neg]
            intro z1;apply hq;simp only [Bool.and_eq_true, decide_eq_true_eq] at z1 ⊢;omega)
      have hoi : i64in (old : Int) := by unfold i64in; omega
      have HOi := Aside0.mk hoi;obtain ⟨r, hr⟩ : ∃ r, r = w2.heap.size := ⟨_, rfl⟩
      rw [← hr] at HGr ⊢
      have HRr := Aside0.mk (show w0.heap.size ≤ r ∧ w.heap.size ≤ r ∧ T < r ∧ M < r ∧ mo < r ∧ s.mC < r from by
        have h1 := i1.out.size;have h2 := f7.out.kept.1;have h3 := HS2.out.ownT;have h4 := b4.out.lt_;have h5 := (HS2.out (.cmp old) holn).2.1.lt_;have h6 := (HS2.out .mc).2.1.lt_;rw [b1.out.1] at h6;rw [hr, hmoe];exact ⟨h1, h2, h3, h4, h5, h6⟩)
      obtain ⟨a2, h8⟩ : ∃ a2 : Nat → Cl, a2 = fun k => if k = r then .far 101 else e2 k := ⟨_, rfl⟩
      have h3 : ∀ k, k < r → a2 k = e2 k := fun k hk => by rw [h8]; show (if k = r then _ else _) = _; rw [if_neg (by omega)]
      have h3r : a2 r = .far 101 := by rw [h8]; show (if r = r then _ else _) = _; rw [if_pos rfl]
      have HS3 := Aside0.mk (HS2.out.stay (cls' := a2) (Kept.of_below b9 _) fun k hk _ => h3 k (by rw [hr]; exact hk));have k7 := Aside0.mk (f7.out.step (cls2 := a2) (Kept.of_below b9 _) fun k hk j e _ => by rw [h3 k (Nat.lt_of_lt_of_le hk HRr.out.2.1)]; exact e);have HCm := Aside0.mk (show a2 mo = .cmp old by rw [h3 mo HRr.out.2.2.2.2.1]; exact HCm.out);have b1 := Aside0.mk (show s2.mC = s.mC ∧ a2 s.mC = .mc ∧ _ from ⟨b1.out.1, by rw [h3 _ HRr.out.2.2.2.2.2]; exact b1.out.2.1, b1.out.2.2⟩);have HClM := Aside0.mk (show a2 M = .cmp fr ∧ a2 r = .far 101 ∧ a2 T = .tt from ⟨by rw [h3 M HRr.out.2.2.2.1]; have h := HS2.out (.cmp fr) (by rw [a4.out]; show fr < (s.cm ++ [M]).length; rw [List.length_append, HC.out.ln]; simp); have h := h.1; rw [a4.out] at h; rw [show ({ s with fC := putM s.fC (fr : Int) (.map (some M)), cC := _, cm := s.cm ++ [M], fc := _, cc := _ } : Sg).cm.getD fr 0 = M by show (s.cm ++ [M]).getD fr 0 = M; rw [gD_snoc, if_pos HC.out.ln.symm]] at h; exact h, h3r, by rw [h3 T HRr.out.2.2.1]; exact (HS2.out .tt).2.1⟩);clear h3 h3r h8 hgr hg hsz b9 hmo holn hmoe n3 hoi hr HS1 p4 a7 HS2 f7 i1 HGc HG HBr t8
      go_loopw [] (fun wr => ∃ (left : Int × Int → Bool) (cnt : Nat) (fcx : Nat → Int × Int → Option Value) (ccx : Nat → Nat),
        Aside0 (GR Try.prog 167 ptL ptOk wr M r f left cnt) ∧ Aside0 (SP w0.heap.size T wr a2 { s2 with fc := fcx, cc := ccx }) ∧ Aside0 (∀ i, i ≠ old → fcx i = s2.fc i ∧ ccx i = s2.cc i) ∧
        Aside0 (∀ q, ptOk q → fcx old q = encZ (if left q = true then cntE es (fun x => decide (H0 x = (old : Int))) q.1 q.2 else cntE es (fun x => decide (H0 x = (old : Int))) q.1 q.2 - cntE es (fun x => decide (x ∈ L)) q.1 q.2)) ∧ Aside0 (ccx old ≤ es.length) ∧ Aside0 (Fr w wr cls a2 fun _ => False) ∧ Aside0 (Below w0.heap.size w0 wr)) (fun wr => wr.rangeLeft M r)
      case atStart =>
        refine ⟨_, _, s2.fc, s2.cc, HGr, HS3, ⟨fun _ _ => ⟨rfl, rfl⟩⟩, ⟨fun q hq => ?_⟩, ⟨?_⟩, k7, o9⟩
        · rw [HA.out q hq]
          cases hs : (f q).isSome with
          | true => rw [if_pos rfl]
          | false =>
            rw [if_neg (by simp)];rw [i2.out q hq] at hs
            have hz : cntE es (fun x => decide (x ∈ L)) q.1 q.2 = 0 := by
              by_cases hz : cntE es (fun x => decide (x ∈ L)) q.1 q.2 = 0
              · exact hz
              · rw [encZ_some.2 hz] at hs; cases hs
            rw [hz, Int.sub_zero]
        · rw [a4.out]
          show (if old = fr then c else s.cc old) ≤ _;rw [if_neg (by omega)];exact HC.out.cc old hold
      case round =>
        clear HGr HS3 k7 o9;obtain ⟨left, cnt, fcx, ccx, HGr, HS4, HOt, i7, HCc, i4, f5⟩ := hrel;go_wp2_with (at_next; refine wpList_gnext _ ptKB rfl _ rfl M r f left cnt rfl HGr.out ?_ ?_)
        rotate_left
        · intro ya yb v w5 x5 hy hly hfy e3 hlt a6 hsz hen
          obtain ⟨zA, hzA⟩ : ∃ zA, zA = cntE es (fun x => decide (H0 x = (old : Int))) ya yb := ⟨_, rfl⟩
          obtain ⟨zB, hzB⟩ : ∃ zB, zB = cntE es (fun x => decide (x ∈ L)) ya yb := ⟨_, rfl⟩
          have f3 := i2.out (ya, yb) hy;rw [hfy] at f3
          have x9 : zB ≠ 0 := by
            have := encZ_some (z := cntE es (fun x => decide (x ∈ L)) ya yb);rw [hzB];exact this.1 (by rw [show encZ (cntE es (fun x => decide (x ∈ L)) ya yb) = some v from f3.symm]; rfl)
          obtain rfl : v = .int .i64 zB := by
            have h1 : some v = encZ zB := by rw [hzB]; exact f3
            unfold encZ at h1;rw [if_neg x9] at h1;exact Option.some.inj h1
          have hzle : zB ≤ zA := by rw [hzA, hzB]; exact HAB.out ya yb
          have z7 : 0 ≤ zB := by rw [hzB]; exact (cntE_nn _ _ _ _).1
          have z6 : zA ≤ es.length := by rw [hzA]; exact (cntE_nn _ _ _ _).2
          have n4 : (Instr.entry (.pointer (some ⟨r, 0, none⟩))).run Try.prog w5 = .ok (.tuple #[.agg #[.int .i64 ya, .int .i64 yb], .int .i64 zB]) w5 := hen;have l6 : Kept _ w5 (fun k => k = r) := kept_grown a6 fun k e => by cases e; rfl
          have a8 := Aside0.mk (f5.out.grown a6 f5.out.size (fun k e => by cases e; exact HRr.out.1));have b5 := Aside0.mk e3;clear hen f3;have HS5 := Aside0.mk (HS4.out.stay (cls' := a2) (l6.mono fun k hk => by show (a2 k).own = false; rw [show k = r from hk, HClM.out.2.1]; rfl) fun _ _ _ => rfl);have p7 := Aside0.mk (i4.out.step (cls2 := a2) (l6.mono fun k hk => .inr (by rw [show k = r from hk]; exact HRr.out.2.1)) fun _ _ _ e _ => e);have hokq : ptOk (ya, yb) := hy;have hva : fcx old (ya, yb) = encZ zA := by rw [i7.out _ hokq, if_pos hly, hzA]
          have HQ := Aside0.mk (And.intro hokq (And.intro hva (And.intro hly (And.intro hlt hfy))));have HZ := Aside0.mk (And.intro hzA hzB);clear l6 e3 hlt a6 hsz hly hfy hy hokq hva hzA hzB HS4 i4 f5;go_wp2_with fail
          clear n4;obtain ⟨E, hE⟩ : ∃ E, E = w5.heap.size := ⟨_, rfl⟩
          rw [← hE];have b7 := below_drew1 (below_alloc (Below.refl w5.heap.size w5) (Obj.cells #[Value.int IntKind.i64 ya, Value.int IntKind.i64 yb] 167));have e0 := (blk_cell (blk_new w5 (Obj.cells #[Value.int IntKind.i64 ya, Value.int IntKind.i64 yb] 167)) 0).trans rfl;have e1 := (blk_cell (blk_new w5 (Obj.cells #[Value.int IntKind.i64 ya, Value.int IntKind.i64 yb] 167)) 1).trans rfl;rw [← hE] at e0 e1;have HrE := Aside0.mk (show r < E from by rw [hE]; exact b5.out.lt_);have HS6 := Aside0.mk (HS5.out.below b7);have d7 := Aside0.mk (p7.out.step (cls2 := a2) (Kept.of_below b7 _) fun _ _ _ e _ => e);have a1 := Aside0.mk (below_then a8.out a8.out.size b7);have a3 := Aside0.mk (b5.out.same (b7.block M b5.out.mlt) (b7.block r b5.out.lt_));clear b7 hE HS5 p7 a8 b5;generalize (w5.alloc (Obj.cells #[Value.int IntKind.i64 ya, Value.int IntKind.i64 yb] 167)) = W at HS6 d7 a1 a3 e0 e1 ⊢;have d3 := HS6.out.cell 8 (.map (some s.mC)) (by show s2.tc[8]? = _; rw [a4.out]; show s.tc[8]? = _; rw [HD.out.tc]; rfl);have d4 : G1 W.drew s.mC s2.fC s2.cC := by have h := (HS6.out .mc).2.1; rw [← b1.out.1]; exact h
          have a6 : G2 W.drew mo (fcx old) (ccx old) := by have h := (HS6.out (.cmp old) HMo.out.2.1).2.1; rw [HMo.out.1]; exact h
          have hfo : s2.fC (old : Int) = some (.map (some mo)) := by rw [b1.out.2.2 _ HOi.out, if_pos (by simp; omega), Int.toNat_natCast, ← HMo.out.1]
          have HFo := Aside0.mk hfo;have l1 : (Instr.lookup 87 (.map (some s.mC)) (.int .i64 (old : Int)) false).run Try.prog W.drew = .ok (.map (some mo)) W.drew := look_eq intKB d4 HOi.out Try.underlying87 (zeroM _) (by rw [hfo]; rfl);have l2 : (Instr.lookup 165 (.map (some mo)) (.agg #[.int .i64 ya, .int .i64 yb]) false).run Try.prog W.drew = .ok (.int .i64 zA) W.drew := look_eq ptKB a6 HQ.out.1 Try.underlying165 (zeroI _) (by rw [HQ.out.2.1]; exact encZ_get _);have a5 := Aside0.mk d4;have HG2' := Aside0.mk a6;have HNm := Aside0.mk (show s.mC ≠ mo ∧ T ≠ mo ∧ E ≠ mo from ⟨fun e => (by have h := b1.out.2.1; rw [e, HCm.out] at h; cases h), fun e => (by have h := HClM.out.2.2; rw [e, HCm.out] at h; cases h), by have := HrE.out; have := HRr.out.2.2.2.2.1; omega⟩);have hwz : wrap64 (zA - zB) = zA - zB := by unfold wrap64; omega
          clear d4 a6 hfo;refine start_ (n := 13) (S := fun w' => w'.cell? ⟨T, 8, none⟩ = some (.map (some s.mC)) ∧ w'.cell? ⟨E, 0, none⟩ = some (.int .i64 ya) ∧ w'.cell? ⟨E, 1, none⟩ = some (.int .i64 yb) ∧ (Instr.lookup 87 (.map (some s.mC)) (.int .i64 (old : Int)) false).run Try.prog w' = .ok (.map (some mo)) w' ∧ (Instr.lookup 165 (.map (some mo)) (.agg #[.int .i64 ya, .int .i64 yb]) false).run Try.prog w' = .ok (.int .i64 zA) w') (ds := [12]) (bqz 13 0) (by kernel_rfl) rfl rfl ⟨d3, e0, e1, l1, l2⟩ (fun hHeld => ?_);clear d3 e0 e1 l1 l2;generalize W.drew = V at HS6 d7 a1 a3 a5 HG2' hHeld ⊢;obtain ⟨v0, st, w6, hrun, u6, i0, o3, o8⟩ := HG2'.out.entry ptKB pt_law HQ.out.1 Try.underlying165 zeroI (by have := HCc.out; unfold maxLen; omega);have HRun := Aside0.mk hrun;have e5 := Aside0.mk u6;have HLk := Aside0.mk o3;have HSt := Aside0.mk o8;have HH := Aside0.mk hHeld;clear hrun u6 i0 o3 o8;refine pqz 0 (some 79) (bqz 13 1) rfl rfl (by kernel_rfl) ?_ ?_ (fun _ _ _ h => h) (by rfl) ?_ ?_ ?_;rotate_left 2;intro w';go_simp;(with_reducible rfl);simp only [Act.put, qz1, qz2, qz3, i64_w, i32_w];rfl
          refine pqz 1 (some 80) (bqz 13 3) rfl rfl (by kernel_rfl) ?_ ?_ (fun _ _ _ h => h) (by rfl) ?_ ?_ ?_;rotate_left 2;intro w';go_simp;(with_reducible rfl);simp only [Act.put, qz1, qz2, qz3, i64_w, i32_w];rfl
          refine pqz 2 (some 81) (bqz 13 7) rfl rfl (by kernel_rfl) ?_ ?_ (fun _ _ _ h => h) (by rfl) ?_ ?_ ?_;rotate_left 2;intro w';go_simp;(with_reducible rfl);simp only [Act.put, qz1, qz2, qz3, i64_w, i32_w];rfl
          refine pqz 4 (some 83) (bqz 13 23) rfl rfl (by kernel_rfl) ?_ ?_ (fun _ _ _ h => h) (by rfl) ?_ ?_ ?_;rotate_left 2;intro w';go_simp;(with_reducible rfl);simp only [Act.put, qz1, qz2, qz3, i64_w, i32_w];rfl
          refine pqz 8 (some 87) (bqz 13 279) rfl rfl (by kernel_rfl) ?_ ?_ (fun _ _ _ h => h) (by rfl) ?_ ?_ ?_;rotate_left 2;intro w';go_simp;(with_reducible rfl);simp only [Act.put, qz1, qz2, qz3, i64_w, i32_w];rfl
          refine tqz 3 (some 82) (bqz 13 287) rfl rfl (by kernel_rfl) ?_ ?_ (fun _ _ _ h => h) (by rfl) ?_ hHeld ?_ ?_;rotate_left 2;rintro w' ⟨s0, s1, s2, s3, s4⟩;go_simp;(with_reducible rfl);simp only [Act.put, qz1, qz2, qz3, i64_w, i32_w];rfl
          refine tqz 5 (some 84) (bqz 13 319) rfl rfl (by kernel_rfl) ?_ ?_ (fun _ _ _ h => h) (by rfl) ?_ hHeld ?_ ?_;rotate_left 2;rintro w' ⟨s0, s1, s2, s3, s4⟩;go_simp;(with_reducible rfl);simp only [Act.put, qz1, qz2, qz3, i64_w, i32_w];rfl
          refine tqz 6 (some 85) (bqz 13 383) rfl rfl (by kernel_rfl) ?_ ?_ (fun _ _ _ h => h) (by rfl) ?_ hHeld ?_ ?_;rotate_left 2;rintro w' ⟨s0, s1, s2, s3, s4⟩;go_simp;(with_reducible rfl);simp only [Act.put, qz1, qz2, qz3, i64_w, i32_w];rfl
          refine tqz 7 (some 86) (bqz 13 511) rfl rfl (by kernel_rfl) ?_ ?_ (fun _ _ _ h => h) (by rfl) ?_ hHeld ?_ ?_;rotate_left 2;rintro w' ⟨s0, s1, s2, s3, s4⟩;go_simp;(with_reducible rfl);simp only [Act.put, qz1, qz2, qz3, i64_w, i32_w];rfl
          refine pqz 9 (some 88) (bqz 13 1023) rfl rfl (by kernel_rfl) ?_ ?_ (fun _ _ _ h => h) (by rfl) ?_ ?_ ?_;rotate_left 2;intro w';go_simp;(with_reducible rfl);simp only [Act.put, qz1, qz2, qz3, i64_w, i32_w];rfl
          refine one_ (i := 10) (N := some 89) (bqz 13 2047) rfl rfl (by kernel_rfl) (by decide) (fun K hK => ?_);refine value_ (w1 := w6) (v := .tuple #[v0, goInt st]) (by rfl) rfl (run_gentry rfl rfl rfl HRun.out) ?_;refine hK.out _ _ ⟨cell_keep2 e5.out HNm.out.2.1 HH.out.1, cell_keep2 e5.out HNm.out.2.2 HH.out.2.1, cell_keep2 e5.out HNm.out.2.2 HH.out.2.2.1, look_eq intKB (a5.out.grown (fun e => HNm.out.1 (by cases e; rfl)) e5.out) HOi.out Try.underlying87 (zeroM _) (by rw [HFo.out]; rfl), (by have h := HLk.out; rw [HQ.out.2.1, encZ_get] at h; exact h)⟩ (fun hHeld => ?_);clear hK K;refine norm_ (a' := ?_) ?_ ?_;rotate_left
          · show Act.put _ (some 89) _ = _
            simp only [Act.put, qz1, qz2, qz3, i64_w, i32_w];rfl
          refine pqz 11 (some 90) (bqz 13 4095) rfl rfl (by kernel_rfl) ?_ ?_ (fun _ _ _ h => h) (by rfl) ?_ ?_ ?_;rotate_left 2;intro w';go_simp;(with_reducible rfl);simp only [Act.put, qz1, qz2, qz3, i64_w, i32_w];rfl
          refine last_ (i := 12) (N := none) (bqz 13 8191) rfl rfl (by kernel_rfl) (by decide) (fun K hK => ?_);obtain ⟨w7, j6, n9, n6, x7⟩ := HSt.out w6 (.int .i64 (zA - zB)) rfl;refine skip_ (w1 := w7) (by rfl) rfl (run_gstore rfl rfl rfl ?hv j6) ?_
          (case hv => go_simp)
          have k3 := Aside0.mk n9;have HGG := Aside0.mk n6;clear j6 n9 n6 x7;refine hK.out _ _ ?_;clear hK K;refine done_ (by kernel_rfl) ?_;have hgv := e5.out.trans HGG.out;have HHe := Aside0.mk (And.intro (cell_keep2 hgv HNm.out.2.1 HH.out.1) (And.intro (cell_keep2 hgv HNm.out.2.2 HH.out.2.1) (cell_keep2 hgv HNm.out.2.2 HH.out.2.2.1)));have hsome : (fcx old (ya, yb)).isSome = true := by rw [HQ.out.2.1]; exact encZ_some.2 (by omega)
          have l5 : G2 w7 mo (putM (fcx old) (ya, yb) (.int .i64 (zA - zB))) (ccx old) := by have h := k3.out; rw [if_pos hsome] at h; exact h
          have HS7 := Aside0.mk (HS6.out.setC (i := old) HMo.out.2.1 (w1 := w7) (by rw [← HMo.out.1]; exact l5) (by rw [← HMo.out.1]; exact hgv));have p8 := Aside0.mk (d7.out.step (w2 := w7) (cls2 := a2) (kept_grown hgv fun k e => by cases e; exact .inl (by rw [HCm.out]; rfl)) fun _ _ _ e _ => e);have b2 := Aside0.mk (a1.out.grown hgv a1.out.size (fun k e => by cases e; rw [HMo.out.1]; exact (HS6.out (.cmp old) HMo.out.2.1).2.2));have hMm : M ≠ mo := fun e => by have h := HClM.out.1; rw [e, HCm.out] at h; have := Cl.cmp.inj h; omega
          have hrm : r ≠ mo := by have := HRr.out.2.2.2.2.1; omega
          have b6 := Aside0.mk (a3.out.same (w1 := w7) (hgv.block M a3.out.mlt fun e => hMm (by cases e; rfl)) (hgv.block r a3.out.lt_ fun e => hrm (by cases e; rfl)));have a5 := Aside0.mk (a5.out.grown (fun e => HNm.out.1 (by cases e; rfl)) hgv);have b4 := Aside0.mk l5;clear hgv hsome l5 HS6 d7 a1 a3 HG2' e5 HGG k3 HLk HSt HRun HH hHeld;go_wp2_with fail
          have a0 := below_drew1 (Below.refl w7.heap.size w7);have HS8 := Aside0.mk (HS7.out.below a0);have i5 := Aside0.mk (p8.out.step (cls2 := a2) (Kept.of_below a0 _) fun _ _ _ e _ => e);have b3 := Aside0.mk (below_then b2.out b2.out.size a0);have a9 := Aside0.mk (b6.out.same (w1 := w7.drew) rfl rfl);have a5 := Aside0.mk (a5.out.below a0);have b4 := Aside0.mk (b4.out.below a0);have e8 := later a0 HHe.out.1;have e9 := later a0 HHe.out.2.1;have g6 := later a0 HHe.out.2.2;have l1 : (Instr.lookup 87 (.map (some s.mC)) (.int .i64 (old : Int)) false).run Try.prog w7.drew = .ok (.map (some mo)) w7.drew := look_eq intKB a5.out HOi.out Try.underlying87 (zeroM _) (by rw [HFo.out]; rfl);have l2 : (Instr.lookup 165 (.map (some mo)) (.agg #[.int .i64 ya, .int .i64 yb]) false).run Try.prog w7.drew = .ok (.int .i64 (zA - zB)) w7.drew := look_eq ptKB b4.out HQ.out.1 Try.underlying165 (zeroI _) (by unfold putM; rw [if_pos rfl]; rfl);clear a0 HS7 p8 b2 b6;refine start_ (n := 9) (S := fun w' => w'.cell? ⟨T, 8, none⟩ = some (.map (some s.mC)) ∧ w'.cell? ⟨E, 0, none⟩ = some (.int .i64 ya) ∧ w'.cell? ⟨E, 1, none⟩ = some (.int .i64 yb) ∧ (Instr.lookup 87 (.map (some s.mC)) (.int .i64 (old : Int)) false).run Try.prog w' = .ok (.map (some mo)) w' ∧ (Instr.lookup 165 (.map (some mo)) (.agg #[.int .i64 ya, .int .i64 yb]) false).run Try.prog w' = .ok (.int .i64 (zA - zB)) w') (ds := []) (bqz 9 0) (by kernel_rfl) rfl rfl ⟨e8, e9, g6, l1, l2⟩ (fun hHeld => ?_);clear e8 e9 g6 l1 l2;generalize w7.drew = U at HS8 i5 b3 a9 a5 b4 hHeld ⊢;refine pqz 0 (some 91) (bqz 9 1) rfl rfl (by kernel_rfl) ?_ ?_ (fun _ _ _ h => h) (by rfl) ?_ ?_ ?_;rotate_left 2;intro w';go_simp;(with_reducible rfl);simp only [Act.put, qz1, qz2, qz3, i64_w, i32_w];rfl
          refine pqz 1 (some 92) (bqz 9 3) rfl rfl (by kernel_rfl) ?_ ?_ (fun _ _ _ h => h) (by rfl) ?_ ?_ ?_;rotate_left 2;intro w';go_simp;(with_reducible rfl);simp only [Act.put, qz1, qz2, qz3, i64_w, i32_w];rfl
          refine pqz 2 (some 93) (bqz 9 7) rfl rfl (by kernel_rfl) ?_ ?_ (fun _ _ _ h => h) (by rfl) ?_ ?_ ?_;rotate_left 2;intro w';go_simp;(with_reducible rfl);simp only [Act.put, qz1, qz2, qz3, i64_w, i32_w];rfl
          refine pqz 4 (some 95) (bqz 9 23) rfl rfl (by kernel_rfl) ?_ ?_ (fun _ _ _ h => h) (by rfl) ?_ ?_ ?_;rotate_left 2;intro w';go_simp;(with_reducible rfl);simp only [Act.put, qz1, qz2, qz3, i64_w, i32_w];rfl
          refine tqz 3 (some 94) (bqz 9 31) rfl rfl (by kernel_rfl) ?_ ?_ (fun _ _ _ h => h) (by rfl) ?_ hHeld ?_ ?_;rotate_left 2;rintro w' ⟨s0, s1, s2, s3, s4⟩;go_simp;(with_reducible rfl);simp only [Act.put, qz1, qz2, qz3, i64_w, i32_w];rfl
          refine tqz 5 (some 96) (bqz 9 63) rfl rfl (by kernel_rfl) ?_ ?_ (fun _ _ _ h => h) (by rfl) ?_ hHeld ?_ ?_;rotate_left 2;rintro w' ⟨s0, s1, s2, s3, s4⟩;go_simp;(with_reducible rfl);simp only [Act.put, qz1, qz2, qz3, i64_w, i32_w];rfl
          refine tqz 6 (some 97) (bqz 9 127) rfl rfl (by kernel_rfl) ?_ ?_ (fun _ _ _ h => h) (by rfl) ?_ hHeld ?_ ?_;rotate_left 2;rintro w' ⟨s0, s1, s2, s3, s4⟩;go_simp;(with_reducible rfl);simp only [Act.put, qz1, qz2, qz3, i64_w, i32_w];rfl
          refine tqz 7 (some 98) (bqz 9 255) rfl rfl (by kernel_rfl) ?_ ?_ (fun _ _ _ h => h) (by rfl) ?_ hHeld ?_ ?_;rotate_left 2;rintro w' ⟨s0, s1, s2, s3, s4⟩;go_simp;(with_reducible rfl);simp only [Act.put, qz1, qz2, qz3, i64_w, i32_w];rfl
          refine pqz 8 (some 99) (bqz 9 511) rfl rfl (by kernel_rfl) ?_ ?_ (fun _ _ _ h => h) (by rfl) ?_ ?_ ?_;rotate_left 2;intro w';go_simp;(with_reducible rfl);simp only [Act.put, qz1, qz2, qz3, i64_w, i32_w];rfl
          refine done_ (by kernel_rfl) ?_
          have HVal := Aside0.mk (show ∀ g : Int × Int → Option Value, (∀ q, ptOk q → q ≠ (ya, yb) → g q = fcx old q) → g (ya, yb) = encZ (zA - zB) → ∀ q, ptOk q → g q = encZ (if (left q && !decide (q = (ya, yb))) = true then cntE es (fun x => decide (H0 x = (old : Int))) q.1 q.2 else cntE es (fun x => decide (H0 x = (old : Int))) q.1 q.2 - cntE es (fun x => decide (x ∈ L)) q.1 q.2) from fun g d4 a6 q hq => by
            by_cases e : q = (ya, yb)
            · subst e
              rw [a6, if_neg (by simp), HZ.out.1, HZ.out.2]
            · rw [d4 q hq e, i7.out q hq]
              simp [e])
          by_cases hz0 : zA - zB = 0
          · have o5 : (zA - zB == 0) = true := by simp; omega
            have v7 : decide (zA - zB = 0) = true := by simp; omega
            go_wp2_with fail
            have a0 := below_drew1 (Below.refl U.heap.size U);have HS9 := Aside0.mk (HS8.out.below a0);have p9 := Aside0.mk (i5.out.step (cls2 := a2) (Kept.of_below a0 _) fun _ _ _ e _ => e);have d5 := Aside0.mk (below_then b3.out b3.out.size a0);have b0 := Aside0.mk (a9.out.same (w1 := U.drew) rfl rfl);have a5 := Aside0.mk (a5.out.below a0);have b4 := Aside0.mk (b4.out.below a0);have e8 := later a0 hHeld.1;have e9 := later a0 hHeld.2.1;have g6 := later a0 hHeld.2.2.1;have l1 : (Instr.lookup 87 (.map (some s.mC)) (.int .i64 (old : Int)) false).run Try.prog U.drew = .ok (.map (some mo)) U.drew := look_eq intKB a5.out HOi.out Try.underlying87 (zeroM _) (by rw [HFo.out]; rfl);clear a0 HS8 i5 b3 a9 hHeld;refine start_ (n := 8) (S := fun w' => w'.cell? ⟨T, 8, none⟩ = some (.map (some s.mC)) ∧ w'.cell? ⟨E, 0, none⟩ = some (.int .i64 ya) ∧ w'.cell? ⟨E, 1, none⟩ = some (.int .i64 yb) ∧ (Instr.lookup 87 (.map (some s.mC)) (.int .i64 (old : Int)) false).run Try.prog w' = .ok (.map (some mo)) w') (ds := [7]) (bqz 8 0) (by kernel_rfl) rfl rfl ⟨e8, e9, g6, l1⟩ (fun hHeld => ?_);clear e8 e9 g6 l1;generalize U.drew = U2 at HS9 p9 d5 b0 a5 b4 hHeld ⊢;obtain ⟨w8, j7, ⟨c8, d3, o0⟩, n7, x8⟩ := b4.out.del ptKB HQ.out.1 Try.underlying165 0;have x3 := Aside0.mk o0;have HGG := Aside0.mk n7;have y8 := Aside0.mk d3;have HRun := Aside0.mk j7;clear j7 o0 n7 x8 d3;refine pqz 0 (some 100) (bqz 8 1) rfl rfl (by kernel_rfl) ?_ ?_ (fun _ _ _ h => h) (by rfl) ?_ ?_ ?_;rotate_left 2;intro w';go_simp;(with_reducible rfl);simp only [Act.put, qz1, qz2, qz3, i64_w, i32_w];rfl
            refine pqz 1 (some 101) (bqz 8 3) rfl rfl (by kernel_rfl) ?_ ?_ (fun _ _ _ h => h) (by rfl) ?_ ?_ ?_;rotate_left 2;intro w';go_simp;(with_reducible rfl);simp only [Act.put, qz1, qz2, qz3, i64_w, i32_w];rfl
            refine pqz 2 (some 102) (bqz 8 7) rfl rfl (by kernel_rfl) ?_ ?_ (fun _ _ _ h => h) (by rfl) ?_ ?_ ?_;rotate_left 2;intro w';go_simp;(with_reducible rfl);simp only [Act.put, qz1, qz2, qz3, i64_w, i32_w];rfl
            refine pqz 4 (some 104) (bqz 8 23) rfl rfl (by kernel_rfl) ?_ ?_ (fun _ _ _ h => h) (by rfl) ?_ ?_ ?_;rotate_left 2;intro w';go_simp;(with_reducible rfl);simp only [Act.put, qz1, qz2, qz3, i64_w, i32_w];rfl
            refine tqz 3 (some 103) (bqz 8 31) rfl rfl (by kernel_rfl) ?_ ?_ (fun _ _ _ h => h) (by rfl) ?_ hHeld ?_ ?_;rotate_left 2;rintro w' ⟨s0, s1, s2, s3⟩;go_simp;(with_reducible rfl);simp only [Act.put, qz1, qz2, qz3, i64_w, i32_w];rfl
            refine tqz 5 (some 105) (bqz 8 63) rfl rfl (by kernel_rfl) ?_ ?_ (fun _ _ _ h => h) (by rfl) ?_ hHeld ?_ ?_;rotate_left 2;rintro w' ⟨s0, s1, s2, s3⟩;go_simp;(with_reducible rfl);simp only [Act.put, qz1, qz2, qz3, i64_w, i32_w];rfl
            refine tqz 6 (some 106) (bqz 8 127) rfl rfl (by kernel_rfl) ?_ ?_ (fun _ _ _ h => h) (by rfl) ?_ hHeld ?_ ?_;rotate_left 2;rintro w' ⟨s0, s1, s2, s3⟩;go_simp;(with_reducible rfl);simp only [Act.put, qz1, qz2, qz3, i64_w, i32_w];rfl
            refine last_ (i := 7) (N := none) (bqz 8 255) rfl rfl (by kernel_rfl) (by decide) (fun K hK => ?_);refine step_delete (by rfl) (.tmp 105) (.tmp 106) 165 167 rfl rfl rfl HRun.out ?_;refine hK.out _ _ ?_;clear hK K;refine done_ (by kernel_rfl) ?_;have HS10 := Aside0.mk (HS9.out.setC (i := old) HMo.out.2.1 (w1 := w8) (by rw [← HMo.out.1]; exact x3.out) (by rw [← HMo.out.1]; exact HGG.out));have z5 := Aside0.mk (p9.out.step (w2 := w8) (cls2 := a2) (kept_grown HGG.out fun k e => by cases e; exact .inl (by rw [HCm.out]; rfl)) fun _ _ _ e _ => e);have j9 := Aside0.mk (d5.out.grown HGG.out d5.out.size (fun k e => by cases e; rw [HMo.out.1]; exact (HS9.out (.cmp old) HMo.out.2.1).2.2));have d6 := Aside0.mk (b0.out.same (w1 := w8) (HGG.out.block M b0.out.mlt fun e => hMm (by cases e; rfl)) (HGG.out.block r b0.out.lt_ fun e => hrm (by cases e; rfl)));go_wp2
            go_roundw
            case rel =>
              refine ⟨_, ⟨_, d6⟩, _, _, HS10, ⟨fun i hi => ?_⟩, ⟨fun qa qb hq => ?_⟩, ⟨?_⟩⟩
              · show (if i = old then _ else if i = old then _ else fcx i) = _ ∧ (if i = old then _ else if i = old then _ else ccx i) = _
                rw [if_neg hi, if_neg hi, if_neg hi, if_neg hi];exact HOt.out i hi
              · show (if old = old then delM (putM (fcx old) (ya, yb) (.int .i64 (zA - zB))) (ya, yb) else _) (qa, qb) = _
                rw [if_pos rfl];refine HVal.out _ (fun q hq hne => by unfold delM putM; rw [if_neg hne, if_neg hne]) ?_ (qa, qb) hq;unfold delM encZ;rw [if_pos rfl, if_pos hz0]
              · show (if old = old then c8 else _) ≤ _
                rw [if_pos rfl];exact Nat.le_trans y8.out HCc.out
            case measure => rw [d6.out.left_eq, HGr.out.left_eq]; exact HQ.out.2.2.2.1
          · have o5 : (zA - zB == 0) = false := by simp; omega
            have v7 : decide (zA - zB = 0) = false := by simp; omega
            go_wp2
            go_roundw
            case rel =>
              refine ⟨_, _, _, _, a9, HS8, ⟨fun i hi => ?_⟩, ⟨?_⟩, ⟨?_⟩, i5, b3⟩
              · show (if i = old then _ else fcx i) = _ ∧ (if i = old then _ else ccx i) = _
                rw [if_neg hi, if_neg hi];exact HOt.out i hi
              · show ∀ q, ptOk q → (if old = old then putM (fcx old) (ya, yb) (.int .i64 (zA - zB)) else fcx old) q = _
                rw [if_pos rfl];refine HVal.out _ (fun q hq hne => by unfold putM; rw [if_neg hne]) ?_;unfold putM encZ;rw [if_pos rfl, if_neg hz0]
              · show (if old = old then ccx old else ccx old) ≤ _
                rw [if_pos rfl];exact HCc.out
            case measure => rw [a9.out.left_eq, HGr.out.left_eq]; exact HQ.out.2.2.2.1
        · intro n0 g8
          obtain ⟨s4, e4⟩ : ∃ s4 : Sg, s4 = { s2 with fc := fcx, cc := ccx } := ⟨_, rfl⟩
          rw [← e4] at HS4
          have hHn : ∀ x, Nd n x → ∀ i : Nat, (Go.Proofs.Ytmcbkmfpmcbdpaa.H.HP p x = (i : Int)) ↔ (if x ∈ L then (fr : Int) else H0 x) = (i : Int) := fun x hx i => by
            rw [k4.out.1 x hx];have h1 : x ∈ L ↔ gi p.block x = (b : Int) := by rw [HL.out, HP.out.bm _ (nd_iff.2 hbn)]; exact ⟨fun h => h.2, fun h => ⟨hx, h⟩⟩
            by_cases h2 : x ∈ L
            · rw [if_pos h2, if_pos (h1.1 h2)]
            · rw [if_neg h2, if_neg fun h => h2 (h1.2 h)]
          have HSc := Aside0.mk (show StdC es s4 (fr + 1) (Go.Proofs.Ytmcbkmfpmcbdpaa.H.HP p) from by
            rw [e4];refine ⟨by show s2.cm.length = _; rw [a4.out]; show (s.cm ++ [M]).length = _; rw [List.length_append, HC.out.ln]; rfl, b1.out.2.2, fun i hi q hq => ?_, fun i hi => ?_⟩
            · show fcx i q = _
              by_cases ei : i = old
              · subst ei
                rw [i7.out q hq, if_neg (by rw [g8 _ _ hq]; simp), cntE_sub es (fun x => decide (H0 x = (i : Int))) (fun x => decide (x ∈ L)) (fun e _ hx => by
                  have hx := of_decide_eq_true hx;rw [HL.out] at hx;exact decide_eq_true (HLo.out _ hx))]
                refine congrArg encZ (cntE_congr (fun e he => ?_) _ _);have h2 := hHn e.f2 (HEs.out e he).2.2 i;by_cases hm : e.f2 ∈ L
                · rw [if_pos hm] at h2
                  have h3 : ¬ Go.Proofs.Ytmcbkmfpmcbdpaa.H.HP p e.f2 = (i : Int) := fun h => by have := h2.1 h; omega
                  simp [hm, h3]
                · rw [if_neg hm] at h2
                  by_cases h4 : H0 e.f2 = (i : Int)
                  · have h5 := h2.2 h4
                    simp [hm, h4, h5]
                  · have h5 : ¬ Go.Proofs.Ytmcbkmfpmcbdpaa.H.HP p e.f2 = (i : Int) := fun h => h4 (h2.1 h)
                    simp [hm, h4, h5]
              · rw [(HOt.out i ei).1, a4.out]
                show (if i = fr then f else s.fc i) q = _;by_cases ef : i = fr
                · subst ef
                  rw [if_pos rfl, i2.out q hq];refine congrArg encZ (cntE_congr (fun e he => ?_) _ _);have h2 := hHn e.f2 (HEs.out e he).2.2 i;by_cases hm : e.f2 ∈ L
                  · rw [if_pos hm] at h2
                    have h3 := h2.2 rfl;simp [hm, h3]
                  · rw [if_neg hm] at h2
                    have h3 : ¬ Go.Proofs.Ytmcbkmfpmcbdpaa.H.HP p e.f2 = (i : Int) := fun h => by have := h2.1 h; have := k4.out.2.1 e.f2 (HEs.out e he).2.2; omega
                    simp [hm, h3]
                · rw [if_neg ef, HC.out.fc i (by omega) q hq]
                  refine congrArg encZ (cntE_congr (fun e he => ?_) _ _);have h2 := hHn e.f2 (HEs.out e he).2.2 i;by_cases hm : e.f2 ∈ L
                  · rw [if_pos hm] at h2
                    have h3 : ¬ Go.Proofs.Ytmcbkmfpmcbdpaa.H.HP p e.f2 = (i : Int) := fun h => by have := h2.1 h; omega
                    have h4 : ¬ H0 e.f2 = (i : Int) := fun h => by
                      have h5 := HLo.out e.f2 (by rw [← HL.out]; exact hm);omega
                    simp [h3, h4]
                  · rw [if_neg hm] at h2
                    by_cases h4 : H0 e.f2 = (i : Int)
                    · have h5 := h2.2 h4
                      simp [h4, h5]
                    · have h5 : ¬ Go.Proofs.Ytmcbkmfpmcbdpaa.H.HP p e.f2 = (i : Int) := fun h => h4 (h2.1 h)
                      simp [h4, h5]
            · show ccx i ≤ _
              by_cases ei : i = old
              · rw [ei]; exact HCc.out
              · rw [(HOt.out i ei).2, a4.out]
                show (if i = fr then c else s.cc i) ≤ _;by_cases ef : i = fr
                · rw [if_pos ef]; exact HCl.out.2.1
                · rw [if_neg ef]; exact HC.out.cc i (by omega))
          have HSi := Aside0.mk (show StdI n es s4 from by rw [e4, a4.out]; exact ⟨HI.out.len, HI.out.ins⟩);have HSd := Aside0.mk (show Std n (.slice A1 nl c1) v2 s4 p from by rw [e4, a4.out]; exact ⟨HD.out.tc, HD.out.block, HD.out.heap, HD.out.blocks, HD.out.heaps, HD.out.bs, HD.out.bl, HD.out.hs, HD.out.hl⟩);have HSw := Aside0.mk (show StdW s4 wt from by rw [e4, a4.out]; exact HW.out);have y3 := Aside0.mk (show s4.cm.getD fr 0 = M from by rw [e4]; show s2.cm.getD fr 0 = M; rw [a4.out]; show (s.cm ++ [M]).getD fr 0 = M; rw [gD_snoc, if_pos HC.out.ln.symm]);have t1 := HS4.out.cell 1 (.slice A1 nl c1) (by rw [HSd.out.tc]; rfl);clear e4 hHn g8 n0 HGr HOt i7 HCc;go_wp2
          clear t1;obtain ⟨Hp, hHp⟩ : ∃ Hp : Int → Int, Hp = Go.Proofs.Ytmcbkmfpmcbdpaa.H.HP p := ⟨_, rfl⟩
          rw [← hHp] at HSc;have HHp := Aside0.mk hHp;have q4 := Aside0.mk (show RefJ n es (gi p.block) H0 (gi p.block) Hp (fr : Int) (old : Int) 0 from by rw [hHp]; exact k4.out.2.2);clear hHp
          go_loopw [113] (fun i wr => ∃ (k : Nat) (s' : Sg) (cl' : Nat → Cl) (p' : PSt) (wt' : Int → Bool), k ≤ nl ∧ i = .int .i64 k ∧ Aside0 (SP w0.heap.size T wr cl' s') ∧ Aside0 (Std n (.slice A1 nl c1) v2 s' p') ∧ Aside0 (PW n p') ∧ Aside0 (StdW s' wt') ∧ Aside0 (Wt p' wt') ∧ Aside0 (Same0 s4 s') ∧
            Aside0 (RefJ n es (gi p.block) H0 (gi p'.block) Hp (fr : Int) (old : Int) k) ∧ Aside0 ((∀ x, Nd n x → Go.Proofs.Ytmcbkmfpmcbdpaa.H.HP p' x = Hp x) ∧ p'.heaps.length = p.heaps.length) ∧ Aside0 (Fr w wr cls cl' fun _ => False) ∧ Aside0 (Below w0.heap.size w0 wr)) (fun i _ => nl - (intOf i).toNat)
          case atStart => exact ⟨0, s4, a2, p, wt, Nat.zero_le _, rfl, HS4, HSd, HP, HSw, HWt, ⟨Same0.refl _⟩, q4, ⟨fun x _ => by rw [HHp.out], rfl⟩, i4, f5⟩
          case round =>
            clear HS4 HSd HSw q4 i4 f5;obtain ⟨k, s', cl', p', wt', hk, rfl, HS, HD, HPw, HW', HWt', HSm, HRj, HPh, HK, HBb⟩ := hrel;by_cases hlt : k < nl
            ·
              obtain ⟨m1, m2, m3, m4, m5, m6, m7, m8, m9, x2⟩ := HSm.out;have r9 : s'.cm.getD fr 0 = M := by rw [m7]; exact y3.out
              have hfrl : fr < s'.cm.length := by rw [m7, HSc.out.ln]; omega
              have holl : old < s'.cm.length := by rw [m7, HSc.out.ln]; omega
              have hgM : G2 wr M (s4.fc fr) (s4.cc fr) := by have h := (HS.out (.cmp fr) hfrl).2.1; rw [r9, m8, m9] at h; exact h
              have HGM := Aside0.mk hgM;have hki : i64in (k : Int) := by unfold i64in; omega
              have HKi := Aside0.mk hki;have hmm := @run_makeMap Try.prog;have HMs := Aside0.mk (And.intro m5 (And.intro m7 m8));clear hgM hki m1 m2 m3 m4 m5 m6 m7 m8 m9 x2 r9;go_wp2_with (at_range; refine wpList_grange _ ptKB rfl _ 165 rfl 3 Try.underlying165 M (s4.cc fr) (s4.fc fr) rfl (HGM.out.below (below_alloc (below_alloc (Below.refl _ _) _) _)) ?_; intro w6 hgr hg hsz)
              go_frame
              clear hmm;have h9 : ((wr.alloc (Obj.map #[] 0)).alloc (Obj.map #[] 0)).heap.size = wr.heap.size + 1 + 1 := by simp
              rw [h9] at hgr;obtain ⟨r2, j4⟩ : ∃ r2, r2 = wr.heap.size + 1 + 1 := ⟨_, rfl⟩
              rw [← j4] at hgr;try rw [h9]
              try rw [← j4]
              clear h9;obtain ⟨X1, e6⟩ : ∃ X1, X1 = wr.heap.size := ⟨_, rfl⟩
              have w4 : r2 = X1 + 2 := by rw [j4, e6]
              have hbl : Below wr.heap.size wr w6 := (below_alloc (below_alloc (Below.refl _ _) _) _).grown hg (by simp; omega) (fun q e => by cases e)
              have d4 : G1 w6 X1 (fun _ => none) 0 := by
                rw [e6];exact ((GM.made _ _ _ _ wr).alloc_ _).grown (by simp) hg
              have a6 : G1 w6 (X1 + 1) (fun _ => none) 0 := by
                have h := (GM.made Try.prog 3 ik i64in (wr.alloc (Obj.map #[] 0))).grown (by simp) hg;rwa [show (wr.alloc (Obj.map #[] 0)).heap.size = X1 + 1 by rw [e6]; simp] at h
              obtain ⟨W1, l8⟩ : ∃ W1, W1 = wr := ⟨_, rfl⟩
              rw [← e6];have a1 := Aside0.mk hbl;have a3 := Aside0.mk hgr;have d8 := Aside0.mk d4;have d0 := Aside0.mk a6;have HXs := Aside0.mk (And.intro e6 w4);clear hgr hg hsz j4 e6 w4 hbl d4 a6 l8 W1;obtain ⟨wb, hwb⟩ : ∃ wb, wb = wr := ⟨_, rfl⟩
              subst hwb;obtain ⟨BB, hBB⟩ : ∃ BB : Int × Int → Int, BB = fun q => cntE es (fun x => decide (Hp x = (fr : Int))) q.1 q.2 := ⟨_, rfl⟩
              obtain ⟨AA, hAA⟩ : ∃ AA : Int × Int → Int, AA = fun q => cntE es (fun x => decide (Hp x = (old : Int))) q.1 q.2 := ⟨_, rfl⟩
              have HfB := Aside0.mk (show ∀ q, ptOk q → s4.fc fr q = encZ (BB q) from fun q hq => by rw [hBB]; exact HSc.out.fc fr (by omega) q hq);have HfA := Aside0.mk (show ∀ q, ptOk q → s4.fc old q = encZ (AA q) from fun q hq => by rw [hAA]; exact HSc.out.fc old (by omega) q hq);have HBB := Aside0.mk (And.intro hBB hAA);clear hBB hAA
              go_loopw [] (fun wr => ∃ (left : Int × Int → Bool) (cnt : Nat) (f1 : Int → Option Value) (d1 : Nat) (f2 : Int → Option Value) (d2 : Nat), Aside0 (GR Try.prog 167 ptL ptOk wr M r2 (s4.fc fr) left cnt) ∧ Aside0 (G1 wr X1 f1 d1) ∧ Aside0 (G1 wr (X1 + 1) f2 d2) ∧
                Aside0 (∀ a, i64in a → (f1 a).isSome = (decide (BB (a, (k : Int)) ≠ 0) && !left (a, (k : Int)))) ∧ Aside0 (∀ a, i64in a → (f2 a).isSome = (decide (BB (a, (k : Int)) ≠ 0) && !left (a, (k : Int)) && decide (AA (a, (k : Int)) = 0))) ∧ Aside0 (Below wb.heap.size wb wr)) (fun wr => wr.rangeLeft M r2)
              case atStart =>
                have hst : ∀ a, i64in a → ((s4.fc fr) (a, (k : Int))).isSome = decide (BB (a, (k : Int)) ≠ 0) := fun a ha => by
                  rw [HfB.out _ ⟨ha, HKi.out⟩];unfold encZ;split
                  · rename_i e; simp [e]
                  · rename_i e; simp [e]
                refine ⟨_, _, _, _, _, _, a3, d8, d0, ⟨fun a ha => ?_⟩, ⟨fun a ha => ?_⟩, a1⟩
                · rw [hst a ha]; simp
                · rw [hst a ha]; simp
              case round =>
                clear a3 d8 d0 a1;obtain ⟨left, cnt, f1, d1, f2, d2, a3, d8, d0, f6, HF2x, a1⟩ := hrel;go_wp2_with (at_next; refine wpList_gnext _ ptKB rfl _ rfl M r2 (s4.fc fr) left cnt rfl a3.out ?_ ?_)
                rotate_left
                · intro ya yb v w7 x5 hy hly hfy e3 b8 a6 hsz hen
                  have hXs := HXs.out
                  have hBy : BB (ya, yb) ≠ 0 := by
                    have h := HfB.out _ hy;rw [hfy] at h;exact encZ_some.1 (by rw [← h]; rfl)
                  have b2 := Aside0.mk (a1.out.grown a6 a1.out.size (fun q e => by cases e; omega));have b6 := Aside0.mk e3;have g4 := Aside0.mk (d8.out.grown (fun e => by cases e; omega) a6);have i8 := Aside0.mk (d0.out.grown (fun e => by cases e; omega) a6);have HQ := Aside0.mk (And.intro hy (And.intro hBy (And.intro hly b8)));have n4 : (Instr.entry (.pointer (some ⟨r2, 0, none⟩))).run Try.prog w7 = .ok (.tuple #[.agg #[.int .i64 ya, .int .i64 yb], v]) w7 := hen;clear hen e3 a6 hsz hBy hy hly hfy b8 hXs d8 d0;by_cases hyk : yb = (k : Int)
                  · subst hyk
                    have o5 : ((k : Int) != (k : Int)) = false := by simp
                    have hya : i64in ya := HQ.out.1.1;have HYa := Aside0.mk hya
                    have u1 : d1 ≤ n := by
                      have := g4.out.count_le intKB ((List.range n).map fun z : Nat => (z : Int)) fun a ha hs => by
                        rw [f6.out a ha] at hs;simp only [Bool.and_eq_true, decide_eq_true_eq] at hs;have h1 := hs.1;rw [HBB.out.1] at h1;obtain ⟨e, he, h2, _⟩ := cntE_pos.1 h1;have h3 : Nd n a := by have h4 : e.f0 = a := h2; rw [← h4]; exact (HEs.out e he).1
                        obtain ⟨z, rfl, hz⟩ := h3.nat;exact List.mem_map.2 ⟨z, List.mem_range.2 hz, rfl⟩
                      simpa using this
                    have u2 : d2 ≤ n := by
                      have := i8.out.count_le intKB ((List.range n).map fun z : Nat => (z : Int)) fun a ha hs => by
                        rw [HF2x.out a ha] at hs;simp only [Bool.and_eq_true, decide_eq_true_eq] at hs;have h1 := hs.1.1;rw [HBB.out.1] at h1;obtain ⟨e, he, h2, _⟩ := cntE_pos.1 h1;have h3 : Nd n a := by have h4 : e.f0 = a := h2; rw [← h4]; exact (HEs.out e he).1
                        obtain ⟨z, rfl, hz⟩ := h3.nat;exact List.mem_map.2 ⟨z, List.mem_range.2 hz, rfl⟩
                      simpa using this
                    have hbA := below_alloc (Below.refl w7.heap.size w7) (Obj.cells #[Value.int IntKind.i64 ya, Value.int IntKind.i64 (k : Int)] 167);have e0 := (blk_cell (blk_new w7 (Obj.cells #[Value.int IntKind.i64 ya, Value.int IntKind.i64 (k : Int)] 167)) 0).trans rfl;have e1 := (blk_cell (blk_new w7 (Obj.cells #[Value.int IntKind.i64 ya, Value.int IntKind.i64 (k : Int)] 167)) 1).trans rfl;have k0 := Aside0.mk (And.intro e0 e1);have a9 := Aside0.mk (b6.out.same (hbA.block M b6.out.mlt) (hbA.block r2 b6.out.lt_));have i9 := Aside0.mk (g4.out.below hbA);have j2 := Aside0.mk (i8.out.below hbA);have b3 := Aside0.mk (below_then b2.out b2.out.size hbA);have HDn := Aside0.mk (And.intro u1 u2);have p2 := Aside0.mk (show X1 < w7.heap.size ∧ r2 < w7.heap.size ∧ M < X1 from ⟨g4.out.lt_, b6.out.lt_, by rw [HXs.out.1]; exact HGM.out.lt_⟩);clear hya u1 u2 hbA e0 e1 b6 g4 i8 b2;go_wp2_with (refine wpList_gput _ intKB rfl _ _ _ 88 rfl 3 Try.underlying88 X1 d1 f1 rfl i9.out (by have := HDn.out.1; unfold maxLen; omega) ya HYa.out (.int .i64 1) rfl rfl ?_; intro w8 hgm hgg hsz; have f9 := Aside0.mk hgm; have HGg := Aside0.mk hgg; clear hgm hgg hsz)
                    have hX := HXs.out;have h7 := p2.out;have b0 := Aside0.mk (a9.out.same (w1 := w8) (HGg.out.block M a9.out.mlt (fun e => by cases e; omega)) (HGg.out.block r2 a9.out.lt_ (fun e => by cases e; omega)));have g3 := Aside0.mk (j2.out.grown (fun e => by simp at e) HGg.out);have d5 := Aside0.mk (b3.out.grown HGg.out b3.out.size (fun q e => by cases e; omega));have e0 := cell_keep2 HGg.out (E := w7.heap.size) (i := 0) (by omega) k0.out.1;have e1 := cell_keep2 HGg.out (E := w7.heap.size) (i := 1) (by omega) k0.out.2;obtain ⟨E, hE⟩ : ∃ E, E = w7.heap.size := ⟨_, rfl⟩
                    rw [← hE] at e0 e1 ⊢;clear a9 i9 j2 b3 k0 hX h7 hE HGg;go_wp2_with fail
                    have a0 := below_drew1 (Below.refl w8.heap.size w8);have HBd := Aside0.mk (below_then d5.out d5.out.size a0);have b0 := Aside0.mk (b0.out.same (w1 := w8.drew) rfl rfl);have f9 := Aside0.mk (f9.out.below a0);have g3 := Aside0.mk (g3.out.below a0);have j3 := HS.out.below HBd.out;have d3 := j3.cell 8 (.map (some s'.mC)) (by rw [HD.out.tc]; rfl);have hfo : s'.fC (old : Int) = some (.map (some (s'.cm.getD old 0))) := by rw [HMs.out.1, HMs.out.2.1, HSc.out.fC _ HOi.out, if_pos (by simp; omega), Int.toNat_natCast]
                    have l1 : (Instr.lookup 87 (.map (some s'.mC)) (.int .i64 (old : Int)) false).run Try.prog w8.drew = .ok (.map (some (s'.cm.getD old 0))) w8.drew := look_eq intKB (j3 .mc).2.1 HOi.out Try.underlying87 (zeroM _) (by rw [hfo]; rfl);have l2 : (Instr.lookup 165 (.map (some (s'.cm.getD old 0))) (.agg #[.int .i64 ya, .int .i64 (k : Int)]) false).run Try.prog w8.drew = .ok (.int .i64 (AA (ya, (k : Int)))) w8.drew := look_eq ptKB (j3 (.cmp old) holl).2.1 HQ.out.1 Try.underlying165 (zeroI _) (by rw [HMs.out.2.2, HfA.out _ HQ.out.1]; exact encZ_get _);have e0d := later a0 e0;have e1d := later a0 e1;obtain ⟨j8, o4⟩ : ∃ j8, j8 = s'.cm.getD old 0 := ⟨_, rfl⟩
                    rw [← o4] at l1 l2;clear a0 j3 hfo o4 e0 e1 d5;refine start_ (n := 9) (S := fun w' => w'.cell? ⟨T, 8, none⟩ = some (.map (some s'.mC)) ∧ w'.cell? ⟨E, 0, none⟩ = some (.int .i64 ya) ∧ w'.cell? ⟨E, 1, none⟩ = some (.int .i64 (k : Int)) ∧ (Instr.lookup 87 (.map (some s'.mC)) (.int .i64 (old : Int)) false).run Try.prog w' = .ok (.map (some j8)) w' ∧ (Instr.lookup 165 (.map (some j8)) (.agg #[.int .i64 ya, .int .i64 (k : Int)]) false).run Try.prog w' = .ok (.int .i64 (AA (ya, (k : Int)))) w') (ds := []) (bqz 9 0) (by kernel_rfl) rfl rfl ⟨d3, e0d, e1d, l1, l2⟩ (fun hHeld => ?_);clear d3 e0d e1d l1 l2;generalize w8.drew = U at b0 f9 g3 HBd hHeld ⊢;refine pqz 0 (some 131) (bqz 9 1) rfl rfl (by kernel_rfl) ?_ ?_ (fun _ _ _ h => h) (by rfl) ?_ ?_ ?_;rotate_left 2;intro w';go_simp;(with_reducible rfl);simp only [Act.put, qz1, qz2, qz3, i64_w, i32_w];rfl
                    refine pqz 1 (some 132) (bqz 9 3) rfl rfl (by kernel_rfl) ?_ ?_ (fun _ _ _ h => h) (by rfl) ?_ ?_ ?_;rotate_left 2;intro w';go_simp;(with_reducible rfl);simp only [Act.put, qz1, qz2, qz3, i64_w, i32_w];rfl
                    refine pqz 2 (some 133) (bqz 9 7) rfl rfl (by kernel_rfl) ?_ ?_ (fun _ _ _ h => h) (by rfl) ?_ ?_ ?_;rotate_left 2;intro w';go_simp;(with_reducible rfl);simp only [Act.put, qz1, qz2, qz3, i64_w, i32_w];rfl
                    refine pqz 4 (some 135) (bqz 9 23) rfl rfl (by kernel_rfl) ?_ ?_ (fun _ _ _ h => h) (by rfl) ?_ ?_ ?_;rotate_left 2;intro w';go_simp;(with_reducible rfl);simp only [Act.put, qz1, qz2, qz3, i64_w, i32_w];rfl
                    refine tqz 3 (some 134) (bqz 9 31) rfl rfl (by kernel_rfl) ?_ ?_ (fun _ _ _ h => h) (by rfl) ?_ hHeld ?_ ?_;rotate_left 2;rintro w' ⟨s0, s1, s2, s3, s4⟩;go_simp;(with_reducible rfl);simp only [Act.put, qz1, qz2, qz3, i64_w, i32_w];rfl
                    refine tqz 5 (some 136) (bqz 9 63) rfl rfl (by kernel_rfl) ?_ ?_ (fun _ _ _ h => h) (by rfl) ?_ hHeld ?_ ?_;rotate_left 2;rintro w' ⟨s0, s1, s2, s3, s4⟩;go_simp;(with_reducible rfl);simp only [Act.put, qz1, qz2, qz3, i64_w, i32_w];rfl
                    refine tqz 6 (some 137) (bqz 9 127) rfl rfl (by kernel_rfl) ?_ ?_ (fun _ _ _ h => h) (by rfl) ?_ hHeld ?_ ?_;rotate_left 2;rintro w' ⟨s0, s1, s2, s3, s4⟩;go_simp;(with_reducible rfl);simp only [Act.put, qz1, qz2, qz3, i64_w, i32_w];rfl
                    refine tqz 7 (some 138) (bqz 9 255) rfl rfl (by kernel_rfl) ?_ ?_ (fun _ _ _ h => h) (by rfl) ?_ hHeld ?_ ?_;rotate_left 2;rintro w' ⟨s0, s1, s2, s3, s4⟩;go_simp;(with_reducible rfl);simp only [Act.put, qz1, qz2, qz3, i64_w, i32_w];rfl
                    refine pqz 8 (some 139) (bqz 9 511) rfl rfl (by kernel_rfl) ?_ ?_ (fun _ _ _ h => h) (by rfl) ?_ ?_ ?_;rotate_left 2;intro w';go_simp;(with_reducible rfl);simp only [Act.put, qz1, qz2, qz3, i64_w, i32_w];rfl
                    refine done_ (by kernel_rfl) ?_;obtain ⟨zA, hzA⟩ : ∃ zA, zA = AA (ya, (k : Int)) := ⟨_, rfl⟩
                    rw [← hzA] at hHeld ⊢;have HZa := Aside0.mk hzA;clear hzA
                    have q5 := Aside0.mk (show ∀ a, i64in a → (putM f1 ya (.int .i64 1) a).isSome = (decide (BB (a, (k : Int)) ≠ 0) && !(left (a, (k : Int)) && !decide ((a, (k : Int)) = (ya, (k : Int))))) from fun a ha => by
                      unfold putM;by_cases e : a = ya
                      · rw [if_pos e, e]; simp [HQ.out.2.1]
                      · rw [if_neg e, f6.out a ha]; simp [e])
                    have e0 := hHeld.2.1;by_cases hz0 : zA = 0
                    · have v8 : (zA == 0) = true := by simpa using hz0
                      have v9 : decide (zA = 0) = true := by simpa using hz0
                      go_wp2_with (refine wpList_gput _ intKB rfl _ _ _ 88 rfl 3 Try.underlying88 (X1 + 1) d2 f2 rfl g3.out (by have := HDn.out.2; unfold maxLen; omega) ya HYa.out (.int .i64 1) rfl rfl ?_; intro w9 hgm hgg hsz; have HV2' := Aside0.mk hgm; have HGg := Aside0.mk hgg; clear hgm hgg hsz)
                      have hX := HXs.out;have h7 := p2.out;have d6 := Aside0.mk (b0.out.same (w1 := w9) (HGg.out.block M b0.out.mlt (fun e => by cases e; omega)) (HGg.out.block r2 b0.out.lt_ (fun e => by cases e; omega)));have HV1' := Aside0.mk (f9.out.grown (fun e => by simp at e) HGg.out);have j9 := Aside0.mk (HBd.out.grown HGg.out HBd.out.size (fun q e => by cases e; omega))
                      have k9 := Aside0.mk (show ∀ a, i64in a → (putM f2 ya (.int .i64 1) a).isSome = (decide (BB (a, (k : Int)) ≠ 0) && !(left (a, (k : Int)) && !decide ((a, (k : Int)) = (ya, (k : Int)))) && decide (AA (a, (k : Int)) = 0)) from fun a ha => by
                        unfold putM;by_cases e : a = ya
                        · rw [if_pos e, e]; simp [HQ.out.2.1, ← HZa.out, hz0]
                        · rw [if_neg e, HF2x.out a ha]; simp [e])
                      clear hX h7 v8 v9;go_wp2
                      go_roundw
                      case rel =>
                        exact ⟨_, _, _, _, _, _, _, _, _, _, _, _, _, _, _, _, _, _, _, _, _, _, _, _, ⟨_, _, _, _, _, _, d6, HV1', HV2', q5, k9, j9⟩, rfl⟩
                      case measure => rw [d6.out.left_eq, a3.out.left_eq]; exact HQ.out.2.2.2
                    · have v8 : (zA == 0) = false := by simpa using hz0
                      have v9 : decide (zA = 0) = false := by simpa using hz0
                      have k9 := Aside0.mk (show ∀ a, i64in a → (f2 a).isSome = (decide (BB (a, (k : Int)) ≠ 0) && !(left (a, (k : Int)) && !decide ((a, (k : Int)) = (ya, (k : Int)))) && decide (AA (a, (k : Int)) = 0)) from fun a ha => by
                        rw [HF2x.out a ha];by_cases e : a = ya
                        · rw [e, ← HZa.out]; simp [hz0]
                        · simp [e])
                      go_wp2
                      go_roundw
                      case rel => exact ⟨_, _, _, _, _, _, b0, f9, g3, q5, k9, HBd⟩
                      case measure => rw [b0.out.left_eq, a3.out.left_eq]; exact HQ.out.2.2.2
                  · have o5 : (yb != (k : Int)) = true := by simpa using hyk
                    have v7 : decide (yb = (k : Int)) = false := by simpa using hyk
                    have HYk := Aside0.mk hyk;clear hyk;go_wp2
                    have hbA := below_alloc (Below.refl w7.heap.size w7) (Obj.cells #[Value.int IntKind.i64 ya, Value.int IntKind.i64 yb] 167);have a9 := Aside0.mk (b6.out.same (hbA.block M b6.out.mlt) (hbA.block r2 b6.out.lt_));have i9 := Aside0.mk (g4.out.below hbA);have j2 := Aside0.mk (i8.out.below hbA);have b3 := Aside0.mk (below_then b2.out b2.out.size hbA);have hne : ∀ a : Int, (a, (k : Int)) ≠ (ya, yb) := fun a e => HYk.out (Prod.mk.inj e).2.symm
                    have HNe := Aside0.mk hne;clear hne hbA;go_roundw
                    case rel =>
                      refine ⟨_, _, _, _, _, _, a9, i9, j2, ⟨fun a ha => ?_⟩, ⟨fun a ha => ?_⟩, b3⟩
                      · rw [f6.out a ha]; simp [HNe.out a]
                      · rw [HF2x.out a ha]; simp [HNe.out a]
                    case measure => rw [a9.out.left_eq, a3.out.left_eq]; exact HQ.out.2.2.2
                · intro n0 g8
                  have hXi : ∀ a, decide (BB (a, (k : Int)) ≠ 0) = true ↔ Into es Hp a (k : Int) (fr : Int) := fun a => by
                    rw [decide_eq_true_eq, HBB.out.1];show cntE es (fun x => decide (Hp x = (fr : Int))) a (k : Int) ≠ 0 ↔ _;rw [cntE_pos];unfold Into;simp only [decide_eq_true_eq]
                  have hYi : ∀ a, decide (AA (a, (k : Int)) = 0) = true ↔ ¬ Into es Hp a (k : Int) (old : Int) := fun a => by
                    rw [decide_eq_true_eq, HBB.out.2];show cntE es (fun x => decide (Hp x = (old : Int))) a (k : Int) = 0 ↔ _;have h := @cntE_pos es (fun x => decide (Hp x = (old : Int))) a (k : Int);unfold Into;simp only [decide_eq_true_eq] at h;rw [← h, Classical.not_not]
                  have hNd : ∀ a, decide (BB (a, (k : Int)) ≠ 0) = true → Nd n a := fun a ha => by
                    obtain ⟨e, he, h2, _⟩ := (hXi a).1 ha;rw [← h2];exact (HEs.out e he).1
                  have o1 : ∀ a, i64in a → left (a, (k : Int)) = false := fun a ha => g8 _ _ ⟨ha, HKi.out⟩
                  have u3 : ∀ a, i64in a → (f1 a).isSome = decide (BB (a, (k : Int)) ≠ 0) := fun a ha => by rw [f6.out a ha, o1 a ha]; simp
                  have u4 : ∀ a, i64in a → (f2 a).isSome = (decide (BB (a, (k : Int)) ≠ 0) && decide (AA (a, (k : Int)) = 0)) := fun a ha => by rw [HF2x.out a ha, o1 a ha]; simp
                  obtain ⟨g5, e7⟩ : ∃ g5 : Nat → Cl, g5 = fun q => if q = X1 then .far 200 else if q = X1 + 1 then .far 201 else cl' q := ⟨_, rfl⟩
                  have hXw := HXs.out.1;have hcA : g5 X1 = .far 200 := by rw [e7]; show (if X1 = X1 then _ else _) = _; rw [if_pos rfl]
                  have hcB : g5 (X1 + 1) = .far 201 := by rw [e7]; show (if X1 + 1 = X1 then _ else if X1 + 1 = X1 + 1 then _ else _) = _; rw [if_neg (by omega), if_pos rfl]
                  have hcO : ∀ q, q < wb.heap.size → g5 q = cl' q := fun q hq => by rw [e7]; show (if q = X1 then _ else if q = X1 + 1 then _ else _) = _; rw [if_neg (by omega), if_neg (by omega)]
                  have HS6 := Aside0.mk (HS.out.stay (Kept.of_below a1.out _) fun q hq _ => hcO q hq);have d7 := Aside0.mk (HK.out.trans (Fr.same (D := fun _ => False) (Kept.of_below a1.out _) hcO) fun q hq => hq.elim);have HBw := Aside0.mk (below_then HBb.out HBb.out.size a1.out);have HCc := Aside0.mk (And.intro hcA hcB);have HFf := Aside0.mk (And.intro u3 u4);have HXY := Aside0.mk (And.intro hXi (And.intro hYi hNd));clear e7 hXw hcA hcB hcO u3 u4 o1 g8 hXi hYi hNd n0 a3 f6 HF2x a1 HGM HMs HfB HfA HBB HBb HK;obtain ⟨XA, hXA⟩ : ∃ XA : Int → Bool, XA = fun a => decide (BB (a, (k : Int)) ≠ 0) := ⟨_, rfl⟩
                  obtain ⟨XB, hXB⟩ : ∃ XB : Int → Bool, XB = fun a => decide (BB (a, (k : Int)) ≠ 0) && decide (AA (a, (k : Int)) = 0) := ⟨_, rfl⟩
                  have HXA := Aside0.mk (And.intro hXA hXB);have HFa := Aside0.mk (show ∀ a, i64in a → (f1 a).isSome = XA a from fun a ha => by rw [hXA]; exact HFf.out.1 a ha);have HFb := Aside0.mk (show ∀ a, i64in a → (f2 a).isSome = XB a from fun a ha => by rw [hXB]; exact HFf.out.2 a ha);have HNa := Aside0.mk (show ∀ a, XA a = true → Nd n a from fun a ha => HXY.out.2.2 a (by rw [hXA] at ha; exact ha));have HNb := Aside0.mk (show ∀ a, XB a = true → Nd n a from fun a ha => HXY.out.2.2 a (by rw [hXB] at ha; exact (Bool.and_eq_true _ _ ▸ ha).1));clear hXA hXB HFf
                  go_wp2_with (go_at_call 148
                               refine (split_any (X := XA) w0 wr HS6.out HD.out HPw.out HW'.out HWt'.out d8.out HCc.out.1 HFa.out HNa.out hn0 hn HBw.out).mono ?_;rintro e w5 ⟨rfl, s5, z8, p5, z9, s9, r4, s7, t4, l9, t9, r7, u8, v3, l4, r1⟩;have l7 := l4.blk (k := X1 + 1) d0.out.lt_ HCc.out.2 id;have r0 := Aside0.mk (d0.out.same l7.1);have p0 := Aside0.mk l7.2;have HS5 := Aside0.mk s9;have p1 := Aside0.mk r4;have y5 := Aside0.mk s7;have q6 := Aside0.mk t4;have l3 := Aside0.mk l9;have a8 := Aside0.mk r1;have p3 := Aside0.mk (d7.out.trans l4 fun q hq => hq.elim);have q0 := Aside0.mk (HSm.out.trans v3);have k5 := Aside0.mk (And.intro r7 (And.intro u8 t9));clear l7 s9 r4 s7 t4 l9 r1 l4 v3 r7 u8 t9 d8 d0 HS6 d7 HBw HCc HFa HNa)
                  go_wp2_with (go_at_call 148
                               refine (split_any (X := XB) w0 _ HS5.out p1.out y5.out q6.out l3.out r0.out p0.out HFb.out HNb.out hn0 hn a8.out).mono ?_;rintro e w6 ⟨rfl, s6, cl6', p6, z4, t2, r5, s8, t6, m0, u0, r8, u9, v4, r6, r3⟩;have HS6 := Aside0.mk t2;have y0 := Aside0.mk r5;have y6 := Aside0.mk s8;have y7 := Aside0.mk t6;have x4 := Aside0.mk m0;have a1 := Aside0.mk r3;have y1 := Aside0.mk (p3.out.trans r6 fun q hq => hq.elim);have y4 := Aside0.mk (q0.out.trans v4);have k6 := Aside0.mk (And.intro r8 (And.intro u9 u0));clear t2 r5 s8 t6 m0 r3 r6 v4 r8 u9 u0 r0 p0 HS5 p1 q6 l3 a8 p3 q0 HFb HNb)
                  have y2 := Aside0.mk (show RefJ n es (gi p.block) H0 (gi p6.block) Hp (fr : Int) (old : Int) (k + 1) from HRj.out.label (B1 := gi p5.block) (fun x y hx hy => by
                    rw [k5.out.2.2 x y hx hy, HXA.out.1];exact and_congr_right fun _ => iff_congr (HXY.out.1 x) (HXY.out.1 y)) fun x y hx hy => by
                    rw [k6.out.2.2 x y hx hy, HXA.out.2];refine and_congr_right fun _ => iff_congr ?_ ?_
                    · show (decide (BB (x, (k : Int)) ≠ 0) && decide (AA (x, (k : Int)) = 0)) = true ↔ _
                      rw [Bool.and_eq_true]; exact and_congr (HXY.out.1 x) (HXY.out.2.1 x)
                    · show (decide (BB (y, (k : Int)) ≠ 0) && decide (AA (y, (k : Int)) = 0)) = true ↔ _
                      rw [Bool.and_eq_true]; exact and_congr (HXY.out.1 y) (HXY.out.2.1 y))
                  go_roundw
                  case rel =>
                    exact ⟨k + 1, s6, cl6', p6, z4, by omega, by go_num, HS6, y0, y6, y7, x4, y4, y2, ⟨fun x hx => by rw [k6.out.1 x hx, k5.out.1 x hx, HPh.out.1 x hx], by rw [k6.out.2.1, k5.out.2.1, HPh.out.2]⟩, y1, a1⟩
                  case measure => simp [intOf]; omega
            · have ek : k = nl := by omega
              subst ek;go_wp2
              go_end0
              obtain ⟨m1, m2, m3, m4, m5, m6, m7, m8, m9, x2⟩ := HSm.out;refine ⟨rfl, s', cl', p', wt', HS.out, HD.out, HPw.out, HW'.out, HWt'.out, ⟨by rw [m2]; exact HSi.out.len, fun i hi => by rw [m3]; exact HSi.out.ins i hi⟩, ?_, by rw [← HHp.out]; exact HRj.out, fun x hx => by rw [← HHp.out]; exact HPh.out.1 x hx, HPh.out.2, HK.out, HBb.out⟩;rw [← HHp.out];exact ⟨by rw [m7]; exact HSc.out.ln, fun h hh => by rw [m5, m7]; exact HSc.out.fC h hh, fun i hi q hq => by rw [m8]; exact HSc.out.fc i hi q hq, fun i hi => by rw [m9]; exact HSc.out.cc i hi⟩
set_option maxHeartbeats 8000000 in
set_option maxRecDepth 100000 in
theorem run_any {T n : Nat} {v2 : Value} {s : Sg} {p : PSt} {wt : Int → Bool} {cls : Nat → Cl} {es : List Ed} {A1 : Option Addr} {nl c1 : Nat} (w0 w : World) (hR : RunS w0.heap.size T n es (.slice A1 nl c1) v2 w cls s p wt) (hn0 : 0 < n) (hn : n ≤ 2048) (hel : es.length ≤ 1000000) (hes : ∀ e ∈ es, Nd n e.f0 ∧ (0 ≤ e.f1 ∧ e.f1 < (nl : Int)) ∧ Nd n e.f2) (hnl : nl ≤ 64) (hB : Below w0.heap.size w0 w) :
  Calls Try.prog 117 #[.pointer (some ⟨T, 0, none⟩)] w fun e w' => e = .returned (.tuple #[]) ∧ ∃ s' cls' p' wt', RunS w0.heap.size T n es (.slice A1 nl c1) v2 w' cls' s' p' wt' ∧ (∀ x, wt' x = false) ∧ Below w0.heap.size w0 w' := by
 have HR := Aside0.mk hR;have HB := Aside0.mk hB;have HEs := Aside0.mk hes;clear hR hB hes;go_enter Try.func117, Try.ntmps117
 go_wp2
 go_loopw [] (fun wr => ∃ (s' : Sg) (cls' : Nat → Cl) (p' : PSt) (wt' : Int → Bool), Aside0 (RunS w0.heap.size T n es (.slice A1 nl c1) v2 wr cls' s' p' wt') ∧ Aside0 (Below w0.heap.size w0 wr)) (fun wr => n - slLen (wr.cell? ⟨T, 7, none⟩))
 case atStart => exact ⟨s, cls, p, wt, HR, HB⟩
 case round =>
  clear HR HB;obtain ⟨s', cls', p', wt', HR, HB⟩ := hrel;have t9 := HR.out.sp.cell 9 _ (by rw [HR.out.std.tc]; rfl);have hlen := ((HR.out.sp .mw).2.1).len Try.underlying88 3;have b0 := len7 HR.out.sp HR.out.std HR.out.pw hn0;have d5 := Aside0.mk b0;clear b0;by_cases h0 : s'.cW = 0
  ·have hw := (HR.out.some_ hn).1 h0;have HW := Aside0.mk hw;have hq : decide ((0 : Int) < (s'.cW : Int)) = false := by simp; omega
   have a7 : ¬ (0 : Int) < (s'.cW : Int) := by omega
   have a8 : ¬ 0 < s'.cW := by omega
   clear hw;rw [h0] at hlen hq a7 a8;go_wp2
   go_end0
   exact ⟨rfl, s', cls', p', wt', HR.out, HW.out, HB.out⟩
  ·have hex : ∃ x, wt' x = true := by
    refine Classical.byContradiction fun hh => h0 ((HR.out.some_ hn).2 fun x => ?_)
    cases hx : wt' x with
    | false => rfl
    | true => exact absurd ⟨x, hx⟩ hh
   have HX := Aside0.mk hex;obtain ⟨cw, hcw⟩ : ∃ cw, cw = s'.cW := ⟨_, rfl⟩
   rw [← hcw] at hlen h0;have hq : decide ((0 : Int) < (cw : Int)) = true := by simp; omega
   have a7 : (0 : Int) < (cw : Int) := by omega
   have a8 : 0 < cw := by omega
   clear hex hcw;go_wp2_with fail
   clear hlen t9 hq a7 a8 h0;refine (take_any w0 _ HR.out.sp HR.out.std HR.out.pw HR.out.stdW HR.out.wt_ HX.out hn HB.out).mono ?_;rintro e w1 ⟨old, a, rfl, hol, ha, h2, s1, e8, e9, b9, b5, d0, a4, e6, e4, b1⟩;obtain ⟨b, g1, g2, g3, g4, g5, g6, g7⟩ := take_ref HR.out.pw hol ha h2 HR.out.ref;obtain ⟨m1, m2, m3, m4, m5, m6, m7, m8, m9, e7⟩ := e6;have b6 : StdI n es s1 := ⟨by rw [m2]; exact HR.out.ins.len, fun i hi => by rw [m3]; exact HR.out.ins.ins i hi⟩
   have b3 := HR.out.cnt.congr (s' := s1) m5 m7 m8 m9 fun _ _ => rfl
   have HS1 := Aside0.mk b9;have e0 := Aside0.mk b5;have e3 := Aside0.mk d0;have d4 := Aside0.mk a4;have d7 := Aside0.mk b1;have e2 := Aside0.mk g1;have HG := Aside0.mk (And.intro g2 (And.intro g3 (And.intro g4 (And.intro g5 (And.intro g6 g7)))));have e1 := Aside0.mk b6;have d9 := Aside0.mk b3;have HOl := Aside0.mk hol;clear hol ha h2 b9 b5 d0 a4 e4 b1 g1 g2 g3 g4 g5 g6 g7 m1 m2 m3 m4 m5 m6 m7 m8 m9 e7 b6 b3;go_wp2_with fail
   refine (refine_any w0 _ HS1.out e0.out e2.out e1.out hn0 hn hel (fun e he => ⟨(HEs.out e he).1, ⟨(HEs.out e he).2.1.1, by have := (HEs.out e he).2.1.2; omega⟩, (HEs.out e he).2.2⟩) HG.out.1 HG.out.2.1 d9.out HOl.out HG.out.2.2.1 HG.out.2.2.2.1 HG.out.2.2.2.2.1 HG.out.2.2.2.2.2 rfl hnl e3.out d4.out d7.out).mono ?_;rintro e w2 ⟨rfl, s2, a9, p2, d3, a3, a1, a0, d1, a5, b7, b4, b8, a2, d2, e5, b2⟩;have a6 : p2.heaps.length = p'.heaps.length + 1 := by rw [d2]; simp [takeP]
   have hRun : RunS w0.heap.size T n es (.slice A1 nl c1) v2 w2 a9 s2 p2 d3 := by
    refine ⟨a3, a1, a0, d1, a5, b7, ?_, ?_⟩
    ·rw [a6];exact b4.congr rfl rfl rfl rfl fun e he => a2 _ (HEs.out e he).2.2
    ·exact (b8.end_ fun e he => ⟨(HEs.out e he).1, (HEs.out e he).2.1, (HEs.out e he).2.2⟩).congr a2 fun e he => (HEs.out e he).2.2
   have HRun := Aside0.mk hRun;have d8 := Aside0.mk b2;have HL := Aside0.mk (And.intro a6 (And.intro a0.nh_le a0.nb_le));have d6 := Aside0.mk (len7 a3 a1 a0 hn0);clear a3 a1 a0 d1 a5 b7 b4 b8 a2 d2 e5 b2 a6 hRun;go_wp2
   go_roundw
   case rel => exact ⟨s2, a9, p2, d3, HRun, d8⟩
   case measure =>
    rw [d5.out, d6.out, HL.out.1];have := HL.out;omega
structure DoneS (base T n : Nat) (es : List Ed) (w : World) (s : Sg) (p : PSt) : Prop where
  t4 : w.cell? ⟨T, 4, none⟩ = some s.vB
  t10 : w.cell? ⟨T, 10, none⟩ = some (.int .i64 ((p.blocks.length : Int) - 1))
  blk : Kd.R (Kd.int .i64) 3 w base (fun _ => True) s.vB p.block
  len : p.block.length = n
  in_ : ∀ x ∈ p.block, i64in x
  num : PL.numK p.block = refL n es
  cnt : (p.blocks.length : Int) = ((PL.fstK (classL n es)).length : Int)
theorem RunS.done {base T n : Nat} {es : List Ed} {v1 v2 : Value} {w : World} {cls : Nat → Cl} {s : Sg} {p : PSt} {wt : Int → Bool} (h : RunS base T n es v1 v2 w cls s p wt) (hw : ∀ x, wt x = false) (hes : ∀ e ∈ es, Nd n e.f0 ∧ Nd n e.f2) (hn : n ≤ 2048) : DoneS base T n es w s p := by
 have h1 := ref_end h.pw h.ref (h.none_ hw) hes
 have hnb := h.pw.nb_le
 refine ⟨h.sp.cell 4 _ (by rw [h.std.tc]; rfl), h.sp.cell 10 _ (by rw [h.std.tc]; rfl), ?_, h.pw.bl, fun x hx => ?_, h1.1, h1.2⟩
 ·have h2 : IR w base cls .blk s.vB s.block := h.sp .blk
  rw [h.std.block] at h2
  exact Kd.R_mono h2 fun _ _ => trivial
 ·obtain ⟨i, hi, rfl⟩ := List.getElem_of_mem hx
  have h2 := h.pw.br (i : Int) (nd_iff.2 (by rw [← h.pw.bl]; exact hi))
  unfold gi at h2
  simp [List.getD_eq_getElem?_getD, List.getElem?_eq_getElem hi] at h2
  unfold i64in
  have := h2.1
  have := h2.2
  omega
theorem DoneS.below {base T n : Nat} {es : List Ed} {w w1 : World} {s : Sg} {p : PSt} (h : DoneS base T n es w s p) (hb : Below w.heap.size w w1) : DoneS base T n es w1 s p := ⟨later hb h.t4, later hb h.t10, Kd.R_below h.blk hb, h.len, h.in_, h.num, h.cnt⟩
set_option maxHeartbeats 8000000 in
theorem done_yes (n : Nat) (ls : List ByteArray) (es : List Ed) (A1 A2 : Option Addr) (c1 c2 : Nat) (w : World) (hr1 : Kd.C Kd.string w A1 ls.length ls) (hr2 : Kd.C k80 w A2 es.length es) (hm : mayR n ls es = true) :
  Calls Try.prog 68 #[.agg #[.int .i64 n, .slice A1 ls.length c1, .slice A2 es.length c2]] w fun e w' => ∃ T s p, e = .returned (.tuple #[.pointer (some ⟨T, 0, none⟩), .int .i64 0]) ∧ DoneS w.heap.size T n es w' s p ∧ Below w.heap.size w w' := by
 have HB := Aside0.mk (Below.refl w.heap.size w)
 have HC : ∀ W, Below w.heap.size w W → Calls Try.prog 72 #[.agg #[.int .i64 n, .slice A1 ls.length c1, .slice A2 es.length c2]] W fun e w' => e = .returned (.int .i64 0) ∧ Below W.heap.size W w' := fun W hW =>
  check_yes n ls es A1 A2 c1 c2 W (Kd.C_below hr1 hW) (Kd.C_below hr2 hW) (by rw [may_same]; exact hm)
 have HC' := Lib.hid HC;have HR1 := Aside0.mk hr1;have HR2 := Aside0.mk hr2;have HM := Aside0.mk hm;have hn := n_le hm;have hn0 : 0 < n := by omega
 have hn1 : n ≤ 2048 := by omega
 have hel := es_le hm;have hll := ls_le hm;have HEs := Aside0.mk (es_nd hm);clear HC hr1 hr2 hm hn;go_enter Try.func68, Try.ntmps68
 go_wp2_with fail
 refine (HC'.out _ (below_alloc HB.out _)).mono ?_;rintro e w1 ⟨rfl, hB⟩;have hX : BoxL w1 w.heap.size n (.slice A1 ls.length c1) (.slice A2 es.length c2) := blk_below (blk_new w _) hB;have HB1 := Aside0.mk (below_then (below_alloc HB.out _) (by simp) hB);have b0 := hX.c0;have b1 := hX.c1;have b2 := hX.c2;clear hB hX HC';go_wp2_with fail
 clear b0 b1 b2;refine (begin_any n ls es A1 A2 c1 c2 w _ (Kd.C_below HR1.out HB1.out) (Kd.C_below HR2.out HB1.out) HM.out HB1.out).mono ?_;rintro e w2 ⟨T, s, cls, p, wt, rfl, hR, hB2⟩;have HR := Aside0.mk hR;have HB2 := Aside0.mk hB2;clear hR hB2;go_wp2_with fail
 refine (run_any w _ HR.out hn0 hn1 hel HEs.out hll HB2.out).mono ?_;rintro e w3 ⟨rfl, s3, cls3, p3, wt3, hR3, hw3, hB3⟩;have HD := Aside0.mk (hR3.done hw3 (fun e he => ⟨(HEs.out e he).1, (HEs.out e he).2.2⟩) hn1);have HB3 := Aside0.mk hB3;clear hR3 hw3 hB3 HR HB2;go_wp2
 go_ret2
 exact ⟨T, s3, p3, rfl, HD.out, HB3.out⟩
set_option maxHeartbeats 8000000 in
theorem done_no (n : Int) (ls : List ByteArray) (es : List Ed) (A1 A2 : Option Addr) (c1 c2 : Nat) (w : World) (hr1 : Kd.C Kd.string w A1 ls.length ls) (hr2 : Kd.C k80 w A2 es.length es) (hm : mayR n ls es = false) :
  Calls Try.prog 68 #[.agg #[.int .i64 n, .slice A1 ls.length c1, .slice A2 es.length c2]] w fun e w' => e = .returned (.tuple #[.pointer none, .int .i64 1]) ∧ Below w.heap.size w w' := by
 have HB := Aside0.mk (Below.refl w.heap.size w)
 have HC : ∀ W, Below w.heap.size w W → Calls Try.prog 72 #[.agg #[.int .i64 n, .slice A1 ls.length c1, .slice A2 es.length c2]] W fun e w' => e = .returned (.int .i64 1) ∧ Below W.heap.size W w' := fun W hW =>
  check_no n ls es A1 A2 c1 c2 W (Kd.C_below hr1 hW) (Kd.C_below hr2 hW) (by rw [may_same]; exact hm)
 have HC' := Lib.hid HC
 clear HC hr1 hr2 hm
 go_enter Try.func68, Try.ntmps68
 go_wp2_with fail
 refine (HC'.out _ (below_alloc HB.out _)).mono ?_
 rintro e w1 ⟨rfl, hB⟩
 have HB1 := Aside0.mk (below_then (below_alloc HB.out _) (by simp) hB)
 clear hB
 go_wp2
 go_ret2
 exact ⟨rfl, HB1.out⟩
set_option maxHeartbeats 8000000 in
theorem ref_any (n : Int) (ls : List ByteArray) (es : List Ed) (A1 A2 : Option Addr) (c1 c2 : Nat) (w : World) (hr1 : Kd.C Kd.string w A1 ls.length ls) (hr2 : Kd.C k80 w A2 es.length es) :
  Calls Try.prog 17 #[.agg #[.int .i64 n, .slice A1 ls.length c1, .slice A2 es.length c2]] w fun e w' => ∃ v, e = .returned (.tuple #[v, .int .i64 (errB (mayR n ls es))]) ∧ Kd.R (Kd.int .i64) 3 w' w.heap.size (fun _ => True) v (if mayR n ls es then refL n.toNat es else []) ∧ Below w.heap.size w w' := by
 have HB := Aside0.mk (Below.refl w.heap.size w)
 cases hm : mayR n ls es with
 | false =>
  have HC : ∀ W, Below w.heap.size w W → Calls Try.prog 68 #[.agg #[.int .i64 n, .slice A1 ls.length c1, .slice A2 es.length c2]] W fun e w' => e = .returned (.tuple #[.pointer none, .int .i64 1]) ∧ Below W.heap.size W w' := fun W hW =>
   done_no n ls es A1 A2 c1 c2 W (Kd.C_below hr1 hW) (Kd.C_below hr2 hW) hm
  have HC' := Lib.hid HC;clear HC hr1 hr2 hm;go_enter Try.func17, Try.ntmps17
  go_wp2_with fail
  refine (HC'.out _ (by first | exact HB.out | exact below_alloc HB.out _)).mono ?_;rintro e w1 ⟨rfl, hB⟩;have HB1 := Aside0.mk (show Below w.heap.size w w1 from by first | exact hB | exact below_then (below_alloc HB.out _) (by simp) hB);clear hB;go_wp2
  go_ret2
  exact ⟨_, rfl, Kd.R_nil _ _ _ _ _, HB1.out⟩
 | true =>
  obtain ⟨m, rfl⟩ := Int.eq_ofNat_of_zero_le (show 0 ≤ n by have := n_le hm; omega)
  have HC : ∀ W, Below w.heap.size w W → Calls Try.prog 68 #[.agg #[.int .i64 m, .slice A1 ls.length c1, .slice A2 es.length c2]] W fun e w' => ∃ T s p, e = .returned (.tuple #[.pointer (some ⟨T, 0, none⟩), .int .i64 0]) ∧ DoneS W.heap.size T m es w' s p ∧ Below W.heap.size W w' := fun W hW =>
   done_yes m ls es A1 A2 c1 c2 W (Kd.C_below hr1 hW) (Kd.C_below hr2 hW) hm
  have HC' := Lib.hid HC;have hmn := n_le hm;clear HC hr1 hr2 hm;go_enter Try.func17, Try.ntmps17
  go_wp2_with fail
  refine (HC'.out _ (by first | exact HB.out | exact below_alloc HB.out _)).mono ?_;rintro e w1 ⟨T, s, p, rfl, hD, hB⟩;have HB1 := Aside0.mk (show Below w.heap.size w w1 from by first | exact hB | exact below_then (below_alloc HB.out _) (by simp) hB);have t4 := hD.t4;obtain ⟨A, c, hv⟩ := Kd.R_slice hD.blk;have hR := hD.blk;rw [hv] at t4 hR;have HR := Aside0.mk (Kd.R_reads' hR).2.2;have HI := Aside0.mk hD.in_;have HN := Aside0.mk hD.num;have HL := Aside0.mk hD.len;clear hB hD hv hR HC';go_wp2_with fail
  refine (plain_any p.block A c _ HR.out HI.out (by rw [HL.out]; omega)).mono ?_;rintro e w2 ⟨v, rfl, hR2, hB2⟩;have HB2 := Aside0.mk (below_then HB1.out HB1.out.size hB2);have HR2 := Aside0.mk (Kd.R_lower hR2 HB1.out.size);clear hR2 hB2 t4;go_wp2
  go_ret2
  refine ⟨_, rfl, ?_, HB2.out⟩;have h := HR2.out;rw [HN.out] at h;exact Kd.R_mono h fun _ _ => trivial
end Go.Proofs.Ytmcbkmfpmcbdpaa.H
namespace Go.Proofs.Ytmcbkmfpmcbdpaa.Pr
open Go.RowKit Go.Proofs.YtmcbkmfpmcbdpaaW.PrintWords Go.Proofs.YtmcbkmfpmcbdpaaW.PrintLast Go.Proofs.YtmcbkmfpmcbdpaaW.PrintMore
def Prb.f (a0_0 : Int) (l0_1 : List ByteArray) (l0_2 : List S80) : Option (List Int × Int) := some (if H.mayR a0_0 l0_1 l0_2 then (refL a0_0.toNat l0_2, 0) else ([], 1))
theorem Prb.calls (a0_0 : Int) (A0_1 : Option Addr) (c0_1 : Nat) (l0_1 : List ByteArray) (A0_2 : Option Addr) (c0_2 : Nat) (l0_2 : List S80) (r1 : List Int) (r2 : Int) (w : World) (hr0_1 : Kd.C Kd.string w A0_1 l0_1.length l0_1) (hc0_1 : l0_1.length ≤ c0_1) (hr0_2 : Kd.C k80 w A0_2 l0_2.length l0_2) (hc0_2 : l0_2.length ≤ c0_2) (h : Prb.f a0_0 l0_1 l0_2 = some (r1, r2)) :
  Calls Try.prog 17 #[.agg #[.int .i64 a0_0, .slice A0_1 l0_1.length c0_1, .slice A0_2 l0_2.length c0_2]] w fun e w' => ∃ v0_ : Value, e = .returned (.tuple #[v0_, .int .i64 r2]) ∧ Kd.R (Kd.int .i64) 3 w' w.heap.size (fun _ => True) v0_ r1 ∧ Below w.heap.size w w' := by
 have h0 := Option.some.inj h
 refine (H.ref_any a0_0 l0_1 l0_2 A0_1 A0_2 c0_1 c0_2 w hr0_1 hr0_2).mono fun e w' hp => ?_
 cases hm : H.mayR a0_0 l0_1 l0_2 with
 | true =>
  rw [hm] at hp h0
  obtain ⟨rfl, rfl⟩ := Prod.mk.inj h0
  exact hp
 | false =>
  rw [hm] at hp h0
  obtain ⟨rfl, rfl⟩ := Prod.mk.inj h0
  exact hp
attribute [local go_sem] max2_int min2_int max_two min_two max_three min_three max_four min_four
set_option linter.unusedVariables false
set_option linter.unusedSimpArgs false
def Pra.f (a0_0 : Int) (l0_1 : List ByteArray) (l0_2 : List (S80)) (a1 : Int) (a2 : Int) : Option (Bool) := (Prb.f a0_0 l0_1 l0_2).bind fun bt102 => (if bt102.2 = 0 then (if (mn a1 a2) ≥ 0 then (if (mx a1 a2) < (bt102.1.length : Int) then (if 0 ≤ a1 then (if a1 < (bt102.1.length : Int) then (if 0 ≤ a2 then (if a2 < (bt102.1.length : Int) then (some ((rd bt102.1 a1) == (rd bt102.1 a2))) else (none)) else (none)) else (none)) else (none)) else (some false)) else (some false)) else (some false))
set_option maxHeartbeats 8000000 in
set_option maxRecDepth 100000 in
theorem Pra.calls (a0_0 : Int) (A0_1 : Option Addr) (c0_1 : Nat) (l0_1 : List ByteArray) (A0_2 : Option Addr) (c0_2 : Nat) (l0_2 : List (S80)) (a1 : Int) (a2 : Int) (r : Bool) (w : World) (hr0_1 : Kd.C Kd.string w A0_1 l0_1.length l0_1) (hc0_1 : l0_1.length ≤ c0_1) (hr0_2 : Kd.C k80 w A0_2 l0_2.length l0_2) (hc0_2 : l0_2.length ≤ c0_2) (h : Pra.f a0_0 l0_1 l0_2 a1 a2 = some r) :
  Calls Try.prog 19 #[.agg #[.int .i64 a0_0, .slice A0_1 l0_1.length c0_1, .slice A0_2 l0_2.length c0_2], .int .i64 a1, .int .i64 a2] w fun e w' => e = .returned (.bool r) ∧ Below w.heap.size w w' := by
 have j6 := Try.underlying25;have b4 := Aside0.mk hr0_1;have b2 := Aside0.mk hc0_1;clear hr0_1 hc0_1;have b5 := Aside0.mk hr0_2;have b3 := Aside0.mk hc0_2;clear hr0_2 hc0_2;have HB := Aside0.mk (Below.refl w.heap.size w);have H : ((Prb.f a0_0 l0_1 l0_2).bind fun e2 => (if e2.2 = 0 then (if (mn a1 a2) ≥ 0 then (if (mx a1 a2) < (e2.1.length : Int) then (if 0 ≤ a1 then (if a1 < (e2.1.length : Int) then (if 0 ≤ a2 then (if a2 < (e2.1.length : Int) then (some ((rd e2.1 a1) == (rd e2.1 a2))) else (none)) else (none)) else (none)) else (none)) else (some false)) else (some false)) else (some false))) = some r := h;clear h;replace H := Option.bind_eq_some_iff.mp H;obtain ⟨⟨a7, b1⟩, i7, H⟩ := H;replace H : (if b1 = 0 then (if (mn a1 a2) ≥ 0 then (if (mx a1 a2) < (a7.length : Int) then (if 0 ≤ a1 then (if a1 < (a7.length : Int) then (if 0 ≤ a2 then (if a2 < (a7.length : Int) then (some ((rd a7 a1) == (rd a7 a2))) else (none)) else (none)) else (none)) else (none)) else (some false)) else (some false)) else (some false)) = some r := H;have A4 := Aside0.mk i7;clear i7;by_cases c5 : b1 = 0
 ·rw [if_pos c5] at H;have c5b0 : (b1 == 0) = true := beq_iff_eq.mpr c5;have c5b1 : (b1 != 0) = false := bne_eq_false_iff_eq.mpr c5;clear c5;obtain ⟨h7, e3⟩ : ∃ j_ : Int, (mn a1 a2) = j_ := ⟨_, rfl⟩
  replace H : (if (h7) ≥ 0 then (if (mx a1 a2) < (a7.length : Int) then (if 0 ≤ a1 then (if a1 < (a7.length : Int) then (if 0 ≤ a2 then (if a2 < (a7.length : Int) then (some ((rd a7 a1) == (rd a7 a2))) else (none)) else (none)) else (none)) else (none)) else (some false)) else (some false)) = some r := by first | (rw [e3] at H; exact H) | (simp only [e3] at H ⊢; exact H)
  (try rw [e3] at A4)
  have j4 : (if a2 < a1 then a2 else a1) = h7 := e3;by_cases c7 : (h7) ≥ 0
  ·rw [if_pos c7] at H;have c7b0 : decide (0 ≤ (h7)) = true := decide_eq_true c7;clear c7;obtain ⟨h8, e6⟩ : ∃ j_ : Int, (mx a1 a2) = j_ := ⟨_, rfl⟩
   replace H : (if (h8) < (a7.length : Int) then (if 0 ≤ a1 then (if a1 < (a7.length : Int) then (if 0 ≤ a2 then (if a2 < (a7.length : Int) then (some ((rd a7 a1) == (rd a7 a2))) else (none)) else (none)) else (none)) else (none)) else (some false)) = some r := by first | (rw [e6] at H; exact H) | (simp only [e6] at H ⊢; exact H)
   (try rw [e6] at A4)
   have j5 : (if a1 < a2 then a2 else a1) = h8 := e6;by_cases c9 : (h8) < (a7.length : Int)
   ·rw [if_pos c9] at H;have c9b0 : decide ((h8) < (a7.length : Int)) = true := decide_eq_true c9;clear c9;by_cases c10 : 0 ≤ a1
    ·rw [if_pos c10] at H;have c10b0 : decide (0 ≤ a1) = true := decide_eq_true c10;clear c10;by_cases h9 : a1 < (a7.length : Int)
     ·rw [if_pos h9] at H;have c11b0 : decide (a1 < (a7.length : Int)) = true := decide_eq_true h9;clear h9;by_cases i0 : 0 ≤ a2
      ·rw [if_pos i0] at H;have c12b0 : decide (0 ≤ a2) = true := decide_eq_true i0;clear i0;by_cases i1 : a2 < (a7.length : Int)
       ·rw [if_pos i1] at H;have c13b0 : decide (a2 < (a7.length : Int)) = true := decide_eq_true i1;clear i1;obtain rfl := Option.some.inj H;go_enter Try.func19, Try.ntmps19
        go_wp2_with (first | ((with_reducible refine gate_dst (N := 3) rfl ?_); (try (refine gate_guard (by rfl) ?_; dsimp only)); refine box_event ?hg (N := 3) ?hd (cs := #[.int .i64 a0_0, .slice A0_1 l0_1.length c0_1, .slice A0_2 l0_2.length c0_2]) (t := 25) ?hr ?_; (case hd => rfl); (case hg => rfl); (case hr => first | (go_simp; done) | (go_simp; rfl)); intro a3 hg d8 hbox hb; have a4 := Aside0.mk (below_step (wz HB.out) hb); have a5 := Aside0.mk (hbox); have a6 := Aside0.mk ((by rw [hg]; exact (below_size (wz HB.out)) : w.heap.size ≤ a3)); have b0 := Aside0.mk ((by rw [hg]; exact (below_size (wz HB.out)) : w.heap.size ≤ a3)); clear HB; have HB := a4; have a0 := a5; have b7 := a6; have b6 := b0; clear a4 a5 a6 b0; clear hb hbox hg; have f1 : d8.cell? ⟨a3, 0, none⟩ = some (.int .i64 a0_0) := bcz a0 0 rfl; have f2 : d8.cell? ⟨a3, 1, none⟩ = some (.slice A0_1 l0_1.length c0_1) := bcz a0 1 rfl; have f3 : d8.cell? ⟨a3, 2, none⟩ = some (.slice A0_2 l0_2.length c0_2) := bcz a0 2 rfl; have g3 := blk_frozen a0.out 0; have g4 := blk_frozen a0.out 1; have g5 := blk_frozen a0.out 2) | (go_at_call 17; (with_reducible refine (Prb.calls a0_0 _ _ l0_1 _ _ l0_2 a7 b1 _ ?b8 ?b9 ?d0 ?d1 A4.out).mono ?_); (case b8 => exact cz b4.out HB.out); (case b9 => exact b2.out); (case d0 => exact cz b5.out HB.out); (case d1 => exact b3.out); rintro e i8 ⟨d6, rfl, a9, hb⟩; have a4 := Aside0.mk (Kd.R_lower a9 (below_size (wz HB.out))); have a5 := Aside0.mk (blk_below (bz a0.out) hb); have a6 := Aside0.mk (below_step (wz HB.out) hb); clear a0; clear HB; have a8 := a4; have a0 := a5; have HB := a6; clear a4 a5 a6; (try clear hb); (try clear d7); (try clear hk); (try clear hi); (try clear a9); obtain ⟨i2, i4, e9⟩ := Kd.R_slice a8.out; subst e9; have d2 : 0 ≤ (a1 : Int) := of_decide_eq_true (by first | (with_reducible assumption) | assumption); have d4 : a1 < (a7.length : Int) := of_decide_eq_true (by first | (with_reducible assumption) | assumption); obtain ⟨e4, e7, h5⟩ := Kd.at_int (Kd.R_reads' a8.out).2.2 a1 d2 d4; cases e7; replace d2 := eq_true d2; replace d4 := eq_true d4; have d3 : 0 ≤ (a2 : Int) := of_decide_eq_true (by first | (with_reducible assumption) | assumption); have d5 : a2 < (a7.length : Int) := of_decide_eq_true (by first | (with_reducible assumption) | assumption); obtain ⟨e5, e8, h6⟩ := Kd.at_int (Kd.R_reads' a8.out).2.2 a2 d3 d5; obtain rfl : e4 = e5 := (by injection e8); replace d3 := eq_true d3; replace d5 := eq_true d5))
        repeat (go_quiet (first | ((with_reducible refine gate_dst (N := 3) rfl ?_); (try (refine gate_guard (by rfl) ?_; dsimp only)); refine box_event ?hg (N := 3) ?hd (cs := #[.int .i64 a0_0, .slice A0_1 l0_1.length c0_1, .slice A0_2 l0_2.length c0_2]) (t := 25) ?hr ?_; (case hd => rfl); (case hg => rfl); (case hr => first | (go_simp; done) | (go_simp; rfl)); intro a3 hg d8 hbox hb; have a4 := Aside0.mk (below_step (wz HB.out) hb); have a5 := Aside0.mk (hbox); have a6 := Aside0.mk ((by rw [hg]; exact (below_size (wz HB.out)) : w.heap.size ≤ a3)); have b0 := Aside0.mk ((by rw [hg]; exact (below_size (wz HB.out)) : w.heap.size ≤ a3)); clear HB; have HB := a4; have a0 := a5; have b7 := a6; have b6 := b0; clear a4 a5 a6 b0; clear hb hbox hg; have f1 : d8.cell? ⟨a3, 0, none⟩ = some (.int .i64 a0_0) := bcz a0 0 rfl; have f2 : d8.cell? ⟨a3, 1, none⟩ = some (.slice A0_1 l0_1.length c0_1) := bcz a0 1 rfl; have f3 : d8.cell? ⟨a3, 2, none⟩ = some (.slice A0_2 l0_2.length c0_2) := bcz a0 2 rfl; have g3 := blk_frozen a0.out 0; have g4 := blk_frozen a0.out 1; have g5 := blk_frozen a0.out 2) | (go_at_call 17; (with_reducible refine (Prb.calls a0_0 _ _ l0_1 _ _ l0_2 a7 b1 _ ?b8 ?b9 ?d0 ?d1 A4.out).mono ?_); (case b8 => exact cz b4.out HB.out); (case b9 => exact b2.out); (case d0 => exact cz b5.out HB.out); (case d1 => exact b3.out); rintro e i8 ⟨d6, rfl, a9, hb⟩; have a4 := Aside0.mk (Kd.R_lower a9 (below_size (wz HB.out))); have a5 := Aside0.mk (blk_below (bz a0.out) hb); have a6 := Aside0.mk (below_step (wz HB.out) hb); clear a0; clear HB; have a8 := a4; have a0 := a5; have HB := a6; clear a4 a5 a6; (try clear hb); (try clear d7); (try clear hk); (try clear hi); (try clear a9); obtain ⟨i2, i4, e9⟩ := Kd.R_slice a8.out; subst e9; have d2 : 0 ≤ (a1 : Int) := of_decide_eq_true (by first | (with_reducible assumption) | assumption); have d4 : a1 < (a7.length : Int) := of_decide_eq_true (by first | (with_reducible assumption) | assumption); obtain ⟨e4, e7, h5⟩ := Kd.at_int (Kd.R_reads' a8.out).2.2 a1 d2 d4; cases e7; replace d2 := eq_true d2; replace d4 := eq_true d4; have d3 : 0 ≤ (a2 : Int) := of_decide_eq_true (by first | (with_reducible assumption) | assumption); have d5 : a2 < (a7.length : Int) := of_decide_eq_true (by first | (with_reducible assumption) | assumption); obtain ⟨e5, e8, h6⟩ := Kd.at_int (Kd.R_reads' a8.out).2.2 a2 d3 d5; obtain rfl : e4 = e5 := (by injection e8); replace d3 := eq_true d3; replace d5 := eq_true d5)); try go_wp2_with (first | ((with_reducible refine gate_dst (N := 3) rfl ?_); (try (refine gate_guard (by rfl) ?_; dsimp only)); refine box_event ?hg (N := 3) ?hd (cs := #[.int .i64 a0_0, .slice A0_1 l0_1.length c0_1, .slice A0_2 l0_2.length c0_2]) (t := 25) ?hr ?_; (case hd => rfl); (case hg => rfl); (case hr => first | (go_simp; done) | (go_simp; rfl)); intro a3 hg d8 hbox hb; have a4 := Aside0.mk (below_step (wz HB.out) hb); have a5 := Aside0.mk (hbox); have a6 := Aside0.mk ((by rw [hg]; exact (below_size (wz HB.out)) : w.heap.size ≤ a3)); have b0 := Aside0.mk ((by rw [hg]; exact (below_size (wz HB.out)) : w.heap.size ≤ a3)); clear HB; have HB := a4; have a0 := a5; have b7 := a6; have b6 := b0; clear a4 a5 a6 b0; clear hb hbox hg; have f1 : d8.cell? ⟨a3, 0, none⟩ = some (.int .i64 a0_0) := bcz a0 0 rfl; have f2 : d8.cell? ⟨a3, 1, none⟩ = some (.slice A0_1 l0_1.length c0_1) := bcz a0 1 rfl; have f3 : d8.cell? ⟨a3, 2, none⟩ = some (.slice A0_2 l0_2.length c0_2) := bcz a0 2 rfl; have g3 := blk_frozen a0.out 0; have g4 := blk_frozen a0.out 1; have g5 := blk_frozen a0.out 2) | (go_at_call 17; (with_reducible refine (Prb.calls a0_0 _ _ l0_1 _ _ l0_2 a7 b1 _ ?b8 ?b9 ?d0 ?d1 A4.out).mono ?_); (case b8 => exact cz b4.out HB.out); (case b9 => exact b2.out); (case d0 => exact cz b5.out HB.out); (case d1 => exact b3.out); rintro e i8 ⟨d6, rfl, a9, hb⟩; have a4 := Aside0.mk (Kd.R_lower a9 (below_size (wz HB.out))); have a5 := Aside0.mk (blk_below (bz a0.out) hb); have a6 := Aside0.mk (below_step (wz HB.out) hb); clear a0; clear HB; have a8 := a4; have a0 := a5; have HB := a6; clear a4 a5 a6; (try clear hb); (try clear d7); (try clear hk); (try clear hi); (try clear a9); obtain ⟨i2, i4, e9⟩ := Kd.R_slice a8.out; subst e9; have d2 : 0 ≤ (a1 : Int) := of_decide_eq_true (by first | (with_reducible assumption) | assumption); have d4 : a1 < (a7.length : Int) := of_decide_eq_true (by first | (with_reducible assumption) | assumption); obtain ⟨e4, e7, h5⟩ := Kd.at_int (Kd.R_reads' a8.out).2.2 a1 d2 d4; cases e7; replace d2 := eq_true d2; replace d4 := eq_true d4; have d3 : 0 ≤ (a2 : Int) := of_decide_eq_true (by first | (with_reducible assumption) | assumption); have d5 : a2 < (a7.length : Int) := of_decide_eq_true (by first | (with_reducible assumption) | assumption); obtain ⟨e5, e8, h6⟩ := Kd.at_int (Kd.R_reads' a8.out).2.2 a2 d3 d5; obtain rfl : e4 = e5 := (by injection e8); replace d3 := eq_true d3; replace d5 := eq_true d5)))
        go_ret
        exact ⟨by first | rfl | (simp [errW_none, errW_some] <;> rfl) | (simp only [← e3, ← e6]; first | rfl | (simp [errW_none, errW_some] <;> rfl)) | (simp [*, errW_none, errW_some] <;> rfl), wz HB.out⟩
       ·rw [if_neg i1] at H;exact absurd H (by simp)
      ·rw [if_neg i0] at H;exact absurd H (by simp)
     ·rw [if_neg h9] at H;exact absurd H (by simp)
    ·rw [if_neg c10] at H;exact absurd H (by simp)
   ·rw [if_neg c9] at H;have c9b0 : decide ((h8) < (a7.length : Int)) = false := decide_eq_false c9;clear c9;obtain rfl := Option.some.inj H;go_enter Try.func19, Try.ntmps19
    go_wp2_with (first | ((with_reducible refine gate_dst (N := 3) rfl ?_); (try (refine gate_guard (by rfl) ?_; dsimp only)); refine box_event ?hg (N := 3) ?hd (cs := #[.int .i64 a0_0, .slice A0_1 l0_1.length c0_1, .slice A0_2 l0_2.length c0_2]) (t := 25) ?hr ?_; (case hd => rfl); (case hg => rfl); (case hr => first | (go_simp; done) | (go_simp; rfl)); intro a3 hg d9 hbox hb; have a4 := Aside0.mk (below_step (wz HB.out) hb); have a5 := Aside0.mk (hbox); have a6 := Aside0.mk ((by rw [hg]; exact (below_size (wz HB.out)) : w.heap.size ≤ a3)); have b0 := Aside0.mk ((by rw [hg]; exact (below_size (wz HB.out)) : w.heap.size ≤ a3)); clear HB; have HB := a4; have a0 := a5; have b7 := a6; have b6 := b0; clear a4 a5 a6 b0; clear hb hbox hg; have f4 : d9.cell? ⟨a3, 0, none⟩ = some (.int .i64 a0_0) := bcz a0 0 rfl; have f5 : d9.cell? ⟨a3, 1, none⟩ = some (.slice A0_1 l0_1.length c0_1) := bcz a0 1 rfl; have f6 : d9.cell? ⟨a3, 2, none⟩ = some (.slice A0_2 l0_2.length c0_2) := bcz a0 2 rfl; have g6 := blk_frozen a0.out 0; have g7 := blk_frozen a0.out 1; have g8 := blk_frozen a0.out 2) | (go_at_call 17; (with_reducible refine (Prb.calls a0_0 _ _ l0_1 _ _ l0_2 a7 b1 _ ?b8 ?b9 ?d0 ?d1 A4.out).mono ?_); (case b8 => exact cz b4.out HB.out); (case b9 => exact b2.out); (case d0 => exact cz b5.out HB.out); (case d1 => exact b3.out); rintro e i9 ⟨d6, rfl, a9, hb⟩; have a4 := Aside0.mk (Kd.R_lower a9 (below_size (wz HB.out))); have a5 := Aside0.mk (blk_below (bz a0.out) hb); have a6 := Aside0.mk (below_step (wz HB.out) hb); clear a0; clear HB; have a8 := a4; have a0 := a5; have HB := a6; clear a4 a5 a6; (try clear hb); (try clear d7); (try clear hk); (try clear hi); (try clear a9); obtain ⟨i3, i5, f0⟩ := Kd.R_slice a8.out; subst f0))
    repeat (go_quiet (first | ((with_reducible refine gate_dst (N := 3) rfl ?_); (try (refine gate_guard (by rfl) ?_; dsimp only)); refine box_event ?hg (N := 3) ?hd (cs := #[.int .i64 a0_0, .slice A0_1 l0_1.length c0_1, .slice A0_2 l0_2.length c0_2]) (t := 25) ?hr ?_; (case hd => rfl); (case hg => rfl); (case hr => first | (go_simp; done) | (go_simp; rfl)); intro a3 hg d9 hbox hb; have a4 := Aside0.mk (below_step (wz HB.out) hb); have a5 := Aside0.mk (hbox); have a6 := Aside0.mk ((by rw [hg]; exact (below_size (wz HB.out)) : w.heap.size ≤ a3)); have b0 := Aside0.mk ((by rw [hg]; exact (below_size (wz HB.out)) : w.heap.size ≤ a3)); clear HB; have HB := a4; have a0 := a5; have b7 := a6; have b6 := b0; clear a4 a5 a6 b0; clear hb hbox hg; have f4 : d9.cell? ⟨a3, 0, none⟩ = some (.int .i64 a0_0) := bcz a0 0 rfl; have f5 : d9.cell? ⟨a3, 1, none⟩ = some (.slice A0_1 l0_1.length c0_1) := bcz a0 1 rfl; have f6 : d9.cell? ⟨a3, 2, none⟩ = some (.slice A0_2 l0_2.length c0_2) := bcz a0 2 rfl; have g6 := blk_frozen a0.out 0; have g7 := blk_frozen a0.out 1; have g8 := blk_frozen a0.out 2) | (go_at_call 17; (with_reducible refine (Prb.calls a0_0 _ _ l0_1 _ _ l0_2 a7 b1 _ ?b8 ?b9 ?d0 ?d1 A4.out).mono ?_); (case b8 => exact cz b4.out HB.out); (case b9 => exact b2.out); (case d0 => exact cz b5.out HB.out); (case d1 => exact b3.out); rintro e i9 ⟨d6, rfl, a9, hb⟩; have a4 := Aside0.mk (Kd.R_lower a9 (below_size (wz HB.out))); have a5 := Aside0.mk (blk_below (bz a0.out) hb); have a6 := Aside0.mk (below_step (wz HB.out) hb); clear a0; clear HB; have a8 := a4; have a0 := a5; have HB := a6; clear a4 a5 a6; (try clear hb); (try clear d7); (try clear hk); (try clear hi); (try clear a9); obtain ⟨i3, i5, f0⟩ := Kd.R_slice a8.out; subst f0)); try go_wp2_with (first | ((with_reducible refine gate_dst (N := 3) rfl ?_); (try (refine gate_guard (by rfl) ?_; dsimp only)); refine box_event ?hg (N := 3) ?hd (cs := #[.int .i64 a0_0, .slice A0_1 l0_1.length c0_1, .slice A0_2 l0_2.length c0_2]) (t := 25) ?hr ?_; (case hd => rfl); (case hg => rfl); (case hr => first | (go_simp; done) | (go_simp; rfl)); intro a3 hg d9 hbox hb; have a4 := Aside0.mk (below_step (wz HB.out) hb); have a5 := Aside0.mk (hbox); have a6 := Aside0.mk ((by rw [hg]; exact (below_size (wz HB.out)) : w.heap.size ≤ a3)); have b0 := Aside0.mk ((by rw [hg]; exact (below_size (wz HB.out)) : w.heap.size ≤ a3)); clear HB; have HB := a4; have a0 := a5; have b7 := a6; have b6 := b0; clear a4 a5 a6 b0; clear hb hbox hg; have f4 : d9.cell? ⟨a3, 0, none⟩ = some (.int .i64 a0_0) := bcz a0 0 rfl; have f5 : d9.cell? ⟨a3, 1, none⟩ = some (.slice A0_1 l0_1.length c0_1) := bcz a0 1 rfl; have f6 : d9.cell? ⟨a3, 2, none⟩ = some (.slice A0_2 l0_2.length c0_2) := bcz a0 2 rfl; have g6 := blk_frozen a0.out 0; have g7 := blk_frozen a0.out 1; have g8 := blk_frozen a0.out 2) | (go_at_call 17; (with_reducible refine (Prb.calls a0_0 _ _ l0_1 _ _ l0_2 a7 b1 _ ?b8 ?b9 ?d0 ?d1 A4.out).mono ?_); (case b8 => exact cz b4.out HB.out); (case b9 => exact b2.out); (case d0 => exact cz b5.out HB.out); (case d1 => exact b3.out); rintro e i9 ⟨d6, rfl, a9, hb⟩; have a4 := Aside0.mk (Kd.R_lower a9 (below_size (wz HB.out))); have a5 := Aside0.mk (blk_below (bz a0.out) hb); have a6 := Aside0.mk (below_step (wz HB.out) hb); clear a0; clear HB; have a8 := a4; have a0 := a5; have HB := a6; clear a4 a5 a6; (try clear hb); (try clear d7); (try clear hk); (try clear hi); (try clear a9); obtain ⟨i3, i5, f0⟩ := Kd.R_slice a8.out; subst f0)))
    go_ret
    exact ⟨by first | rfl | (simp [errW_none, errW_some] <;> rfl) | (simp only [← e3, ← e6]; first | rfl | (simp [errW_none, errW_some] <;> rfl)) | (simp [*, errW_none, errW_some] <;> rfl), wz HB.out⟩
  ·rw [if_neg c7] at H;have c7b0 : decide (0 ≤ (h7)) = false := decide_eq_false c7;clear c7;obtain rfl := Option.some.inj H;go_enter Try.func19, Try.ntmps19
   go_wp2_with (first | ((with_reducible refine gate_dst (N := 3) rfl ?_); (try (refine gate_guard (by rfl) ?_; dsimp only)); refine box_event ?hg (N := 3) ?hd (cs := #[.int .i64 a0_0, .slice A0_1 l0_1.length c0_1, .slice A0_2 l0_2.length c0_2]) (t := 25) ?hr ?_; (case hd => rfl); (case hg => rfl); (case hr => first | (go_simp; done) | (go_simp; rfl)); intro a3 hg e0 hbox hb; have a4 := Aside0.mk (below_step (wz HB.out) hb); have a5 := Aside0.mk (hbox); have a6 := Aside0.mk ((by rw [hg]; exact (below_size (wz HB.out)) : w.heap.size ≤ a3)); have b0 := Aside0.mk ((by rw [hg]; exact (below_size (wz HB.out)) : w.heap.size ≤ a3)); clear HB; have HB := a4; have a0 := a5; have b7 := a6; have b6 := b0; clear a4 a5 a6 b0; clear hb hbox hg; have f7 : e0.cell? ⟨a3, 0, none⟩ = some (.int .i64 a0_0) := bcz a0 0 rfl; have f8 : e0.cell? ⟨a3, 1, none⟩ = some (.slice A0_1 l0_1.length c0_1) := bcz a0 1 rfl; have f9 : e0.cell? ⟨a3, 2, none⟩ = some (.slice A0_2 l0_2.length c0_2) := bcz a0 2 rfl; have g9 := blk_frozen a0.out 0; have h0 := blk_frozen a0.out 1; have h1 := blk_frozen a0.out 2) | (go_at_call 17; (with_reducible refine (Prb.calls a0_0 _ _ l0_1 _ _ l0_2 a7 b1 _ ?b8 ?b9 ?d0 ?d1 A4.out).mono ?_); (case b8 => exact cz b4.out HB.out); (case b9 => exact b2.out); (case d0 => exact cz b5.out HB.out); (case d1 => exact b3.out); rintro e j2 ⟨d6, rfl, a9, hb⟩; have a4 := Aside0.mk (Kd.R_lower a9 (below_size (wz HB.out))); have a5 := Aside0.mk (blk_below (bz a0.out) hb); have a6 := Aside0.mk (below_step (wz HB.out) hb); clear a0; clear HB; have a8 := a4; have a0 := a5; have HB := a6; clear a4 a5 a6; (try clear hb); (try clear d7); (try clear hk); (try clear hi); (try clear a9)))
   repeat (go_quiet (first | ((with_reducible refine gate_dst (N := 3) rfl ?_); (try (refine gate_guard (by rfl) ?_; dsimp only)); refine box_event ?hg (N := 3) ?hd (cs := #[.int .i64 a0_0, .slice A0_1 l0_1.length c0_1, .slice A0_2 l0_2.length c0_2]) (t := 25) ?hr ?_; (case hd => rfl); (case hg => rfl); (case hr => first | (go_simp; done) | (go_simp; rfl)); intro a3 hg e0 hbox hb; have a4 := Aside0.mk (below_step (wz HB.out) hb); have a5 := Aside0.mk (hbox); have a6 := Aside0.mk ((by rw [hg]; exact (below_size (wz HB.out)) : w.heap.size ≤ a3)); have b0 := Aside0.mk ((by rw [hg]; exact (below_size (wz HB.out)) : w.heap.size ≤ a3)); clear HB; have HB := a4; have a0 := a5; have b7 := a6; have b6 := b0; clear a4 a5 a6 b0; clear hb hbox hg; have f7 : e0.cell? ⟨a3, 0, none⟩ = some (.int .i64 a0_0) := bcz a0 0 rfl; have f8 : e0.cell? ⟨a3, 1, none⟩ = some (.slice A0_1 l0_1.length c0_1) := bcz a0 1 rfl; have f9 : e0.cell? ⟨a3, 2, none⟩ = some (.slice A0_2 l0_2.length c0_2) := bcz a0 2 rfl; have g9 := blk_frozen a0.out 0; have h0 := blk_frozen a0.out 1; have h1 := blk_frozen a0.out 2) | (go_at_call 17; (with_reducible refine (Prb.calls a0_0 _ _ l0_1 _ _ l0_2 a7 b1 _ ?b8 ?b9 ?d0 ?d1 A4.out).mono ?_); (case b8 => exact cz b4.out HB.out); (case b9 => exact b2.out); (case d0 => exact cz b5.out HB.out); (case d1 => exact b3.out); rintro e j2 ⟨d6, rfl, a9, hb⟩; have a4 := Aside0.mk (Kd.R_lower a9 (below_size (wz HB.out))); have a5 := Aside0.mk (blk_below (bz a0.out) hb); have a6 := Aside0.mk (below_step (wz HB.out) hb); clear a0; clear HB; have a8 := a4; have a0 := a5; have HB := a6; clear a4 a5 a6; (try clear hb); (try clear d7); (try clear hk); (try clear hi); (try clear a9))); try go_wp2_with (first | ((with_reducible refine gate_dst (N := 3) rfl ?_); (try (refine gate_guard (by rfl) ?_; dsimp only)); refine box_event ?hg (N := 3) ?hd (cs := #[.int .i64 a0_0, .slice A0_1 l0_1.length c0_1, .slice A0_2 l0_2.length c0_2]) (t := 25) ?hr ?_; (case hd => rfl); (case hg => rfl); (case hr => first | (go_simp; done) | (go_simp; rfl)); intro a3 hg e0 hbox hb; have a4 := Aside0.mk (below_step (wz HB.out) hb); have a5 := Aside0.mk (hbox); have a6 := Aside0.mk ((by rw [hg]; exact (below_size (wz HB.out)) : w.heap.size ≤ a3)); have b0 := Aside0.mk ((by rw [hg]; exact (below_size (wz HB.out)) : w.heap.size ≤ a3)); clear HB; have HB := a4; have a0 := a5; have b7 := a6; have b6 := b0; clear a4 a5 a6 b0; clear hb hbox hg; have f7 : e0.cell? ⟨a3, 0, none⟩ = some (.int .i64 a0_0) := bcz a0 0 rfl; have f8 : e0.cell? ⟨a3, 1, none⟩ = some (.slice A0_1 l0_1.length c0_1) := bcz a0 1 rfl; have f9 : e0.cell? ⟨a3, 2, none⟩ = some (.slice A0_2 l0_2.length c0_2) := bcz a0 2 rfl; have g9 := blk_frozen a0.out 0; have h0 := blk_frozen a0.out 1; have h1 := blk_frozen a0.out 2) | (go_at_call 17; (with_reducible refine (Prb.calls a0_0 _ _ l0_1 _ _ l0_2 a7 b1 _ ?b8 ?b9 ?d0 ?d1 A4.out).mono ?_); (case b8 => exact cz b4.out HB.out); (case b9 => exact b2.out); (case d0 => exact cz b5.out HB.out); (case d1 => exact b3.out); rintro e j2 ⟨d6, rfl, a9, hb⟩; have a4 := Aside0.mk (Kd.R_lower a9 (below_size (wz HB.out))); have a5 := Aside0.mk (blk_below (bz a0.out) hb); have a6 := Aside0.mk (below_step (wz HB.out) hb); clear a0; clear HB; have a8 := a4; have a0 := a5; have HB := a6; clear a4 a5 a6; (try clear hb); (try clear d7); (try clear hk); (try clear hi); (try clear a9))))
   go_ret
   exact ⟨by first | rfl | (simp [errW_none, errW_some] <;> rfl) | (simp only [← e3]; first | rfl | (simp [errW_none, errW_some] <;> rfl)) | (simp [*, errW_none, errW_some] <;> rfl), wz HB.out⟩
 ·rw [if_neg c5] at H;have c5b0 : (b1 == 0) = false := beq_eq_false_iff_ne.mpr c5;have c5b1 : (b1 != 0) = true := bne_iff_ne.mpr c5;obtain rfl := Option.some.inj H;go_enter Try.func19, Try.ntmps19
  go_wp2_with (first | ((with_reducible refine gate_dst (N := 3) rfl ?_); (try (refine gate_guard (by rfl) ?_; dsimp only)); refine box_event ?hg (N := 3) ?hd (cs := #[.int .i64 a0_0, .slice A0_1 l0_1.length c0_1, .slice A0_2 l0_2.length c0_2]) (t := 25) ?hr ?_; (case hd => rfl); (case hg => rfl); (case hr => first | (go_simp; done) | (go_simp; rfl)); intro a3 hg e1 hbox hb; have a4 := Aside0.mk (below_step (wz HB.out) hb); have a5 := Aside0.mk (hbox); have a6 := Aside0.mk ((by rw [hg]; exact (below_size (wz HB.out)) : w.heap.size ≤ a3)); have b0 := Aside0.mk ((by rw [hg]; exact (below_size (wz HB.out)) : w.heap.size ≤ a3)); clear HB; have HB := a4; have a0 := a5; have b7 := a6; have b6 := b0; clear a4 a5 a6 b0; clear hb hbox hg; have g0 : e1.cell? ⟨a3, 0, none⟩ = some (.int .i64 a0_0) := bcz a0 0 rfl; have g1 : e1.cell? ⟨a3, 1, none⟩ = some (.slice A0_1 l0_1.length c0_1) := bcz a0 1 rfl; have g2 : e1.cell? ⟨a3, 2, none⟩ = some (.slice A0_2 l0_2.length c0_2) := bcz a0 2 rfl; have h2 := blk_frozen a0.out 0; have h3 := blk_frozen a0.out 1; have h4 := blk_frozen a0.out 2) | (go_at_call 17; (with_reducible refine (Prb.calls a0_0 _ _ l0_1 _ _ l0_2 a7 b1 _ ?b8 ?b9 ?d0 ?d1 A4.out).mono ?_); (case b8 => exact cz b4.out HB.out); (case b9 => exact b2.out); (case d0 => exact cz b5.out HB.out); (case d1 => exact b3.out); rintro e j3 ⟨d6, rfl, a9, hb⟩; have a4 := Aside0.mk (Kd.R_lower a9 (below_size (wz HB.out))); have a5 := Aside0.mk (blk_below (bz a0.out) hb); have a6 := Aside0.mk (below_step (wz HB.out) hb); clear a0; clear HB; have a8 := a4; have a0 := a5; have HB := a6; clear a4 a5 a6; (try clear hb); (try clear d7); (try clear hk); (try clear hi); (try clear a9)))
  repeat (go_quiet (first | ((with_reducible refine gate_dst (N := 3) rfl ?_); (try (refine gate_guard (by rfl) ?_; dsimp only)); refine box_event ?hg (N := 3) ?hd (cs := #[.int .i64 a0_0, .slice A0_1 l0_1.length c0_1, .slice A0_2 l0_2.length c0_2]) (t := 25) ?hr ?_; (case hd => rfl); (case hg => rfl); (case hr => first | (go_simp; done) | (go_simp; rfl)); intro a3 hg e1 hbox hb; have a4 := Aside0.mk (below_step (wz HB.out) hb); have a5 := Aside0.mk (hbox); have a6 := Aside0.mk ((by rw [hg]; exact (below_size (wz HB.out)) : w.heap.size ≤ a3)); have b0 := Aside0.mk ((by rw [hg]; exact (below_size (wz HB.out)) : w.heap.size ≤ a3)); clear HB; have HB := a4; have a0 := a5; have b7 := a6; have b6 := b0; clear a4 a5 a6 b0; clear hb hbox hg; have g0 : e1.cell? ⟨a3, 0, none⟩ = some (.int .i64 a0_0) := bcz a0 0 rfl; have g1 : e1.cell? ⟨a3, 1, none⟩ = some (.slice A0_1 l0_1.length c0_1) := bcz a0 1 rfl; have g2 : e1.cell? ⟨a3, 2, none⟩ = some (.slice A0_2 l0_2.length c0_2) := bcz a0 2 rfl; have h2 := blk_frozen a0.out 0; have h3 := blk_frozen a0.out 1; have h4 := blk_frozen a0.out 2) | (go_at_call 17; (with_reducible refine (Prb.calls a0_0 _ _ l0_1 _ _ l0_2 a7 b1 _ ?b8 ?b9 ?d0 ?d1 A4.out).mono ?_); (case b8 => exact cz b4.out HB.out); (case b9 => exact b2.out); (case d0 => exact cz b5.out HB.out); (case d1 => exact b3.out); rintro e j3 ⟨d6, rfl, a9, hb⟩; have a4 := Aside0.mk (Kd.R_lower a9 (below_size (wz HB.out))); have a5 := Aside0.mk (blk_below (bz a0.out) hb); have a6 := Aside0.mk (below_step (wz HB.out) hb); clear a0; clear HB; have a8 := a4; have a0 := a5; have HB := a6; clear a4 a5 a6; (try clear hb); (try clear d7); (try clear hk); (try clear hi); (try clear a9))); try go_wp2_with (first | ((with_reducible refine gate_dst (N := 3) rfl ?_); (try (refine gate_guard (by rfl) ?_; dsimp only)); refine box_event ?hg (N := 3) ?hd (cs := #[.int .i64 a0_0, .slice A0_1 l0_1.length c0_1, .slice A0_2 l0_2.length c0_2]) (t := 25) ?hr ?_; (case hd => rfl); (case hg => rfl); (case hr => first | (go_simp; done) | (go_simp; rfl)); intro a3 hg e1 hbox hb; have a4 := Aside0.mk (below_step (wz HB.out) hb); have a5 := Aside0.mk (hbox); have a6 := Aside0.mk ((by rw [hg]; exact (below_size (wz HB.out)) : w.heap.size ≤ a3)); have b0 := Aside0.mk ((by rw [hg]; exact (below_size (wz HB.out)) : w.heap.size ≤ a3)); clear HB; have HB := a4; have a0 := a5; have b7 := a6; have b6 := b0; clear a4 a5 a6 b0; clear hb hbox hg; have g0 : e1.cell? ⟨a3, 0, none⟩ = some (.int .i64 a0_0) := bcz a0 0 rfl; have g1 : e1.cell? ⟨a3, 1, none⟩ = some (.slice A0_1 l0_1.length c0_1) := bcz a0 1 rfl; have g2 : e1.cell? ⟨a3, 2, none⟩ = some (.slice A0_2 l0_2.length c0_2) := bcz a0 2 rfl; have h2 := blk_frozen a0.out 0; have h3 := blk_frozen a0.out 1; have h4 := blk_frozen a0.out 2) | (go_at_call 17; (with_reducible refine (Prb.calls a0_0 _ _ l0_1 _ _ l0_2 a7 b1 _ ?b8 ?b9 ?d0 ?d1 A4.out).mono ?_); (case b8 => exact cz b4.out HB.out); (case b9 => exact b2.out); (case d0 => exact cz b5.out HB.out); (case d1 => exact b3.out); rintro e j3 ⟨d6, rfl, a9, hb⟩; have a4 := Aside0.mk (Kd.R_lower a9 (below_size (wz HB.out))); have a5 := Aside0.mk (blk_below (bz a0.out) hb); have a6 := Aside0.mk (below_step (wz HB.out) hb); clear a0; clear HB; have a8 := a4; have a0 := a5; have HB := a6; clear a4 a5 a6; (try clear hb); (try clear d7); (try clear hk); (try clear hi); (try clear a9))))
  go_ret
  exact ⟨by first | rfl | (simp [errW_none, errW_some] <;> rfl) | (simp [*, errW_none, errW_some] <;> rfl), wz HB.out⟩
end Go.Proofs.Ytmcbkmfpmcbdpaa.Pr
namespace Go.Proofs.Ytmcbkmfpmcbdpaa.Pr
open Go.RowKit Go.Proofs.YtmcbkmfpmcbdpaaW.PrintWords Go.Proofs.YtmcbkmfpmcbdpaaW.PrintLast Go.Proofs.YtmcbkmfpmcbdpaaW.PrintMore
attribute [local go_sem] max2_int min2_int max_two min_two max_three min_three max_four min_four
set_option linter.unusedVariables false
set_option linter.unusedSimpArgs false
theorem eqA80 (d : Nat) (w : World) (x0 y0 : Int) (x1 y1 : Int) (x2 y2 : Int) :
  (Op.equalIn (d + 2) 80 (.agg #[.int .i64 x0, .int .i64 x1, .int .i64 x2]) (.agg #[.int .i64 y0, .int .i64 y1, .int .i64 y2])).run Try.prog w = .ok (x0 == y0 && (x1 == y1 && (x2 == y2))) w := by
 refine eqA_of Try.underlying80 (by kernel_rfl) ?_
 refine eqf_cons (by rfl) (by go_simp; rfl) (by go_simp; rfl) (by go_simp) ?_
 refine eqf_cons (by rfl) (by go_simp; rfl) (by go_simp; rfl) (by go_simp) ?_
 exact eqf_last (by rfl) (by go_simp; rfl) (by go_simp; rfl) (by go_simp)
def Pr01a.l0 : Nat → List ByteArray → List ByteArray → Int → Option (Bool)
 | 0, _, _, _ => none
 | k + 1, x0, x1, x5 => if x5 < (x0.length : Int) then (if 0 ≤ x5 then (if x5 < (x1.length : Int) then (if (rdOf ByteArray.empty x0 x5).toList = (rdOf ByteArray.empty x1 x5).toList then (Pr01a.l0 k x0 x1 (wrap64 (x5 + 1))) else (some false)) else (none)) else (none)) else (some true)
def Pr01a.f (k : Nat) (l0 : List ByteArray) (l1 : List ByteArray) : Option (Bool) := if (l0.length : Int) = (l1.length : Int) then (Pr01a.l0 k l0 l1 0) else (some false)
theorem Pr01a.mono_l : ∀ k, (∀ y0 y1 y2, LeO (Pr01a.l0 k y0 y1 y2) (Pr01a.l0 (k + 1) y0 y1 y2))
 | 0 => fun _ _ _ r h => by simp [Pr01a.l0] at h
 | k + 1 => by
  have ih0 := Pr01a.mono_l k
  ·intro y0 y1 y2
   unfold Pr01a.l0
   repeat' first
   | (with_reducible exact ih0 _ _ _)
   | (with_reducible exact LeO.refl _)
   | (with_reducible exact LeO.none _)
   | (with_reducible refine LeO.ite ?_ ?_)
   | (with_reducible refine LeO.bind ?_ (fun _ => ?_))
   | exact ih0 _ _ _
   | exact LeO.none _
   | refine LeO.ite ?_ ?_
   | refine LeO.bind ?_ (fun _ => ?_)
theorem Pr01a.mono : ∀ a0 a1 k, LeO (Pr01a.f k a0 a1) (Pr01a.f (k + 1) a0 a1) := by
 intro a0 a1 k
 have ih0 := Pr01a.mono_l k
 unfold Pr01a.f
 repeat' first
   | (with_reducible exact ih0 _ _ _)
   | (with_reducible exact LeO.refl _)
   | (with_reducible exact LeO.none _)
   | (with_reducible refine LeO.ite ?_ ?_)
   | (with_reducible refine LeO.bind ?_ (fun _ => ?_))
   | exact ih0 _ _ _
   | exact LeO.none _
   | refine LeO.ite ?_ ?_
   | refine LeO.bind ?_ (fun _ => ?_)
set_option maxHeartbeats 8000000 in
set_option maxRecDepth 100000 in
theorem Pr01a.calls (k : Nat) (A0 : Option Addr) (c0 : Nat) (l0 : List ByteArray) (A1 : Option Addr) (c1 : Nat) (l1 : List ByteArray) (r : Bool) (w : World) (hr0 : Kd.C Kd.string w A0 l0.length l0) (hc0 : l0.length ≤ c0) (hr1 : Kd.C Kd.string w A1 l1.length l1) (hc1 : l1.length ≤ c1) (h : Pr01a.f k l0 l1 = some r) :
  Calls Try.prog 28 #[.slice A0 l0.length c0, .slice A1 l1.length c1] w fun e w' => e = .returned (.bool r) ∧ Drawn0 w w' := by
 have b2 := Aside0.mk hr0;have b4 := Aside0.mk hc0;clear hr0 hc0;have b3 := Aside0.mk hr1;have b5 := Aside0.mk hc1;clear hr1 hc1;have H : (if (l0.length : Int) = (l1.length : Int) then (Pr01a.l0 k l0 l1 0) else (some false)) = some r := h;clear h;by_cases c3 : (l0.length : Int) = (l1.length : Int)
 ·rw [if_pos c3] at H;have c3b0 : ((l0.length : Int) == (l1.length : Int)) = true := beq_iff_eq.mpr c3;have c3b1 : ((l0.length : Int) != (l1.length : Int)) = false := bne_eq_false_iff_eq.mpr c3;have c3b2 : (l0.length == l1.length) = true := by first | simpa using c3 | (simp at c3 ⊢; omega)
  clear c3;have H' := Aside0.mk H;clear H;go_enter Try.func28, Try.ntmps28
  go_wp2
  repeat (go_quiet (fail); try go_wp2)
  go_loopg [5] k (fun kq v5 w' => ∃ (a0 : Int), v5 = .int .i64 a0 ∧ Aside0 (Pr01a.l0 kq l0 l1 a0 = some r) ∧ Aside0 (kq ≤ k) ∧ Drawn0 w w')
  case atStart => exact ⟨(0), (by first | rfl | (simp; done) | (simp [*]; done)), H', ⟨Nat.le_refl _⟩, by repeat (first | exact Drawn0.refl _ | apply Drawn0.step)⟩
  case round =>
   clear H';(try clear c1);(try clear c3);(try clear c3b0);(try clear c3b1);(try clear c3b2);obtain ⟨a0, rfl, HA, b1, ⟨m1, rfl⟩⟩ := hrel
   cases gk with
   | zero => exact absurd HA.out (by simp [Pr01a.l0])
   | succ k1 =>
    have H := HA.out;clear HA;simp only [Pr01a.l0] at H;by_cases c4 : a0 < (l0.length : Int)
    ·rw [if_pos c4] at H;have c4b0 : decide (a0 < (l0.length : Int)) = true := decide_eq_true c4;clear c4;by_cases c5 : 0 ≤ a0
     ·rw [if_pos c5] at H;have c5b0 : decide (0 ≤ a0) = true := decide_eq_true c5;clear c5;by_cases c6 : a0 < (l1.length : Int)
      ·rw [if_pos c6] at H;have c6b0 : decide (a0 < (l1.length : Int)) = true := decide_eq_true c6;clear c6;by_cases c7 : (rdOf ByteArray.empty l0 a0).toList = (rdOf ByteArray.empty l1 a0).toList
       ·rw [if_pos c7] at H;have c7b0 : ((rdOf ByteArray.empty l0 a0).toList == (rdOf ByteArray.empty l1 a0).toList) = true := beq_iff_eq.mpr c7;have c7b1 : ((rdOf ByteArray.empty l0 a0).toList != (rdOf ByteArray.empty l1 a0).toList) = false := bne_eq_false_iff_eq.mpr c7;clear c7;have H' := Aside0.mk H;clear H;have a1 : 0 ≤ (a0 : Int) := of_decide_eq_true (by first | (with_reducible assumption) | assumption);have a3 : a0 < (l0.length : Int) := of_decide_eq_true (by first | (with_reducible assumption) | assumption);obtain ⟨a9, a5, a7⟩ := Kd.at_string b2.out a0 a1 a3
        cases a5;replace a1 := eq_true a1;replace a3 := eq_true a3;have a2 : 0 ≤ (a0 : Int) := of_decide_eq_true (by first | (with_reducible assumption) | assumption);have a4 : a0 < (l1.length : Int) := of_decide_eq_true (by first | (with_reducible assumption) | assumption);obtain ⟨b0, a6, a8⟩ := Kd.at_string b3.out a0 a2 a4
        cases a6;replace a2 := eq_true a2;replace a4 := eq_true a4;go_wp2
        repeat (go_quiet (fail); try go_wp2)
        go_roundg k1
        case measure => have := b1.out; omega
        case rel => exact ⟨(wrap64 (a0 + 1)), (by first | rfl | (simp; done) | (simp [*]; done)), H', ⟨by have := b1.out; omega⟩, by repeat (first | exact Drawn0.refl _ | apply Drawn0.step)⟩
       ·rw [if_neg c7] at H;have c7b0 : ((rdOf ByteArray.empty l0 a0).toList == (rdOf ByteArray.empty l1 a0).toList) = false := beq_eq_false_iff_ne.mpr c7;have c7b1 : ((rdOf ByteArray.empty l0 a0).toList != (rdOf ByteArray.empty l1 a0).toList) = true := bne_iff_ne.mpr c7;obtain rfl := Option.some.inj H;have a1 : 0 ≤ (a0 : Int) := of_decide_eq_true (by first | (with_reducible assumption) | assumption);have a3 : a0 < (l0.length : Int) := of_decide_eq_true (by first | (with_reducible assumption) | assumption);obtain ⟨a9, a5, a7⟩ := Kd.at_string b2.out a0 a1 a3
        cases a5;replace a1 := eq_true a1;replace a3 := eq_true a3;have a2 : 0 ≤ (a0 : Int) := of_decide_eq_true (by first | (with_reducible assumption) | assumption);have a4 : a0 < (l1.length : Int) := of_decide_eq_true (by first | (with_reducible assumption) | assumption);obtain ⟨b0, a6, a8⟩ := Kd.at_string b3.out a0 a2 a4
        cases a6;replace a2 := eq_true a2;replace a4 := eq_true a4;go_wp2
        repeat (go_quiet (fail); try go_wp2)
        go_ret
        exact ⟨by first | rfl | (simp; done) | (simp [*]; done), by repeat (first | exact Drawn0.refl _ | apply Drawn0.step)⟩
      ·rw [if_neg c6] at H;exact absurd H (by simp)
     ·rw [if_neg c5] at H;exact absurd H (by simp)
    ·rw [if_neg c4] at H;have c4b0 : decide (a0 < (l0.length : Int)) = false := decide_eq_false c4;clear c4;obtain rfl := Option.some.inj H;go_wp2
     repeat (go_quiet (fail); try go_wp2)
     go_ret
     exact ⟨by first | rfl | (simp; done) | (simp [*]; done), by repeat (first | exact Drawn0.refl _ | apply Drawn0.step)⟩
 ·rw [if_neg c3] at H;have c3b0 : ((l0.length : Int) == (l1.length : Int)) = false := beq_eq_false_iff_ne.mpr c3;have c3b1 : ((l0.length : Int) != (l1.length : Int)) = true := bne_iff_ne.mpr c3;have c3b2 : (l0.length == l1.length) = false := by first | simpa using c3 | (simp at c3 ⊢; omega)
  obtain rfl := Option.some.inj H;go_enter Try.func28, Try.ntmps28
  go_wp2
  repeat (go_quiet (fail); try go_wp2)
  go_ret
  exact ⟨by first | rfl | (simp; done) | (simp [*]; done), by repeat (first | exact Drawn0.refl _ | apply Drawn0.step)⟩
attribute [local go_sem high] eqA80
mutual
def Pr26a.j0 : Nat → Bool → Int → List ByteArray → List (S80) → Int → List ByteArray → List (S80) → Option (Bool)
 | 0, _, _, _, _, _, _, _ => none
 | k + 1, x27, x108000, x108001, x108002, x109000, x109001, x109002 => if x27 = true then (some false) else (Pr26a.l0 k 0 x108000 x108001 x108002 x109000 x109001 x109002)
def Pr26a.l0 : Nat → Int → Int → List ByteArray → List (S80) → Int → List ByteArray → List (S80) → Option (Bool)
 | 0, _, _, _, _, _, _, _ => none
 | k + 1, x5, x108000, x108001, x108002, x109000, x109001, x109002 => if x5 < (x108002.length : Int) then (if 0 ≤ x5 then (if x5 < (x109002.length : Int) then (if (!(((rd_T80 x108002 x5).f0) == ((rd_T80 x109002 x5).f0)) || (!(((rd_T80 x108002 x5).f1) == ((rd_T80 x109002 x5).f1)) || (!(((rd_T80 x108002 x5).f2) == ((rd_T80 x109002 x5).f2))))) = true then (some false) else (Pr26a.l0 k (wrap64 (x5 + 1)) x108000 x108001 x108002 x109000 x109001 x109002)) else (none)) else (none)) else (some true)
end
def Pr26a.f (k : Nat) (a0_0 : Int) (l0_1 : List ByteArray) (l0_2 : List (S80)) (a1_0 : Int) (l1_1 : List ByteArray) (l1_2 : List (S80)) : Option (Bool) := if a0_0 = a1_0 then ((Pr01a.f k l0_1 l1_1).bind fun t109 => (if t109 = true then (Pr26a.j0 k ((l0_2.length : Int) != (l1_2.length : Int)) a0_0 l0_1 l0_2 a1_0 l1_1 l1_2) else (Pr26a.j0 k true a0_0 l0_1 l0_2 a1_0 l1_1 l1_2))) else (Pr26a.j0 k true a0_0 l0_1 l0_2 a1_0 l1_1 l1_2)
theorem Pr26a.mono_l : ∀ k, (∀ y0 y1 y2 y3 y4 y5 y6, LeO (Pr26a.j0 k y0 y1 y2 y3 y4 y5 y6) (Pr26a.j0 (k + 1) y0 y1 y2 y3 y4 y5 y6)) ∧ (∀ y0 y1 y2 y3 y4 y5 y6, LeO (Pr26a.l0 k y0 y1 y2 y3 y4 y5 y6) (Pr26a.l0 (k + 1) y0 y1 y2 y3 y4 y5 y6))
 | 0 => ⟨fun _ _ _ _ _ _ _ r h => by simp [Pr26a.j0] at h, fun _ _ _ _ _ _ _ r h => by simp [Pr26a.l0] at h⟩
 | k + 1 => by
  obtain ⟨ih0, ih1⟩ := Pr26a.mono_l k
  refine ⟨?_, ?_⟩
  ·intro y0 y1 y2 y3 y4 y5 y6
   unfold Pr26a.j0
   repeat' first
   | (with_reducible exact ih0 _ _ _ _ _ _ _)
   | (with_reducible exact ih1 _ _ _ _ _ _ _)
   | (with_reducible exact Pr01a.mono _ _ _)
   | (with_reducible exact LeO.refl _)
   | (with_reducible exact LeO.none _)
   | (with_reducible refine LeO.ite ?_ ?_)
   | (with_reducible refine LeO.bind ?_ (fun _ => ?_))
   | exact ih0 _ _ _ _ _ _ _
   | exact ih1 _ _ _ _ _ _ _
   | exact Pr01a.mono _ _ _
   | exact LeO.none _
   | refine LeO.ite ?_ ?_
   | refine LeO.bind ?_ (fun _ => ?_)
  ·intro y0 y1 y2 y3 y4 y5 y6
   unfold Pr26a.l0
   repeat' first
   | (with_reducible exact ih0 _ _ _ _ _ _ _)
   | (with_reducible exact ih1 _ _ _ _ _ _ _)
   | (with_reducible exact Pr01a.mono _ _ _)
   | (with_reducible exact LeO.refl _)
   | (with_reducible exact LeO.none _)
   | (with_reducible refine LeO.ite ?_ ?_)
   | (with_reducible refine LeO.bind ?_ (fun _ => ?_))
   | exact ih0 _ _ _ _ _ _ _
   | exact ih1 _ _ _ _ _ _ _
   | exact Pr01a.mono _ _ _
   | exact LeO.none _
   | refine LeO.ite ?_ ?_
   | refine LeO.bind ?_ (fun _ => ?_)
theorem Pr26a.mono : ∀ a0 a1 a2 a3 a4 a5 k, LeO (Pr26a.f k a0 a1 a2 a3 a4 a5) (Pr26a.f (k + 1) a0 a1 a2 a3 a4 a5) := by
 intro a0 a1 a2 a3 a4 a5 k
 obtain ⟨ih0, ih1⟩ := Pr26a.mono_l k
 unfold Pr26a.f
 repeat' first
   | (with_reducible exact ih0 _ _ _ _ _ _ _)
   | (with_reducible exact ih1 _ _ _ _ _ _ _)
   | (with_reducible exact Pr01a.mono _ _ _)
   | (with_reducible exact LeO.refl _)
   | (with_reducible exact LeO.none _)
   | (with_reducible refine LeO.ite ?_ ?_)
   | (with_reducible refine LeO.bind ?_ (fun _ => ?_))
   | exact ih0 _ _ _ _ _ _ _
   | exact ih1 _ _ _ _ _ _ _
   | exact Pr01a.mono _ _ _
   | exact LeO.none _
   | refine LeO.ite ?_ ?_
   | refine LeO.bind ?_ (fun _ => ?_)
set_option maxHeartbeats 8000000 in
set_option maxRecDepth 100000 in
theorem Pr26a.calls (k : Nat) (a0_0 : Int) (A0_1 : Option Addr) (c0_1 : Nat) (l0_1 : List ByteArray) (A0_2 : Option Addr) (c0_2 : Nat) (l0_2 : List (S80)) (a1_0 : Int) (A1_1 : Option Addr) (c1_1 : Nat) (l1_1 : List ByteArray) (A1_2 : Option Addr) (c1_2 : Nat) (l1_2 : List (S80)) (r : Bool) (w : World) (hr0_1 : Kd.C Kd.string w A0_1 l0_1.length l0_1) (hc0_1 : l0_1.length ≤ c0_1) (hr0_2 : Kd.C k80 w A0_2 l0_2.length l0_2) (hc0_2 : l0_2.length ≤ c0_2) (hr1_1 : Kd.C Kd.string w A1_1 l1_1.length l1_1) (hc1_1 : l1_1.length ≤ c1_1) (hr1_2 : Kd.C k80 w A1_2 l1_2.length l1_2) (hc1_2 : l1_2.length ≤ c1_2) (h : Pr26a.f k a0_0 l0_1 l0_2 a1_0 l1_1 l1_2 = some r) :
  Calls Try.prog 44 #[.agg #[.int .i64 a0_0, .slice A0_1 l0_1.length c0_1, .slice A0_2 l0_2.length c0_2], .agg #[.int .i64 a1_0, .slice A1_1 l1_1.length c1_1, .slice A1_2 l1_2.length c1_2]] w fun e w' => e = .returned (.bool r) ∧ Below w.heap.size w w' := by
 have p3 := Try.underlying25;have p4 := Try.underlying80;have b9 := Aside0.mk hr0_1;have b7 := Aside0.mk hc0_1;clear hr0_1 hc0_1;have j5 := Aside0.mk hr0_2;have n9 := Aside0.mk hc0_2;clear hr0_2 hc0_2;have d0 := Aside0.mk hr1_1;have b8 := Aside0.mk hc1_1;clear hr1_1 hc1_1;have j6 := Aside0.mk hr1_2;have o0 := Aside0.mk hc1_2;clear hr1_2 hc1_2;have HB := Aside0.mk (Below.refl w.heap.size w);have H : (if a0_0 = a1_0 then ((Pr01a.f k l0_1 l1_1).bind fun i4 => (if i4 = true then (Pr26a.j0 k ((l0_2.length : Int) != (l1_2.length : Int)) a0_0 l0_1 l0_2 a1_0 l1_1 l1_2) else (Pr26a.j0 k true a0_0 l0_1 l0_2 a1_0 l1_1 l1_2))) else (Pr26a.j0 k true a0_0 l0_1 l0_2 a1_0 l1_1 l1_2)) = some r := h;clear h;have j9 := Aside0.mk H;clear H;go_enter Try.func44, Try.ntmps44
 go_upto_region 1 with (first | ((with_reducible refine gate_dst (N := 2) rfl ?_); (try (refine gate_guard (by rfl) ?_; dsimp only)); refine box_event ?hg (N := 2) ?hd (cs := #[.int .i64 a0_0, .slice A0_1 l0_1.length c0_1, .slice A0_2 l0_2.length c0_2]) (t := 25) ?hr ?_; (case hd => rfl); (case hg => rfl); (case hr => first | (go_simp; done) | (go_simp; rfl)); intro a1 hg w4 hbox hb; have b3 := Aside0.mk (below_step (wz HB.out) hb); have b4 := Aside0.mk (hbox); have b5 := Aside0.mk ((by rw [hg]; exact (below_size (wz HB.out)) : w.heap.size ≤ a1)); have b6 := Aside0.mk ((by rw [hg]; exact (below_size (wz HB.out)) : w.heap.size ≤ a1)); clear HB; have HB := b3; have a0 := b4; have j3 := b5; have i9 := b6; clear b3 b4 b5 b6 hb hbox hg) | ((with_reducible refine gate_dst (N := 3) rfl ?_); (try (refine gate_guard (by rfl) ?_; dsimp only)); refine box_event ?hg (N := 3) ?hd (cs := #[.int .i64 a1_0, .slice A1_1 l1_1.length c1_1, .slice A1_2 l1_2.length c1_2]) (t := 25) ?hr ?_; (case hd => rfl); (case hg => rfl); (case hr => first | (go_simp; done) | (go_simp; rfl)); intro a4 hg w5 hbox hb; have b3 := Aside0.mk (blk_below (bz a0.out) hb); have b4 := Aside0.mk (below_step (wz HB.out) hb); have b5 := Aside0.mk (hbox); have b6 := Aside0.mk ((by rw [hg]; exact (below_size (wz HB.out)) : w.heap.size ≤ a4)); have d9 := Aside0.mk ((by rw [hg]; exact (below_size (wz HB.out)) : w.heap.size ≤ a4)); have e0 := Aside0.mk ((by rw [hg]; exact Nat.ne_of_lt (blk_lt (g := a1) (o := .cells #[.int .i64 a0_0, .slice A0_1 l0_1.length c0_1, .slice A0_2 l0_2.length c0_2] 25 (0, 0)) (bz a0.out)) : a1 ≠ a4)); have e1 := Aside0.mk ((by rw [hg]; exact Nat.ne_of_gt (blk_lt (g := a1) (o := .cells #[.int .i64 a0_0, .slice A0_1 l0_1.length c0_1, .slice A0_2 l0_2.length c0_2] 25 (0, 0)) (bz a0.out)) : a4 ≠ a1)); clear a0 HB; have a0 := b3; have HB := b4; have a2 := b5; have j4 := b6; have j2 := d9; have a5 := e0; have a6 := e1; clear b3 b4 b5 b6 d9 e0 e1 hb hbox hg))
 repeat (go_quiet (first | ((with_reducible refine gate_dst (N := 2) rfl ?_); (try (refine gate_guard (by rfl) ?_; dsimp only)); refine box_event ?hg (N := 2) ?hd (cs := #[.int .i64 a0_0, .slice A0_1 l0_1.length c0_1, .slice A0_2 l0_2.length c0_2]) (t := 25) ?hr ?_; (case hd => rfl); (case hg => rfl); (case hr => first | (go_simp; done) | (go_simp; rfl)); intro a1 hg w4 hbox hb; have b3 := Aside0.mk (below_step (wz HB.out) hb); have b4 := Aside0.mk (hbox); have b5 := Aside0.mk ((by rw [hg]; exact (below_size (wz HB.out)) : w.heap.size ≤ a1)); have b6 := Aside0.mk ((by rw [hg]; exact (below_size (wz HB.out)) : w.heap.size ≤ a1)); clear HB; have HB := b3; have a0 := b4; have j3 := b5; have i9 := b6; clear b3 b4 b5 b6 hb hbox hg) | ((with_reducible refine gate_dst (N := 3) rfl ?_); (try (refine gate_guard (by rfl) ?_; dsimp only)); refine box_event ?hg (N := 3) ?hd (cs := #[.int .i64 a1_0, .slice A1_1 l1_1.length c1_1, .slice A1_2 l1_2.length c1_2]) (t := 25) ?hr ?_; (case hd => rfl); (case hg => rfl); (case hr => first | (go_simp; done) | (go_simp; rfl)); intro a4 hg w5 hbox hb; have b3 := Aside0.mk (blk_below (bz a0.out) hb); have b4 := Aside0.mk (below_step (wz HB.out) hb); have b5 := Aside0.mk (hbox); have b6 := Aside0.mk ((by rw [hg]; exact (below_size (wz HB.out)) : w.heap.size ≤ a4)); have d9 := Aside0.mk ((by rw [hg]; exact (below_size (wz HB.out)) : w.heap.size ≤ a4)); have e0 := Aside0.mk ((by rw [hg]; exact Nat.ne_of_lt (blk_lt (g := a1) (o := .cells #[.int .i64 a0_0, .slice A0_1 l0_1.length c0_1, .slice A0_2 l0_2.length c0_2] 25 (0, 0)) (bz a0.out)) : a1 ≠ a4)); have e1 := Aside0.mk ((by rw [hg]; exact Nat.ne_of_gt (blk_lt (g := a1) (o := .cells #[.int .i64 a0_0, .slice A0_1 l0_1.length c0_1, .slice A0_2 l0_2.length c0_2] 25 (0, 0)) (bz a0.out)) : a4 ≠ a1)); clear a0 HB; have a0 := b3; have HB := b4; have a2 := b5; have j4 := b6; have j2 := d9; have a5 := e0; have a6 := e1; clear b3 b4 b5 b6 d9 e0 e1 hb hbox hg)); go_upto_region 1 with (first | ((with_reducible refine gate_dst (N := 2) rfl ?_); (try (refine gate_guard (by rfl) ?_; dsimp only)); refine box_event ?hg (N := 2) ?hd (cs := #[.int .i64 a0_0, .slice A0_1 l0_1.length c0_1, .slice A0_2 l0_2.length c0_2]) (t := 25) ?hr ?_; (case hd => rfl); (case hg => rfl); (case hr => first | (go_simp; done) | (go_simp; rfl)); intro a1 hg w4 hbox hb; have b3 := Aside0.mk (below_step (wz HB.out) hb); have b4 := Aside0.mk (hbox); have b5 := Aside0.mk ((by rw [hg]; exact (below_size (wz HB.out)) : w.heap.size ≤ a1)); have b6 := Aside0.mk ((by rw [hg]; exact (below_size (wz HB.out)) : w.heap.size ≤ a1)); clear HB; have HB := b3; have a0 := b4; have j3 := b5; have i9 := b6; clear b3 b4 b5 b6 hb hbox hg) | ((with_reducible refine gate_dst (N := 3) rfl ?_); (try (refine gate_guard (by rfl) ?_; dsimp only)); refine box_event ?hg (N := 3) ?hd (cs := #[.int .i64 a1_0, .slice A1_1 l1_1.length c1_1, .slice A1_2 l1_2.length c1_2]) (t := 25) ?hr ?_; (case hd => rfl); (case hg => rfl); (case hr => first | (go_simp; done) | (go_simp; rfl)); intro a4 hg w5 hbox hb; have b3 := Aside0.mk (blk_below (bz a0.out) hb); have b4 := Aside0.mk (below_step (wz HB.out) hb); have b5 := Aside0.mk (hbox); have b6 := Aside0.mk ((by rw [hg]; exact (below_size (wz HB.out)) : w.heap.size ≤ a4)); have d9 := Aside0.mk ((by rw [hg]; exact (below_size (wz HB.out)) : w.heap.size ≤ a4)); have e0 := Aside0.mk ((by rw [hg]; exact Nat.ne_of_lt (blk_lt (g := a1) (o := .cells #[.int .i64 a0_0, .slice A0_1 l0_1.length c0_1, .slice A0_2 l0_2.length c0_2] 25 (0, 0)) (bz a0.out)) : a1 ≠ a4)); have e1 := Aside0.mk ((by rw [hg]; exact Nat.ne_of_gt (blk_lt (g := a1) (o := .cells #[.int .i64 a0_0, .slice A0_1 l0_1.length c0_1, .slice A0_2 l0_2.length c0_2] 25 (0, 0)) (bz a0.out)) : a4 ≠ a1)); clear a0 HB; have a0 := b3; have HB := b4; have a2 := b5; have j4 := b6; have j2 := d9; have a5 := e0; have a6 := e1; clear b3 b4 b5 b6 d9 e0 e1 hb hbox hg)))
 (try simp only [Act.put, qz1, qz2, qz3])
 go_cut [27] (fun n8 wc => ∃ (kq : Nat) (e2 : Bool), n8 = .bool e2 ∧ Aside0 (Pr26a.j0 kq e2 a0_0 l0_1 l0_2 a1_0 l1_1 l1_2 = some r) ∧ Aside0 (kq ≤ k) ∧ Aside0 (wc.heap[a1]? = some (.cells #[.int .i64 a0_0, (.slice A0_1 l0_1.length c0_1), (.slice A0_2 l0_2.length c0_2)] 25 (0, 0))) ∧ Aside0 (wc.heap[a4]? = some (.cells #[.int .i64 a1_0, (.slice A1_1 l1_1.length c1_1), (.slice A1_2 l1_2.length c1_2)] 25 (0, 0))) ∧ Aside0 (Below w.heap.size w wc))
 case first =>
  have H := j9.out;clear j9;by_cases c6 : a0_0 = a1_0
  ·rw [if_pos c6] at H;have c6b0 : (a0_0 == a1_0) = true := beq_iff_eq.mpr c6;have c6b1 : (a0_0 != a1_0) = false := bne_eq_false_iff_eq.mpr c6;clear c6
   (first | rw [c6b0] | (simp only [i64_w, i32_w]; rw [c6b0]) | skip)
   replace H := Option.bind_eq_some_iff.mp H;obtain ⟨i4, k3, H⟩ := H;replace H : (if i4 = true then (Pr26a.j0 k ((l0_2.length : Int) != (l1_2.length : Int)) a0_0 l0_1 l0_2 a1_0 l1_1 l1_2) else (Pr26a.j0 k true a0_0 l0_1 l0_2 a1_0 l1_1 l1_2)) = some r := H;have A7 := Aside0.mk k3;clear k3;by_cases c8 : i4 = true
   ·subst c8;have H1 : (Pr26a.j0 k ((l0_2.length : Int) != (l1_2.length : Int)) a0_0 l0_1 l0_2 a1_0 l1_1 l1_2) = some r := by rw [if_pos rfl] at H; exact H
    clear H;have H := H1;clear H1;have H' := Aside0.mk H;clear H;have p1 := a5.out;have p2 := a6.out;have e5 : w5.cell? ⟨a1, 0, none⟩ = some (.int .i64 a0_0) := bcz a0 0 rfl;have e6 : w5.cell? ⟨a1, 1, none⟩ = some (.slice A0_1 l0_1.length c0_1) := bcz a0 1 rfl;have e7 : w5.cell? ⟨a1, 2, none⟩ = some (.slice A0_2 l0_2.length c0_2) := bcz a0 2 rfl;have g6 := blk_frozen a0.out 0;have g7 := blk_frozen a0.out 1;have g8 := blk_frozen a0.out 2;have e8 : w5.cell? ⟨a4, 0, none⟩ = some (.int .i64 a1_0) := bcz a2 0 rfl;have e9 : w5.cell? ⟨a4, 1, none⟩ = some (.slice A1_1 l1_1.length c1_1) := bcz a2 1 rfl;have f3 : w5.cell? ⟨a4, 2, none⟩ = some (.slice A1_2 l1_2.length c1_2) := bcz a2 2 rfl;have g9 := blk_frozen a2.out 0;have h0 := blk_frozen a2.out 1;have h1 := blk_frozen a2.out 2;go_wp2_with (first | (go_at_call 28; (with_reducible refine (Pr01a.calls k _ _ l0_1 _ _ l1_1 true _ ?d5 ?d6 ?d7 ?d8 A7.out).mono ?_); (case d5 => exact cz b9.out HB.out); (case d6 => exact b7.out); (case d7 => exact cz d0.out HB.out); (case d8 => exact b8.out); rintro e w' ⟨rfl, ⟨nd, rfl⟩⟩; (try first | exact ⟨rfl, _, World.drewN_drewN _ _ _⟩ | exact ⟨rfl, _, Eq.trans (World.drewN_drewN _ _ _) (congrArg (World.drewN _) (Nat.add_assoc _ _ _))⟩)))
    repeat (go_quiet (first | (go_at_call 28; (with_reducible refine (Pr01a.calls k _ _ l0_1 _ _ l1_1 true _ ?d5 ?d6 ?d7 ?d8 A7.out).mono ?_); (case d5 => exact cz b9.out HB.out); (case d6 => exact b7.out); (case d7 => exact cz d0.out HB.out); (case d8 => exact b8.out); rintro e w' ⟨rfl, ⟨nd, rfl⟩⟩; (try first | exact ⟨rfl, _, World.drewN_drewN _ _ _⟩ | exact ⟨rfl, _, Eq.trans (World.drewN_drewN _ _ _) (congrArg (World.drewN _) (Nat.add_assoc _ _ _))⟩))); try go_wp2_with (first | (go_at_call 28; (with_reducible refine (Pr01a.calls k _ _ l0_1 _ _ l1_1 true _ ?d5 ?d6 ?d7 ?d8 A7.out).mono ?_); (case d5 => exact cz b9.out HB.out); (case d6 => exact b7.out); (case d7 => exact cz d0.out HB.out); (case d8 => exact b8.out); rintro e w' ⟨rfl, ⟨nd, rfl⟩⟩; (try first | exact ⟨rfl, _, World.drewN_drewN _ _ _⟩ | exact ⟨rfl, _, Eq.trans (World.drewN_drewN _ _ _) (congrArg (World.drewN _) (Nat.add_assoc _ _ _))⟩))))
    go_meet
    case rel => exact ⟨_, (((l0_2.length : Int) != (l1_2.length : Int))), (by first | rfl | (simp; done) | (simp [*]; done)), H', ⟨by first | omega | exact Nat.le_refl _⟩, ⟨bz a0.out⟩, ⟨bz a2.out⟩, ⟨wz HB.out⟩⟩
   ·replace c8 := Bool.eq_false_iff.mpr c8;subst c8;have H1 : (Pr26a.j0 k true a0_0 l0_1 l0_2 a1_0 l1_1 l1_2) = some r := by rw [if_neg (show ¬ (false = true) by decide)] at H; exact H
    clear H;have H := H1;clear H1;have H' := Aside0.mk H;clear H;have o1 := a5.out;have o6 := a6.out;have f4 : w5.cell? ⟨a1, 0, none⟩ = some (.int .i64 a0_0) := bcz a0 0 rfl;have f5 : w5.cell? ⟨a1, 1, none⟩ = some (.slice A0_1 l0_1.length c0_1) := bcz a0 1 rfl;have f6 : w5.cell? ⟨a1, 2, none⟩ = some (.slice A0_2 l0_2.length c0_2) := bcz a0 2 rfl;have h2 := blk_frozen a0.out 0;have h3 := blk_frozen a0.out 1;have h4 := blk_frozen a0.out 2;have f7 : w5.cell? ⟨a4, 0, none⟩ = some (.int .i64 a1_0) := bcz a2 0 rfl;have f8 : w5.cell? ⟨a4, 1, none⟩ = some (.slice A1_1 l1_1.length c1_1) := bcz a2 1 rfl;have f9 : w5.cell? ⟨a4, 2, none⟩ = some (.slice A1_2 l1_2.length c1_2) := bcz a2 2 rfl;have h5 := blk_frozen a2.out 0;have h6 := blk_frozen a2.out 1;have h7 := blk_frozen a2.out 2;go_wp2_with (first | (go_at_call 28; (with_reducible refine (Pr01a.calls k _ _ l0_1 _ _ l1_1 false _ ?d5 ?d6 ?d7 ?d8 A7.out).mono ?_); (case d5 => exact cz b9.out HB.out); (case d6 => exact b7.out); (case d7 => exact cz d0.out HB.out); (case d8 => exact b8.out); rintro e w' ⟨rfl, ⟨nd, rfl⟩⟩; (try first | exact ⟨rfl, _, World.drewN_drewN _ _ _⟩ | exact ⟨rfl, _, Eq.trans (World.drewN_drewN _ _ _) (congrArg (World.drewN _) (Nat.add_assoc _ _ _))⟩)))
    repeat (go_quiet (first | (go_at_call 28; (with_reducible refine (Pr01a.calls k _ _ l0_1 _ _ l1_1 false _ ?d5 ?d6 ?d7 ?d8 A7.out).mono ?_); (case d5 => exact cz b9.out HB.out); (case d6 => exact b7.out); (case d7 => exact cz d0.out HB.out); (case d8 => exact b8.out); rintro e w' ⟨rfl, ⟨nd, rfl⟩⟩; (try first | exact ⟨rfl, _, World.drewN_drewN _ _ _⟩ | exact ⟨rfl, _, Eq.trans (World.drewN_drewN _ _ _) (congrArg (World.drewN _) (Nat.add_assoc _ _ _))⟩))); try go_wp2_with (first | (go_at_call 28; (with_reducible refine (Pr01a.calls k _ _ l0_1 _ _ l1_1 false _ ?d5 ?d6 ?d7 ?d8 A7.out).mono ?_); (case d5 => exact cz b9.out HB.out); (case d6 => exact b7.out); (case d7 => exact cz d0.out HB.out); (case d8 => exact b8.out); rintro e w' ⟨rfl, ⟨nd, rfl⟩⟩; (try first | exact ⟨rfl, _, World.drewN_drewN _ _ _⟩ | exact ⟨rfl, _, Eq.trans (World.drewN_drewN _ _ _) (congrArg (World.drewN _) (Nat.add_assoc _ _ _))⟩))))
    go_meet
    case rel => exact ⟨_, (true), (by first | rfl | (simp; done) | (simp [*]; done)), H', ⟨by first | omega | exact Nat.le_refl _⟩, ⟨bz a0.out⟩, ⟨bz a2.out⟩, ⟨wz HB.out⟩⟩
  ·rw [if_neg c6] at H;have c6b0 : (a0_0 == a1_0) = false := beq_eq_false_iff_ne.mpr c6;have c6b1 : (a0_0 != a1_0) = true := bne_iff_ne.mpr c6
   (first | rw [c6b0] | (simp only [i64_w, i32_w]; rw [c6b0]) | skip)
   have H' := Aside0.mk H;clear H;have o2 := a5.out;have o7 := a6.out;have g0 : w5.cell? ⟨a1, 0, none⟩ = some (.int .i64 a0_0) := bcz a0 0 rfl;have g1 : w5.cell? ⟨a1, 1, none⟩ = some (.slice A0_1 l0_1.length c0_1) := bcz a0 1 rfl;have g2 : w5.cell? ⟨a1, 2, none⟩ = some (.slice A0_2 l0_2.length c0_2) := bcz a0 2 rfl;have h8 := blk_frozen a0.out 0;have h9 := blk_frozen a0.out 1;have i0 := blk_frozen a0.out 2;have g3 : w5.cell? ⟨a4, 0, none⟩ = some (.int .i64 a1_0) := bcz a2 0 rfl;have g4 : w5.cell? ⟨a4, 1, none⟩ = some (.slice A1_1 l1_1.length c1_1) := bcz a2 1 rfl;have g5 : w5.cell? ⟨a4, 2, none⟩ = some (.slice A1_2 l1_2.length c1_2) := bcz a2 2 rfl;have i1 := blk_frozen a2.out 0;have i2 := blk_frozen a2.out 1;have i3 := blk_frozen a2.out 2;go_wp2
   repeat (go_quiet (fail); try go_wp2)
   go_meet
   case rel => exact ⟨_, (true), (by first | rfl | (simp; done) | (simp [*]; done)), H', ⟨by first | omega | exact Nat.le_refl _⟩, ⟨bz a0.out⟩, ⟨bz a2.out⟩, ⟨wz HB.out⟩⟩
 case rest =>
  clear j9;(try clear c6);(try clear c6b0);(try clear c6b1);(try clear c8);(try clear e5);(try clear e6);(try clear e7);(try clear e8);(try clear e9);(try clear f3);(try clear f4);(try clear f5);(try clear f6);(try clear f7);(try clear f8);(try clear f9);(try clear g0);(try clear g1);(try clear g2);(try clear g3);(try clear g4);(try clear g5);(try clear g6);(try clear g7);(try clear g8);(try clear g9);(try clear h0);(try clear h1);(try clear h2);(try clear h3);(try clear h4);(try clear h5);(try clear h6);(try clear h7);(try clear h8);(try clear h9);(try clear i0);(try clear i1);(try clear i2);(try clear i3);obtain ⟨kq, e2, rfl, HA, k4, a0, a2, HB⟩ := hcut
  cases kq with
  | zero => exact absurd HA.out (by simp [Pr26a.j0])
  | succ kj2 =>
   have H := HA.out;clear HA;simp only [Pr26a.j0] at H;by_cases i5 : e2 = true
   ·subst i5;have H1 : (some false) = some r := by rw [if_pos rfl] at H; exact H
    clear H;have H := H1;clear H1;obtain rfl := Option.some.inj H;go_wp2
    repeat (go_quiet (fail); try go_wp2)
    go_ret
    exact ⟨by first | rfl | (simp [errW_none, errW_some] <;> rfl) | (simp [*, errW_none, errW_some] <;> rfl), wz HB.out⟩
   ·replace i5 := Bool.eq_false_iff.mpr i5;subst i5;have H1 : (Pr26a.l0 kj2 0 a0_0 l0_1 l0_2 a1_0 l1_1 l1_2) = some r := by rw [if_neg (show ¬ (false = true) by decide)] at H; exact H
    clear H;have H := H1;clear H1;have H' := Aside0.mk H;clear H;go_wp2
    repeat (go_quiet (fail); try go_wp2)
    go_loopg [5] kj2 (fun kq v5 w' => ∃ (a3 : Int), v5 = .int .i64 a3 ∧ Aside0 (Pr26a.l0 kq a3 a0_0 l0_1 l0_2 a1_0 l1_1 l1_2 = some r) ∧ Aside0 (kq ≤ kj2) ∧ Aside0 (w'.heap[a1]? = some (.cells #[.int .i64 a0_0, (.slice A0_1 l0_1.length c0_1), (.slice A0_2 l0_2.length c0_2)] 25 (0, 0))) ∧ Aside0 (w'.heap[a4]? = some (.cells #[.int .i64 a1_0, (.slice A1_1 l1_1.length c1_1), (.slice A1_2 l1_2.length c1_2)] 25 (0, 0))) ∧ Aside0 (Below w.heap.size w w'))
    case atStart => exact ⟨(0), (by first | rfl | (simp; done) | (simp [*]; done)), H', ⟨Nat.le_refl _⟩, ⟨bz a0.out⟩, ⟨bz a2.out⟩, ⟨wz HB.out⟩⟩
    case round =>
     clear H';(try clear c6);(try clear c6b0);(try clear c6b1);(try clear c8);(try clear i5);(try clear e5);(try clear e6);(try clear e7);(try clear e8);(try clear e9);(try clear f3);(try clear f4);(try clear f5);(try clear f6);(try clear f7);(try clear f8);(try clear f9);(try clear g0);(try clear g1);(try clear g2);(try clear g3);(try clear g4);(try clear g5);(try clear g6);(try clear g7);(try clear g8);(try clear g9);(try clear h0);(try clear h1);(try clear h2);(try clear h3);(try clear h4);(try clear h5);(try clear h6);(try clear h7);(try clear h8);(try clear h9);(try clear i0);(try clear i1);(try clear i2);(try clear i3);obtain ⟨a3, rfl, HA, k5, a0, a2, HB⟩ := hrel
     cases gk with
     | zero => exact absurd HA.out (by simp [Pr26a.l0])
     | succ k2 =>
      have H := HA.out;clear HA;simp only [Pr26a.l0] at H;by_cases e3 : a3 < (l0_2.length : Int)
      ·rw [if_pos e3] at H;have c19b0 : decide (a3 < (l0_2.length : Int)) = true := decide_eq_true e3;clear e3;by_cases j7 : 0 ≤ a3
       ·rw [if_pos j7] at H;have c20b0 : decide (0 ≤ a3) = true := decide_eq_true j7;clear j7;by_cases j8 : a3 < (l1_2.length : Int)
        ·rw [if_pos j8] at H;have c21b0 : decide (a3 < (l1_2.length : Int)) = true := decide_eq_true j8;clear j8;by_cases e4 : (!(((rd_T80 l0_2 a3).f0) == ((rd_T80 l1_2 a3).f0)) || (!(((rd_T80 l0_2 a3).f1) == ((rd_T80 l1_2 a3).f1)) || (!(((rd_T80 l0_2 a3).f2) == ((rd_T80 l1_2 a3).f2))))) = true
         ·rw [if_pos e4] at H;have c22b0 : (!(((rd_T80 l0_2 a3).f0) == ((rd_T80 l1_2 a3).f0)) || (!(((rd_T80 l0_2 a3).f1) == ((rd_T80 l1_2 a3).f1)) || (!(((rd_T80 l0_2 a3).f2) == ((rd_T80 l1_2 a3).f2))))) = true := e4;clear e4;obtain rfl := Option.some.inj H;have o3 := a5.out;have o8 := a6.out;have k6 : wr.cell? ⟨a1, 0, none⟩ = some (.int .i64 a0_0) := bcz a0 0 rfl;have k7 : wr.cell? ⟨a1, 1, none⟩ = some (.slice A0_1 l0_1.length c0_1) := bcz a0 1 rfl;have k8 : wr.cell? ⟨a1, 2, none⟩ = some (.slice A0_2 l0_2.length c0_2) := bcz a0 2 rfl;have m3 := blk_frozen a0.out 0;have m4 := blk_frozen a0.out 1;have m5 := blk_frozen a0.out 2;have d1 : 0 ≤ (a3 : Int) := of_decide_eq_true (by first | (with_reducible assumption) | assumption);have d3 : a3 < (l0_2.length : Int) := of_decide_eq_true (by first | (with_reducible assumption) | assumption);obtain ⟨k0, i7, a7, a8, a9⟩ := at_T80 j5.out a3 d1 d3
          cases i7;replace a7 := (HB.out.cell (World.block_lt_of_cell? w _ a7)).trans a7;replace a8 := (HB.out.cell (World.block_lt_of_cell? w _ a8)).trans a8;replace a9 := (HB.out.cell (World.block_lt_of_cell? w _ a9)).trans a9;replace d1 := eq_true d1;replace d3 := eq_true d3;have k9 : wr.cell? ⟨a4, 0, none⟩ = some (.int .i64 a1_0) := bcz a2 0 rfl;have l2 : wr.cell? ⟨a4, 1, none⟩ = some (.slice A1_1 l1_1.length c1_1) := bcz a2 1 rfl;have l3 : wr.cell? ⟨a4, 2, none⟩ = some (.slice A1_2 l1_2.length c1_2) := bcz a2 2 rfl;have m6 := blk_frozen a2.out 0;have m7 := blk_frozen a2.out 1;have m8 := blk_frozen a2.out 2;have d2 : 0 ≤ (a3 : Int) := of_decide_eq_true (by first | (with_reducible assumption) | assumption);have d4 : a3 < (l1_2.length : Int) := of_decide_eq_true (by first | (with_reducible assumption) | assumption);obtain ⟨k1, i8, b0, b1, b2⟩ := at_T80 j6.out a3 d2 d4
          cases i8;replace b0 := (HB.out.cell (World.block_lt_of_cell? w _ b0)).trans b0;replace b1 := (HB.out.cell (World.block_lt_of_cell? w _ b1)).trans b1;replace b2 := (HB.out.cell (World.block_lt_of_cell? w _ b2)).trans b2;replace d2 := eq_true d2;replace d4 := eq_true d4;go_wp2
          repeat (go_quiet (fail); try go_wp2)
          go_ret
          exact ⟨by first | rfl | (simp [errW_none, errW_some] <;> rfl) | (simp [*, errW_none, errW_some] <;> rfl), wz HB.out⟩
         ·rw [if_neg e4] at H;have c22b0 : (!(((rd_T80 l0_2 a3).f0) == ((rd_T80 l1_2 a3).f0)) || (!(((rd_T80 l0_2 a3).f1) == ((rd_T80 l1_2 a3).f1)) || (!(((rd_T80 l0_2 a3).f2) == ((rd_T80 l1_2 a3).f2))))) = false := by simpa using e4
          clear e4;have H' := Aside0.mk H;clear H;have o4 := a5.out;have o9 := a6.out;have l4 : wr.cell? ⟨a1, 0, none⟩ = some (.int .i64 a0_0) := bcz a0 0 rfl;have l5 : wr.cell? ⟨a1, 1, none⟩ = some (.slice A0_1 l0_1.length c0_1) := bcz a0 1 rfl;have l6 : wr.cell? ⟨a1, 2, none⟩ = some (.slice A0_2 l0_2.length c0_2) := bcz a0 2 rfl;have m9 := blk_frozen a0.out 0;have n0 := blk_frozen a0.out 1;have n1 := blk_frozen a0.out 2;have d1 : 0 ≤ (a3 : Int) := of_decide_eq_true (by first | (with_reducible assumption) | assumption);have d3 : a3 < (l0_2.length : Int) := of_decide_eq_true (by first | (with_reducible assumption) | assumption);obtain ⟨k0, i7, a7, a8, a9⟩ := at_T80 j5.out a3 d1 d3
          cases i7;replace a7 := (HB.out.cell (World.block_lt_of_cell? w _ a7)).trans a7;replace a8 := (HB.out.cell (World.block_lt_of_cell? w _ a8)).trans a8;replace a9 := (HB.out.cell (World.block_lt_of_cell? w _ a9)).trans a9;replace d1 := eq_true d1;replace d3 := eq_true d3;have l7 : wr.cell? ⟨a4, 0, none⟩ = some (.int .i64 a1_0) := bcz a2 0 rfl;have l8 : wr.cell? ⟨a4, 1, none⟩ = some (.slice A1_1 l1_1.length c1_1) := bcz a2 1 rfl;have l9 : wr.cell? ⟨a4, 2, none⟩ = some (.slice A1_2 l1_2.length c1_2) := bcz a2 2 rfl;have n2 := blk_frozen a2.out 0;have n3 := blk_frozen a2.out 1;have n4 := blk_frozen a2.out 2;have d2 : 0 ≤ (a3 : Int) := of_decide_eq_true (by first | (with_reducible assumption) | assumption);have d4 : a3 < (l1_2.length : Int) := of_decide_eq_true (by first | (with_reducible assumption) | assumption);obtain ⟨k1, i8, b0, b1, b2⟩ := at_T80 j6.out a3 d2 d4
          cases i8;replace b0 := (HB.out.cell (World.block_lt_of_cell? w _ b0)).trans b0;replace b1 := (HB.out.cell (World.block_lt_of_cell? w _ b1)).trans b1;replace b2 := (HB.out.cell (World.block_lt_of_cell? w _ b2)).trans b2;replace d2 := eq_true d2;replace d4 := eq_true d4;go_wp2
          repeat (go_quiet (fail); try go_wp2)
          go_roundg k2
          case measure => have := k4.out; have := k5.out; omega
          case rel => exact ⟨(wrap64 (a3 + 1)), (by first | rfl | (simp; done) | (simp [*]; done)), H', ⟨by have := k4.out; have := k5.out; omega⟩, ⟨bz a0.out⟩, ⟨bz a2.out⟩, ⟨wz HB.out⟩⟩
        ·rw [if_neg j8] at H;exact absurd H (by simp)
       ·rw [if_neg j7] at H;exact absurd H (by simp)
      ·rw [if_neg e3] at H;have c19b0 : decide (a3 < (l0_2.length : Int)) = false := decide_eq_false e3;clear e3;obtain rfl := Option.some.inj H;have o5 := a5.out;have p0 := a6.out;have m0 : wr.cell? ⟨a1, 0, none⟩ = some (.int .i64 a0_0) := bcz a0 0 rfl;have m1 : wr.cell? ⟨a1, 1, none⟩ = some (.slice A0_1 l0_1.length c0_1) := bcz a0 1 rfl;have m2 : wr.cell? ⟨a1, 2, none⟩ = some (.slice A0_2 l0_2.length c0_2) := bcz a0 2 rfl;have n5 := blk_frozen a0.out 0;have n6 := blk_frozen a0.out 1;have n7 := blk_frozen a0.out 2;go_wp2
       repeat (go_quiet (fail); try go_wp2)
       go_ret
       exact ⟨by first | rfl | (simp [errW_none, errW_some] <;> rfl) | (simp [*, errW_none, errW_some] <;> rfl), wz HB.out⟩
end Go.Proofs.Ytmcbkmfpmcbdpaa.Pr
namespace Go.Proofs.Ytmcbkmfpmcbdpaa.Pr
open Go.RowKit Go.Proofs.YtmcbkmfpmcbdpaaW.PrintWords Go.Proofs.YtmcbkmfpmcbdpaaW.PrintLast Go.Proofs.YtmcbkmfpmcbdpaaW.PrintMore
attribute [local go_sem] max2_int min2_int max_two min_two max_three min_three max_four min_four
mutual
def Pr34b.l0 : Nat → List Bool → List Int → Int → Int → Int → List ByteArray → List (S80) → Option (List Int)
 | 0, _, _, _, _, _, _, _ => none
 | k + 1, x3, x4, x5, x6, x102000, x102001, x102002 => if x6 < x102000 then (Pr34b.l1 k x3 x4 x5 x6 (-1) (wrap64 (x6 - 1)) x102000 x102001 x102002) else (some x4)
def Pr34b.l1 : Nat → List Bool → List Int → Int → Int → Int → Int → Int → List ByteArray → List (S80) → Option (List Int)
 | 0, _, _, _, _, _, _, _, _, _ => none
 | k + 1, x3, x4, x5, x6, x7, x8, x102000, x102001, x102002 => if x8 ≥ 0 then (if 0 ≤ (wrap64 ((wrap64 (x6 * x102000)) + x8)) then (if (wrap64 ((wrap64 (x6 * x102000)) + x8)) < (x3.length : Int) then (if rdOf false x3 (wrap64 ((wrap64 (x6 * x102000)) + x8)) = true then (if 0 ≤ x8 then (if x8 < (x4.length : Int) then (Pr34b.l1 k x3 x4 x5 x6 (rd x4 x8) (wrap64 (x8 - 1)) x102000 x102001 x102002) else (none)) else (none)) else (Pr34b.l1 k x3 x4 x5 x6 x7 (wrap64 (x8 - 1)) x102000 x102001 x102002)) else (none)) else (none)) else (if x7 < 0 then (if x4.length < 17592186044416 then (Pr34b.l0 k x3 (x4 ++ [x5]) (wrap64 (x5 + 1)) (wrap64 (x6 + 1)) x102000 x102001 x102002) else (none)) else (if x4.length < 17592186044416 then (Pr34b.l0 k x3 (x4 ++ [x7]) x5 (wrap64 (x6 + 1)) x102000 x102001 x102002) else (none)))
end
def Pr34b.f (k : Nat) (a0_0 : Int) (l0_1 : List ByteArray) (l0_2 : List (S80)) : Option (List Int) := (Pr34a.f a0_0 l0_1 l0_2).bind fun t102 => (Pr34b.l0 k t102 (([] : List Int)) 0 0 a0_0 l0_1 l0_2)
theorem Pr34b.mono_l : ∀ k, (∀ y0 y1 y2 y3 y4 y5 y6, LeO (Pr34b.l0 k y0 y1 y2 y3 y4 y5 y6) (Pr34b.l0 (k + 1) y0 y1 y2 y3 y4 y5 y6)) ∧ (∀ y0 y1 y2 y3 y4 y5 y6 y7 y8, LeO (Pr34b.l1 k y0 y1 y2 y3 y4 y5 y6 y7 y8) (Pr34b.l1 (k + 1) y0 y1 y2 y3 y4 y5 y6 y7 y8))
 | 0 => ⟨fun _ _ _ _ _ _ _ r h => by simp [Pr34b.l0] at h, fun _ _ _ _ _ _ _ _ _ r h => by simp [Pr34b.l1] at h⟩
 | k + 1 => by
  obtain ⟨ih0, ih1⟩ := Pr34b.mono_l k
  refine ⟨?_, ?_⟩
  ·intro y0 y1 y2 y3 y4 y5 y6
   unfold Pr34b.l0
   repeat' first
   | (with_reducible exact ih0 _ _ _ _ _ _ _)
   | (with_reducible exact ih1 _ _ _ _ _ _ _ _ _)
   | (with_reducible exact LeO.refl _)
   | (with_reducible exact LeO.none _)
   | (with_reducible refine LeO.ite ?_ ?_)
   | (with_reducible refine LeO.bind ?_ (fun _ => ?_))
   | exact ih0 _ _ _ _ _ _ _
   | exact ih1 _ _ _ _ _ _ _ _ _
   | exact LeO.none _
   | refine LeO.ite ?_ ?_
   | refine LeO.bind ?_ (fun _ => ?_)
  ·intro y0 y1 y2 y3 y4 y5 y6 y7 y8
   unfold Pr34b.l1
   repeat' first
   | (with_reducible exact ih0 _ _ _ _ _ _ _)
   | (with_reducible exact ih1 _ _ _ _ _ _ _ _ _)
   | (with_reducible exact LeO.refl _)
   | (with_reducible exact LeO.none _)
   | (with_reducible refine LeO.ite ?_ ?_)
   | (with_reducible refine LeO.bind ?_ (fun _ => ?_))
   | exact ih0 _ _ _ _ _ _ _
   | exact ih1 _ _ _ _ _ _ _ _ _
   | exact LeO.none _
   | refine LeO.ite ?_ ?_
   | refine LeO.bind ?_ (fun _ => ?_)
theorem Pr34b.mono : ∀ a0 a1 a2 k, LeO (Pr34b.f k a0 a1 a2) (Pr34b.f (k + 1) a0 a1 a2) := by
 intro a0 a1 a2 k
 obtain ⟨ih0, ih1⟩ := Pr34b.mono_l k
 unfold Pr34b.f
 repeat' first
   | (with_reducible exact ih0 _ _ _ _ _ _ _)
   | (with_reducible exact ih1 _ _ _ _ _ _ _ _ _)
   | (with_reducible exact LeO.refl _)
   | (with_reducible exact LeO.none _)
   | (with_reducible refine LeO.ite ?_ ?_)
   | (with_reducible refine LeO.bind ?_ (fun _ => ?_))
   | exact ih0 _ _ _ _ _ _ _
   | exact ih1 _ _ _ _ _ _ _ _ _
   | exact LeO.none _
   | refine LeO.ite ?_ ?_
   | refine LeO.bind ?_ (fun _ => ?_)
set_option maxHeartbeats 8000000 in
set_option maxRecDepth 100000 in
theorem Pr34b.calls (k : Nat) (a0_0 : Int) (A0_1 : Option Addr) (c0_1 : Nat) (l0_1 : List ByteArray) (A0_2 : Option Addr) (c0_2 : Nat) (l0_2 : List (S80)) (r : List Int) (w : World) (hr0_1 : Kd.C Kd.string w A0_1 l0_1.length l0_1) (hc0_1 : l0_1.length ≤ c0_1) (hr0_2 : Kd.C k80 w A0_2 l0_2.length l0_2) (hc0_2 : l0_2.length ≤ c0_2) (h : Pr34b.f k a0_0 l0_1 l0_2 = some r) :
  Calls Try.prog 20 #[.agg #[.int .i64 a0_0, .slice A0_1 l0_1.length c0_1, .slice A0_2 l0_2.length c0_2]] w fun e w' => ∃ v0_ : Value, e = .returned (v0_) ∧ Kd.R (Kd.int .i64) 3 w' w.heap.size (fun _ => True) v0_ r ∧ Below w.heap.size w w' := by
 have m5 := Try.underlying25;have h3 := Aside0.mk hr0_1;have g8 := Aside0.mk hc0_1;clear hr0_1 hc0_1;have h4 := Aside0.mk hr0_2;have g9 := Aside0.mk hc0_2;clear hr0_2 hc0_2;have HB := Aside0.mk (Below.refl w.heap.size w);have H : ((Pr34a.f a0_0 l0_1 l0_2).bind fun a4 => (Pr34b.l0 k a4 (([] : List Int)) 0 0 a0_0 l0_1 l0_2)) = some r := h;clear h;replace H := Option.bind_eq_some_iff.mp H;obtain ⟨a4, i0, H⟩ := H;replace H : (Pr34b.l0 k a4 (([] : List Int)) 0 0 a0_0 l0_1 l0_2) = some r := H;have A2 := Aside0.mk i0;clear i0;obtain ⟨g5, b8⟩ : ∃ y_ : List Int, y_ = (([] : List Int)) := ⟨_, rfl⟩
 replace H : (Pr34b.l0 k a4 g5 0 0 a0_0 l0_1 l0_2) = some r := by first | (rw [b8]; with_reducible exact H) | (have b4 := (Option.bind_some _ _).symm.trans H; rw [b8]; with_reducible exact b4) | (have b4 := (Option.bind_some _ _).symm.trans H; with_reducible exact b4) | with_reducible exact H | (rw [b8]; exact H) | exact H
 have e9 := Aside0.mk b8;clear b8;have H' := Aside0.mk H;clear H;go_enter Try.func20, Try.ntmps20
 go_wp2_with (first | ((with_reducible refine gate_dst (N := 1) rfl ?_); refine box_event ?hg (N := 1) ?hd (cs := #[.int .i64 a0_0, .slice A0_1 l0_1.length c0_1, .slice A0_2 l0_2.length c0_2]) (t := 25) ?hr ?_; (case hd => rfl); (case hg => rfl); (case hr => first | (go_simp; done) | (go_simp; rfl)); intro a3 hg w3 hbox hb; have b1 := Aside0.mk (below_step (wz HB.out) hb); have b2 := Aside0.mk (hbox); have b3 := Aside0.mk ((by rw [hg]; exact (below_size (wz HB.out)) : w.heap.size ≤ a3)); have b5 := Aside0.mk ((by rw [hg]; exact (below_size (wz HB.out)) : w.heap.size ≤ a3)); clear HB; have HB := b1; have a0 := b2; have l3 := b3; have l2 := b5; clear b1 b2 b3 b5; clear hb hbox hg; have d8 : w3.cell? ⟨a3, 0, none⟩ = some (.int .i64 a0_0) := bcz a0 0 rfl; have d9 : w3.cell? ⟨a3, 1, none⟩ = some (.slice A0_1 l0_1.length c0_1) := bcz a0 1 rfl; have e0 : w3.cell? ⟨a3, 2, none⟩ = some (.slice A0_2 l0_2.length c0_2) := bcz a0 2 rfl; have e1 := blk_frozen a0.out 0; have e2 := blk_frozen a0.out 1; have e3 := blk_frozen a0.out 2) | ((with_reducible refine gate_callee (f := 71) rfl ?_); refine goesL_ (some 10) rfl rfl Try.func71 (by kernel_rfl) rfl #[.agg #[.int .i64 a0_0, .slice A0_1 l0_1.length c0_1, .slice A0_2 l0_2.length c0_2]] rfl (by (try simp only [List.map_toArray, List.map_cons, List.map_nil]); first | done | rfl | (simp only [List.length_drop, List.length_take]; rfl)) ?_; (with_reducible refine (Pr34a.calls a0_0 _ _ l0_1 _ _ l0_2 a4 _ ?l5 ?l6 ?l7 ?l8 A2.out).mono ?_); (case l5 => exact cz h3.out HB.out); (case l6 => exact g8.out); (case l7 => exact cz h4.out HB.out); (case l8 => exact g9.out); rintro e w5 ⟨g4, rfl, i1, hb⟩; refine ⟨_, rfl, ?_⟩; have b1 := Aside0.mk (Kd.R_lower i1 (below_size (wz HB.out))); have b2 := Aside0.mk (blk_below (bz a0.out) hb); have b3 := Aside0.mk (below_step (wz HB.out) hb); clear a0; clear HB; have d4 := b1; have a0 := b2; have HB := b3; clear b1 b2 b3; (try clear hb); (try clear m9); (try clear hk); (try clear hi); (try clear i1)) | ((with_reducible refine gate_dst (N := 11) rfl ?_); refine Kd.R_lit (Kd.int .i64) _ 3 ?hg (N := 11) ?hd (xs := ([] : List Int)) (inner := []) (ok := fun _ => True) (okp := fun _ => True) ?hr ?hp (fun _ hk => hk) trivial (Below.refl _ _) (Nat.le_refl _) (by simp) ?_; (case hd => rfl); (case hg => rfl); (case hr => first | (go_simp; done) | (go_simp; rfl)); (case hp => exact (Reps.none _ _)); intro m6 w6 e4 hb hg_ hnew_; clear hg_ hnew_; (first | rw [← e9.out] at e4 | (simp only [Int.reduceToNat] at e4; rw [← e9.out] at e4)); have b1 := Aside0.mk (Kd.R_below (rz d4.out) hb); have b2 := Aside0.mk (Kd.R_lower e4 (below_size (wz HB.out))); have b3 := Aside0.mk (blk_below (bz a0.out) hb); have b5 := Aside0.mk (below_step (wz HB.out) hb); clear d4; clear a0; clear HB; have d4 := b1; have h0 := b2; have a0 := b3; have HB := b5; clear b1 b2 b3 b5; clear hb e4))
 go_loopg [4, 5, 6] k (fun kq v4 v5 v6 w' => ∃ (a2 : List Int) (a6 : Int) (a5 : Int), v5 = .int .i64 a6 ∧ v6 = .int .i64 a5 ∧ Aside0 (Pr34b.l0 kq a4 a2 a6 a5 a0_0 l0_1 l0_2 = some r) ∧ Aside0 (kq ≤ k) ∧ Aside0 (Kd.R Kd.bool 4 w' w.heap.size (fun _ => True) g4 a4) ∧ Aside0 (Kd.R (Kd.int .i64) 3 w' w.heap.size (fun _ => True) v4 a2) ∧ Aside0 (w'.heap[a3]? = some (.cells #[.int .i64 a0_0, (.slice A0_1 l0_1.length c0_1), (.slice A0_2 l0_2.length c0_2)] 25 (0, 0))) ∧ Aside0 (Below w.heap.size w w'))
 case atStart => exact ⟨(g5), (0), (0), (by first | rfl | (simp; done) | (simp [*]; done)), (by first | rfl | (simp; done) | (simp [*]; done)), H', ⟨Nat.le_refl _⟩, ⟨rz d4.out⟩, ⟨rz h0.out⟩, ⟨bz a0.out⟩, ⟨wz HB.out⟩⟩
 case round =>
  clear H';(try clear d8);(try clear d9);(try clear e0);(try clear e1);(try clear e2);(try clear e3);obtain ⟨a2, a6, a5, rfl, rfl, HA, d2, a7, a8, a0, HB⟩ := hrel
  cases gk with
  | zero => exact absurd HA.out (by simp [Pr34b.l0])
  | succ k1 =>
   have H := HA.out;clear HA;simp only [Pr34b.l0] at H;by_cases c8 : a5 < a0_0
   ·rw [if_pos c8] at H;have c8b0 : decide (a5 < a0_0) = true := decide_eq_true c8;clear c8;have H' := Aside0.mk H;clear H;have f8 : wr.cell? ⟨a3, 0, none⟩ = some (.int .i64 a0_0) := bcz a0 0 rfl;have f9 : wr.cell? ⟨a3, 1, none⟩ = some (.slice A0_1 l0_1.length c0_1) := bcz a0 1 rfl;have g0 : wr.cell? ⟨a3, 2, none⟩ = some (.slice A0_2 l0_2.length c0_2) := bcz a0 2 rfl;have g1 := blk_frozen a0.out 0;have g2 := blk_frozen a0.out 1;have g3 := blk_frozen a0.out 2;go_wp2
    go_loopg [7, 8] k1 (fun kq v7 v8 w' => ∃ (b0 : Int) (a1 : Int), v7 = .int .i64 b0 ∧ v8 = .int .i64 a1 ∧ Aside0 (Pr34b.l1 kq a4 a2 a6 a5 b0 a1 a0_0 l0_1 l0_2 = some r) ∧ Aside0 (kq ≤ k1) ∧ Aside0 (Kd.R Kd.bool 4 w' w.heap.size (fun _ => True) g4 a4) ∧ Aside0 (Kd.R (Kd.int .i64) 3 w' w.heap.size (fun _ => True) u4 a2) ∧ Aside0 (w'.heap[a3]? = some (.cells #[.int .i64 a0_0, (.slice A0_1 l0_1.length c0_1), (.slice A0_2 l0_2.length c0_2)] 25 (0, 0))) ∧ Aside0 (Below w.heap.size w w'))
    case atStart => exact ⟨((-1)), (wrap64 (a5 - 1)), (by first | rfl | (simp; done) | (simp [*]; done)), (by first | rfl | (simp; done) | (simp [*]; done)), H', ⟨Nat.le_refl _⟩, ⟨rz a7.out⟩, ⟨rz a8.out⟩, ⟨bz a0.out⟩, ⟨wz HB.out⟩⟩
    case round =>
     clear H';(try clear c8);(try clear c8b0);(try clear d8);(try clear d9);(try clear e0);(try clear f8);(try clear f9);(try clear g0);(try clear e1);(try clear e2);(try clear e3);(try clear g1);(try clear g2);(try clear g3);obtain ⟨b0, a1, rfl, rfl, HA, d3, a7, a8, a0, HB⟩ := hrel
     cases gk with
     | zero => exact absurd HA.out (by simp [Pr34b.l1])
     | succ k2 =>
      have H := HA.out;clear HA;simp only [Pr34b.l1] at H;by_cases c10 : a1 ≥ 0
      ·rw [if_pos c10] at H;have c10b0 : decide (0 ≤ a1) = true := decide_eq_true c10;clear c10;obtain ⟨a9, d7⟩ : ∃ j_ : Int, (wrap64 ((wrap64 (a5 * a0_0)) + a1)) = j_ := ⟨_, rfl⟩
       replace H : (if 0 ≤ (a9) then (if (a9) < (a4.length : Int) then (if rdOf false a4 (a9) = true then (if 0 ≤ a1 then (if a1 < (a2.length : Int) then (Pr34b.l1 k2 a4 a2 a6 a5 (rd a2 a1) (wrap64 (a1 - 1)) a0_0 l0_1 l0_2) else (none)) else (none)) else (Pr34b.l1 k2 a4 a2 a6 a5 b0 (wrap64 (a1 - 1)) a0_0 l0_1 l0_2)) else (none)) else (none)) = some r := by first | (rw [d7] at H; exact H) | (simp only [d7] at H ⊢; exact H)
       have hji11w : (IntKind.i64.wrap ((wrap64 (a5 * a0_0)) + a1)) = a9 := (i64_w _).trans d7;by_cases f0 : 0 ≤ (a9)
       ·rw [if_pos f0] at H;have c12b0 : decide (0 ≤ (a9)) = true := decide_eq_true f0;clear f0;by_cases f1 : (a9) < (a4.length : Int)
        ·rw [if_pos f1] at H;have c13b0 : decide ((a9) < (a4.length : Int)) = true := decide_eq_true f1;clear f1;obtain ⟨f7, d6⟩ : ∃ b_ : Bool, b_ = (rdOf false a4 (a9)) := ⟨_, rfl⟩
         replace H : (if f7 = true then (if 0 ≤ a1 then (if a1 < (a2.length : Int) then (Pr34b.l1 k2 a4 a2 a6 a5 (rd a2 a1) (wrap64 (a1 - 1)) a0_0 l0_1 l0_2) else (none)) else (none)) else (Pr34b.l1 k2 a4 a2 a6 a5 b0 (wrap64 (a1 - 1)) a0_0 l0_1 l0_2)) = some r := by rw [← d6] at H; exact H
         have e8 := Aside0.mk d6;clear d6;by_cases f2 : f7 = true
         ·subst f2;have H1 : (if 0 ≤ a1 then (if a1 < (a2.length : Int) then (Pr34b.l1 k2 a4 a2 a6 a5 (rd a2 a1) (wrap64 (a1 - 1)) a0_0 l0_1 l0_2) else (none)) else (none)) = some r := by rw [if_pos rfl] at H; exact H
          clear H;have H := H1;clear H1;by_cases f3 : 0 ≤ a1
          ·rw [if_pos f3] at H;have c16b0 : decide (0 ≤ a1) = true := decide_eq_true f3;clear f3;by_cases f4 : a1 < (a2.length : Int)
           ·rw [if_pos f4] at H;have c17b0 : decide (a1 < (a2.length : Int)) = true := decide_eq_true f4;clear f4;have H' := Aside0.mk H;clear H;have i7 : wr.cell? ⟨a3, 0, none⟩ = some (.int .i64 a0_0) := bcz a0 0 rfl;have i8 : wr.cell? ⟨a3, 1, none⟩ = some (.slice A0_1 l0_1.length c0_1) := bcz a0 1 rfl;have i9 : wr.cell? ⟨a3, 2, none⟩ = some (.slice A0_2 l0_2.length c0_2) := bcz a0 2 rfl;have j8 := blk_frozen a0.out 0;have j9 := blk_frozen a0.out 1;have k0 := blk_frozen a0.out 2;obtain ⟨l9, m2, i3⟩ := Kd.R_slice a7.out;subst i3;have b6 : 0 ≤ ((a9) : Int) := of_decide_eq_true (by first | (with_reducible assumption) | assumption);have b7 : (a9) < (a4.length : Int) := of_decide_eq_true (by first | (with_reducible assumption) | assumption);obtain ⟨h9, e5, d1⟩ := Kd.at_bool (Kd.R_reads' a7.out).2.2 (a9) b6 b7
            (try rw [← e8.out] at d1)
            cases e5;replace b6 := eq_true b6;replace b7 := eq_true b7;obtain ⟨m0, m3, i4⟩ := Kd.R_slice a8.out;subst i4;have e6 : 0 ≤ (a1 : Int) := of_decide_eq_true (by first | (with_reducible assumption) | assumption);have e7 : a1 < (a2.length : Int) := of_decide_eq_true (by first | (with_reducible assumption) | assumption);obtain ⟨l4, i2, k9⟩ := Kd.at_int (Kd.R_reads' a8.out).2.2 a1 e6 e7
            cases i2;replace e6 := eq_true e6;replace e7 := eq_true e7;go_wp2
            go_roundg k2
            case measure => have := d2.out; have := d3.out; omega
            case rel => exact ⟨(rd a2 a1), (wrap64 (a1 - 1)), (by first | rfl | (simp; done) | (simp [*]; done)), (by first | rfl | (simp; done) | (simp [*]; done)), H', ⟨by have := d2.out; have := d3.out; omega⟩, ⟨rz a7.out⟩, ⟨rz a8.out⟩, ⟨bz a0.out⟩, ⟨wz HB.out⟩⟩
           ·rw [if_neg f4] at H;exact absurd H (by simp)
          ·rw [if_neg f3] at H;exact absurd H (by simp)
         ·replace f2 := Bool.eq_false_iff.mpr f2;subst f2;have H1 : (Pr34b.l1 k2 a4 a2 a6 a5 b0 (wrap64 (a1 - 1)) a0_0 l0_1 l0_2) = some r := by rw [if_neg (show ¬ (false = true) by decide)] at H; exact H
          clear H;have H := H1;clear H1;have H' := Aside0.mk H;clear H;have j2 : wr.cell? ⟨a3, 0, none⟩ = some (.int .i64 a0_0) := bcz a0 0 rfl;have j3 : wr.cell? ⟨a3, 1, none⟩ = some (.slice A0_1 l0_1.length c0_1) := bcz a0 1 rfl;have j4 : wr.cell? ⟨a3, 2, none⟩ = some (.slice A0_2 l0_2.length c0_2) := bcz a0 2 rfl;have k3 := blk_frozen a0.out 0;have k4 := blk_frozen a0.out 1;have k5 := blk_frozen a0.out 2;obtain ⟨m1, m4, i5⟩ := Kd.R_slice a7.out;subst i5;have b6 : 0 ≤ ((a9) : Int) := of_decide_eq_true (by first | (with_reducible assumption) | assumption);have b7 : (a9) < (a4.length : Int) := of_decide_eq_true (by first | (with_reducible assumption) | assumption);obtain ⟨h9, e5, d1⟩ := Kd.at_bool (Kd.R_reads' a7.out).2.2 (a9) b6 b7
          (try rw [← e8.out] at d1)
          cases e5;replace b6 := eq_true b6;replace b7 := eq_true b7;go_wp2
          go_roundg k2
          case measure => have := d2.out; have := d3.out; omega
          case rel => exact ⟨(b0), (wrap64 (a1 - 1)), (by first | rfl | (simp; done) | (simp [*]; done)), (by first | rfl | (simp; done) | (simp [*]; done)), H', ⟨by have := d2.out; have := d3.out; omega⟩, ⟨rz a7.out⟩, ⟨rz a8.out⟩, ⟨bz a0.out⟩, ⟨wz HB.out⟩⟩
        ·rw [if_neg f1] at H;exact absurd H (by simp)
       ·rw [if_neg f0] at H;exact absurd H (by simp)
      ·rw [if_neg c10] at H;have c10b0 : decide (0 ≤ a1) = false := decide_eq_false c10;clear c10;by_cases d5 : b0 < 0
       ·rw [if_pos d5] at H;have c23b0 : decide (b0 < 0) = true := decide_eq_true d5;clear d5;by_cases f5 : a2.length < 17592186044416
        ·rw [if_pos f5] at H;have h5 := Aside0.mk f5;clear f5;obtain ⟨g6, b9⟩ : ∃ y_ : List Int, y_ = (a2 ++ [a6]) := ⟨_, rfl⟩
         replace H : (Pr34b.l0 k2 a4 g6 (wrap64 (a6 + 1)) (wrap64 (a5 + 1)) a0_0 l0_1 l0_2) = some r := by first | (rw [b9]; with_reducible exact H) | (have b4 := (Option.bind_some _ _).symm.trans H; rw [b9]; with_reducible exact b4) | (have b4 := (Option.bind_some _ _).symm.trans H; with_reducible exact b4) | with_reducible exact H | (rw [b9]; exact H) | exact H
         have h7 := Aside0.mk b9;clear b9;have H' := Aside0.mk H;clear H;go_wp2_with (first | ((with_reducible refine gate_builtin (b := .append) (xs := #[.tmp 42, .tmp 44]) rfl ?_); at_builtin; refine Kd.R_append (Kd.int .i64) (w0 := w) w.heap.size rfl (.tmp 42) (.tmp 44) 28 3 (.int .i64 0) 8 rfl Try.underlying28 info3 rfl (by decide) (by omega) u4 a2 a6 [.int .i64 a6] (fun _ => True) (fun _ => False) rfl rfl ?aP (fun _ hk => hk.elim) ?aF ?aO ?aB ?aS ?aL ?_; (case aP => exact rfl); (case aB => exact (wz HB.out)); (case aF => exact (fun _ _ => trivial)); (case aO => exact (rz a8.out)); (case aS => exact (below_size (wz HB.out))); (case aL => have := h5.out; omega); intro m7 n0 ho hb hg hat; rw [← h7.out] at ho; have b1 := Aside0.mk (Kd.R_over' (rz a7.out) (Kd.R_typed (rz a8.out)) (by decide) hg); have b2 := Aside0.mk (blk_grown (bz a0.out) hg (Kd.R_ne a8.out a0.out (by decide))); have b3 := Aside0.mk (hb); have b5 := Aside0.mk (ho); clear a7 a0 HB a8; have a7 := b1; have a0 := b2; have HB := b3; have h1 := b5; clear b1 b2 b3 b5 ho hb hg hat))
         go_roundg k2
         case measure => have := d2.out; have := d3.out; omega
         case rel => exact ⟨(g6), (wrap64 (a6 + 1)), (wrap64 (a5 + 1)), (by first | rfl | (simp; done) | (simp [*]; done)), (by first | rfl | (simp; done) | (simp [*]; done)), H', ⟨by have := d2.out; have := d3.out; omega⟩, ⟨rz a7.out⟩, ⟨rz h1.out⟩, ⟨bz a0.out⟩, ⟨wz HB.out⟩⟩
        ·rw [if_neg f5] at H;exact absurd H (by simp)
       ·rw [if_neg d5] at H;have c23b0 : decide (b0 < 0) = false := decide_eq_false d5;clear d5;by_cases f6 : a2.length < 17592186044416
        ·rw [if_pos f6] at H;have h6 := Aside0.mk f6;clear f6;obtain ⟨g7, d0⟩ : ∃ y_ : List Int, y_ = (a2 ++ [b0]) := ⟨_, rfl⟩
         replace H : (Pr34b.l0 k2 a4 g7 a6 (wrap64 (a5 + 1)) a0_0 l0_1 l0_2) = some r := by first | (rw [d0]; with_reducible exact H) | (have b4 := (Option.bind_some _ _).symm.trans H; rw [d0]; with_reducible exact b4) | (have b4 := (Option.bind_some _ _).symm.trans H; with_reducible exact b4) | with_reducible exact H | (rw [d0]; exact H) | exact H
         have h8 := Aside0.mk d0;clear d0;have H' := Aside0.mk H;clear H;go_wp2_with (first | ((with_reducible refine gate_builtin (b := .append) (xs := #[.tmp 42, .tmp 44]) rfl ?_); at_builtin; refine Kd.R_append (Kd.int .i64) (w0 := w) w.heap.size rfl (.tmp 42) (.tmp 44) 28 3 (.int .i64 0) 8 rfl Try.underlying28 info3 rfl (by decide) (by omega) u4 a2 b0 [.int .i64 b0] (fun _ => True) (fun _ => False) rfl rfl ?aP (fun _ hk => hk.elim) ?aF ?aO ?aB ?aS ?aL ?_; (case aP => exact rfl); (case aB => exact (wz HB.out)); (case aF => exact (fun _ _ => trivial)); (case aO => exact (rz a8.out)); (case aS => exact (below_size (wz HB.out))); (case aL => have := h6.out; omega); intro m8 n1 ho hb hg hat; rw [← h8.out] at ho; have b1 := Aside0.mk (Kd.R_over' (rz a7.out) (Kd.R_typed (rz a8.out)) (by decide) hg); have b2 := Aside0.mk (blk_grown (bz a0.out) hg (Kd.R_ne a8.out a0.out (by decide))); have b3 := Aside0.mk (hb); have b5 := Aside0.mk (ho); clear a7 a0 HB a8; have a7 := b1; have a0 := b2; have HB := b3; have h2 := b5; clear b1 b2 b3 b5 ho hb hg hat))
         go_roundg k2
         case measure => have := d2.out; have := d3.out; omega
         case rel => exact ⟨(g7), (a6), (wrap64 (a5 + 1)), (by first | rfl | (simp; done) | (simp [*]; done)), (by first | rfl | (simp; done) | (simp [*]; done)), H', ⟨by have := d2.out; have := d3.out; omega⟩, ⟨rz a7.out⟩, ⟨rz h2.out⟩, ⟨bz a0.out⟩, ⟨wz HB.out⟩⟩
        ·rw [if_neg f6] at H;exact absurd H (by simp)
   ·rw [if_neg c8] at H;have c8b0 : decide (a5 < a0_0) = false := decide_eq_false c8;clear c8;obtain rfl := Option.some.inj H;have j5 : wr.cell? ⟨a3, 0, none⟩ = some (.int .i64 a0_0) := bcz a0 0 rfl;have j6 : wr.cell? ⟨a3, 1, none⟩ = some (.slice A0_1 l0_1.length c0_1) := bcz a0 1 rfl;have j7 : wr.cell? ⟨a3, 2, none⟩ = some (.slice A0_2 l0_2.length c0_2) := bcz a0 2 rfl;have k6 := blk_frozen a0.out 0;have k7 := blk_frozen a0.out 1;have k8 := blk_frozen a0.out 2;go_wp2
    go_ret
    exact ⟨_, by first | rfl | (simp [errW_none, errW_some] <;> rfl) | (simp [*, errW_none, errW_some] <;> rfl), rz a8.out, wz HB.out⟩
def Pl57c.f (k : Nat) (a0_0 : Int) (l0_1 : List ByteArray) (l0_2 : List (S80)) (a1 : ByteArray) : Option (Bool) := (Pl33a.f k a0_0 l0_1 l0_2).bind fun t117 => (if t117 = true then (if a0_0 ≤ 9 then (if (l0_2.length : Int) ≤ 24 then (some (decide ((a1.size : Int) ≤ 300))) else (some false)) else (if a0_0 > 2048 then (if (l0_2.length : Int) ≤ 24 then (some (decide ((a1.size : Int) ≤ 300))) else (some false)) else (some false))) else (some false))
theorem Pl57c.mono : ∀ a0 a1 a2 a3 k, LeO (Pl57c.f k a0 a1 a2 a3) (Pl57c.f (k + 1) a0 a1 a2 a3) := by
 intro a0 a1 a2 a3 k
 unfold Pl57c.f
 repeat' first
   | (with_reducible exact Pl33a.mono _ _ _ _)
   | (with_reducible exact LeO.refl _)
   | (with_reducible exact LeO.none _)
   | (with_reducible refine LeO.ite ?_ ?_)
   | (with_reducible refine LeO.bind ?_ (fun _ => ?_))
   | exact Pl33a.mono _ _ _ _
   | exact LeO.none _
   | refine LeO.ite ?_ ?_
   | refine LeO.bind ?_ (fun _ => ?_)
set_option maxHeartbeats 8000000 in
set_option maxRecDepth 100000 in
theorem Pl57c.calls (k : Nat) (a0_0 : Int) (A0_1 : Option Addr) (c0_1 : Nat) (l0_1 : List ByteArray) (A0_2 : Option Addr) (c0_2 : Nat) (l0_2 : List (S80)) (a1 : ByteArray) (r : Bool) (w : World) (hr0_1 : Kd.C Kd.string w A0_1 l0_1.length l0_1) (hc0_1 : l0_1.length ≤ c0_1) (hr0_2 : Kd.C k80 w A0_2 l0_2.length l0_2) (hc0_2 : l0_2.length ≤ c0_2) (h : Pl57c.f k a0_0 l0_1 l0_2 a1 = some r) :
  Calls Try.prog 57 #[.agg #[.int .i64 a0_0, .slice A0_1 l0_1.length c0_1, .slice A0_2 l0_2.length c0_2], .string a1] w fun e w' => e = .returned (.bool r) ∧ Below w.heap.size w w' := by
 have l2 := Try.underlying25;have a9 := Aside0.mk hr0_1;have a7 := Aside0.mk hc0_1;clear hr0_1 hc0_1;have b0 := Aside0.mk hr0_2;have a8 := Aside0.mk hc0_2;clear hr0_2 hc0_2;have HB := Aside0.mk (Below.refl w.heap.size w);have H : ((Pl33a.f k a0_0 l0_1 l0_2).bind fun b9 => (if b9 = true then (if a0_0 ≤ 9 then (if (l0_2.length : Int) ≤ 24 then (some (decide ((a1.size : Int) ≤ 300))) else (some false)) else (if a0_0 > 2048 then (if (l0_2.length : Int) ≤ 24 then (some (decide ((a1.size : Int) ≤ 300))) else (some false)) else (some false))) else (some false))) = some r := h;clear h;replace H := Option.bind_eq_some_iff.mp H;obtain ⟨b9, e0, H⟩ := H;replace H : (if b9 = true then (if a0_0 ≤ 9 then (if (l0_2.length : Int) ≤ 24 then (some (decide ((a1.size : Int) ≤ 300))) else (some false)) else (if a0_0 > 2048 then (if (l0_2.length : Int) ≤ 24 then (some (decide ((a1.size : Int) ≤ 300))) else (some false)) else (some false))) else (some false)) = some r := H;have A3 := Aside0.mk e0;clear e0;by_cases c4 : b9 = true
 ·subst c4;have H1 : (if a0_0 ≤ 9 then (if (l0_2.length : Int) ≤ 24 then (some (decide ((a1.size : Int) ≤ 300))) else (some false)) else (if a0_0 > 2048 then (if (l0_2.length : Int) ≤ 24 then (some (decide ((a1.size : Int) ≤ 300))) else (some false)) else (some false))) = some r := by rw [if_pos rfl] at H; exact H
  clear H;have H := H1;clear H1;by_cases c5 : a0_0 ≤ 9
  ·rw [if_pos c5] at H;have c5b0 : decide (a0_0 ≤ 9) = true := decide_eq_true c5;clear c5;by_cases c6 : (l0_2.length : Int) ≤ 24
   ·rw [if_pos c6] at H;have c6b0 : decide ((l0_2.length : Int) ≤ 24) = true := decide_eq_true c6;have c6b1 : decide (l0_2.length ≤ 24) = true := decide_eq_true (by omega);clear c6;obtain rfl := Option.some.inj H;go_enter Try.func57, Try.ntmps57
    go_wp2_with (first | ((with_reducible refine gate_dst (N := 2) rfl ?_); (try (refine gate_guard (by rfl) ?_; dsimp only)); refine box_event ?hg (N := 2) ?hd (cs := #[.int .i64 a0_0, .slice A0_1 l0_1.length c0_1, .slice A0_2 l0_2.length c0_2]) (t := 25) ?hr ?_; (case hd => rfl); (case hg => rfl); (case hr => first | (go_simp; done) | (go_simp; rfl)); intro a2 hg w7 hbox hb; have a3 := Aside0.mk (below_step (wz HB.out) hb); have a4 := Aside0.mk (hbox); have a5 := Aside0.mk ((by rw [hg]; exact (below_size (wz HB.out)) : w.heap.size ≤ a2)); have a6 := Aside0.mk ((by rw [hg]; exact (below_size (wz HB.out)) : w.heap.size ≤ a2)); clear HB; have HB := a3; have a0 := a4; have b2 := a5; have b1 := a6; clear a3 a4 a5 a6; clear hb hbox hg; have k4 : w7.cell? ⟨a2, 0, none⟩ = some (.int .i64 a0_0) := bcz a0 0 rfl; have k5 : w7.cell? ⟨a2, 1, none⟩ = some (.slice A0_1 l0_1.length c0_1) := bcz a0 1 rfl; have k6 : w7.cell? ⟨a2, 2, none⟩ = some (.slice A0_2 l0_2.length c0_2) := bcz a0 2 rfl; have k7 := blk_frozen a0.out 0; have k8 := blk_frozen a0.out 1; have k9 := blk_frozen a0.out 2) | ((with_reducible refine gate_callee (f := 15) rfl ?_); refine goesL_ (some 6) rfl rfl Try.func15 (by kernel_rfl) rfl #[.agg #[.int .i64 a0_0, .slice A0_1 l0_1.length c0_1, .slice A0_2 l0_2.length c0_2]] rfl (by (try simp only [List.map_toArray, List.map_cons, List.map_nil]); first | done | rfl | (simp only [List.length_drop, List.length_take]; rfl)) ?_; (with_reducible refine (Pl33a.calls k a0_0 _ _ l0_1 _ _ l0_2 true _ ?b3 ?b4 ?b5 ?b6 A3.out).mono ?_); (case b3 => exact cz a9.out HB.out); (case b4 => exact a7.out); (case b5 => exact cz b0.out HB.out); (case b6 => exact a8.out); rintro e w9 ⟨rfl, hb⟩; refine ⟨_, rfl, ?_⟩; have a3 := Aside0.mk (blk_below (bz a0.out) hb); have a4 := Aside0.mk (below_step (wz HB.out) hb); clear a0; clear HB; have a0 := a3; have HB := a4; clear a3 a4; (try clear hb); (try clear d0); (try clear hk); (try clear hi); have e1 : w9.cell? ⟨a2, 0, none⟩ = some (.int .i64 a0_0) := bcz a0 0 rfl; have e2 : w9.cell? ⟨a2, 1, none⟩ = some (.slice A0_1 l0_1.length c0_1) := bcz a0 1 rfl; have e3 : w9.cell? ⟨a2, 2, none⟩ = some (.slice A0_2 l0_2.length c0_2) := bcz a0 2 rfl; have h1 := blk_frozen a0.out 0; have h2 := blk_frozen a0.out 1; have h3 := blk_frozen a0.out 2))
    go_ret
    exact ⟨by first | rfl | (simp [errW_none, errW_some] <;> rfl) | (simp [*, errW_none, errW_some] <;> rfl), wz HB.out⟩
   ·rw [if_neg c6] at H;have c6b0 : decide ((l0_2.length : Int) ≤ 24) = false := decide_eq_false c6;have c6b1 : decide (l0_2.length ≤ 24) = false := decide_eq_false (by omega);clear c6;obtain rfl := Option.some.inj H;go_enter Try.func57, Try.ntmps57
    go_wp2_with (first | ((with_reducible refine gate_dst (N := 2) rfl ?_); (try (refine gate_guard (by rfl) ?_; dsimp only)); refine box_event ?hg (N := 2) ?hd (cs := #[.int .i64 a0_0, .slice A0_1 l0_1.length c0_1, .slice A0_2 l0_2.length c0_2]) (t := 25) ?hr ?_; (case hd => rfl); (case hg => rfl); (case hr => first | (go_simp; done) | (go_simp; rfl)); intro a2 hg d1 hbox hb; have a3 := Aside0.mk (below_step (wz HB.out) hb); have a4 := Aside0.mk (hbox); have a5 := Aside0.mk ((by rw [hg]; exact (below_size (wz HB.out)) : w.heap.size ≤ a2)); have a6 := Aside0.mk ((by rw [hg]; exact (below_size (wz HB.out)) : w.heap.size ≤ a2)); clear HB; have HB := a3; have a0 := a4; have b2 := a5; have b1 := a6; clear a3 a4 a5 a6; clear hb hbox hg; have e4 : d1.cell? ⟨a2, 0, none⟩ = some (.int .i64 a0_0) := bcz a0 0 rfl; have e5 : d1.cell? ⟨a2, 1, none⟩ = some (.slice A0_1 l0_1.length c0_1) := bcz a0 1 rfl; have e6 : d1.cell? ⟨a2, 2, none⟩ = some (.slice A0_2 l0_2.length c0_2) := bcz a0 2 rfl; have h4 := blk_frozen a0.out 0; have h5 := blk_frozen a0.out 1; have h6 := blk_frozen a0.out 2) | ((with_reducible refine gate_callee (f := 15) rfl ?_); refine goesL_ (some 6) rfl rfl Try.func15 (by kernel_rfl) rfl #[.agg #[.int .i64 a0_0, .slice A0_1 l0_1.length c0_1, .slice A0_2 l0_2.length c0_2]] rfl (by (try simp only [List.map_toArray, List.map_cons, List.map_nil]); first | done | rfl | (simp only [List.length_drop, List.length_take]; rfl)) ?_; (with_reducible refine (Pl33a.calls k a0_0 _ _ l0_1 _ _ l0_2 true _ ?b3 ?b4 ?b5 ?b6 A3.out).mono ?_); (case b3 => exact cz a9.out HB.out); (case b4 => exact a7.out); (case b5 => exact cz b0.out HB.out); (case b6 => exact a8.out); rintro e d2 ⟨rfl, hb⟩; refine ⟨_, rfl, ?_⟩; have a3 := Aside0.mk (blk_below (bz a0.out) hb); have a4 := Aside0.mk (below_step (wz HB.out) hb); clear a0; clear HB; have a0 := a3; have HB := a4; clear a3 a4; (try clear hb); (try clear d0); (try clear hk); (try clear hi); have e7 : d2.cell? ⟨a2, 0, none⟩ = some (.int .i64 a0_0) := bcz a0 0 rfl; have e8 : d2.cell? ⟨a2, 1, none⟩ = some (.slice A0_1 l0_1.length c0_1) := bcz a0 1 rfl; have e9 : d2.cell? ⟨a2, 2, none⟩ = some (.slice A0_2 l0_2.length c0_2) := bcz a0 2 rfl; have h7 := blk_frozen a0.out 0; have h8 := blk_frozen a0.out 1; have h9 := blk_frozen a0.out 2))
    go_ret
    exact ⟨by first | rfl | (simp [errW_none, errW_some] <;> rfl) | (simp [*, errW_none, errW_some] <;> rfl), wz HB.out⟩
  ·rw [if_neg c5] at H;have c5b0 : decide (a0_0 ≤ 9) = false := decide_eq_false c5;clear c5;by_cases b7 : a0_0 > 2048
   ·rw [if_pos b7] at H;have c15b0 : decide (2048 < a0_0) = true := decide_eq_true b7;clear b7;by_cases b8 : (l0_2.length : Int) ≤ 24
    ·rw [if_pos b8] at H;have c16b0 : decide ((l0_2.length : Int) ≤ 24) = true := decide_eq_true b8;have c16b1 : decide (l0_2.length ≤ 24) = true := decide_eq_true (by omega);clear b8;obtain rfl := Option.some.inj H;go_enter Try.func57, Try.ntmps57
     go_wp2_with (first | ((with_reducible refine gate_dst (N := 2) rfl ?_); (try (refine gate_guard (by rfl) ?_; dsimp only)); refine box_event ?hg (N := 2) ?hd (cs := #[.int .i64 a0_0, .slice A0_1 l0_1.length c0_1, .slice A0_2 l0_2.length c0_2]) (t := 25) ?hr ?_; (case hd => rfl); (case hg => rfl); (case hr => first | (go_simp; done) | (go_simp; rfl)); intro a2 hg d3 hbox hb; have a3 := Aside0.mk (below_step (wz HB.out) hb); have a4 := Aside0.mk (hbox); have a5 := Aside0.mk ((by rw [hg]; exact (below_size (wz HB.out)) : w.heap.size ≤ a2)); have a6 := Aside0.mk ((by rw [hg]; exact (below_size (wz HB.out)) : w.heap.size ≤ a2)); clear HB; have HB := a3; have a0 := a4; have b2 := a5; have b1 := a6; clear a3 a4 a5 a6; clear hb hbox hg; have f0 : d3.cell? ⟨a2, 0, none⟩ = some (.int .i64 a0_0) := bcz a0 0 rfl; have f1 : d3.cell? ⟨a2, 1, none⟩ = some (.slice A0_1 l0_1.length c0_1) := bcz a0 1 rfl; have f2 : d3.cell? ⟨a2, 2, none⟩ = some (.slice A0_2 l0_2.length c0_2) := bcz a0 2 rfl; have i0 := blk_frozen a0.out 0; have i1 := blk_frozen a0.out 1; have i2 := blk_frozen a0.out 2) | ((with_reducible refine gate_callee (f := 15) rfl ?_); refine goesL_ (some 6) rfl rfl Try.func15 (by kernel_rfl) rfl #[.agg #[.int .i64 a0_0, .slice A0_1 l0_1.length c0_1, .slice A0_2 l0_2.length c0_2]] rfl (by (try simp only [List.map_toArray, List.map_cons, List.map_nil]); first | done | rfl | (simp only [List.length_drop, List.length_take]; rfl)) ?_; (with_reducible refine (Pl33a.calls k a0_0 _ _ l0_1 _ _ l0_2 true _ ?b3 ?b4 ?b5 ?b6 A3.out).mono ?_); (case b3 => exact cz a9.out HB.out); (case b4 => exact a7.out); (case b5 => exact cz b0.out HB.out); (case b6 => exact a8.out); rintro e d4 ⟨rfl, hb⟩; refine ⟨_, rfl, ?_⟩; have a3 := Aside0.mk (blk_below (bz a0.out) hb); have a4 := Aside0.mk (below_step (wz HB.out) hb); clear a0; clear HB; have a0 := a3; have HB := a4; clear a3 a4; (try clear hb); (try clear d0); (try clear hk); (try clear hi); have f3 : d4.cell? ⟨a2, 0, none⟩ = some (.int .i64 a0_0) := bcz a0 0 rfl; have f4 : d4.cell? ⟨a2, 1, none⟩ = some (.slice A0_1 l0_1.length c0_1) := bcz a0 1 rfl; have f5 : d4.cell? ⟨a2, 2, none⟩ = some (.slice A0_2 l0_2.length c0_2) := bcz a0 2 rfl; have i3 := blk_frozen a0.out 0; have i4 := blk_frozen a0.out 1; have i5 := blk_frozen a0.out 2))
     go_ret
     exact ⟨by first | rfl | (simp [errW_none, errW_some] <;> rfl) | (simp [*, errW_none, errW_some] <;> rfl), wz HB.out⟩
    ·rw [if_neg b8] at H;have c16b0 : decide ((l0_2.length : Int) ≤ 24) = false := decide_eq_false b8;have c16b1 : decide (l0_2.length ≤ 24) = false := decide_eq_false (by omega);clear b8;obtain rfl := Option.some.inj H;go_enter Try.func57, Try.ntmps57
     go_wp2_with (first | ((with_reducible refine gate_dst (N := 2) rfl ?_); (try (refine gate_guard (by rfl) ?_; dsimp only)); refine box_event ?hg (N := 2) ?hd (cs := #[.int .i64 a0_0, .slice A0_1 l0_1.length c0_1, .slice A0_2 l0_2.length c0_2]) (t := 25) ?hr ?_; (case hd => rfl); (case hg => rfl); (case hr => first | (go_simp; done) | (go_simp; rfl)); intro a2 hg d5 hbox hb; have a3 := Aside0.mk (below_step (wz HB.out) hb); have a4 := Aside0.mk (hbox); have a5 := Aside0.mk ((by rw [hg]; exact (below_size (wz HB.out)) : w.heap.size ≤ a2)); have a6 := Aside0.mk ((by rw [hg]; exact (below_size (wz HB.out)) : w.heap.size ≤ a2)); clear HB; have HB := a3; have a0 := a4; have b2 := a5; have b1 := a6; clear a3 a4 a5 a6; clear hb hbox hg; have f6 : d5.cell? ⟨a2, 0, none⟩ = some (.int .i64 a0_0) := bcz a0 0 rfl; have f7 : d5.cell? ⟨a2, 1, none⟩ = some (.slice A0_1 l0_1.length c0_1) := bcz a0 1 rfl; have f8 : d5.cell? ⟨a2, 2, none⟩ = some (.slice A0_2 l0_2.length c0_2) := bcz a0 2 rfl; have i7 := blk_frozen a0.out 0; have i8 := blk_frozen a0.out 1; have i9 := blk_frozen a0.out 2) | ((with_reducible refine gate_callee (f := 15) rfl ?_); refine goesL_ (some 6) rfl rfl Try.func15 (by kernel_rfl) rfl #[.agg #[.int .i64 a0_0, .slice A0_1 l0_1.length c0_1, .slice A0_2 l0_2.length c0_2]] rfl (by (try simp only [List.map_toArray, List.map_cons, List.map_nil]); first | done | rfl | (simp only [List.length_drop, List.length_take]; rfl)) ?_; (with_reducible refine (Pl33a.calls k a0_0 _ _ l0_1 _ _ l0_2 true _ ?b3 ?b4 ?b5 ?b6 A3.out).mono ?_); (case b3 => exact cz a9.out HB.out); (case b4 => exact a7.out); (case b5 => exact cz b0.out HB.out); (case b6 => exact a8.out); rintro e d6 ⟨rfl, hb⟩; refine ⟨_, rfl, ?_⟩; have a3 := Aside0.mk (blk_below (bz a0.out) hb); have a4 := Aside0.mk (below_step (wz HB.out) hb); clear a0; clear HB; have a0 := a3; have HB := a4; clear a3 a4; (try clear hb); (try clear d0); (try clear hk); (try clear hi); have f9 : d6.cell? ⟨a2, 0, none⟩ = some (.int .i64 a0_0) := bcz a0 0 rfl; have g0 : d6.cell? ⟨a2, 1, none⟩ = some (.slice A0_1 l0_1.length c0_1) := bcz a0 1 rfl; have g1 : d6.cell? ⟨a2, 2, none⟩ = some (.slice A0_2 l0_2.length c0_2) := bcz a0 2 rfl; have j2 := blk_frozen a0.out 0; have j3 := blk_frozen a0.out 1; have j4 := blk_frozen a0.out 2))
     go_ret
     exact ⟨by first | rfl | (simp [errW_none, errW_some] <;> rfl) | (simp [*, errW_none, errW_some] <;> rfl), wz HB.out⟩
   ·rw [if_neg b7] at H;have c15b0 : decide (2048 < a0_0) = false := decide_eq_false b7;clear b7;obtain rfl := Option.some.inj H;go_enter Try.func57, Try.ntmps57
    go_wp2_with (first | ((with_reducible refine gate_dst (N := 2) rfl ?_); (try (refine gate_guard (by rfl) ?_; dsimp only)); refine box_event ?hg (N := 2) ?hd (cs := #[.int .i64 a0_0, .slice A0_1 l0_1.length c0_1, .slice A0_2 l0_2.length c0_2]) (t := 25) ?hr ?_; (case hd => rfl); (case hg => rfl); (case hr => first | (go_simp; done) | (go_simp; rfl)); intro a2 hg d7 hbox hb; have a3 := Aside0.mk (below_step (wz HB.out) hb); have a4 := Aside0.mk (hbox); have a5 := Aside0.mk ((by rw [hg]; exact (below_size (wz HB.out)) : w.heap.size ≤ a2)); have a6 := Aside0.mk ((by rw [hg]; exact (below_size (wz HB.out)) : w.heap.size ≤ a2)); clear HB; have HB := a3; have a0 := a4; have b2 := a5; have b1 := a6; clear a3 a4 a5 a6; clear hb hbox hg; have g2 : d7.cell? ⟨a2, 0, none⟩ = some (.int .i64 a0_0) := bcz a0 0 rfl; have g3 : d7.cell? ⟨a2, 1, none⟩ = some (.slice A0_1 l0_1.length c0_1) := bcz a0 1 rfl; have g4 : d7.cell? ⟨a2, 2, none⟩ = some (.slice A0_2 l0_2.length c0_2) := bcz a0 2 rfl; have j5 := blk_frozen a0.out 0; have j6 := blk_frozen a0.out 1; have j7 := blk_frozen a0.out 2) | ((with_reducible refine gate_callee (f := 15) rfl ?_); refine goesL_ (some 6) rfl rfl Try.func15 (by kernel_rfl) rfl #[.agg #[.int .i64 a0_0, .slice A0_1 l0_1.length c0_1, .slice A0_2 l0_2.length c0_2]] rfl (by (try simp only [List.map_toArray, List.map_cons, List.map_nil]); first | done | rfl | (simp only [List.length_drop, List.length_take]; rfl)) ?_; (with_reducible refine (Pl33a.calls k a0_0 _ _ l0_1 _ _ l0_2 true _ ?b3 ?b4 ?b5 ?b6 A3.out).mono ?_); (case b3 => exact cz a9.out HB.out); (case b4 => exact a7.out); (case b5 => exact cz b0.out HB.out); (case b6 => exact a8.out); rintro e d8 ⟨rfl, hb⟩; refine ⟨_, rfl, ?_⟩; have a3 := Aside0.mk (blk_below (bz a0.out) hb); have a4 := Aside0.mk (below_step (wz HB.out) hb); clear a0; clear HB; have a0 := a3; have HB := a4; clear a3 a4; (try clear hb); (try clear d0); (try clear hk); (try clear hi); have g5 : d8.cell? ⟨a2, 0, none⟩ = some (.int .i64 a0_0) := bcz a0 0 rfl; have g6 : d8.cell? ⟨a2, 1, none⟩ = some (.slice A0_1 l0_1.length c0_1) := bcz a0 1 rfl; have g7 : d8.cell? ⟨a2, 2, none⟩ = some (.slice A0_2 l0_2.length c0_2) := bcz a0 2 rfl; have j8 := blk_frozen a0.out 0; have j9 := blk_frozen a0.out 1; have k0 := blk_frozen a0.out 2))
    go_ret
    exact ⟨by first | rfl | (simp [errW_none, errW_some] <;> rfl) | (simp [*, errW_none, errW_some] <;> rfl), wz HB.out⟩
 ·replace c4 := Bool.eq_false_iff.mpr c4;subst c4;have H1 : (some false) = some r := by rw [if_neg (show ¬ (false = true) by decide)] at H; exact H
  clear H;have H := H1;clear H1;obtain rfl := Option.some.inj H;go_enter Try.func57, Try.ntmps57
  go_wp2_with (first | ((with_reducible refine gate_dst (N := 2) rfl ?_); (try (refine gate_guard (by rfl) ?_; dsimp only)); refine box_event ?hg (N := 2) ?hd (cs := #[.int .i64 a0_0, .slice A0_1 l0_1.length c0_1, .slice A0_2 l0_2.length c0_2]) (t := 25) ?hr ?_; (case hd => rfl); (case hg => rfl); (case hr => first | (go_simp; done) | (go_simp; rfl)); intro a2 hg d9 hbox hb; have a3 := Aside0.mk (below_step (wz HB.out) hb); have a4 := Aside0.mk (hbox); have a5 := Aside0.mk ((by rw [hg]; exact (below_size (wz HB.out)) : w.heap.size ≤ a2)); have a6 := Aside0.mk ((by rw [hg]; exact (below_size (wz HB.out)) : w.heap.size ≤ a2)); clear HB; have HB := a3; have a0 := a4; have b2 := a5; have b1 := a6; clear a3 a4 a5 a6; clear hb hbox hg; have g8 : d9.cell? ⟨a2, 0, none⟩ = some (.int .i64 a0_0) := bcz a0 0 rfl; have g9 : d9.cell? ⟨a2, 1, none⟩ = some (.slice A0_1 l0_1.length c0_1) := bcz a0 1 rfl; have h0 : d9.cell? ⟨a2, 2, none⟩ = some (.slice A0_2 l0_2.length c0_2) := bcz a0 2 rfl; have k1 := blk_frozen a0.out 0; have k2 := blk_frozen a0.out 1; have k3 := blk_frozen a0.out 2) | ((with_reducible refine gate_callee (f := 15) rfl ?_); refine goesL_ (some 6) rfl rfl Try.func15 (by kernel_rfl) rfl #[.agg #[.int .i64 a0_0, .slice A0_1 l0_1.length c0_1, .slice A0_2 l0_2.length c0_2]] rfl (by (try simp only [List.map_toArray, List.map_cons, List.map_nil]); first | done | rfl | (simp only [List.length_drop, List.length_take]; rfl)) ?_; (with_reducible refine (Pl33a.calls k a0_0 _ _ l0_1 _ _ l0_2 false _ ?b3 ?b4 ?b5 ?b6 A3.out).mono ?_); (case b3 => exact cz a9.out HB.out); (case b4 => exact a7.out); (case b5 => exact cz b0.out HB.out); (case b6 => exact a8.out); rintro e l3 ⟨rfl, hb⟩; refine ⟨_, rfl, ?_⟩; have a3 := Aside0.mk (blk_below (bz a0.out) hb); have a4 := Aside0.mk (below_step (wz HB.out) hb); clear a0; clear HB; have a0 := a3; have HB := a4; clear a3 a4; (try clear hb); (try clear d0); (try clear hk); (try clear hi)))
  go_ret
  exact ⟨by first | rfl | (simp [errW_none, errW_some] <;> rfl) | (simp [*, errW_none, errW_some] <;> rfl), wz HB.out⟩
end Go.Proofs.Ytmcbkmfpmcbdpaa.Pr
set_option linter.unusedVariables false
set_option linter.unusedSimpArgs false
namespace Go.Proofs.Ytmcbkmfpmcbdpaa.H
open Go.RowKit Go.Proofs.Ytmcbkmfpmcbdpaa.Pr Go.Proofs.YtmcbkmfpmcbdpaaW.PrintWords Go.Proofs.Ytmcbkmfpmcbdpaa.Sem Go.Proofs.Ytmcbkmfpmcbdpaa.PL
theorem es_ndS {n : Nat} {ls : List ByteArray} {es : List Ed} (hm : mayR n ls es = true) : ∀ e ∈ es, Nd n e.f0 ∧ Nd n e.f2 := fun e he => by
 obtain ⟨k, hk, rfl⟩ := List.getElem_of_mem he
 have := es_at hm hk
 rw [show es.getD k z80 = es[k] by simp [List.getD_eq_getElem?_getD, List.getElem?_eq_getElem hk]] at this
 exact this
theorem class_len (n : Nat) (es : List Ed) : (classL n es).length = n := by simp [classL]
theorem iterP_len (n : Nat) (es : List Ed) : ∀ (f : Nat) (P : List Bool), (iterP n es f P).length = P.length
 | 0, P => rfl
 | f + 1, P => by
  unfold iterP
  split
  ·rfl
  ·rw [iterP_len n es f, sweepTo_length]
theorem pairsR_length (n : Nat) (es : List Ed) : (pairsR n es).length = n * n := by unfold pairsR; rw [iterP_len, List.length_replicate]
theorem pair_at {n : Nat} {ls : List ByteArray} {es : List Ed} (hm : mayR n ls es = true) {i j : Nat} (hi : i < n) (hj : j < n) : (pairsR n es).getD (i * n + j) false = true ↔ (classL n es)[i]'(by rw [class_len]; exact hi) = (classL n es)[j]'(by rw [class_len]; exact hj) := by
 rw [← class_iff (es_ndS hm)]
 unfold Bis
 rw [great_rel n ls es hm]
 unfold relP
 rw [show ((i : Int) * (n : Int) + (j : Int)).toNat = i * n + j by omega]
 simp
 omega
theorem num_at {ks : List Int} {i k : Nat} (hi : i < ks.length) (hk : k < i) : (numK (ks.take i)).getD k 0 = ((fstK (ks.take i)).idxOf (ks[k]'(by omega)) : Int) := by
 have h1 : k < (ks.take i).length := by rw [List.length_take]; omega
 rw [numK_at _ h1, List.getElem_take]
theorem of_in {n : Nat} {ls : List ByteArray} {es : List Ed} (hm : mayR n ls es = true) {i : Nat} (hi : i < n) {r : List Int} {ks : List Int} (hks : ks = classL n es)
  (hend : Ev (fun k => Pr34b.l0 k (pairsR n es) (numK (ks.take (i + 1))) ((fstK (ks.take (i + 1))).length : Int) ((i + 1 : Nat) : Int) (n : Int) ls es) r) :
  ∀ (b : Nat) (x : Int), b ≤ i → ((∃ k, ∃ h : k < i, b ≤ k ∧ ks[k]'(by rw [hks, class_len]; omega) = ks[i]'(by rw [hks, class_len]; omega)) → x = ((fstK (ks.take i)).idxOf (ks[i]'(by rw [hks, class_len]; omega)) : Int)) → ((¬ ∃ k, ∃ h : k < i, b ≤ k ∧ ks[k]'(by rw [hks, class_len]; omega) = ks[i]'(by rw [hks, class_len]; omega)) → x = -1) →
   Ev (fun k => Pr34b.l1 k (pairsR n es) (numK (ks.take i)) ((fstK (ks.take i)).length : Int) (i : Int) x ((b : Int) - 1) (n : Int) ls es) r := by
 have hn := n_le hm;have hlen : ks.length = n := by rw [hks, class_len]
 have hik : i < ks.length := by omega
 have hnl : (numK (ks.take i)).length = i := by rw [numK_length, List.length_take]; omega
 have hfl : (fstK (ks.take i)).length ≤ i := by have := fstK_length_le (ks.take i); rw [List.length_take] at this; omega
 have ht : ks.take (i + 1) = ks.take i ++ [ks[i]] := take_snoc' hik;intro b
 induction b with
 | zero =>
  intro x _ h1 h2;refine Ev.step (fun k => Pr34b.l1.eq_2 ..) (Ev.neg (by omega) ?_);by_cases hp : ∃ k, ∃ h : k < i, 0 ≤ k ∧ ks[k]'(by omega) = ks[i]
  ·have hx := h1 hp
   have hmem : ks[i] ∈ ks.take i := by
    obtain ⟨k, hk, _, e⟩ := hp;rw [← e];exact List.mem_take_iff_getElem.2 ⟨k, by omega, rfl⟩
   refine Ev.neg (by omega) (Ev.pos (by omega) ?_);rw [w1n (by omega)];have hadd : addK (fstK (ks.take i)) ks[i] = fstK (ks.take i) := by unfold addK; rw [if_pos ((fstK_mem _ _).2 hmem)]
   rw [ht, numK_snoc, fstK_snoc, hadd, ← hx] at hend;exact hend
  ·have hx := h2 hp
   have hmem : ks[i] ∉ ks.take i := by
    intro hmem;obtain ⟨k, hk, e⟩ := List.mem_take_iff_getElem.1 hmem;exact hp ⟨k, by omega, by omega, e⟩
   have a0 : ks[i] ∉ fstK (ks.take i) := fun h => hmem ((fstK_mem _ _).1 h)
   refine Ev.pos (by omega) (Ev.pos (by omega) ?_);rw [w1n (by omega), w1n (by omega)];rw [ht, numK_snoc, fstK_snoc, idxOf_addK_new a0] at hend;have hadd : addK (fstK (ks.take i)) ks[i] = fstK (ks.take i) ++ [ks[i]] := by unfold addK; rw [if_neg a0]
   rw [hadd, List.length_append, List.length_singleton] at hend;exact hend
 | succ b ih =>
  intro x hb h1 h2;have hbn : b < n := by omega
  have hidx : i * n + b < n * n := by
   have h3 : (i + 1) * n ≤ n * n := Nat.mul_le_mul_right _ hi;rw [Nat.add_mul, Nat.one_mul] at h3;omega
  have hnn : n * n ≤ 2048 * 2048 := Nat.mul_le_mul (by omega) (by omega)
  have e1 : wrap64 (wrap64 ((i : Int) * (n : Int)) + (b : Int)) = ((i * n + b : Nat) : Int) := by
   have h3 : ((i * n : Nat) : Int) = (i : Int) * (n : Int) := Int.natCast_mul i n;have h4 : wrap64 ((i : Int) * (n : Int)) = ((i * n : Nat) : Int) := by rw [← h3]; unfold wrap64; omega
   rw [h4];unfold wrap64;omega
  have e2 : ((b + 1 : Nat) : Int) - 1 = (b : Int) := by omega
  have hpl : (pairsR n es).length = n * n := pairsR_length n es;refine Ev.step (fun k => Pr34b.l1.eq_2 ..) ?_;rw [e2, e1];have e3 : wrap64 ((b : Int) - 1) = (b : Int) - 1 := by unfold wrap64; omega
  rw [e3];refine Ev.pos (by omega) (Ev.pos (by omega) (Ev.pos (by rw [hpl]; omega) ?_));have e4 : rdOf false (pairsR n es) ((i * n + b : Nat) : Int) = (pairsR n es).getD (i * n + b) false := by unfold rdOf; rw [Int.toNat_natCast]
  rw [e4];have hpa := pair_at hm hi hbn;by_cases hq : (pairsR n es).getD (i * n + b) false = true
  ·have hc : ks[i] = ks[b]'(by omega) := by subst hks; exact hpa.1 hq
   refine Ev.pos hq (Ev.pos (by omega) (Ev.pos (by omega) ?_))
   have e5 : rd (numK (ks.take i)) (b : Int) = ((fstK (ks.take i)).idxOf ks[i] : Int) := by
    show (numK (ks.take i)).getD (b : Int).toNat 0 = _;rw [Int.toNat_natCast, num_at hik (by omega), hc]
   rw [e5];exact ih _ (by omega) (fun _ => rfl) fun h => absurd ⟨b, by omega, Nat.le_refl _, hc.symm⟩ h
  ·have hc : ¬ ks[b]'(by omega) = ks[i] := by subst hks; exact fun e => hq (hpa.2 e.symm)
   refine Ev.neg hq (ih x (by omega) (fun ⟨k, hk, hbk, e⟩ => h1 ⟨k, hk, ?_, e⟩) fun h => h2 fun ⟨k, hk, hbk, e⟩ => h ⟨k, hk, by omega, e⟩);by_cases e9 : k = b
   ·subst e9; exact absurd e hc
   ·omega
theorem of34_ev {n : Nat} {ls : List ByteArray} {es : List Ed} (hm : mayR n ls es = true) : Ev (fun k => Pr34b.f k (n : Int) ls es) (refL n es) := by
 have hn := n_le hm
 have hlen := class_len n es
 have key : ∀ d i : Nat, i + d = n → Ev (fun k => Pr34b.l0 k (pairsR n es) (numK ((classL n es).take i)) ((fstK ((classL n es).take i)).length : Int) (i : Int) (n : Int) ls es) (refL n es) := by
  intro d
  induction d with
  | zero =>
   intro i h
   refine Ev.step (fun k => Pr34b.l0.eq_2 ..) (Ev.neg (by omega) ?_)
   rw [List.take_of_length_le (by omega)]
   exact Ev.now _
  | succ d ih =>
   intro i h
   refine Ev.step (fun k => Pr34b.l0.eq_2 ..) (Ev.pos (by omega) ?_)
   have e : wrap64 ((i : Int) - 1) = (i : Int) - 1 := by unfold wrap64; omega
   rw [e]
   exact of_in hm (by omega) rfl (ih (i + 1) (by omega)) i (-1) (Nat.le_refl _) (fun ⟨k, hk, hbk, _⟩ => by omega) fun _ => rfl
 exact Ev.bindS (a := pairsR n es) (by unfold Pr34a.f; rw [hm]; rfl) (key n 0 (by omega))
end Go.Proofs.Ytmcbkmfpmcbdpaa.H
set_option linter.unusedVariables false
set_option linter.unusedSimpArgs false
namespace Go.Proofs.Ytmcbkmfpmcbdpaa.H
open Go.RowKit Go.Proofs.Ytmcbkmfpmcbdpaa.Pr Go.Proofs.YtmcbkmfpmcbdpaaW.PrintWords Go.Proofs.Ytmcbkmfpmcbdpaa.Sem
theorem texts_ev (ls : List ByteArray) (hl : ls.length ≤ 1000000) : Ev (fun k => Pr01a.f k ls ls) true := by
 have key : ∀ d i : Nat, i + d = ls.length → Ev (fun k => Pr01a.l0 k ls ls (i : Int)) true := by
  intro d
  induction d with
  | zero => intro i h; exact Ev.step (fun k => Pr01a.l0.eq_2 ..) (Ev.neg (by omega) (Ev.now _))
  | succ d ih =>
   intro i h
   refine Ev.step (fun k => Pr01a.l0.eq_2 ..) (Ev.pos (by omega) (Ev.pos (by omega) (Ev.pos (by omega) (Ev.pos rfl ?_))))
   rw [w1n (by omega)]
   exact ih (i + 1) (by omega)
 exact Ev.pos rfl (key ls.length 0 (by omega))
theorem same26_refl (n : Int) (ls : List ByteArray) (xs : List Ed) (h1 : ls.length ≤ 1000000) (hl : xs.length ≤ 1000000) : Ev (fun k => Pr26a.f k n ls xs n ls xs) true := by
 have key : ∀ d i : Nat, i + d = xs.length → Ev (fun k => Pr26a.l0 k (i : Int) n ls xs n ls xs) true := by
  intro d
  induction d with
  | zero => intro i h; exact Ev.step (fun k => Pr26a.l0.eq_2 ..) (Ev.neg (by omega) (Ev.now _))
  | succ d ih =>
   intro i h
   refine Ev.step (fun k => Pr26a.l0.eq_2 ..) (Ev.pos (by omega) (Ev.pos (by omega) (Ev.pos (by omega) (Ev.neg (by simp) ?_))))
   rw [w1n (by omega)]
   exact ih (i + 1) (by omega)
 exact Ev.pos rfl (Ev.bind (texts_ev ls h1) (Ev.pos rfl (Ev.step (fun k => Pr26a.j0.eq_2 ..) (Ev.neg (by simp) (key xs.length 0 (by omega))))))
theorem same0 : Ev (fun k => Pr26a.f k 0 [] [] 0 [] []) true := same26_refl 0 [] [] (by simp) (by simp)
end Go.Proofs.Ytmcbkmfpmcbdpaa.H
