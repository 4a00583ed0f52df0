/-
  Parts of the proof of ProductKeeps (joined by wip/tools/bundle.py), part 2: plain words and walks of the functions that the law reaches.
-/
import Derived.Test.YtmcbkmfpmcbdpaaZProductKeeps1
set_option linter.unusedVariables false
set_option linter.unusedSimpArgs false
namespace Go.Proofs.Ytmcbkmfpmcbdpaa.H
open Go.RowKit Go.Proofs.Ytmcbkmfpmcbdpaa.Pr Go.Proofs.YtmcbkmfpmcbdpaaW.PrintWords Go.Proofs.Ytmcbkmfpmcbdpaa.Sem
theorem isNaN (x : Int) (w : World) : Calls Try.prog 162 #[.int .i64 x] w fun e w' => e = .returned (.bool false) ∧ w = w' := by
 have h : (x != x) = false := by simp
 go_enter Try.func162, Try.ntmps162
 go_wp2
 go_ret
 exact ⟨rfl, rfl⟩
theorem compare_lt (x y : Int) (w : World) (h : x < y) : Calls Try.prog 137 #[.int .i64 x, .int .i64 y] w fun e w' => e = .returned (.int .i64 (-1)) ∧ w = w' := by
 go_enter Try.func137, Try.ntmps137
 go_wp2_with (go_at_call 162; refine (isNaN _ _).mono ?_; rintro e w' ⟨rfl, rfl⟩)
 go_ret
 exact ⟨rfl, rfl⟩
theorem compare_gt (x y : Int) (w : World) (h : y < x) (h2 : ¬ x < y) : Calls Try.prog 137 #[.int .i64 x, .int .i64 y] w fun e w' => e = .returned (.int .i64 1) ∧ w = w' := by
 go_enter Try.func137, Try.ntmps137
 go_wp2_with (go_at_call 162; refine (isNaN _ _).mono ?_; rintro e w' ⟨rfl, rfl⟩)
 go_ret
 exact ⟨rfl, rfl⟩
theorem compare_eq (x y : Int) (w : World) (h : ¬ y < x) (h2 : ¬ x < y) : Calls Try.prog 137 #[.int .i64 x, .int .i64 y] w fun e w' => e = .returned (.int .i64 0) ∧ w = w' := by
 go_enter Try.func137, Try.ntmps137
 go_wp2_with (go_at_call 162; refine (isNaN _ _).mono ?_; rintro e w' ⟨rfl, rfl⟩)
 go_ret
 exact ⟨rfl, rfl⟩
theorem compare_any (x y : Int) (w : World) : Calls Try.prog 137 #[.int .i64 x, .int .i64 y] w fun e w' => e = .returned (.int .i64 (cmpI x y)) ∧ w = w' := by
 unfold cmpI
 by_cases h : x < y
 ·rw [if_pos h]; exact compare_lt x y w h
 ·rw [if_neg h]
  by_cases h' : y < x
  ·rw [if_pos h']; exact compare_gt x y w h' h
  ·rw [if_neg h']; exact compare_eq x y w h' h
theorem or_any (xs : List Int) (b c : Nat) (w : World) (hn : xs.length ≤ 1000) (hc : ∀ j, j < xs.length → w.cell? ⟨b, j, none⟩ = some (.int .i64 (xs.getD j 0))) :
  Calls Try.prog 154 #[.slice (some ⟨b, 0, none⟩) xs.length c] w fun e w' => e = .returned (.int .i64 (orL xs)) ∧ w = w' := by
 have HC := Lib.hid hc; clear hc
 go_enter Try.func154, Try.ntmps154
 go_wp2
 go_loop [8] (fun i => ∃ k : Nat, k ≤ xs.length ∧ i = .int .i64 k ∧ Aside0 (∀ j, j < k → (xs.getD j 0 != 0) = false)) (fun i => xs.length - (intOf i).toNat)
 case atStart => exact ⟨0, Nat.zero_le _, rfl, ⟨fun j hj => by omega⟩⟩
 case round =>
  obtain ⟨k, hk, rfl, hz⟩ := hrel
  by_cases hlt : k < xs.length
  ·have h1 := HC.out k hlt
   obtain ⟨y, hy⟩ : ∃ y, y = xs.getD k 0 := ⟨_, rfl⟩
   rw [← hy] at h1
   have HY := Lib.hid hy; clear hy
   cases hb : (y != 0) with
   | true =>
    go_wp2
    go_ret
    exact ⟨ret_int (by rw [HY.out]; exact (orL_at xs k hz.out hlt (by rw [← HY.out]; exact hb)).symm), rfl⟩
   | false =>
    go_wp2
    go_round
    case rel => exact ⟨k + 1, by omega, by go_num, ⟨fun j hj => by rcases Nat.lt_succ_iff_lt_or_eq.1 hj with h | rfl; exact hz.out j h; rw [← HY.out]; exact hb⟩⟩
    case measure => simp [intOf]; omega
  ·go_wp2
   go_ret
   exact ⟨ret_int (orL_zero xs (fun j hj => hz.out j (by omega))).symm, rfl⟩
set_option maxRecDepth 100000 in
theorem compareE (a b : Ed) (w : World) : Calls Try.prog 122 #[.agg #[.int .i64 a.f0, .int .i64 a.f1, .int .i64 a.f2], .agg #[.int .i64 b.f0, .int .i64 b.f1, .int .i64 b.f2]] w fun e w' => e = .returned (.int .i64 (cmpE a b)) ∧ Below w.heap.size w w' := by
 have HB := Aside0.mk (Below.refl w.heap.size w)
 go_enter Try.func122, Try.ntmps122
 go_wp2_with fail
 go_region_held3 (fun w' => w'.cell? ⟨w.heap.size, 0, none⟩ = some (.int .i64 a.f0) ∧ w'.cell? ⟨w.heap.size, 1, none⟩ = some (.int .i64 a.f1) ∧ w'.cell? ⟨w.heap.size, 2, none⟩ = some (.int .i64 a.f2) ∧ w'.cell? ⟨w.heap.size + 1, 0, none⟩ = some (.int .i64 b.f0) ∧ w'.cell? ⟨w.heap.size + 1, 1, none⟩ = some (.int .i64 b.f1) ∧ w'.cell? ⟨w.heap.size + 1, 2, none⟩ = some (.int .i64 b.f2))
  (first | go_keep)
  (first
   | (go_at_call 137; refine (compare_any _ _ _).mono ?_; rintro e w' ⟨rfl, rfl⟩)
   | (go_at_call 154; refine (or_any [cmpI a.f0 b.f0, cmpI a.f1 b.f1, cmpI a.f2 b.f2] _ _ _ (by simp) (by intro j hj; match j, hj with | 0, _ => go_simp | 1, _ => go_simp | 2, _ => go_simp)).mono ?_; rintro e w' ⟨rfl, rfl⟩))
 go_wp2
 go_ret
 exact ⟨rfl, by repeat (first | exact HB.out | apply below_alloc | apply pw_below_drewN | apply below_drew)⟩
theorem long_any (s : ByteArray) (b : Bool) (hb : tooLong s = b) (w : World) : Calls Try.prog 153 #[.string s] w fun e w' => e = .returned (.bool b) ∧ w = w' := by
 unfold tooLong at hb
 cases b with
 | true =>
  have h : (200 : Int) < (s.size : Int) := by have := of_decide_eq_true hb; omega
  clear hb
  go_enter Try.func153, Try.ntmps153
  go_wp2
  go_ret
  exact ⟨ret_bool (by simp), rfl⟩
 | false =>
  have h : ¬ (200 : Int) < (s.size : Int) := by have := of_decide_eq_false hb; omega
  clear hb
  go_enter Try.func153, Try.ntmps153
  go_wp2
  go_ret
  exact ⟨ret_bool (by simp), rfl⟩
theorem idxLong (ls : List ByteArray) (A : Option Addr) (c : Nat) (w : World) (hr : Kd.C Kd.string w A ls.length ls) :
  Calls Try.prog 167 #[.slice A ls.length c, .func (.func 153) #[] #[]] w fun e w' => e = .returned (.int .i64 (idxP tooLong ls)) ∧ w = w' := by
 have hl := C_len hr;have HR := Lib.hid hr; clear hr
 go_enter Try.func167, Try.ntmps167
 go_wp2
 go_loop [8] (fun i => ∃ k : Nat, k ≤ ls.length ∧ i = .int .i64 k ∧ Aside0 (∀ j, j < k → tooLong (ls.getD j ByteArray.empty) = false)) (fun i => ls.length - (intOf i).toNat)
 case atStart => exact ⟨0, Nat.zero_le _, rfl, ⟨fun j hj => by omega⟩⟩
 case round =>
  obtain ⟨k, hk, rfl, hz⟩ := hrel;by_cases hlt : k < ls.length
  ·obtain ⟨ad, hA, h1⟩ := atS HR.out k hlt;subst hA;obtain ⟨s, hs⟩ : ∃ s, s = ls.getD k ByteArray.empty := ⟨_, rfl⟩
   rw [← hs] at h1;have HS := Lib.hid hs; clear hs
   cases hb : tooLong s with
   | true =>
    have HT := Lib.hid hb; clear hb
    go_wp2_with (go_at_call 153; refine (long_any _ _ HT.out _).mono ?_; rintro e w' ⟨rfl, rfl⟩)
    go_ret
    exact ⟨ret_int (idxP_at tooLong ByteArray.empty ls k hz.out hlt (by rw [← HS.out]; exact HT.out)).symm, rfl⟩
   | false =>
    have HT := Lib.hid hb; clear hb
    go_wp2_with (go_at_call 153; refine (long_any _ _ HT.out _).mono ?_; rintro e w' ⟨rfl, rfl⟩)
    go_round
    case rel => exact ⟨k + 1, by omega, by go_num, ⟨fun j hj => by rcases Nat.lt_succ_iff_lt_or_eq.1 hj with h | rfl; exact hz.out j h; rw [← HS.out]; exact HT.out⟩⟩
    case measure => simp [intOf]; omega
  ·go_wp2
   go_ret
   exact ⟨ret_int (idxP_none tooLong ByteArray.empty ls (fun j hj => hz.out j (by omega))).symm, rfl⟩
theorem anyLong (ls : List ByteArray) (A : Option Addr) (c : Nat) (w : World) (hr : Kd.C Kd.string w A ls.length ls) :
  Calls Try.prog 152 #[.slice A ls.length c, .func (.func 153) #[] #[]] w fun e w' => e = .returned (.bool (ls.any tooLong)) ∧ w = w' := by
 have HR := Lib.hid hr; clear hr
 have H := Lib.hid (idxP_nonneg tooLong ls)
 generalize idxP tooLong ls = n at H
 have H2 := Lib.hid (idxLong ls A c w HR.out)
 go_enter Try.func152, Try.ntmps152
 go_wp2_with (go_at_call 167; refine H2.out.mono ?_; rintro e w' ⟨rfl, rfl⟩)
 go_ret
 exact ⟨ret_bool (idxP_nonneg tooLong ls), rfl⟩
theorem node_any (i n : Int) (p : Addr) (w : World) (h0 : w.cell? p = some (.int .i64 n)) :
  Calls Try.prog 121 #[.int .i64 i, .pointer (some p)] w fun e w' => e = .returned (.bool (decide (0 ≤ i ∧ i < n))) ∧ w = w' := by
 by_cases a : 0 ≤ i
 ·by_cases b : i < n
  ·go_enter Try.func121, Try.ntmps121
   go_wp2
   go_ret
   exact ⟨ret_bool (by simp [a, b]), rfl⟩
  ·go_enter Try.func121, Try.ntmps121
   go_wp2
   go_ret
   exact ⟨ret_bool (by simp [b]), rfl⟩
 ·go_enter Try.func121, Try.ntmps121
  go_wp2
  go_ret
  exact ⟨ret_bool (by simp; omega), rfl⟩
end Go.Proofs.Ytmcbkmfpmcbdpaa.H
namespace Go.Proofs
open Go.Shelf
def Try.sortE_ren : Go.Shelf.Ren := ⟨fun | 6 => 133 | 15 => 161 | 14 => 160 | 28 => 177 | 29 => 178 | 20 => 169 | 21 => 170 | 22 => 171 | 23 => 172 | 24 => 173 | 25 => 174 | 26 => 175 | 27 => 176 | 46 => 189 | 47 => 190 | 48 => 191 | 49 => 192 | 50 => 193 | 57 => 199 | n => n, fun | 22 => 23 | 24 => 80 | 25 => 137 | 3 => 3 | 39 => 180 | 0 => 0 | 53 => 198 | 55 => 200 | 4 => 4 | 46 => 192 | 45 => 191 | 50 => 154 | 5 => 5 | 9 => 9 | 66 => 207 | 70 => 211 | 76 => 215 | 77 => 122 | n => n, fun | n => n⟩
theorem Try.sortE : Go.Proofs.SlLaysF0.n6 Try.prog Try.sortE_ren := {
 mixed := by kernel_rfl
 f6 := ⟨Try.f133.name, by decide, Try.func133.trans (congrArg some (by kernel_rfl))⟩
 f14 := ⟨Try.f160.name, by decide, Try.func160.trans (congrArg some (by kernel_rfl))⟩
 f15 := Try.func161.trans (congrArg some (by kernel_rfl))
 f20 := ⟨Try.f169.name, by decide, Try.func169.trans (congrArg some (by kernel_rfl))⟩
 f21 := ⟨Try.f170.name, by decide, Try.func170.trans (congrArg some (by kernel_rfl))⟩
 f22 := ⟨Try.f171.name, by decide, Try.func171.trans (congrArg some (by kernel_rfl))⟩
 f23 := ⟨Try.f172.name, by decide, Try.func172.trans (congrArg some (by kernel_rfl))⟩
 f24 := ⟨Try.f173.name, by decide, Try.func173.trans (congrArg some (by kernel_rfl))⟩
 f25 := ⟨Try.f174.name, by decide, Try.func174.trans (congrArg some (by kernel_rfl))⟩
 f26 := ⟨Try.f175.name, by decide, Try.func175.trans (congrArg some (by kernel_rfl))⟩
 f27 := ⟨Try.f176.name, by decide, Try.func176.trans (congrArg some (by kernel_rfl))⟩
 f28 := Try.func177.trans (congrArg some (by kernel_rfl))
 f29 := Try.func178.trans (congrArg some (by kernel_rfl))
 f46 := ⟨Try.f189.name, by decide, Try.func189.trans (congrArg some (by kernel_rfl))⟩
 f47 := Try.func190.trans (congrArg some (by kernel_rfl))
 f48 := Try.func191.trans (congrArg some (by kernel_rfl))
 f49 := ⟨Try.f192.name, by decide, Try.func192.trans (congrArg some (by kernel_rfl))⟩
 f50 := ⟨Try.f193.name, by decide, Try.func193.trans (congrArg some (by kernel_rfl))⟩
 f57 := ⟨Try.f199.name, by decide, Try.func199.trans (congrArg some (by kernel_rfl))⟩
 t0 := Try.underlying0
 a0 := Try.isAgg0
 z0 := Try.sizeOf0
 v0 := Try.zeroValue0
 t3 := Try.underlying3
 a3 := Try.isAgg3
 z3 := Try.sizeOf3
 v3 := Try.zeroValue3
 t4 := Try.underlying4
 a4 := Try.isAgg4
 z4 := Try.sizeOf4
 v4 := Try.zeroValue4
 t5 := Try.underlying5
 a5 := Try.isAgg5
 z5 := Try.sizeOf5
 v5 := Try.zeroValue5
 t9 := Try.underlying9
 a9 := Try.isAgg9
 z9 := Try.sizeOf9
 v9 := Try.zeroValue9
 t22 := Try.underlying23
 a22 := Try.isAgg23
 z22 := Try.sizeOf23
 v22 := Try.zeroValue23
 t25 := Try.underlying137
 a25 := Try.isAgg137
 z25 := Try.sizeOf137
 v25 := Try.zeroValue137
 t39 := Try.underlying180
 a39 := Try.isAgg180
 z39 := Try.sizeOf180
 v39 := Try.zeroValue180
 t45 := Try.underlying191
 a45 := Try.isAgg191
 z45 := Try.sizeOf191
 v45 := Try.zeroValue191
 t46 := Try.underlying192
 a46 := Try.isAgg192
 z46 := Try.sizeOf192
 v46 := Try.zeroValue192
 t50 := Try.underlying154
 a50 := Try.isAgg154
 z50 := Try.sizeOf154
 v50 := Try.zeroValue154
 t53 := Try.underlying198
 a53 := Try.isAgg198
 z53 := Try.sizeOf198
 v53 := Try.zeroValue198
 t55 := Try.underlying200
 a55 := Try.isAgg200
 z55 := Try.sizeOf200
 v55 := Try.zeroValue200
 t66 := Try.underlying207
 a66 := Try.isAgg207
 z66 := Try.sizeOf207
 v66 := Try.zeroValue207
 t70 := Try.underlying211
 a70 := Try.isAgg211
 z70 := Try.sizeOf211
 v70 := Try.zeroValue211
 t76 := Try.underlying215
 a76 := Try.isAgg215
 z76 := Try.sizeOf215
 v76 := Try.zeroValue215
 t77 := Try.underlying122
 a77 := Try.isAgg122
 z77 := Try.sizeOf122
 v77 := Try.zeroValue122 }
def Try.lays190_ren : Go.Shelf.Ren := ⟨fun | 190 => 140 | 125 => 161 | 258 => 164 | 128 => 177 | 129 => 178 | 302 => 179 | 303 => 180 | 304 => 181 | 305 => 182 | 306 => 183 | 307 => 184 | 308 => 185 | 309 => 186 | 310 => 187 | 333 => 194 | 329 => 190 | 330 => 191 | 334 => 195 | 335 => 196 | 336 => 197 | 344 => 200 | n => n, fun | 31 => 22 | 9 => 9 | 3 => 3 | 46 => 180 | 0 => 0 | 51 => 198 | 53 => 200 | 4 => 4 | 183 => 192 | 182 => 191 | 131 => 154 | 5 => 5 | 218 => 207 | 222 => 211 | 228 => 215 | 229 => 122 | n => n, fun | n => n⟩
theorem Try.lays190 : Go.Proofs.Lays.n190 Try.prog Try.lays190_ren := {
 mixed := by kernel_rfl
 f125 := Try.func161.trans (congrArg some (by kernel_rfl))
 f128 := Try.func177.trans (congrArg some (by kernel_rfl))
 f129 := Try.func178.trans (congrArg some (by kernel_rfl))
 f190 := Try.func140.trans (congrArg some (by kernel_rfl))
 f258 := Try.func164.trans (congrArg some (by kernel_rfl))
 f302 := Try.func179.trans (congrArg some (by kernel_rfl))
 f303 := Try.func180.trans (congrArg some (by kernel_rfl))
 f304 := Try.func181.trans (congrArg some (by kernel_rfl))
 f305 := Try.func182.trans (congrArg some (by kernel_rfl))
 f306 := Try.func183.trans (congrArg some (by kernel_rfl))
 f307 := Try.func184.trans (congrArg some (by kernel_rfl))
 f308 := Try.func185.trans (congrArg some (by kernel_rfl))
 f309 := Try.func186.trans (congrArg some (by kernel_rfl))
 f310 := Try.func187.trans (congrArg some (by kernel_rfl))
 f329 := Try.func190.trans (congrArg some (by kernel_rfl))
 f330 := Try.func191.trans (congrArg some (by kernel_rfl))
 f333 := Try.func194.trans (congrArg some (by kernel_rfl))
 f334 := Try.func195.trans (congrArg some (by kernel_rfl))
 f335 := Try.func196.trans (congrArg some (by kernel_rfl))
 f336 := Try.func197.trans (congrArg some (by kernel_rfl))
 f344 := Try.func200.trans (congrArg some (by kernel_rfl))
 t0 := Try.underlying0
 a0 := Try.isAgg0
 z0 := Try.sizeOf0
 v0 := Try.zeroValue0
 t3 := Try.underlying3
 a3 := Try.isAgg3
 z3 := Try.sizeOf3
 v3 := Try.zeroValue3
 t4 := Try.underlying4
 a4 := Try.isAgg4
 z4 := Try.sizeOf4
 v4 := Try.zeroValue4
 t5 := Try.underlying5
 a5 := Try.isAgg5
 z5 := Try.sizeOf5
 v5 := Try.zeroValue5
 t9 := Try.underlying9
 a9 := Try.isAgg9
 z9 := Try.sizeOf9
 v9 := Try.zeroValue9
 t31 := Try.underlying22
 a31 := Try.isAgg22
 z31 := Try.sizeOf22
 v31 := Try.zeroValue22
 t46 := Try.underlying180
 a46 := Try.isAgg180
 z46 := Try.sizeOf180
 v46 := Try.zeroValue180
 t51 := Try.underlying198
 a51 := Try.isAgg198
 z51 := Try.sizeOf198
 v51 := Try.zeroValue198
 t53 := Try.underlying200
 a53 := Try.isAgg200
 z53 := Try.sizeOf200
 v53 := Try.zeroValue200
 t131 := Try.underlying154
 a131 := Try.isAgg154
 z131 := Try.sizeOf154
 v131 := Try.zeroValue154
 t182 := Try.underlying191
 a182 := Try.isAgg191
 z182 := Try.sizeOf191
 v182 := Try.zeroValue191
 t183 := Try.underlying192
 a183 := Try.isAgg192
 z183 := Try.sizeOf192
 v183 := Try.zeroValue192
 t218 := Try.underlying207
 a218 := Try.isAgg207
 z218 := Try.sizeOf207
 v218 := Try.zeroValue207
 t222 := Try.underlying211
 a222 := Try.isAgg211
 z222 := Try.sizeOf211
 v222 := Try.zeroValue211
 t228 := Try.underlying215
 a228 := Try.isAgg215
 z228 := Try.sizeOf215
 v228 := Try.zeroValue215
 t229 := Try.underlying122
 a229 := Try.isAgg122
 z229 := Try.sizeOf122
 v229 := Try.zeroValue122 }
open Go.Sort Go.RowKit in
theorem Try.slices_Sort_string (blk off cap : Nat) (ss : List (List UInt8)) (w : World) (hH : Holds encStr w blk off ss.toArray) (hblk : blk < w.heap.size) (hsz : ss.length < 4611686018427387904) :
  Calls Try.prog 140 #[.slice (some ⟨blk, off, none⟩) ss.length cap] w fun e w' =>
   e = .returned (.tuple #[]) ∧ ∃ n os, w' = grow (putRow encStr (Sort.ahead w n) blk off (ss.mergeSort fun x y => decide (x ≤ y)).toArray) os := Any.slices_Sort_string Try.lays190 blk off cap ss w hH hblk hsz
def Try.lays194_ren : Go.Shelf.Ren := ⟨fun | 194 => 141 | n => n, fun | 31 => 22 | 9 => 9 | 3 => 3 | 4 => 4 | 0 => 0 | n => n, fun | n => n⟩
theorem Try.lays194 : Go.Proofs.Lays.n194 Try.prog Try.lays194_ren := {
 mixed := by kernel_rfl
 f194 := Try.func141.trans (congrArg some (by kernel_rfl))
 t0 := Try.underlying0
 a0 := Try.isAgg0
 z0 := Try.sizeOf0
 v0 := Try.zeroValue0
 t3 := Try.underlying3
 a3 := Try.isAgg3
 z3 := Try.sizeOf3
 v3 := Try.zeroValue3
 t4 := Try.underlying4
 a4 := Try.isAgg4
 z4 := Try.sizeOf4
 v4 := Try.zeroValue4
 t9 := Try.underlying9
 a9 := Try.isAgg9
 z9 := Try.sizeOf9
 v9 := Try.zeroValue9
 t31 := Try.underlying22
 a31 := Try.isAgg22
 z31 := Try.sizeOf22
 v31 := Try.zeroValue22 }
open Go.RowKit Go.Lib Go.Sort in
theorem Try.slices_Compact_string (blk off cap : Nat) (zs : List (List UInt8)) (w : World) (hH : Holds encStr w blk off zs.toArray) (hsz : zs.length ≤ 9223372036854775807) (hcap : zs.length ≤ cap) :
  Calls Try.prog 141 #[.slice (some ⟨blk, off, none⟩) zs.length cap] w fun e w' => e = .returned (.slice (some ⟨blk, off, none⟩) (Lib.compact zs).length cap) ∧ ∃ q, w' = putRow encStr (Sort.ahead w q) blk off (Lib.compact zs ++ List.replicate (zs.length - (Lib.compact zs).length) []).toArray := Any.slices_Compact_string Try.lays194 blk off cap zs w hH hsz hcap
open Go.RowKit Go.Lib Go.Sort in
theorem Try.slices_Compact_string_empty (a : Option Addr) (cap : Nat) (w : World) :
  Calls Try.prog 141 #[.slice a 0 cap] w fun e w' => e = .returned (.slice a 0 cap) ∧ w' = w := Any.slices_Compact_string_empty Try.lays194 a cap w
open Go.RowKit Go.Sort in
theorem Try.slices_Sort_string_none (p : Option Addr) (cap : Nat) (w : World) :
  Calls Try.prog 140 #[.slice p 0 cap] w fun e w' => e = .returned (.tuple #[]) ∧ w' = w := Any.slices_Sort_string_none Try.lays190 p cap w
end Go.Proofs
namespace Go.Proofs.Ytmcbkmfpmcbdpaa.H
open Go.RowKit Go.Proofs Go.Sort Go.Proofs.Ytmcbkmfpmcbdpaa.Pr Go.Proofs.YtmcbkmfpmcbdpaaW.PrintWords Go.Proofs.Ytmcbkmfpmcbdpaa.Sem
def MadeS (w : World) (xs : List ByteArray) (e : Ending) (w' : World) : Prop := ∃ v : Value, e = .returned v ∧ Kd.R Kd.string 9 w' w.heap.size (fun _ => True) v xs ∧ Below w.heap.size w w'
theorem growNil0 (w : World) : Calls Try.prog 163 #[.slice none 0 0, .int .i64 0] w (MadeS w []) := by
 go_enter Try.func163, Try.ntmps163
 go_wp2
 go_ret
 exact ⟨_, rfl, Kd.R_nil _ _ _ _ _, Below.refl _ _⟩
set_option maxRecDepth 100000 in
theorem growNil1 (n : Int) (h0 : 0 < n) (hb : n ≤ 1000000000000) (w : World) : Calls Try.prog 163 #[.slice none 0 0, .int .i64 n] w (MadeS w []) := by
 have HB := Aside0.mk (Below.refl w.heap.size w)
 have h0' : 0 ≤ n := by omega
 obtain ⟨i9, hi9, hi90, hi91, hi92⟩ := info_parts info9
 go_enter Try.func163, Try.ntmps163
 go_wp2_with (at_builtin; refine Kd.R_append_zeros Kd.string (w0 := w) w.heap.size rfl (.tmp 20) (.tmp 21) 22 3 9 (.string ⟨#[]⟩) 16 rfl Try.underlying22 Try.underlying3 info9 rfl (by decide) (by omega) (.slice none 0 0) ([] : List ByteArray) (⟨#[]⟩ : ByteArray) n (fun _ => True) rfl rfl rfl (fun _ _ => trivial) (Kd.R_nil _ _ _ _ _) h0' HB.out (Nat.le_refl _) (by simp; omega) ?_; intro v1 w1 hR hB hG hat; obtain ⟨A1, c1, hv1, hle, _⟩ := Kd.R_reads hR; have H := Aside0.mk (And.intro hR hB); clear hR hB hG hat; subst hv1; have hcut := cut_to (P := Try.prog) 22 9 .i64 Try.underlying22 hi9 A1 ([] ++ List.replicate n.toNat (⟨#[]⟩ : ByteArray)).length c1 0 (by omega) (by omega) hle)
 go_ret
 exact ⟨_, rfl, by have := Kd.R_take (m := 0) H.out.1 (by simp); simpa using this, H.out.2⟩
theorem growNil (n : Int) (h0 : 0 ≤ n) (hb : n ≤ 1000000000000) (w : World) : Calls Try.prog 163 #[.slice none 0 0, .int .i64 n] w (MadeS w []) := by
 by_cases h : n = 0
 ·subst h; exact growNil0 w
 ·exact growNil1 n (by omega) hb w
theorem concat2 (xs ys : List ByteArray) (A1 A2 : Option Addr) (c1 c2 g : Nat) (w : World) (hx : Kd.C Kd.string w A1 xs.length xs) (hy : Kd.C Kd.string w A2 ys.length ys) (hb : xs.length + ys.length ≤ 1000000000000)
  (h0 : w.cell? ⟨g, 0, none⟩ = some (.slice A1 xs.length c1)) (h1 : w.cell? ⟨g, 1, none⟩ = some (.slice A2 ys.length c2)) :
  Calls Try.prog 139 #[.slice (some ⟨g, 0, none⟩) 2 2] w (MadeS w (xs ++ ys)) := by
 have HX := Lib.hid hx; clear hx
 have HY := Lib.hid hy; clear hy
 have HB := Aside0.mk (Below.refl w.heap.size w);go_enter Try.func139, Try.ntmps139
 go_wp2
 go_loop [3, 11] (fun s i => ∃ k : Nat, k ≤ 2 ∧ i = .int .i64 k ∧ s = .int .i64 (if k = 0 then 0 else if k = 1 then (xs.length : Int) else xs.length + ys.length)) (fun _ i => 2 - (intOf i).toNat)
 case atStart => exact ⟨0, by omega, rfl, rfl⟩
 case round =>
  obtain ⟨k, hk, rfl, rfl⟩ := hrel
  match k, hk with
  | 0, _ =>
   go_wp2
   go_round
   case rel => exact ⟨1, by omega, by go_num, by simp⟩
   case measure => simp [intOf]
  | 1, _ =>
   go_wp2
   go_round
   case rel => exact ⟨2, by omega, by go_num, by simp⟩
   case measure => simp [intOf]
  | 2, _ =>
   have hg : (0 : Int) ≤ (xs.length : Int) + (ys.length : Int) := by omega
   have hg2 : (xs.length : Int) + (ys.length : Int) ≤ 1000000000000 := by omega
   go_wp2_with (go_at_call 163; refine (growNil _ hg hg2 _).mono ?_; rintro e w1 ⟨v, rfl, hR, hB⟩; have HR := Aside0.mk hR; have HB1 := Aside0.mk hB; clear hR hB)
   go_loopw [6, 27] (fun v i wr => ∃ k : Nat, k ≤ 2 ∧ i = .int .i64 k ∧ Aside0 (Kd.R Kd.string 9 wr w.heap.size (fun _ => True) v (if k = 0 then [] else if k = 1 then xs else xs ++ ys)) ∧ Aside0 (Below w.heap.size w wr)) (fun _ i _ => 2 - (intOf i).toNat)
   case atStart => exact ⟨0, by omega, rfl, HR, HB1⟩
   case round =>
    obtain ⟨k, hk, rfl, HRr, HBr⟩ := hrel;clear HR HB1;have c0 := later HBr.out h0;have c1' := later HBr.out h1
    match k, hk with
    | 0, _ =>
     have HR0 : Aside0 (Kd.R Kd.string 9 wr w.heap.size (fun _ => True) u6 []) := HRr;clear HRr;go_wp2_with (at_builtin; refine Kd.R_append_row Value.string ByteArray.empty (w0 := w) w.heap.size rfl (.tmp 31) (.tmp 32) 22 9 (.string ⟨#[]⟩) 16 rfl Try.underlying22 info9 rfl (by omega) _ [] xs A1 xs.length c1 (fun _ => True) rfl rfl (fun _ _ => trivial) HR0.out (Kd.C_below HX.out HBr.out) HBr.out (HBr.out.size) (by simp; omega) ?_; intro v1 w2 hR2 hB2 _ _; have HR2 := Aside0.mk hR2; have HB2 := Aside0.mk hB2; clear hR2 hB2)
     go_roundw
     case rel => exact ⟨1, by omega, by go_num, ⟨HR2.out⟩, HB2⟩
     case measure => simp [intOf]
    | 1, _ =>
     have HR0 : Aside0 (Kd.R Kd.string 9 wr w.heap.size (fun _ => True) u6 xs) := HRr;clear HRr;go_wp2_with (at_builtin; refine Kd.R_append_row Value.string ByteArray.empty (w0 := w) w.heap.size rfl (.tmp 31) (.tmp 32) 22 9 (.string ⟨#[]⟩) 16 rfl Try.underlying22 info9 rfl (by omega) _ xs ys A2 ys.length c2 (fun _ => True) rfl rfl (fun _ _ => trivial) HR0.out (Kd.C_below HY.out HBr.out) HBr.out (HBr.out.size) (by omega) ?_; intro v1 w2 hR2 hB2 _ _; have HR2 := Aside0.mk hR2; have HB2 := Aside0.mk hB2; clear hR2 hB2)
     go_roundw
     case rel => exact ⟨2, by omega, by go_num, ⟨HR2.out⟩, HB2⟩
     case measure => simp [intOf]
    | 2, _ =>
     have HR0 : Aside0 (Kd.R Kd.string 9 wr w.heap.size (fun _ => True) u6 (xs ++ ys)) := HRr;clear HRr;go_wp2
     go_ret
     exact ⟨_, rfl, HR0.out, HBr.out⟩
def srt (xs : List ByteArray) : List ByteArray := ((xs.map fun s => s.data.toList).mergeSort fun x y => decide (x ≤ y)).map fun l => ⟨l.toArray⟩
def cmpt (xs : List ByteArray) : List ByteArray := (Lib.compact (xs.map fun s => s.data.toList)).map fun l => ⟨l.toArray⟩
theorem srt_length (xs : List ByteArray) : (srt xs).length = xs.length := by simp [srt]
theorem enc_bytes (xs : List ByteArray) : (xs.map fun s => s.data.toList).map encStr = xs.map Value.string := by
 rw [List.map_map]
 apply List.map_congr_left
 intro s _
 simp [encStr]
theorem enc_back (ls : List (List UInt8)) : ls.map encStr = (ls.map fun l => (⟨l.toArray⟩ : ByteArray)).map Value.string := by
 rw [List.map_map]
 rfl
theorem own_of_RS {w : World} {base e : Nat} {ok : Nat → Prop} {v : Value} {xs : List ByteArray} (h : Kd.R Kd.string e w base ok v xs) : w.ownsRow base e 1 v (xs.map fun s => s.data.toList).length ((xs.map fun s => s.data.toList).map encStr) := by
 rw [enc_bytes, List.length_map]
 exact Kd.own_of_R h
theorem RS_of_own {w : World} {base e n : Nat} {v : Value} {ls : List (List UInt8)} (hn : n = ls.length) (h : w.ownsRow base e 1 v n (ls.map encStr)) : Kd.R Kd.string e w base (fun _ => True) v (ls.map fun l => ⟨l.toArray⟩) :=
 Kd.R_of_own (enc := Value.string) (by rw [enc_back, hn] at h; rw [List.length_map]; exact h) (fun _ _ => trivial)
theorem sortR (base e : Nat) (v : Value) (xs : List ByteArray) (w : World) (h : Kd.R Kd.string e w base (fun _ => True) v xs) (hl : xs.length < 1000000000000) :
  Calls Try.prog 140 #[v] w fun e' w' => e' = .returned (.tuple #[]) ∧ Kd.R Kd.string e w' base (fun _ => True) v (srt xs) ∧ w.grownBy w' v.ownBlock := by
 have ho := own_of_RS h
 rcases ho.2 with ⟨hv, h0⟩ | ⟨g, cap, cur, hv, hb, hg, h1, h2, h3, h4⟩
 ·subst hv
  have hx : xs = [] := by simpa using h0
  subst hx
  refine (Try.slices_Sort_string_none none 0 w).mono ?_
  rintro e' w' ⟨rfl, rfl⟩
  refine ⟨rfl, by simpa [srt] using h, ?_⟩
  exact grown_of_below (Below.refl _ _) _
 ·subst hv
  have hH := holds_of_block (ss := xs.map fun s => s.data.toList) hg (by rw [← h4, Nat.mul_one])
  refine (Try.slices_Sort_string g 0 cap _ w hH (Array.getElem?_eq_some_iff.1 hg).1 (by rw [List.length_map]; omega)).mono ?_
  rintro e' w' ⟨rfl, n, os, rfl⟩
  refine ⟨rfl, ?_, grownBy_sorted _⟩
  have hs := ownsRow_sorted (n := n) (os := os) (ts := (xs.map fun s => s.data.toList).mergeSort fun x y => decide (x ≤ y)) (List.length_mergeSort _) hb hg h1 h2 h3
  exact RS_of_own (List.length_mergeSort _).symm hs
theorem compactR (base e : Nat) (v : Value) (xs : List ByteArray) (w : World) (h : Kd.R Kd.string e w base (fun _ => True) v xs) (hl : xs.length < 1000000000000) :
  Calls Try.prog 141 #[v] w fun e' w' => ∃ v', e' = .returned v' ∧ Kd.R Kd.string e w' base (fun _ => True) v' (cmpt xs) ∧ w.grownBy w' v.ownBlock := by
 have ho := own_of_RS h
 rcases ho.2 with ⟨hv, h0⟩ | ⟨g, cap, cur, hv, hb, hg, h1, h2, h3, h4⟩
 ·subst hv
  have hx : xs = [] := by simpa using h0
  subst hx
  refine (Try.slices_Compact_string_empty none 0 w).mono ?_
  rintro e' w' ⟨rfl, rfl⟩
  refine ⟨_, rfl, h, grown_of_below (Below.refl _ _) _⟩
 ·subst hv
  have hH := holds_of_block (ss := xs.map fun s => s.data.toList) hg (by rw [← h4, Nat.mul_one])
  refine (Try.slices_Compact_string g 0 cap _ w hH (by rw [List.length_map]; omega) h1).mono ?_
  rintro e' w' ⟨rfl, q, rfl⟩
  have hle := Lib.compact_length_le (xs.map fun s => s.data.toList)
  have hc := Lib.ownsRow_putRow (q := q) (k := (Lib.compact (xs.map fun s => s.data.toList)).length) (ys := Lib.compact (xs.map fun s => s.data.toList) ++ List.replicate ((xs.map fun s => s.data.toList).length - (Lib.compact (xs.map fun s => s.data.toList)).length) []) ho (by simp at hle ⊢; omega) hle
  rw [List.take_left] at hc
  refine ⟨_, rfl, RS_of_own rfl hc, ?_⟩
  exact grownBy_sorted (os := #[]) _
def unionS (xs ys : List ByteArray) : List ByteArray := cmpt (srt (xs ++ ys))
theorem union_any (xs ys : List ByteArray) (A1 A2 : Option Addr) (c1 c2 : Nat) (w : World) (hx : Kd.C Kd.string w A1 xs.length xs) (hy : Kd.C Kd.string w A2 ys.length ys) (hb : xs.length + ys.length < 1000000000000) :
  Calls Try.prog 108 #[.slice A1 xs.length c1, .slice A2 ys.length c2] w (MadeS w (unionS xs ys)) := by
 have HX := Lib.hid hx; clear hx
 have HY := Lib.hid hy; clear hy
 have HB := Aside0.mk (Below.refl w.heap.size w)
 go_enter Try.func108, Try.ntmps108
 go_wp2_with fail
 refine (concat2 xs ys A1 A2 c1 c2 _ _ (Kd.C_below HX.out ?_) (Kd.C_below HY.out ?_) (by omega) ?_ ?_).mono ?_
 rotate_right
 ·rintro e w1 ⟨v, rfl, hR, hB⟩
  have hR0 := Kd.R_lower (base' := w.heap.size) hR (by simp)
  have HB1 := Aside0.mk (below_then (below_alloc HB.out _) (by simp) hB)
  have HR := Aside0.mk hR0
  clear hR hB hR0
  go_wp2_with fail
  refine (sortR _ _ _ _ _ HR.out (by simp; omega)).mono ?_
  rintro e w2 ⟨rfl, hR, hG⟩
  have HR2 := Aside0.mk hR
  have HB2 := Aside0.mk (HB1.out.grown hG HB1.out.size (own_base (Kd.own_of_R HR.out)))
  clear hR hG
  go_wp2_with fail
  refine (compactR _ _ _ _ _ HR2.out (by simp [srt_length]; omega)).mono ?_
  rintro e w3 ⟨v3, rfl, hR, hG⟩
  have HR3 := Aside0.mk hR
  have HB3 := Aside0.mk (HB2.out.grown hG HB2.out.size (own_base (Kd.own_of_R HR2.out)))
  clear hR hG
  go_wp2
  go_ret
  exact ⟨_, rfl, HR3.out, HB3.out⟩
 all_goals (first | exact below_alloc HB.out _ | go_simp)
theorem list_ext_getD {α : Type} (d : α) {xs ys : List α} (hl : xs.length = ys.length) (h : ∀ j, j < xs.length → xs.getD j d = ys.getD j d) : xs = ys := by
 apply List.ext_getElem hl
 intro j h1 h2
 have := h j h1
 simpa [List.getD_eq_getElem?_getD, List.getElem?_eq_getElem h1, List.getElem?_eq_getElem h2] using this
theorem equalS (xs ys : List ByteArray) (A1 A2 : Option Addr) (c1 c2 : Nat) (w : World) (hx : Kd.C Kd.string w A1 xs.length xs) (hy : Kd.C Kd.string w A2 ys.length ys) :
  Calls Try.prog 126 #[.slice A1 xs.length c1, .slice A2 ys.length c2] w fun e w' => e = .returned (.bool (decide (xs = ys))) ∧ Drawn0 w w' := by
 by_cases hl : xs.length = ys.length
 ·have hm := C_len hx;have hq : ((xs.length : Int) != (ys.length : Int)) = false := by rw [hl]; simp
  have HX := Lib.hid hx; clear hx
  have HY := Lib.hid hy; clear hy
  have HLn := Aside0.mk hl; clear hl
  go_enter Try.func126, Try.ntmps126
  go_wp2
  go_loopw [13] (fun i wr => ∃ k : Nat, k ≤ xs.length ∧ i = .int .i64 k ∧ Aside0 (∀ j, j < k → xs.getD j ByteArray.empty = ys.getD j ByteArray.empty) ∧ Drawn0 w wr) (fun i _ => xs.length - (intOf i).toNat)
  case atStart => exact ⟨0, Nat.zero_le _, rfl, ⟨fun j hj => by omega⟩, Drawn0.refl _⟩
  case round =>
   obtain ⟨k, hk, rfl, hz, hD⟩ := hrel;by_cases hlt : k < xs.length
   ·obtain ⟨a1, hA1, h1⟩ := atS HX.out k hlt;obtain ⟨a2, hA2, h2⟩ := atS HY.out k (by rw [← HLn.out]; exact hlt);subst hA1 hA2;have g1 := later hD.below h1;have g2 := later hD.below h2;clear h1 h2;have hlt2 : k < ys.length := by rw [← HLn.out]; exact hlt
    obtain ⟨s, hs⟩ : ∃ s, s = xs.getD k ByteArray.empty := ⟨_, rfl⟩
    obtain ⟨t, ht⟩ : ∃ t, t = ys.getD k ByteArray.empty := ⟨_, rfl⟩
    rw [← hs] at g1;rw [← ht] at g2;have HS := Aside0.mk hs; clear hs
    have HT := Aside0.mk ht; clear ht
    have i1 : (k : Int) < (xs.length : Int) := by omega
    have i2 : (k : Int) < (ys.length : Int) := by omega
    have i0 : (0 : Int) ≤ (k : Int) := by omega
    cases hb : (s.toList == t.toList) with
    | false =>
     go_wp2_with fail
     go_quiet (fail)
     go_wp2
     go_ret
     refine ⟨ret_bool (decide_eq_false fun he => ?_).symm, hD.step _⟩;rw [HS.out, HT.out, he] at hb;simp at hb
    | true =>
     go_wp2_with fail
     go_quiet (fail)
     go_wp2
     go_roundw
     case rel => exact ⟨k + 1, by omega, by go_num, ⟨fun j hj => by
      rcases Nat.lt_succ_iff_lt_or_eq.1 hj with h | rfl
      ·exact hz.out j h
      ·rw [← HS.out, ← HT.out];exact ByteArray.ext (Array.toList_inj.1 (by simpa [ByteArray.toList_eq] using hb))⟩, hD.step _⟩
     case measure => simp [intOf]; omega
   ·go_wp2
    go_ret
    exact ⟨ret_bool (decide_eq_true (list_ext_getD ByteArray.empty HLn.out (fun j hj => hz.out j (by omega)))).symm, hD⟩
 ·have hq : ((xs.length : Int) != (ys.length : Int)) = true := by simp; omega
  have hn : decide (xs = ys) = false := decide_eq_false fun h => hl (by rw [h])
  rw [hn];clear hx hy hl hn;go_enter Try.func126, Try.ntmps126
  go_wp2
  go_ret
  exact ⟨rfl, Drawn0.refl _⟩
def namedB (ls : List ByteArray) : Bool := decide (ls.length ≤ 64) && (!ls.any tooLong && decide (ls = unionS ls []))
theorem named_any (ls : List ByteArray) (A : Option Addr) (c : Nat) (w : World) (hr : Kd.C Kd.string w A ls.length ls) :
  Calls Try.prog 120 #[.slice A ls.length c] w fun e w' => e = .returned (.bool (namedB ls)) ∧ Below w.heap.size w w' := by
 have HB := Aside0.mk (Below.refl w.heap.size w);have hnil := Kd.C_nil Kd.string w;by_cases h1 : (64 : Int) < (ls.length : Int)
 ·have e1 : namedB ls = false := by unfold namedB; rw [decide_eq_false (by omega)]; rfl
  rw [e1];clear hr hnil e1;go_enter Try.func120, Try.ntmps120
  go_wp2
  go_ret
  exact ⟨rfl, HB.out⟩
 ·have e0 : namedB ls = (!ls.any tooLong && decide (ls = unionS ls [])) := by unfold namedB; rw [decide_eq_true (by omega)]; rfl
  have HR := Lib.hid hr; clear hr
  have HC := Lib.hid hnil; clear hnil
  have HL := Lib.hid (anyLong ls A c w HR.out)
  cases hb : ls.any tooLong with
  | true =>
   have e1 : namedB ls = false := by rw [e0, hb]; rfl
   rw [e1];clear e0 e1;rw [hb] at HL;clear hb;go_enter Try.func120, Try.ntmps120
   go_wp2_with (go_at_call 152; refine HL.out.mono ?_; rintro e w' ⟨rfl, rfl⟩)
   go_ret
   exact ⟨rfl, HB.out⟩
  | false =>
   have e1 : namedB ls = decide (ls = unionS ls []) := by rw [e0, hb]; rfl
   rw [e1];clear e0 e1;rw [hb] at HL;clear hb;go_enter Try.func120, Try.ntmps120
   go_wp2_with (go_at_call 152; refine HL.out.mono ?_; rintro e w' ⟨rfl, rfl⟩)
   refine (union_any ls [] A none c 0 _ HR.out HC.out (by simp; omega)).mono ?_;rintro e w1 ⟨v, rfl, hR, hB⟩;obtain ⟨B1, c1, hv, hle, hC⟩ := Kd.R_reads hR;subst hv;have HB1 := Aside0.mk hB;have HC1 := Aside0.mk hC;clear hR hB hC;go_wp2_with fail
   refine (equalS ls (unionS ls []) A B1 c c1 _ (Kd.C_below HR.out HB1.out) HC1.out).mono ?_;rintro e w2 ⟨rfl, hD⟩;have HB2 := Aside0.mk (below_then HB1.out HB1.out.size hD.below);clear hD;go_wp2
   go_ret
   exact ⟨rfl, HB2.out⟩
end Go.Proofs.Ytmcbkmfpmcbdpaa.H
namespace Go.Proofs.Ytmcbkmfpmcbdpaa.H
open Go.RowKit Go.Proofs.Ytmcbkmfpmcbdpaa.Pr Go.Proofs.YtmcbkmfpmcbdpaaW.PrintWords Go.Proofs.Ytmcbkmfpmcbdpaa.Sem
theorem node_is (i n : Int) (b : Bool) (hb : decide (0 ≤ i ∧ i < n) = b) (p : Addr) (w : World) (h0 : w.cell? p = some (.int .i64 n)) :
  Calls Try.prog 121 #[.int .i64 i, .pointer (some p)] w fun e w' => e = .returned (.bool b) ∧ w = w' := by
 subst hb
 exact node_any i n p w h0
theorem compare_is (a b : Ed) (r : Bool) (hr : decide (cmpE a b < 0) = r) (w : World) : Calls Try.prog 122 #[.agg #[.int .i64 a.f0, .int .i64 a.f1, .int .i64 a.f2], .agg #[.int .i64 b.f0, .int .i64 b.f1, .int .i64 b.f2]] w fun e w' => ∃ z : Int, e = .returned (.int .i64 z) ∧ Aside0 (decide (z < 0) = r) ∧ Below w.heap.size w w' :=
 (compareE a b w).mono fun e w' ⟨he, hb⟩ => ⟨_, he, ⟨hr⟩, hb⟩
def mayB (n : Int) (ls : List ByteArray) (es : List Ed) : Bool :=
 decide (1 ≤ n) && (decide (n ≤ 2048) && (namedB ls && (decide (es.length ≤ 1000000) && (List.range es.length).all (okAt n ls.length es))))
def errB (b : Bool) : Int := if b then 0 else 1
def BoxL (w : World) (b : Nat) (n : Int) (v1 v2 : Value) : Prop := w.heap[b]? = some (.cells #[.int .i64 n, v1, v2] 25 (0, 0))
theorem BoxL.c0 {w : World} {b : Nat} {n : Int} {v1 v2 : Value} (h : BoxL w b n v1 v2) : w.cell? ⟨b, 0, none⟩ = some (.int .i64 n) := (blk_cell h 0).trans rfl
theorem BoxL.c1 {w : World} {b : Nat} {n : Int} {v1 v2 : Value} (h : BoxL w b n v1 v2) : w.cell? ⟨b, 1, none⟩ = some v1 := (blk_cell h 1).trans rfl
theorem BoxL.c2 {w : World} {b : Nat} {n : Int} {v1 v2 : Value} (h : BoxL w b n v1 v2) : w.cell? ⟨b, 2, none⟩ = some v2 := (blk_cell h 2).trans rfl
theorem BoxL.below {w w1 : World} {b : Nat} {n : Int} {v1 v2 : Value} (h : BoxL w b n v1 v2) (hb : Below w.heap.size w w1) : BoxL w1 b n v1 v2 := blk_below h hb
theorem check_size (n : Int) (ls : List ByteArray) (es : List Ed) (A1 A2 : Option Addr) (c1 c2 : Nat) (w : World) (h : n < 1 ∨ 2048 < n) :
  Calls Try.prog 72 #[.agg #[.int .i64 n, .slice A1 ls.length c1, .slice A2 es.length c2]] w fun e w' => e = .returned (.int .i64 1) ∧ Below w.heap.size w w' := by
 have HB := Aside0.mk (Below.refl w.heap.size w)
 rcases h with h | h
 ·go_enter Try.func72, Try.ntmps72
  go_wp2
  go_ret
  exact ⟨rfl, below_alloc HB.out _⟩
 ·have h' : ¬ n < 1 := by omega
  go_enter Try.func72, Try.ntmps72
  go_wp2
  go_ret
  exact ⟨rfl, below_alloc HB.out _⟩
theorem check_named (n : Int) (ls : List ByteArray) (es : List Ed) (A1 A2 : Option Addr) (c1 c2 : Nat) (w : World) (h0 : ¬ n < 1) (h1 : ¬ 2048 < n) (hr1 : Kd.C Kd.string w A1 ls.length ls) (h : namedB ls = false) :
  Calls Try.prog 72 #[.agg #[.int .i64 n, .slice A1 ls.length c1, .slice A2 es.length c2]] w fun e w' => e = .returned (.int .i64 1) ∧ Below w.heap.size w w' := by
 have HB := Aside0.mk (Below.refl w.heap.size w)
 have HN : ∀ W, Below w.heap.size w W → Calls Try.prog 120 #[.slice A1 ls.length c1] W fun e w' => e = .returned (.bool false) ∧ Below W.heap.size W w' := fun W hW => by
  have := named_any ls A1 c1 W (Kd.C_below hr1 hW)
  rwa [h] at this
 have HN' := Lib.hid HN
 clear HN hr1 h
 go_enter Try.func72, Try.ntmps72
 go_wp2_with (go_at_call 120; refine (HN'.out _ (below_alloc HB.out _)).mono ?_; rintro e w1 ⟨rfl, hB⟩; have HB1 := Aside0.mk (below_then (below_alloc HB.out _) (by simp) hB); clear hB)
 go_ret
 exact ⟨rfl, HB1.out⟩
theorem bad_at {n nl : Int} {es : List Ed} {k : Nat} (hk : k < es.length) (h : okAt n nl es k = false) : 1 = errB ((List.range es.length).all (okAt n nl es)) := by
 have : (List.range es.length).all (okAt n nl es) = false := by
  rw [Bool.eq_false_iff]
  intro he
  have := List.all_eq_true.1 he k (List.mem_range.2 hk)
  rw [h] at this
  cases this
 rw [this]; rfl
theorem quiet_same {P : Program} {f : FuncId} {args : Array Value} {w : World} {n : Nat} {v : Value} (h : Calls P f args (w.drewN n) fun e w' => e = .returned v ∧ w.drewN n = w') : Calls P f args (w.drewN n) fun e w'' => e = .returned v ∧ ∃ m, w'' = w.drewN m :=
 h.mono fun _ _ ⟨he, hw⟩ => ⟨he, n, hw.symm⟩
set_option maxHeartbeats 8000000 in
set_option maxRecDepth 100000 in
theorem check_main (n : Int) (ls : List ByteArray) (es : List Ed) (A1 A2 : Option Addr) (c1 c2 : Nat) (w : World) (h0 : ¬ n < 1) (h1 : ¬ 2048 < n) (hr1 : Kd.C Kd.string w A1 ls.length ls) (hr2 : Kd.C k80 w A2 es.length es) (h : namedB ls = true) :
  Calls Try.prog 72 #[.agg #[.int .i64 n, .slice A1 ls.length c1, .slice A2 es.length c2]] w fun e w' => e = .returned (.int .i64 (errB (decide (es.length ≤ 1000000) && (List.range es.length).all (okAt n ls.length es)))) ∧ Below w.heap.size w w' := by
 have HB := Aside0.mk (Below.refl w.heap.size w)
 have HN : ∀ W, Below w.heap.size w W → Calls Try.prog 120 #[.slice A1 ls.length c1] W fun e w' => e = .returned (.bool true) ∧ Below W.heap.size W w' := fun W hW => by
  have := named_any ls A1 c1 W (Kd.C_below hr1 hW);rwa [h] at this
 have HN' := Lib.hid HN;have hm := C_len hr2;have HR := Aside0.mk hr2;clear HN hr1 h hr2;by_cases hl : (1000000 : Int) < (es.length : Int)
 ·have e1 : errB (decide (es.length ≤ 1000000) && (List.range es.length).all (okAt n ls.length es)) = 1 := by rw [decide_eq_false (by omega)]; rfl
  rw [e1]; clear e1
  go_enter Try.func72, Try.ntmps72
  go_wp2_with fail
  refine (HN'.out _ (below_alloc HB.out _)).mono ?_; rintro e w1 ⟨rfl, hB⟩
  have HX : BoxL w1 w.heap.size n (.slice A1 ls.length c1) (.slice A2 es.length c2) := blk_below (blk_new w _) hB;have a0 := Aside0.mk (below_then (below_alloc HB.out _) (by simp) hB);have b2 := HX.c2;clear hB HX;go_wp2
  go_ret
  exact ⟨rfl, a0.out⟩
 ·have e1 : errB (decide (es.length ≤ 1000000) && (List.range es.length).all (okAt n ls.length es)) = errB ((List.range es.length).all (okAt n ls.length es)) := by rw [decide_eq_true (by omega)]; rfl
  rw [e1]; clear e1
  go_enter Try.func72, Try.ntmps72
  go_wp2_with fail
  refine (HN'.out _ (below_alloc HB.out _)).mono ?_; rintro e w1 ⟨rfl, hB⟩
  have HX := Aside0.mk (show BoxL w1 w.heap.size n (.slice A1 ls.length c1) (.slice A2 es.length c2) from blk_below (blk_new w _) hB);have a0 := Aside0.mk (below_then (below_alloc HB.out _) (by simp) hB);have b2 := HX.out.c2;clear hB;go_wp2
  clear b2;go_loopw [30] (fun i wr => ∃ k : Nat, k ≤ es.length ∧ i = .int .i64 k ∧ Aside0 (∀ j, j < k → okAt n ls.length es j = true) ∧ Aside0 (BoxL wr w.heap.size n (.slice A1 ls.length c1) (.slice A2 es.length c2)) ∧ Aside0 (Below w.heap.size w wr)) (fun i _ => es.length - (intOf i).toNat)
  case atStart => exact ⟨0, Nat.zero_le _, rfl, ⟨fun j hj => by omega⟩, HX, a0⟩
  case round =>
   obtain ⟨k, hk, rfl, hz, HXr, HBr⟩ := hrel;clear HX a0;by_cases hlt : k < es.length
   ·obtain ⟨ad, hA, g0, g1, g2⟩ := atE HR.out k hlt;subst hA;replace g0 := later HBr.out g0;replace g1 := later HBr.out g1;replace g2 := later HBr.out g2;obtain ⟨x, hx⟩ : ∃ x, x = es.getD k z80 := ⟨_, rfl⟩
    rw [← hx] at g0 g1 g2;have hx' := Aside0.mk hx; clear hx
    go_wp2_with fail
    have b0 : ∀ o, (wr.alloc o).cell? ⟨w.heap.size, 0, none⟩ = some (.int .i64 n) := fun o => (HXr.out.below (below_alloc (Below.refl _ _) o)).c0
    have b1 : ∀ o, (wr.alloc o).cell? ⟨w.heap.size, 1, none⟩ = some (.slice A1 ls.length c1) := fun o => (HXr.out.below (below_alloc (Below.refl _ _) o)).c1
    cases hF : decide (0 ≤ x.f0 ∧ x.f0 < n) with
    | false =>
     have HF := Aside0.mk hF; clear hF
     go_quiet ((first | (go_at_call_of 121 (x.f0); exact quiet_same (node_is x.f0 n _ HF.out _ _ (by go_simp)))))
     go_wp2
     go_ret
     exact ⟨ret_int (bad_at hlt (by unfold okAt; rw [← hx'.out]; rw [HF.out]; rfl)), by repeat (first | exact HBr.out | apply below_alloc | apply pw_below_drewN | apply below_drew)⟩
    | true =>
     have HF := Aside0.mk hF; clear hF
     cases hT : decide (0 ≤ x.f2 ∧ x.f2 < n) with
     | false =>
      have HT := Aside0.mk hT; clear hT
      go_quiet ((first | (go_at_call_of 121 (x.f0); exact quiet_same (node_is x.f0 n _ HF.out _ _ (by go_simp))) | (go_at_call_of 121 (x.f2); exact quiet_same (node_is x.f2 n _ HT.out _ _ (by go_simp)))))
      go_wp2
      go_ret
      exact ⟨ret_int (bad_at hlt (by unfold okAt; rw [← hx'.out]; rw [HF.out, HT.out]; rfl)), by repeat (first | exact HBr.out | apply below_alloc | apply pw_below_drewN | apply below_drew)⟩
     | true =>
      have HT := Aside0.mk hT; clear hT
      by_cases hL : x.f1 < 0
      ·have HL := Aside0.mk (show decide (0 ≤ x.f1) = false by rw [decide_eq_false (by omega)]);go_quiet ((first | (go_at_call_of 121 (x.f0); exact quiet_same (node_is x.f0 n _ HF.out _ _ (by go_simp))) | (go_at_call_of 121 (x.f2); exact quiet_same (node_is x.f2 n _ HT.out _ _ (by go_simp)))))
       go_wp2
       go_ret
       exact ⟨ret_int (bad_at hlt (by unfold okAt; rw [← hx'.out]; rw [HF.out, HT.out, HL.out]; rfl)), by repeat (first | exact HBr.out | apply below_alloc | apply pw_below_drewN | apply below_drew)⟩
      ·have HL := Aside0.mk (show decide (0 ≤ x.f1) = true by rw [decide_eq_true (by omega)]);by_cases hM : (ls.length : Int) ≤ x.f1
       ·have HM := Aside0.mk (show decide (x.f1 < (ls.length : Int)) = false by rw [decide_eq_false (by omega)]);go_quiet ((first | (go_at_call_of 121 (x.f0); exact quiet_same (node_is x.f0 n _ HF.out _ _ (by go_simp))) | (go_at_call_of 121 (x.f2); exact quiet_same (node_is x.f2 n _ HT.out _ _ (by go_simp)))))
        go_wp2
        go_ret
        exact ⟨ret_int (bad_at hlt (by unfold okAt; rw [← hx'.out]; rw [HF.out, HT.out, HL.out, HM.out]; rfl)), by repeat (first | exact HBr.out | apply below_alloc | apply pw_below_drewN | apply below_drew)⟩
       ·have HM := Aside0.mk (show decide (x.f1 < (ls.length : Int)) = true by rw [decide_eq_true (by omega)]);by_cases hK : k = 0
        ·subst hK;go_quiet ((first | (go_at_call_of 121 (x.f0); exact quiet_same (node_is x.f0 n _ HF.out _ _ (by go_simp))) | (go_at_call_of 121 (x.f2); exact quiet_same (node_is x.f2 n _ HT.out _ _ (by go_simp)))))
         go_wp2
         go_roundw
         case rel => exact ⟨1, by omega, by go_num, ⟨fun j hj => by obtain rfl : j = 0 := (by omega); unfold okAt; rw [← hx'.out, HF.out, HT.out, HL.out, HM.out]; rfl⟩, ⟨HXr.out.below (by repeat (first | exact Below.refl _ _ | apply below_alloc | apply pw_below_drewN | apply below_drew))⟩, ⟨by repeat (first | exact HBr.out | apply below_alloc | apply pw_below_drewN | apply below_drew)⟩⟩
         case measure => simp [intOf]; omega
        ·have hK' : (0 : Int) < (k : Int) := by omega
         obtain ⟨ad', hA', p0, p1, p2⟩ := atE HR.out (k - 1) (by omega)
         cases hA';replace p0 := later HBr.out p0;replace p1 := later HBr.out p1;replace p2 := later HBr.out p2;obtain ⟨y, hy⟩ : ∃ y, y = es.getD (k - 1) z80 := ⟨_, rfl⟩
         rw [← hy] at p0 p1 p2;have hy' := Aside0.mk hy;clear hy;have q0 := fun o => later (below_alloc (Below.refl wr.heap.size wr) o) p0
         have q1 := fun o => later (below_alloc (Below.refl wr.heap.size wr) o) p1
         have q2 := fun o => later (below_alloc (Below.refl wr.heap.size wr) o) p2
         clear p0 p1 p2;have i0 : (0 : Int) ≤ (k : Int) - 1 := by omega
         have d1 : decide (x.f1 < 0) = false := decide_eq_false hL;have d2 : decide ((ls.length : Int) ≤ x.f1) = false := decide_eq_false hM;have a1 : IntKind.i64.wrap ((k : Int) - 1) = (k : Int) - 1 := by rw [IntKind.wrap_i64]; omega
         have a2 : ((k : Int) - 1).toNat = k - 1 := by omega
         have j0 : (1 : Int) ≤ (k : Int) := by omega
         have j1 : (k : Int) < (es.length : Int) + 1 := by omega
         have j2 : 1 ≤ k := by omega
         have j3 : k - 1 < es.length := by omega
         have j4 : (k : Int) ≤ (es.length : Int) := by omega
         have d4 : decide (0 < k) = true := decide_eq_true (by omega);have d3 : decide ((0 : Int) < (k : Int)) = true := decide_eq_true hK';have i1 : (k : Int) - 1 < (es.length : Int) := by omega
         have b2 : ∀ o, (wr.alloc o).cell? ⟨w.heap.size, 2, none⟩ = some (.slice (some ad) es.length c2) := fun o => (HXr.out.below (below_alloc (Below.refl _ _) o)).c2
         go_region_held3 (fun w' => w'.cell? ⟨w.heap.size, 0, none⟩ = some (.int .i64 n) ∧ w'.cell? ⟨w.heap.size, 1, none⟩ = some (.slice A1 ls.length c1) ∧ w'.cell? ⟨w.heap.size, 2, none⟩ = some (.slice (some ad) es.length c2) ∧ w'.cell? ⟨wr.heap.size, 0, none⟩ = some (.int .i64 x.f0) ∧ w'.cell? ⟨wr.heap.size, 1, none⟩ = some (.int .i64 x.f1) ∧ w'.cell? ⟨wr.heap.size, 2, none⟩ = some (.int .i64 x.f2) ∧ w'.cell? (ad.add ((k - 1) * 3)) = some (.int .i64 y.f0) ∧ w'.cell? ⟨(ad.add ((k - 1) * 3)).block, (ad.add ((k - 1) * 3)).off + 1, none⟩ = some (.int .i64 y.f1) ∧ w'.cell? ⟨(ad.add ((k - 1) * 3)).block, (ad.add ((k - 1) * 3)).off + 2, none⟩ = some (.int .i64 y.f2)) (first | go_keep | (refine ⟨later hB ?_, later hB ?_, later hB ?_, later hB ?_, later hB ?_, later hB ?_, later hB ?_, later hB ?_, later hB ?_⟩ <;> go_keep)) (first | (go_at_call_of 121 (x.f0); refine (node_is x.f0 n _ HF.out _ _ (by go_keep)).mono ?_; rintro e w' ⟨rfl, rfl⟩) | (go_at_call_of 121 (x.f2); refine (node_is x.f2 n _ HT.out _ _ (by go_keep)).mono ?_; rintro e w' ⟨rfl, rfl⟩) | (go_at_call 122; refine (compare_is y x _ rfl _).mono ?_; rintro e w' ⟨z, rfl, hz', hB⟩))
         clear a1 a2 j0 j1 j2 j3 j4 q0 q1 q2;have HW := Aside0.mk (below_then (show Below w.heap.size w _ by repeat (first | exact HBr.out | apply below_alloc | apply pw_below_drewN | apply below_drew)) (below_size (by repeat (first | exact HBr.out | apply below_alloc | apply pw_below_drewN | apply below_drew))) hB);have HXw := Aside0.mk ((HXr.out.below (show Below wr.heap.size wr _ by repeat (first | exact Below.refl _ _ | apply below_alloc | apply pw_below_drewN | apply below_drew))).below hB);clear hB;by_cases hneg : z < 0
         ·have HC := Aside0.mk (show decide (cmpE y x < 0) = true by rw [← hz'.out]; exact decide_eq_true hneg);go_wp2
          go_roundw
          case rel => exact ⟨k + 1, by omega, by go_num, ⟨fun j hj => by
           rcases Nat.lt_succ_iff_lt_or_eq.1 hj with h | rfl
           ·exact hz.out j h
           ·unfold okAt; rw [← hx'.out, ← hy'.out, HF.out, HT.out, HL.out, HM.out, HC.out]; simp⟩, HXw, HW⟩
          case measure => simp [intOf]; omega
         ·have HC := Aside0.mk (show decide (cmpE y x < 0) = false by rw [← hz'.out]; exact decide_eq_false hneg);go_wp2
          go_ret
          exact ⟨ret_int (bad_at hlt (by unfold okAt; rw [← hx'.out, ← hy'.out, HF.out, HT.out, HL.out, HM.out, HC.out, decide_eq_false hK]; rfl)), HW.out⟩
   ·go_wp2
    go_ret
    refine ⟨ret_int ?_, HBr.out⟩;have : (List.range es.length).all (okAt n ls.length es) = true := List.all_eq_true.2 fun j hj => hz.out j (by have := List.mem_range.1 hj; omega)
    rw [this]; rfl
theorem check_any (n : Int) (ls : List ByteArray) (es : List Ed) (A1 A2 : Option Addr) (c1 c2 : Nat) (w : World) (hr1 : Kd.C Kd.string w A1 ls.length ls) (hr2 : Kd.C k80 w A2 es.length es) :
  Calls Try.prog 72 #[.agg #[.int .i64 n, .slice A1 ls.length c1, .slice A2 es.length c2]] w fun e w' => e = .returned (.int .i64 (errB (mayB n ls es))) ∧ Below w.heap.size w w' := by
 unfold mayB
 by_cases h0 : n < 1
 ·rw [decide_eq_false (by omega)]
  exact check_size n ls es A1 A2 c1 c2 w (.inl h0)
 ·rw [decide_eq_true (show 1 ≤ n by omega), Bool.true_and]
  by_cases h1 : 2048 < n
  ·rw [decide_eq_false (by omega)]
   exact check_size n ls es A1 A2 c1 c2 w (.inr h1)
  ·rw [decide_eq_true (show n ≤ 2048 by omega), Bool.true_and]
   cases h : namedB ls with
   | false => exact check_named n ls es A1 A2 c1 c2 w h0 h1 hr1 h
   | true =>
    rw [Bool.true_and]
    exact check_main n ls es A1 A2 c1 c2 w h0 h1 hr1 hr2 h
theorem check_yes (n : Int) (ls : List ByteArray) (es : List Ed) (A1 A2 : Option Addr) (c1 c2 : Nat) (w : World) (hr1 : Kd.C Kd.string w A1 ls.length ls) (hr2 : Kd.C k80 w A2 es.length es) (h : mayB n ls es = true) :
  Calls Try.prog 72 #[.agg #[.int .i64 n, .slice A1 ls.length c1, .slice A2 es.length c2]] w fun e w' => e = .returned (.int .i64 0) ∧ Below w.heap.size w w' := by
 have := check_any n ls es A1 A2 c1 c2 w hr1 hr2
 rwa [h] at this
theorem check_no (n : Int) (ls : List ByteArray) (es : List Ed) (A1 A2 : Option Addr) (c1 c2 : Nat) (w : World) (hr1 : Kd.C Kd.string w A1 ls.length ls) (hr2 : Kd.C k80 w A2 es.length es) (h : mayB n ls es = false) :
  Calls Try.prog 72 #[.agg #[.int .i64 n, .slice A1 ls.length c1, .slice A2 es.length c2]] w fun e w' => e = .returned (.int .i64 1) ∧ Below w.heap.size w w' := by
 have := check_any n ls es A1 A2 c1 c2 w hr1 hr2
 rwa [h] at this
theorem info80 : (Try.prog.info? 80).map (fun i => (i.zero, i.size, i.bytes)) = some (some (.agg #[(.int .i64 0), (.int .i64 0), (.int .i64 0)]), 3, 24) := by kernel_rfl
abbrev nilS : Value := .slice none 0 0
structure Tab {α : Type} (d : Kd α) (e T : Nat) (w : World) (base g : Nat) (vs : List Value) (xss : List (List α)) : Prop where
  len : vs.length = xss.length
  blk : w.heap[g]? = some (.cells vs.toArray T (0, 0))
  row : ∀ i, i < vs.length → d.R e w base (fun _ => True) (vs.getD i nilS) (xss.getD i [])
  apart : ∀ i j k, i < vs.length → j < vs.length → (vs.getD i nilS).ownBlock = some k → (vs.getD j nilS).ownBlock = some k → i = j
section
variable {α : Type} {d : Kd α} {e T : Nat} {w w1 : World} {base g : Nat} {vs : List Value} {xss : List (List α)}
theorem Tab.lt (h : Tab d e T w base g vs xss) : g < w.heap.size := (Array.getElem?_eq_some_iff.1 h.blk).1
theorem Tab.below (h : Tab d e T w base g vs xss) (hb : Below w.heap.size w w1) : Tab d e T w1 base g vs xss :=
 ⟨h.len, (hb.block g h.lt).trans h.blk, fun i hi => Kd.R_below (h.row i hi) hb, h.apart⟩
theorem Tab.grown (hE : d.E = []) (h : Tab d e T w base g vs xss) {b : Nat} {o : Obj} (hb : w.heap[b]? = some o) (ho : ∀ c t fr, o = .cells c t fr → t ≠ T ∧ t ≠ e) (hg : w.grownBy w1 (some b)) : Tab d e T w1 base g vs xss := by
 have hbg : some g ≠ some b := by
  intro hh
  cases hh
  rw [h.blk] at hb
  cases hb
  exact (ho _ _ _ rfl).1 rfl
 refine ⟨h.len, (hg.block g h.lt hbg).trans h.blk, fun i hi => Kd.R_grown1 (h.row i hi) hE hg ?_, h.apart⟩
 intro hh
 obtain ⟨cells, hc⟩ := Kd.R_typed (h.row i hi) b hh.symm
 rw [hc] at hb
 cases hb
 exact (ho _ _ _ rfl).2 rfl
theorem Tab.start (n : Nat) (hblk : w.heap[g]? = some (.cells (madeCells #[nilS] n) T (0, 0))) : Tab d e T w base g (List.replicate n nilS) (List.replicate n []) where
 len := by simp
 blk := by
  rw [hblk, ← toList_madeCells_one]
 row := fun i hi => by
  have hi' : i < n := by simpa using hi
  rw [show (List.replicate n nilS).getD i nilS = nilS by simp [List.getD_eq_getElem?_getD, List.getElem?_replicate, hi'], show (List.replicate n ([] : List α)).getD i [] = [] by simp [List.getD_eq_getElem?_getD, List.getElem?_replicate, hi']]
  exact Kd.R_nil _ _ _ _ _
 apart := fun i j k hi hj hk => by
  have hi' : i < n := by simpa using hi
  rw [show (List.replicate n nilS).getD i nilS = nilS by simp [List.getD_eq_getElem?_getD, List.getElem?_replicate, hi']] at hk
  simp [nilS, Value.ownBlock] at hk
theorem Tab.cell (h : Tab d e T w base g vs xss) (i : Nat) (hi : i < xss.length) : w.cell? ⟨g, i, none⟩ = some (vs.getD i nilS) := by
 have h1 := blk_cell h.blk i
 rw [h1]
 have : i < vs.length := by rw [h.len]; exact hi
 simp [List.getD_eq_getElem?_getD, List.getElem?_eq_getElem this]
theorem Tab.read (h : Tab d e T w base g vs xss) (i : Nat) (hi : i < xss.length) : ∃ A c, vs.getD i nilS = .slice A (xss.getD i []).length c ∧ w.cell? ⟨g, i, none⟩ = some (.slice A (xss.getD i []).length c) ∧ d.C w A (xss.getD i []).length (xss.getD i []) := by
 obtain ⟨A, c, hv, _, hC⟩ := Kd.R_reads (h.row i (by rw [h.len]; exact hi))
 exact ⟨A, c, hv, by rw [h.cell i hi, hv], hC⟩
theorem Tab.frozen {b? : Option Nat} (h : Tab d e T w base g vs xss) (i : Nat) (hg : w.grownBy w1 b?) (hne : some g ≠ b?) : w1.frozen? ⟨g, i, none⟩ = false := by
 unfold World.frozen?
 simp only [(hg.block g h.lt hne).trans h.blk]
 simp
theorem Tab.put (hE : d.E = []) (hT : e ≠ T) (h : Tab d e T w base g vs xss) (i : Nat) (hi : i < xss.length) {v1 : Value} {ys : List α} (hR : d.R e w1 base (fun _ => True) v1 ys) (hg : w.grownBy w1 (vs.getD i nilS).ownBlock)
  (hat : v1.ownBlock = (vs.getD i nilS).ownBlock ∨ ∃ b, v1.ownBlock = some b ∧ w.heap.size ≤ b) : Tab d e T (w1.setCell ⟨g, i, none⟩ v1) base g (vs.set i v1) (xss.set i ys) := by
 have hi' : i < vs.length := by rw [h.len]; exact hi
 have hrow : ∀ j, j < vs.length → some g ≠ (vs.getD j nilS).ownBlock := fun j hj => Kd.R_ne (h.row j hj) h.blk hT
 have hgb : w1.heap[g]? = some (.cells vs.toArray T (0, 0)) := (hg.block g h.lt (hrow i hi')).trans h.blk
 have hset : (w1.setCell ⟨g, i, none⟩ v1).heap[g]? = some (.cells (vs.set i v1).toArray T (0, 0)) := by
  simp [World.setCell, Array.getElem?_modify, hgb]
 have hv1 : some g ≠ v1.ownBlock := Kd.R_ne hR hgb hT
 have gd : ∀ j, j < vs.length → (vs.set i v1).getD j nilS = if j = i then v1 else vs.getD j nilS := by
  intro j hj;by_cases e0 : j = i
  ·subst e0; simp [List.getD_eq_getElem?_getD, List.getElem?_set, hj]
  ·rw [if_neg e0]; simp [List.getD_eq_getElem?_getD, List.getElem?_set, Ne.symm e0]
 have gx : ∀ j, j < vs.length → (xss.set i ys).getD j [] = if j = i then ys else xss.getD j [] := by
  intro j hj;rw [h.len] at hj;by_cases e0 : j = i
  ·subst e0; simp [List.getD_eq_getElem?_getD, List.getElem?_set, hj]
  ·rw [if_neg e0]; simp [List.getD_eq_getElem?_getD, List.getElem?_set, Ne.symm e0]
 refine ⟨by simp [h.len], hset, fun j hj => ?_, fun j k b hj hk hjb hkb => ?_⟩
 ·have hj' : j < vs.length := by simpa using hj
  rw [gd j hj', gx j hj'];by_cases e0 : j = i
  ·rw [if_pos e0, if_pos e0];exact Kd.R_mono (Kd.R_far (Kd.R_far1 hR hE hv1) (fun k hk => hk.2) v1) (fun _ _ => trivial)
  ·rw [if_neg e0, if_neg e0]
   have hne : (vs.getD i nilS).ownBlock ≠ (vs.getD j nilS).ownBlock ∨ (vs.getD i nilS).ownBlock = none := by
    cases hb : (vs.getD i nilS).ownBlock with
    | none => exact .inr rfl
    | some b =>
     left
     intro hh;exact e0 (h.apart j i b hj' hi' hh.symm hb)
   have hR1 : d.R e w1 base (fun _ => True) (vs.getD j nilS) (xss.getD j []) :=
    Kd.R_grown2 (h.row j hj') hE hg (fun k hk hh => e0 (h.apart j i k hj' hi' hh.symm hk))
   exact Kd.R_mono (Kd.R_far (Kd.R_far1 hR1 hE (hrow j hj')) (fun k hk => hk.2) v1) (fun _ _ => trivial)
 ·have hj' : j < vs.length := by simpa using hj
  have hk' : k < vs.length := by simpa using hk
  rw [gd j hj'] at hjb;rw [gd k hk'] at hkb
  have key : ∀ m, m < vs.length → m ≠ i → (vs.getD m nilS).ownBlock = some b → v1.ownBlock = some b → False := by
   intro m hm hmi h1 h2;rcases hat with hat | ⟨b', hb', hlt⟩
   ·exact hmi (h.apart m i b hm hi' h1 (by rw [← hat]; exact h2))
   ·rw [h2] at hb'
    cases hb';exact absurd (Kd.R_lt (h.row m hm) b h1) (Nat.not_lt.2 hlt)
  by_cases ej : j = i <;> by_cases ek : k = i
  ·rw [ej, ek]
  ·rw [if_pos ej] at hjb; rw [if_neg ek] at hkb
   exact (key k hk' ek hkb hjb).elim
  ·rw [if_neg ej] at hjb; rw [if_pos ek] at hkb
   exact (key j hj' ej hjb hkb).elim
  ·rw [if_neg ej] at hjb; rw [if_neg ek] at hkb
   exact h.apart j k b hj' hk' hjb hkb
end
end Go.Proofs.Ytmcbkmfpmcbdpaa.H
namespace Go.Proofs.Ytmcbkmfpmcbdpaa.H
open Go.RowKit Go.Proofs.Ytmcbkmfpmcbdpaa.Pr Go.Proofs.YtmcbkmfpmcbdpaaW.PrintWords Go.Proofs.Ytmcbkmfpmcbdpaa.Sem
open Go.Maps (Keyed)
def lessP (S : Int → Int → Bool) (a b : Int) : Int → Int → Bool := fun x y => S x y && !(decide (x = a) && decide (y = b))
section
variable {w w1 : World} {m n : Nat} {S : Int → Int → Bool}
end
end Go.Proofs.Ytmcbkmfpmcbdpaa.H
namespace Go.Proofs.Ytmcbkmfpmcbdpaa.H
open Go.RowKit Go.Proofs.Ytmcbkmfpmcbdpaa.Pr Go.Proofs.YtmcbkmfpmcbdpaaW.PrintWords Go.Proofs.Ytmcbkmfpmcbdpaa.Sem
def labAt (ls : List ByteArray) (i : Nat) : Bool := !tooLong (ls.getD i ByteArray.empty) && (decide (i = 0) || Op.bytesLess (ls.getD (i - 1) ByteArray.empty).toList (ls.getD i ByteArray.empty).toList)
def okAt' (n nl : Int) (es : List Ed) (k : Nat) : Bool :=
 decide (0 ≤ (es.getD k z80).f0 ∧ (es.getD k z80).f0 < n) && (decide (0 ≤ (es.getD k z80).f2 ∧ (es.getD k z80).f2 < n) &&
  (decide (0 ≤ (es.getD k z80).f1) && (decide ((es.getD k z80).f1 < nl) && (decide (k = 0) || decide (elt (es.getD (k - 1) z80) (es.getD k z80))))))
def mayR (n : Int) (ls : List ByteArray) (es : List Ed) : Bool :=
 decide (1 ≤ n) && (decide (n ≤ 2048) && (decide (ls.length ≤ 64) && (decide (es.length ≤ 1000000) && ((List.range ls.length).all (labAt ls) && (List.range es.length).all (okAt' n ls.length es)))))
theorem bytesLess_lt : ∀ (x y : List UInt8), Op.bytesLess x y = decide (x < y)
 | [], [] => by simp [Op.bytesLess]
 | _ :: _, [] => by simp [Op.bytesLess]
 | [], _ :: _ => by simp [Op.bytesLess]
 | a :: x, b :: y => by
  rw [Op.bytesLess, bytesLess_lt x y]
  simp only [List.cons_lt_cons_iff]
  by_cases h1 : a < b <;> by_cases h2 : a = b <;> by_cases h3 : x < y <;> simp [h1, h2, h3]
theorem okAt_same (n nl : Int) (es : List Ed) (k : Nat) : okAt n nl es k = okAt' n nl es k := by
 unfold okAt okAt'
 rw [decide_eq_decide.2 (cmpE_neg _ _)]
theorem compact_sub (zs : List (List UInt8)) : List.Sublist (Lib.compact zs) zs := by
 unfold Lib.compact Lib.compactUpTo
 have h := (List.filter_sublist (p := Lib.keeps zs.toArray) (l := List.range zs.length)).map (zs.toArray[·]!)
 have e := Lib.range_map_get zs.toArray
 simp only [List.size_toArray] at e
 rw [e] at h
 simpa using h
theorem back_inj {xs ys : List (List UInt8)} (h : (xs.map fun l => (⟨l.toArray⟩ : ByteArray)) = ys.map fun l => ⟨l.toArray⟩) : xs = ys := by
 have := congrArg (List.map fun s : ByteArray => s.data.toList) h
 simpa [List.map_map, Function.comp_def] using this
theorem back_fwd (ls : List ByteArray) : ((ls.map fun s => s.data.toList).map fun l => (⟨l.toArray⟩ : ByteArray)) = ls := by
 rw [List.map_map]
 simp [Function.comp_def]
theorem union_nil (ls : List ByteArray) : unionS ls [] = (Lib.compact ((ls.map fun s => s.data.toList).mergeSort fun x y => decide (x ≤ y))).map fun l => ⟨l.toArray⟩ := by
 unfold unionS cmpt srt
 rw [List.append_nil]
 congr 2
 rw [List.map_map]
 simp [Function.comp_def]
theorem rising_iff (L : List (List UInt8)) : L = Lib.compact (L.mergeSort fun x y => decide (x ≤ y)) ↔ ∀ k, 0 < k → k < L.length → L.getD (k - 1) [] < L.getD k [] := by
 have tr : ∀ a b c : List UInt8, decide (a ≤ b) = true → decide (b ≤ c) = true → decide (a ≤ c) = true := by
  intro a b c h1 h2;simp only [decide_eq_true_eq] at h1 h2 ⊢;exact List.le_trans h1 h2
 have tot : ∀ a b : List UInt8, (decide (a ≤ b) || decide (b ≤ a)) = true := by
  intro a b;simp only [Bool.or_eq_true, decide_eq_true_eq];exact List.le_total a b
 constructor
 ·intro h
  have hlen : (L.mergeSort fun x y => decide (x ≤ y)).length ≤ (Lib.compact (L.mergeSort fun x y => decide (x ≤ y))).length := by
   rw [← h, List.length_mergeSort];exact Nat.le_refl _
  have he := (compact_sub (L.mergeSort fun x y => decide (x ≤ y))).eq_of_length_le hlen;have hs : L = L.mergeSort fun x y => decide (x ≤ y) := h.trans he
  have hp : L.Pairwise fun x y => x ≤ y := by
   have := List.pairwise_mergeSort (le := fun x y : List UInt8 => decide (x ≤ y)) tr tot L;rw [← hs] at this;exact this.imp (by intro a b h; simpa using h)
  intro k h0 hk
  have hle : L.getD (k - 1) [] ≤ L.getD k [] := by
   rw [List.getD_eq_getElem?_getD, List.getD_eq_getElem?_getD, List.getElem?_eq_getElem hk, List.getElem?_eq_getElem (show k - 1 < L.length by omega)];exact List.pairwise_iff_getElem.1 hp (k - 1) k (by omega) hk (by omega)
  have hne : L.getD k [] ≠ L.getD (k - 1) [] := by
   intro e
   have hkeep : Lib.keeps L.toArray k = false := by
    apply Lib.keeps_neg h0;rw [getElem!_pos _ _ (by simpa using hk), getElem!_pos _ _ (by simp; omega)];rw [List.getD_eq_getElem?_getD, List.getD_eq_getElem?_getD, List.getElem?_eq_getElem hk, List.getElem?_eq_getElem (show k - 1 < L.length by omega)] at e;simpa using e
   have hl2 : (Lib.compact L).length < L.length := by
    unfold Lib.compact Lib.compactUpTo;rw [List.length_map];have := List.length_filter_lt_length_iff_exists (p := Lib.keeps L.toArray) (l := List.range L.length);have h2 := this.2 ⟨k, List.mem_range.2 hk, by simp [hkeep]⟩;simpa using h2
   rw [hs] at hl2;rw [he] at hl2;exact Nat.lt_irrefl _ hl2
  exact Std.lt_of_le_of_ne hle (fun e => hne e.symm)
 ·intro h
  have hp : L.Pairwise fun x y => x < y := by
   rw [List.pairwise_iff_getElem];intro i j hi hj hij
   induction j with
   | zero => omega
   | succ j ih =>
    have hs := h (j + 1) (by omega) hj;rw [List.getD_eq_getElem?_getD, List.getD_eq_getElem?_getD, List.getElem?_eq_getElem hj, List.getElem?_eq_getElem (show j + 1 - 1 < L.length by omega)] at hs;simp only [Nat.add_sub_cancel, Option.getD_some] at hs;by_cases e : i = j
    ·subst e; exact hs
    ·exact List.lt_trans (ih (by omega) (by omega)) hs
  have hm : (L.mergeSort fun x y => decide (x ≤ y)) = L := by
   apply List.mergeSort_of_pairwise;exact hp.imp (by intro a b h; simpa using List.le_of_lt h)
  rw [hm];refine (Lib.compact_all L fun j hj => ?_).symm;by_cases h0 : j = 0
  ·subst h0; simp [Lib.keeps]
  ·apply Lib.keeps_pos;rw [getElem!_pos _ _ (by simpa using hj), getElem!_pos _ _ (by simp; omega)];have := List.pairwise_iff_getElem.1 hp (j - 1) j (by omega) hj (by omega);intro e;simp only [List.getElem_toArray] at e;rw [← e] at this;exact List.lt_irrefl _ this
theorem named_same (ls : List ByteArray) : namedB ls = (decide (ls.length ≤ 64) && (List.range ls.length).all (labAt ls)) := by
 unfold namedB;congr 1
 rw [Bool.eq_iff_iff];simp only [Bool.and_eq_true, Bool.not_eq_true', decide_eq_true_eq, List.all_eq_true, List.mem_range, labAt, Bool.or_eq_true]
 have hu : ls = unionS ls [] ↔ ∀ k, 0 < k → k < ls.length → (ls.getD (k - 1) ByteArray.empty).data.toList < (ls.getD k ByteArray.empty).data.toList := by
  have hr := rising_iff (ls.map fun s => s.data.toList);rw [union_nil]
  have e1 : (ls = (Lib.compact ((ls.map fun s => s.data.toList).mergeSort fun x y => decide (x ≤ y))).map fun l => ⟨l.toArray⟩) ↔ ((ls.map fun s => s.data.toList) = Lib.compact ((ls.map fun s => s.data.toList).mergeSort fun x y => decide (x ≤ y))) := by
   constructor
   ·intro h;apply back_inj;rw [back_fwd];exact h
   ·intro h;rw [← h, back_fwd]
  rw [e1, hr]
  have g : ∀ k, k < ls.length → (ls.map fun s => s.data.toList).getD k [] = (ls.getD k ByteArray.empty).data.toList := by
   intro k hk;simp [List.getD_eq_getElem?_getD, List.getElem?_map, List.getElem?_eq_getElem hk]
  constructor
  ·intro h k h0 hk;have := h k h0 (by simpa using hk);rwa [g k hk, g (k - 1) (by omega)] at this
  ·intro h k h0 hk;rw [List.length_map] at hk;rw [g k hk, g (k - 1) (by omega)];exact h k h0 hk
 rw [hu];constructor
 ·rintro ⟨h1, h2⟩ k hk;refine ⟨?_, ?_⟩
  ·have : ls.getD k ByteArray.empty ∈ ls := by
    rw [List.getD_eq_getElem?_getD, List.getElem?_eq_getElem hk];exact List.getElem_mem hk
   rw [Bool.eq_false_iff];intro e;have h3 : ls.any tooLong = true := List.any_eq_true.2 ⟨_, this, e⟩;rw [h1] at h3
   cases h3
  ·by_cases h0 : k = 0
   ·exact Or.inl h0
   ·right
    rw [bytesLess_lt];simp only [ByteArray.toList_eq, decide_eq_true_eq];exact h2 k (by omega) hk
 ·intro h;refine ⟨?_, ?_⟩
  ·rw [List.any_eq_false];intro s hs;obtain ⟨k, hk, rfl⟩ := List.getElem_of_mem hs;have := (h k hk).1;rw [List.getD_eq_getElem?_getD, List.getElem?_eq_getElem hk] at this;simpa using this
  ·intro k h0 hk;rcases (h k hk).2 with h2 | h2
   ·omega
   ·rw [bytesLess_lt] at h2;simp only [ByteArray.toList_eq, decide_eq_true_eq] at h2;exact h2
theorem may_same (n : Int) (ls : List ByteArray) (es : List Ed) : mayB n ls es = mayR n ls es := by
 unfold mayB mayR
 rw [named_same, show (okAt n (ls.length : Int) es) = okAt' n (ls.length : Int) es from funext fun k => okAt_same n _ es k]
 cases decide (1 ≤ n) <;> cases decide (n ≤ 2048) <;> cases decide (ls.length ≤ 64) <;> cases (List.range ls.length).all (labAt ls) <;> simp
end Go.Proofs.Ytmcbkmfpmcbdpaa.H
namespace Go.Proofs.Ytmcbkmfpmcbdpaa.H
open Go.RowKit Go.Proofs.Ytmcbkmfpmcbdpaa.Pr Go.Proofs.YtmcbkmfpmcbdpaaW.PrintWords Go.Proofs.Ytmcbkmfpmcbdpaa.Sem Go.Proofs.YtmcbkmfpmcbdpaaW.PrintLast
abbrev Pair := S71
theorem take_snoc {α : Type} (d : α) {xs : List α} {k : Nat} (hk : k < xs.length) : xs.take (k + 1) = xs.take k ++ [xs.getD k d] := by
 rw [List.take_add_one, List.getElem?_eq_getElem hk, List.getD_eq_getElem?_getD, List.getElem?_eq_getElem hk]
 rfl
def relS (rel : List Pair) : Int → Int → Bool := fun a b => rel.any fun p => decide (p.f0 = a) && decide (p.f1 = b)
theorem n_le {n : Int} {ls : List ByteArray} {es : List Ed} (h : mayR n ls es = true) : 1 ≤ n ∧ n ≤ 2048 := by
 unfold mayR at h
 simp only [Bool.and_eq_true, decide_eq_true_eq] at h
 exact ⟨h.1, h.2.1⟩
theorem es_le {n : Int} {ls : List ByteArray} {es : List Ed} (h : mayR n ls es = true) : es.length ≤ 1000000 := by
 unfold mayR at h
 simp only [Bool.and_eq_true, decide_eq_true_eq] at h
 exact h.2.2.2.1
end Go.Proofs.Ytmcbkmfpmcbdpaa.H
namespace Go.Proofs.Ytmcbkmfpmcbdpaa.H
open Go.RowKit Go.Proofs.Ytmcbkmfpmcbdpaa.Pr Go.Proofs.YtmcbkmfpmcbdpaaW.PrintWords Go.Proofs.Ytmcbkmfpmcbdpaa.Sem
theorem Ev.pos {α : Type} {c : Prop} [Decidable c] {a b : Nat → Option α} {r : α} (h : c) (e : Ev a r) : Ev (fun k => if c then a k else b k) r := by
 simp only [if_pos h]
 exact e
theorem Ev.neg {α : Type} {c : Prop} [Decidable c] {a b : Nat → Option α} {r : α} (h : ¬ c) (e : Ev b r) : Ev (fun k => if c then a k else b k) r := by
 simp only [if_neg h]
 exact e
theorem Ev.some_ {α : Type} {a : Nat → Option α} {r : α} (h : ∀ k, a k = some r) : Ev a r := ⟨0, fun k _ => h k⟩
theorem Ev.bindS {α β : Type} {g : Option α} {f : Nat → α → Option β} {a : α} {r : β} (h : g = some a) (k : Ev (fun n => f n a) r) : Ev (fun n => g.bind (f n)) r := by
 subst h
 simpa using k
theorem Ev.last {α : Type} {g : Nat → Option α} {r : α} (h : Ev g r) : Ev (fun n => (g n).bind fun t => some t) r := by
 obtain ⟨K, h⟩ := h
 exact ⟨K, fun k hk => by simp [h k hk]⟩
theorem w1 {i : Int} (h0 : 0 ≤ i) (h1 : i < 4611686018427387904) : wrap64 (i + 1) = i + 1 := by unfold wrap64; omega
theorem w1n {k : Nat} (h1 : (k : Int) < 4611686018427387904) : wrap64 ((k : Int) + 1) = ((k + 1 : Nat) : Int) := by unfold wrap64; omega
theorem wid {i : Int} (h0 : -4611686018427387904 ≤ i) (h1 : i < 4611686018427387904) : wrap64 i = i := by unfold wrap64; omega
end Go.Proofs.Ytmcbkmfpmcbdpaa.H
namespace Go.Proofs.Ytmcbkmfpmcbdpaa.H
open Go.RowKit Go.Proofs.Ytmcbkmfpmcbdpaa.Pr Go.Proofs.YtmcbkmfpmcbdpaaW.PrintWords Go.Proofs.Ytmcbkmfpmcbdpaa.Sem Go.Proofs.YtmcbkmfpmcbdpaaW.PrintLast
def outE (es : List Ed) (i : Int) : List Ed := es.filter fun e => decide (e.f0 = i)
def answers (S : Int → Int → Bool) (turned : Bool) (e f : Ed) : Bool := (e.f1 == f.f1) && (if turned then S f.f2 e.f2 else S e.f2 f.f2)
def followsB (es : List Ed) (S : Int → Int → Bool) (turned : Bool) (a b : Int) : Bool :=
 (outE es (if turned then b else a)).all fun e => (outE es (if turned then a else b)).any fun f => answers S turned e f
theorem all_no {α : Type} (d : α) {p : α → Bool} {xs : List α} {k : Nat} (hk : k < xs.length) (h : p (xs.getD k d) = false) : xs.all p = false := by
 rw [Bool.eq_false_iff]
 intro he
 have := List.all_eq_true.1 he (xs.getD k d) (by rw [List.getD_eq_getElem?_getD, List.getElem?_eq_getElem hk]; exact List.getElem_mem hk)
 rw [h] at this
 cases this
theorem all_yes {α : Type} (d : α) {p : α → Bool} {xs : List α} {k : Nat} (hk : ¬ k < xs.length) (h : ∀ j, j < k → p (xs.getD j d) = true) : xs.all p = true := by
 rw [List.all_eq_true]
 intro x hx
 obtain ⟨j, hj, rfl⟩ := List.getElem_of_mem hx
 have := h j (by omega)
 rwa [List.getD_eq_getElem?_getD, List.getElem?_eq_getElem hj] at this
def light26 (n : Int) (ls : List ByteArray) (es : List Ed) : Bool :=
 (ls.take 70).all (fun s => decide (s.size ≤ 300)) && (decide (ls.length < 70) && (decide (es.length ≤ 200) && (decide (n ≤ 60) || decide (2048 < n))))
theorem take_getD {α : Type} (d : α) {xs : List α} {k m : Nat} (hk : k < m) : (xs.take m).getD k d = xs.getD k d := by
 simp [List.getD_eq_getElem?_getD, List.getElem?_take, hk]
set_option maxRecDepth 100000 in
theorem light26_any (n : Int) (ls : List ByteArray) (es : List Ed) (A1 A2 : Option Addr) (c1 c2 : Nat) (w : World) (hr1 : Kd.C Kd.string w A1 ls.length ls) (hl2 : es.length ≤ 9223372036854775807) :
  Calls Try.prog 66 #[.agg #[.int .i64 n, .slice A1 ls.length c1, .slice A2 es.length c2]] w fun e w' => e = .returned (.bool (light26 n ls es)) ∧ Below w.heap.size w w' := by
 have a5 := C_len hr1;have a3 := Aside0.mk hr1;clear hr1;have a2 := Aside0.mk (Below.refl w.heap.size w);go_enter Try.func66, Try.ntmps66
 go_wp2
 go_loopw [3] (fun i wr => ∃ k : Nat, k ≤ ls.length ∧ k ≤ 70 ∧ i = .int .i64 k ∧ Aside0 (∀ j, j < k → decide ((ls.getD j ByteArray.empty).size ≤ 300) = true) ∧ Aside0 (BoxL wr w.heap.size n (.slice A1 ls.length c1) (.slice A2 es.length c2)) ∧ Aside0 (Below w.heap.size w wr)) (fun i _ => ls.length - (intOf i).toNat)
 case atStart => exact ⟨0, Nat.zero_le _, by omega, rfl, ⟨fun j hj => by omega⟩, ⟨blk_new w _⟩, ⟨below_alloc a2.out _⟩⟩
 case round =>
  obtain ⟨k, hk, a4, rfl, hz, HXr, HBr⟩ := hrel;have b1 := HXr.out.c1;by_cases hlt : k < ls.length ∧ k < 70
  ·obtain ⟨a0, a1⟩ := hlt;obtain ⟨ad, hA, g0⟩ := atS a3.out k a0;subst hA;replace g0 := later HBr.out g0;obtain ⟨s, hs⟩ : ∃ s, s = ls.getD k ByteArray.empty := ⟨_, rfl⟩
   rw [← hs] at g0;have hs' := Aside0.mk hs; clear hs
   by_cases hL : (300 : Int) < (s.size : Int)
   ·have HBad := Aside0.mk (show light26 n ls es = false by
     unfold light26;rw [all_no ByteArray.empty (k := k) (by rw [List.length_take]; omega) (by rw [take_getD _ a1, ← hs'.out]; exact decide_eq_false (by omega))];rfl)
    go_wp2
    go_ret
    exact ⟨ret_bool HBad.out.symm, HBr.out⟩
   ·have HOk := Aside0.mk (show decide (s.size ≤ 300) = true from decide_eq_true (by omega));go_wp2
    go_roundw
    case rel => exact ⟨k + 1, by omega, by omega, by go_num, ⟨fun j hj => by
     rcases Nat.lt_succ_iff_lt_or_eq.1 hj with h | rfl
     ·exact hz.out j h
     ·rw [← hs'.out]; exact HOk.out⟩, HXr, HBr⟩
    case measure => simp [intOf]; omega
  ·have HAll := Aside0.mk (show (ls.take 70).all (fun s => decide (s.size ≤ 300)) = true from
    all_yes ByteArray.empty (k := k) (by rw [List.length_take]; omega) (fun j hj => by rw [take_getD _ (by omega)]; exact hz.out j hj))
   have b0 := HXr.out.c0;have b2 := HXr.out.c2;have e0 : light26 n ls es = (decide (ls.length < 70) && (decide (es.length ≤ 200) && (decide (n ≤ 60) || decide (2048 < n)))) := by unfold light26; rw [HAll.out, Bool.true_and]
   have E0 := Aside0.mk e0;clear e0;by_cases q0 : (k : Int) < (ls.length : Int)
   ·have q1 : ¬ (k : Int) < 70 := by omega
    have q2 : ¬ (ls.length : Int) < 70 := by omega
    have HF := Aside0.mk (show (decide (ls.length < 70) && (decide (es.length ≤ 200) && (decide (n ≤ 60) || decide (2048 < n)))) = false by rw [decide_eq_false (by omega)]; rfl);go_wp2
    go_ret
    exact ⟨ret_bool (E0.out.trans HF.out).symm, HBr.out⟩
   ·by_cases q2 : (ls.length : Int) < 70
    ·by_cases q3 : (es.length : Int) ≤ 200
     ·by_cases q4 : n ≤ 60
      ·have HF := Aside0.mk (show (decide (ls.length < 70) && (decide (es.length ≤ 200) && (decide (n ≤ 60) || decide (2048 < n)))) = true by rw [decide_eq_true (by omega), decide_eq_true (by omega), decide_eq_true q4]; rfl);go_wp2
       go_ret
       exact ⟨ret_bool (E0.out.trans HF.out).symm, HBr.out⟩
      ·have HF := Aside0.mk (show (decide (ls.length < 70) && (decide (es.length ≤ 200) && (decide (n ≤ 60) || decide (2048 < n)))) = decide (2048 < n) by rw [decide_eq_true (by omega), decide_eq_true (by omega), decide_eq_false q4]; rfl);go_wp2
       go_ret
       exact ⟨ret_bool (E0.out.trans HF.out).symm, HBr.out⟩
     ·have HF := Aside0.mk (show (decide (ls.length < 70) && (decide (es.length ≤ 200) && (decide (n ≤ 60) || decide (2048 < n)))) = false by rw [decide_eq_true (by omega), decide_eq_false (by omega)]; rfl);go_wp2
      go_ret
      exact ⟨ret_bool (E0.out.trans HF.out).symm, HBr.out⟩
    ·have HF := Aside0.mk (show (decide (ls.length < 70) && (decide (es.length ≤ 200) && (decide (n ≤ 60) || decide (2048 < n)))) = false by rw [decide_eq_false (by omega)]; rfl);go_wp2
     go_ret
     exact ⟨ret_bool (E0.out.trans HF.out).symm, HBr.out⟩
end Go.Proofs.Ytmcbkmfpmcbdpaa.H
namespace Go.Proofs.Ytmcbkmfpmcbdpaa.Sem
open Go.Proofs.Ytmcbkmfpmcbdpaa.Pr
def insE (e : Ed) : List Ed → List Ed
 | [] => [e]
 | x :: r => if elt e x then e :: x :: r else if cmpE e x = 0 then x :: r else x :: insE e r
def sortE (es : List Ed) : List Ed := es.foldl (fun o e => insE e o) []
def hop (t : List Bool) (e : Ed) : List Bool := if t.getD e.f0.toNat false && !t.getD e.f2.toNat false then t.set e.f2.toNat true else t
def sweepT (es : List Ed) (t : List Bool) : List Bool := es.foldl hop t
def closeT (es : List Ed) : Nat → List Bool → List Bool
 | 0, t => t
 | k + 1, t => closeT es k (sweepT es t)
def reachT (n : Nat) (es : List Ed) (v : Int) : List Bool := closeT es n ((List.replicate n false).set v.toNat true)
def Shut (es : List Ed) (t : List Bool) : Prop := ∀ e ∈ es, t.getD e.f0.toNat false = true → t.getD e.f2.toNat false = true
end Go.Proofs.Ytmcbkmfpmcbdpaa.Sem
namespace Go.Proofs.Ytmcbkmfpmcbdpaa.H
open Go.RowKit Go.Proofs.Ytmcbkmfpmcbdpaa.Pr Go.Proofs.YtmcbkmfpmcbdpaaW.PrintWords Go.Proofs.Ytmcbkmfpmcbdpaa.Sem
theorem getD_get {α : Type} {xs : List α} {d : α} {k : Nat} (h : k < xs.length) : xs.getD k d = xs[k] := by
 rw [List.getD_eq_getElem?_getD, List.getElem?_eq_getElem h]; rfl
set_option maxHeartbeats 4000000 in
set_option maxRecDepth 100000 in
theorem clone_any (es : List Ed) (A : Option Addr) (c : Nat) (w : World) (hC : Kd.C k80 w A es.length es) (hel : es.length ≤ 1000000) :
  Calls Try.prog 132 #[.slice A es.length c] w fun e w' => ∃ v0 : Value, e = .returned v0 ∧ Kd.R k80 80 w' w.heap.size (fun _ => True) v0 es ∧ Below w.heap.size w w' := by
 have HC := Aside0.mk hC;have HB := Aside0.mk (Below.refl w.heap.size w);rcases A with _ | ad
 ·have h0 : es.length = 0 := by
   rcases Nat.eq_zero_or_pos es.length with h | h
   ·exact h
   ·obtain ⟨ad, h, _⟩ := hC.2.2 h
    cases h
  obtain rfl : es = [] := List.eq_nil_of_length_eq_zero h0;clear hC HC h0;have q_ : ∀ (W : World) (a : Option Addr) (n c n' c' : Nat), (binOp .eql 23 (.slice a n c) (.slice none n' c')).run Try.prog W = .ok (.bool a.isNone) W := fun W a n c n' c' => Lib.run_eql_slice_nil W _ _ a n c n' c' Try.underlying23
  go_enter Try.func132, Try.ntmps132
  go_wp2
  go_ret
  exact ⟨_, rfl, Kd.R_nil _ _ _ _ _, HB.out⟩
 ·clear hC;have q_ : ∀ (W : World) (a : Option Addr) (n c n' c' : Nat), (binOp .eql 23 (.slice a n c) (.slice none n' c')).run Try.prog W = .ok (.bool a.isNone) W := fun W a n c n' c' => Lib.run_eql_slice_nil W _ _ a n c n' c' Try.underlying23
  go_enter Try.func132, Try.ntmps132
  go_wp2_with (first
   | ((with_reducible refine gate_dst (N := 5) rfl ?_); refine Kd.R_lit k80 _ 80 ?hg (N := 5) ?hd (xs := ([] : List Ed)) (inner := []) (ok := fun _ => True) (okp := fun _ => True) ?hr ?hp (fun _ hk => hk) trivial (Below.refl _ _) (Nat.le_refl _) (by simp) ?_; (case hd => rfl); (case hg => rfl); (case hr => first | (go_simp; done) | (go_simp; rfl)); (case hp => exact (Reps.none _ _)); intro v1 w1 ho hb hg_ hnew_; clear hg_ hnew_; have HO := Aside0.mk ho; have HB1 := Aside0.mk (below_step HB.out hb); clear ho hb)
   | (at_builtin; refine Kd.R_append_rows k80 (w0 := w) w.heap.size rfl (.tmp 5) (.tmp 6) 23 80 (.agg #[(.int .i64 0), (.int .i64 0), (.int .i64 0)]) 24 rfl Try.underlying23 info80 rfl (by decide) (by omega) v1 [] es (some ad) _ c (fun _ => True) (fun _ => False) rfl rfl HO.out (Kd.C_below HC.out HB1.out) (fun _ _ h => h) (fun _ h => h.elim) (fun _ _ => trivial) HB1.out HB1.out.size (by simp; omega) ?_; intro v2 w2 ho hb hg hat; have HO2 := Aside0.mk ho; have HB2 := Aside0.mk hb; clear ho hb hg hat))
  go_ret
  exact ⟨_, rfl, by simpa using HO2.out, HB2.out⟩
theorem lt_n {n : Int} {ls : List ByteArray} {es : List Ed} (h : mayR n ls es = true) : 1 ≤ n ∧ n ≤ 2048 := by
 unfold mayR at h
 simp only [Bool.and_eq_true, decide_eq_true_eq] at h
 exact ⟨h.1, h.2.1⟩
theorem lt_ok {n : Int} {ls : List ByteArray} {es : List Ed} (h : mayR n ls es = true) {k : Nat} (hk : k < es.length) : okAt' n ls.length es k = true := by
 unfold mayR at h
 simp only [Bool.and_eq_true, decide_eq_true_eq] at h
 exact List.all_eq_true.1 h.2.2.2.2.2 k (List.mem_range.2 hk)
end Go.Proofs.Ytmcbkmfpmcbdpaa.H
namespace Go.Proofs.Ytmcbkmfpmcbdpaa.PL
section
variable {α : Type} {lt : α → α → Prop}
theorem uniqueG (ir : ∀ a, ¬ lt a a) (tr : ∀ a b c, lt a b → lt b c → lt a c) : ∀ (a b : List α), a.Pairwise lt → b.Pairwise lt → (∀ x, x ∈ a ↔ x ∈ b) → a = b
 | [], [], _, _, _ => rfl
 | [], y :: r, _, _, h => by have := (h y).2 (List.mem_cons_self ..); cases this
 | x :: r, [], _, _, h => by have := (h x).1 (List.mem_cons_self ..); cases this
 | x :: r, y :: s, ha, hb, h => by
  have ha' := List.pairwise_cons.1 ha
  have hb' := List.pairwise_cons.1 hb
  have e : x = y := by
   rcases List.mem_cons.1 ((h x).1 (List.mem_cons_self ..)) with q | q
   ·exact q
   ·rcases List.mem_cons.1 ((h y).2 (List.mem_cons_self ..)) with q2 | q2
    ·exact q2.symm
    ·exact absurd (tr _ _ _ (hb'.1 x q) (ha'.1 y q2)) (ir y)
  subst e
  rw [uniqueG ir tr r s ha'.2 hb'.2 fun z => ?_]
  have hz := h z
  constructor
  ·intro q
   rcases List.mem_cons.1 (hz.1 (List.mem_cons_of_mem _ q)) with rfl | q2
   ·exact absurd (ha'.1 _ q) (ir _)
   ·exact q2
  ·intro q
   rcases List.mem_cons.1 (hz.2 (List.mem_cons_of_mem _ q)) with rfl | q2
   ·exact absurd (hb'.1 _ q) (ir _)
   ·exact q2
def insG [DecidableRel lt] (s : α) : List α → List α
 | [] => [s]
 | x :: r => if lt s x then s :: x :: r else if lt x s then x :: insG s r else x :: r
def uniG [DecidableRel lt] (l : List α) : List α := l.foldl (fun o s => insG (lt := lt) s o) []
variable [DecidableRel lt]
theorem insG_mem (tri : ∀ a b, ¬ lt a b → ¬ lt b a → a = b) (e x : α) : ∀ l, x ∈ insG (lt := lt) e l ↔ x = e ∨ x ∈ l
 | [] => by simp [insG]
 | y :: r => by
  unfold insG
  split
  ·simp
  ·rename_i h1
   split
   ·rw [List.mem_cons, insG_mem tri e x r, List.mem_cons]
    constructor
    ·rintro (h | h | h)
     ·exact .inr (.inl h)
     ·exact .inl h
     ·exact .inr (.inr h)
    ·rintro (h | h | h)
     ·exact .inr (.inl h)
     ·exact .inl h
     ·exact .inr (.inr h)
   ·rename_i h2
    obtain rfl := tri _ _ h1 h2
    simp
theorem insG_sorted (tr : ∀ a b c, lt a b → lt b c → lt a c) (tri : ∀ a b, ¬ lt a b → ¬ lt b a → a = b) (e : α) : ∀ l, l.Pairwise lt → (insG (lt := lt) e l).Pairwise lt
 | [], _ => by simp [insG]
 | y :: r, h => by
  have h' := List.pairwise_cons.1 h
  unfold insG
  split
  ·rename_i q
   refine List.pairwise_cons.2 ⟨fun x hx => ?_, h⟩
   rcases List.mem_cons.1 hx with rfl | hx
   ·exact q
   ·exact tr _ _ _ q (h'.1 x hx)
  ·split
   ·rename_i q
    refine List.pairwise_cons.2 ⟨fun x hx => ?_, insG_sorted tr tri e r h'.2⟩
    rcases (insG_mem tri e x r).1 hx with rfl | hx
    ·exact q
    ·exact h'.1 x hx
   ·exact h
theorem uniG_fold (tr : ∀ a b c, lt a b → lt b c → lt a c) (tri : ∀ a b, ¬ lt a b → ¬ lt b a → a = b) : ∀ (es o : List α), o.Pairwise lt → (es.foldl (fun o s => insG (lt := lt) s o) o).Pairwise lt ∧ ∀ x, x ∈ es.foldl (fun o s => insG (lt := lt) s o) o ↔ x ∈ es ∨ x ∈ o
 | [], o, h => ⟨h, fun x => by simp⟩
 | e :: r, o, h => by
  have ih := uniG_fold tr tri r (insG (lt := lt) e o) (insG_sorted tr tri e o h)
  refine ⟨ih.1, fun x => ?_⟩
  rw [List.foldl_cons, ih.2 x, insG_mem tri, List.mem_cons]
  constructor
  ·rintro (h | h | h)
   ·exact .inl (.inr h)
   ·exact .inl (.inl h)
   ·exact .inr h
  ·rintro ((h | h) | h)
   ·exact .inr (.inl h)
   ·exact .inl h
   ·exact .inr (.inr h)
theorem uniG_sorted (tr : ∀ a b c, lt a b → lt b c → lt a c) (tri : ∀ a b, ¬ lt a b → ¬ lt b a → a = b) (l : List α) : (uniG (lt := lt) l).Pairwise lt := (uniG_fold tr tri l [] List.Pairwise.nil).1
theorem uniG_mem (tr : ∀ a b c, lt a b → lt b c → lt a c) (tri : ∀ a b, ¬ lt a b → ¬ lt b a → a = b) (l : List α) (x : α) : x ∈ uniG (lt := lt) l ↔ x ∈ l := by
 have := (uniG_fold tr tri l [] List.Pairwise.nil).2 x
 rw [show uniG (lt := lt) l = l.foldl (fun o s => insG (lt := lt) s o) [] from rfl, this]
 simp
end
section
variable {α : Type} [DecidableEq α]
def ddG : List α → List α
 | [] => []
 | [a] => [a]
 | a :: b :: r => if a = b then ddG (b :: r) else a :: ddG (b :: r)
theorem ddG_mem (x : α) : ∀ l, x ∈ ddG l ↔ x ∈ l
 | [] => by simp [ddG]
 | [a] => by simp [ddG]
 | a :: b :: r => by
  have ih := ddG_mem x (b :: r)
  unfold ddG
  split
  ·rename_i h
   subst h
   rw [ih]
   simp
  ·rw [List.mem_cons, ih, List.mem_cons (a := x) (b := a)]
theorem ddG_strict {lt : α → α → Prop} (tr : ∀ a b c, lt a b → lt b c → lt a c) : ∀ l : List α, l.Pairwise (fun a b => a = b ∨ lt a b) → (ddG l).Pairwise lt
 | [], _ => by simp [ddG]
 | [a], _ => by simp [ddG]
 | a :: b :: r, h => by
  have h' := List.pairwise_cons.1 h
  have ih := ddG_strict tr (b :: r) h'.2
  unfold ddG
  split
  ·exact ih
  ·rename_i q
   refine List.pairwise_cons.2 ⟨fun x hx => ?_, ih⟩
   have hab : lt a b := by
    rcases h'.1 b (List.mem_cons_self ..) with e | e
    ·exact absurd e q
    ·exact e
   rcases List.mem_cons.1 ((ddG_mem x (b :: r)).1 hx) with rfl | hx
   ·exact hab
   ·rcases (List.pairwise_cons.1 h'.2).1 x hx with e | e
    ·rw [← e]; exact hab
    ·exact tr _ _ _ hab e
theorem ddG_snoc : ∀ (l : List α) (b a : α), ddG (l ++ [b, a]) = if b = a then ddG (l ++ [b]) else ddG (l ++ [b]) ++ [a]
 | [], b, a => by
  show ddG [b, a] = _
  unfold ddG
  by_cases q : b = a
  ·rw [if_pos q, if_pos q, q]; rfl
  ·rw [if_neg q, if_neg q]; rfl
 | [x], b, a => by
  have ih := ddG_snoc [] b a
  show ddG (x :: b :: [a]) = _
  show _ = if b = a then ddG (x :: b :: []) else ddG (x :: b :: []) ++ [a]
  unfold ddG
  rw [show ddG [b, a] = _ from ih]
  split
  ·split <;> rfl
  ·split <;> rfl
 | x :: y :: r, b, a => by
  have ih := ddG_snoc (y :: r) b a
  show ddG (x :: y :: (r ++ [b, a])) = _
  show _ = if b = a then ddG (x :: y :: (r ++ [b])) else ddG (x :: y :: (r ++ [b])) ++ [a]
  unfold ddG
  rw [show ddG (y :: (r ++ [b, a])) = _ from ih]
  split
  ·rfl
  ·split <;> rfl
end
end Go.Proofs.Ytmcbkmfpmcbdpaa.PL
namespace Go.Proofs.Ytmcbkmfpmcbdpaa.H
open Go.RowKit Go.Proofs.Ytmcbkmfpmcbdpaa.Pr Go.Proofs.YtmcbkmfpmcbdpaaW.PrintWords Go.Proofs.Ytmcbkmfpmcbdpaa.Sem Go.Proofs.Ytmcbkmfpmcbdpaa.PL
theorem compact_ddG {α : Type} [Inhabited α] [DecidableEq α] (es : List α) : Lib.compact es = ddG es := by
 have : ∀ m, m ≤ es.length → Lib.compactUpTo es.toArray m = ddG (es.take m) := by
  intro m
  induction m with
  | zero => intro _; simp [Lib.compactUpTo, ddG]
  | succ m ih =>
   intro h
   have hm : m < es.length := by omega
   have e0 : es.toArray[m]! = es[m] := by rw [getElem!_pos es.toArray m (by simpa using hm)]; simp
   rw [Lib.compactUpTo_succ, ih (by omega), e0]
   rw [List.take_add_one, List.getElem?_eq_getElem hm]
   cases m with
   | zero => simp [Lib.keeps, ddG]
   | succ m =>
    have hm' : m < es.length := by omega
    have e1 : es.toArray[m]! = es[m] := by rw [getElem!_pos es.toArray m (by simpa using hm')]; simp
    have ek : Lib.keeps es.toArray (m + 1) = decide (es[m] ≠ es[m + 1]) := by
     unfold Lib.keeps
     rw [e0, show m + 1 - 1 = m from rfl, e1]
     rw [decide_eq_decide]
     constructor
     ·rintro (h | h)
      ·omega
      ·exact fun q => h q.symm
     ·exact fun h => .inr fun q => h q.symm
    rw [ek, List.take_add_one, List.getElem?_eq_getElem hm']
    simp only [Option.toList_some, List.append_assoc, List.cons_append, List.nil_append]
    rw [ddG_snoc]
    by_cases q : es[m] = es[m + 1]
    ·simp [q]
    ·simp [q]
 unfold Lib.compact
 rw [this _ (Nat.le_refl _), List.take_length]
def slt (a b : ByteArray) : Prop := a.data.toList < b.data.toList
instance : DecidableRel slt := fun a b => by unfold slt; infer_instance
theorem slt_irr (a : ByteArray) : ¬ slt a a := List.lt_irrefl _
theorem slt_tr (a b c : ByteArray) (h1 : slt a b) (h2 : slt b c) : slt a c := List.lt_trans h1 h2
theorem slt_tri (a b : ByteArray) (h1 : ¬ slt a b) (h2 : ¬ slt b a) : a = b := by
 have : a.data.toList = b.data.toList := List.le_antisymm (show a.data.toList ≤ b.data.toList from h2) h1
 exact ByteArray.ext (Array.toList_inj.1 this)
def uniS (l : List ByteArray) : List ByteArray := uniG (lt := slt) l
theorem uniS_sorted (l : List ByteArray) : (uniS l).Pairwise slt := uniG_sorted slt_tr slt_tri l
theorem uniS_mem (l : List ByteArray) (x : ByteArray) : x ∈ uniS l ↔ x ∈ l := uniG_mem slt_tr slt_tri l x
theorem unionS_uni (xs ys : List ByteArray) : unionS xs ys = uniS (xs ++ ys) := by
 have e : unionS xs ys = (ddG (((xs ++ ys).map fun s => s.data.toList).mergeSort fun x y => decide (x ≤ y))).map fun l => (⟨l.toArray⟩ : ByteArray) := by
  unfold unionS cmpt srt
  rw [← compact_ddG]
  congr 2
  rw [List.map_map]
  simp [Function.comp_def]
 rw [e]
 have hp := List.pairwise_mergeSort (le := fun x y : List UInt8 => decide (x ≤ y)) (fun a b c h1 h2 => by
  simp only [decide_eq_true_eq] at h1 h2 ⊢
  exact List.le_trans h1 h2) (fun a b => by
  simp only [Bool.or_eq_true, decide_eq_true_eq]
  exact List.le_total a b) ((xs ++ ys).map fun s => s.data.toList)
 have hs := ddG_strict (lt := fun x y : List UInt8 => x < y) (fun a b c => List.lt_trans) _ (hp.imp (fun {a b} h => by
  simp only [decide_eq_true_eq] at h
  rcases List.le_iff_lt_or_eq.1 h with q | q
  ·exact .inr q
  ·exact .inl q))
 refine uniqueG slt_irr slt_tr _ _ ?_ (uniS_sorted _) fun x => ?_
 ·rw [List.pairwise_map]
  exact hs.imp (fun {a b} h => by show (⟨a.toArray⟩ : ByteArray).data.toList < (⟨b.toArray⟩ : ByteArray).data.toList; simpa using h)
 ·rw [uniS_mem, List.mem_map]
  constructor
  ·rintro ⟨l, hl, rfl⟩
   rw [ddG_mem, (List.mergeSort_perm _ _).mem_iff, List.mem_map] at hl
   obtain ⟨s, hs, rfl⟩ := hl
   simpa using hs
  ·intro hx
   refine ⟨x.data.toList, ?_, by simp⟩
   rw [ddG_mem, (List.mergeSort_perm _ _).mem_iff, List.mem_map]
   exact ⟨x, hx, rfl⟩
end Go.Proofs.Ytmcbkmfpmcbdpaa.H
namespace Go.Proofs.Ytmcbkmfpmcbdpaa.H
open Go.RowKit Go.Proofs.Ytmcbkmfpmcbdpaa.Pr Go.Proofs.YtmcbkmfpmcbdpaaW.PrintWords Go.Proofs.Ytmcbkmfpmcbdpaa.Sem
def _root_.Go.Proofs.Ytmcbkmfpmcbdpaa.Pr.semblanceref26_Lighty.f (k : Nat) (a0_0 : Int) (l0_1 : List ByteArray) (l0_2 : List S80) : Option Bool := some (light26 a0_0 l0_1 l0_2)
theorem _root_.Go.Proofs.Ytmcbkmfpmcbdpaa.Pr.semblanceref26_Lighty.calls (k : Nat) (a0_0 : Int) (A0_1 : Option Addr) (c0_1 : Nat) (l0_1 : List ByteArray) (A0_2 : Option Addr) (c0_2 : Nat) (l0_2 : List S80) (r : Bool) (w : World) (hr0_1 : Kd.C Kd.string w A0_1 l0_1.length l0_1) (hc0_1 : l0_1.length ≤ c0_1) (hr0_2 : Kd.C k80 w A0_2 l0_2.length l0_2) (hc0_2 : l0_2.length ≤ c0_2) (h : semblanceref26_Lighty.f k a0_0 l0_1 l0_2 = some r) :
  Calls Try.prog 66 #[.agg #[.int .i64 a0_0, .slice A0_1 l0_1.length c0_1, .slice A0_2 l0_2.length c0_2]] w fun e w' => e = .returned (.bool r) ∧ Below w.heap.size w w' := by
 obtain rfl := Option.some.inj h
 exact light26_any a0_0 l0_1 l0_2 A0_1 A0_2 c0_1 c0_2 w hr0_1 (C_len hr0_2)
def SmallL (n : Int) (ls : List ByteArray) (es : List Ed) : Prop := (n ≤ 60 ∨ 2048 < n) ∧ es.length ≤ 200 ∧ ls.length < 70
end Go.Proofs.Ytmcbkmfpmcbdpaa.H
namespace Go.Proofs.Ytmcbkmfpmcbdpaa.Pr
open Go.RowKit Go.Proofs.Ytmcbkmfpmcbdpaa.H Go.Proofs.YtmcbkmfpmcbdpaaW.PrintWords Go.Proofs.YtmcbkmfpmcbdpaaW.PrintLast Go.Proofs.YtmcbkmfpmcbdpaaW.PrintMore
def Pxe.f (l0 : List ByteArray) (l1 : List ByteArray) : Option (List ByteArray) := if l0.length + l1.length < 1000000000000 then some (H.uniS (l0 ++ l1)) else none
theorem Pxe.calls (A0 : Option Addr) (c0 : Nat) (l0 : List ByteArray) (A1 : Option Addr) (c1 : Nat) (l1 : List ByteArray) (r : List ByteArray) (w : World) (hr0 : Kd.C Kd.string w A0 l0.length l0) (hc0 : l0.length ≤ c0) (hr1 : Kd.C Kd.string w A1 l1.length l1) (hc1 : l1.length ≤ c1) (h : Pxe.f l0 l1 = some r) :
  Calls Try.prog 108 #[.slice A0 l0.length c0, .slice A1 l1.length c1] w fun e w' => ∃ v0_ : Value, e = .returned (v0_) ∧ Kd.R Kd.string 9 w' w.heap.size (fun _ => True) v0_ r ∧ Below w.heap.size w w' := by
 unfold Pxe.f at h
 split at h
 ·rename_i hn
  simp only [Option.some.injEq] at h
  subst h
  rw [← H.unionS_uni]
  exact H.union_any l0 l1 A0 A1 c0 c1 w hr0 hr1 hn
 ·cases h
def lightB (n : Int) (ls : List ByteArray) (es : List S80) : Bool := light26 n ls es
theorem lightB_ev (n : Int) (ls : List ByteArray) (es : List S80) : Ev (fun k => semblanceref26_Lighty.f k n ls es) (lightB n ls es) := Ev.now _
theorem lightB_small {n : Int} {ls : List ByteArray} {es : List S80} (h : lightB n ls es = true) : SmallL n ls es := by
 have h : light26 n ls es = true := h
 unfold light26 at h
 simp only [Bool.and_eq_true, Bool.or_eq_true, decide_eq_true_eq] at h
 exact ⟨h.2.2.2, h.2.2.1, h.2.1⟩
def Pl50c.f (a0_0 : Int) (l0_1 : List ByteArray) (l0_2 : List S80) (a1_0 : Int) (l1_1 : List ByteArray) (l1_2 : List S80) : Option Bool :=
 some (lightB a0_0 l0_1 l0_2 && (lightB a1_0 l1_1 l1_2 && ((decide (a0_0 ≤ 6) || decide (2048 < a0_0)) && ((decide (a1_0 ≤ 6) || decide (2048 < a1_0)) && (decide ((l0_1.length : Int) ≤ 6) && decide ((l1_1.length : Int) ≤ 6))))))
theorem three_ (n : Int) : (decide (n ≤ 6) = true ∧ decide (2048 < n) = false) ∨ (decide (n ≤ 6) = false ∧ decide (2048 < n) = true) ∨ (decide (n ≤ 6) = false ∧ decide (2048 < n) = false) := by
 by_cases h1 : n ≤ 6
 ·exact .inl ⟨decide_eq_true h1, decide_eq_false (by omega)⟩
 ·by_cases h2 : 2048 < n
  ·exact .inr (.inl ⟨decide_eq_false h1, decide_eq_true h2⟩)
  ·exact .inr (.inr ⟨decide_eq_false h1, decide_eq_false h2⟩)
set_option maxHeartbeats 8000000 in
set_option maxRecDepth 100000 in
theorem Pl50c.calls (a0_0 : Int) (A0_1 : Option Addr) (c0_1 : Nat) (l0_1 : List ByteArray) (A0_2 : Option Addr) (c0_2 : Nat) (l0_2 : List S80) (a1_0 : Int) (A1_1 : Option Addr) (c1_1 : Nat) (l1_1 : List ByteArray) (A1_2 : Option Addr) (c1_2 : Nat) (l1_2 : List S80) (r : Bool) (w : World) (hr0_1 : Kd.C Kd.string w A0_1 l0_1.length l0_1) (hc0_1 : l0_1.length ≤ c0_1) (hr0_2 : Kd.C k80 w A0_2 l0_2.length l0_2) (hc0_2 : l0_2.length ≤ c0_2) (hr1_1 : Kd.C Kd.string w A1_1 l1_1.length l1_1) (hc1_1 : l1_1.length ≤ c1_1) (hr1_2 : Kd.C k80 w A1_2 l1_2.length l1_2) (hc1_2 : l1_2.length ≤ c1_2) (h : Pl50c.f a0_0 l0_1 l0_2 a1_0 l1_1 l1_2 = some r) :
  Calls Try.prog 54 #[.agg #[.int .i64 a0_0, .slice A0_1 l0_1.length c0_1, .slice A0_2 l0_2.length c0_2], .agg #[.int .i64 a1_0, .slice A1_1 l1_1.length c1_1, .slice A1_2 l1_2.length c1_2]] w fun e w' => e = .returned (.bool r) ∧ Below w.heap.size w w' := by
 unfold Pl50c.f at h;obtain ⟨k1, h1⟩ := (lightB_ev a0_0 l0_1 l0_2).rounds;obtain ⟨k2, h2⟩ := (lightB_ev a1_0 l1_1 l1_2).rounds;obtain ⟨p, hp⟩ : ∃ p, p = lightB a0_0 l0_1 l0_2 := ⟨_, rfl⟩
 obtain ⟨q, hq⟩ : ∃ q, q = lightB a1_0 l1_1 l1_2 := ⟨_, rfl⟩
 rw [← hp] at h1 h;rw [← hq] at h2 h;have HB := Aside0.mk (Below.refl w.heap.size w);have H1 := Aside0.mk h1;have H2 := Aside0.mk h2;have HR := Aside0.mk (Option.some.inj h);have G1 := Aside0.mk (And.intro hr0_1 hr0_2);have G2 := Aside0.mk (And.intro hr1_1 hr1_2);have C1 := Aside0.mk (And.intro hc0_1 hc0_2);have C2 := Aside0.mk (And.intro hc1_1 hc1_2);clear h1 h2 h hp hq hr0_1 hr0_2 hr1_1 hr1_2 hc0_1 hc0_2 hc1_1 hc1_2;go_enter Try.func54, Try.ntmps54
 go_wp2_with fail
 refine (semblanceref26_Lighty.calls k1 a0_0 _ _ l0_1 _ _ l0_2 p _ (Kd.C_below G1.out.1 (below_alloc (below_alloc HB.out _) _)) C1.out.1 (Kd.C_below G1.out.2 (below_alloc (below_alloc HB.out _) _)) C1.out.2 H1.out).mono ?_;rintro e w1 ⟨rfl, hB⟩;have HB1 := Aside0.mk (below_then (below_alloc (below_alloc HB.out _) _) (below_alloc (below_alloc HB.out _) _).size hB);have HX := Aside0.mk (show BoxL w1 w.heap.size a0_0 (.slice A0_1 l0_1.length c0_1) (.slice A0_2 l0_2.length c0_2) from blk_below (blk_alloc (blk_new w _) _) hB);have HY := Aside0.mk (show BoxL w1 (w.heap.size + 1) a1_0 (.slice A1_1 l1_1.length c1_1) (.slice A1_2 l1_2.length c1_2) from blk_below (by have := blk_new (w.alloc (.cells #[.int .i64 a0_0, .slice A0_1 l0_1.length c0_1, .slice A0_2 l0_2.length c0_2] 25)) (.cells #[.int .i64 a1_0, .slice A1_1 l1_1.length c1_1, .slice A1_2 l1_2.length c1_2] 25); simpa using this) hB);clear hB
 cases p with
 | false =>
  go_wp2
  go_ret
  exact ⟨by rw [← HR.out]; rfl, HB1.out⟩
 | true =>
  have y0 := HY.out.c0;have y1 := HY.out.c1;have y2 := HY.out.c2;go_wp2_with fail
  clear y0 y1 y2;refine (semblanceref26_Lighty.calls k2 a1_0 _ _ l1_1 _ _ l1_2 q _ (Kd.C_below G2.out.1 HB1.out) C2.out.1 (Kd.C_below G2.out.2 HB1.out) C2.out.2 H2.out).mono ?_;rintro e w2 ⟨rfl, hB⟩;have HB2 := Aside0.mk (below_then HB1.out HB1.out.size hB);have x0 := (HX.out.below hB).c0;have x1 := (HX.out.below hB).c1;have y0 := (HY.out.below hB).c0;have y1 := (HY.out.below hB).c1;clear hB
  cases q with
  | false =>
   go_wp2
   go_ret
   exact ⟨by rw [← HR.out]; rfl, HB2.out⟩
  | true =>
   rcases three_ a0_0 with ⟨d1, d2⟩ | ⟨d1, d2⟩ | ⟨d1, d2⟩
   case inr.inr =>
    go_wp2
    go_ret
    exact ⟨by rw [← HR.out, d1, d2]; rfl, HB2.out⟩
   all_goals
    rcases three_ a1_0 with ⟨d3, d4⟩ | ⟨d3, d4⟩ | ⟨d3, d4⟩
    all_goals
     rcases Bool.eq_false_or_eq_true (decide ((l0_1.length : Int) ≤ 6)) with d5 | d5
     all_goals
      rcases Bool.eq_false_or_eq_true (decide ((l1_1.length : Int) ≤ 6)) with d6 | d6
      all_goals
       go_wp2
       go_ret
       exact ⟨by rw [← HR.out, d1, d2, d3, d4, d5, d6]; rfl, HB2.out⟩
def Pxd.f (a0_0 : Int) (l0_1 : List ByteArray) (l0_2 : List S80) (a1_0 : Int) (l1_1 : List ByteArray) (l1_2 : List S80) (a2 : Int) : Option (Int × Int) :=
 some (if mayR a0_0 l0_1 l0_2 = true ∧ mayR a1_0 l1_1 l1_2 = true ∧ 0 ≤ a2 ∧ a2 < a0_0 * a1_0 then (Int.tdiv a2 a1_0, Int.tmod a2 a1_0) else (-1, -1))
set_option maxHeartbeats 8000000 in
set_option maxRecDepth 100000 in
theorem Pxd.calls (a0_0 : Int) (A0_1 : Option Addr) (c0_1 : Nat) (l0_1 : List ByteArray) (A0_2 : Option Addr) (c0_2 : Nat) (l0_2 : List S80) (a1_0 : Int) (A1_1 : Option Addr) (c1_1 : Nat) (l1_1 : List ByteArray) (A1_2 : Option Addr) (c1_2 : Nat) (l1_2 : List S80) (a2 : Int) (r1 : Int) (r2 : Int) (w : World) (hr0_1 : Kd.C Kd.string w A0_1 l0_1.length l0_1) (hc0_1 : l0_1.length ≤ c0_1) (hr0_2 : Kd.C k80 w A0_2 l0_2.length l0_2) (hc0_2 : l0_2.length ≤ c0_2) (hr1_1 : Kd.C Kd.string w A1_1 l1_1.length l1_1) (hc1_1 : l1_1.length ≤ c1_1) (hr1_2 : Kd.C k80 w A1_2 l1_2.length l1_2) (hc1_2 : l1_2.length ≤ c1_2) (h : Pxd.f a0_0 l0_1 l0_2 a1_0 l1_1 l1_2 a2 = some (r1, r2)) :
  Calls Try.prog 107 #[.agg #[.int .i64 a0_0, .slice A0_1 l0_1.length c0_1, .slice A0_2 l0_2.length c0_2], .agg #[.int .i64 a1_0, .slice A1_1 l1_1.length c1_1, .slice A1_2 l1_2.length c1_2], .int .i64 a2] w fun e w' => e = .returned (.tuple #[.int .i64 r1, .int .i64 r2]) ∧ Below w.heap.size w w' := by
 unfold Pxd.f at h;have hR := Option.some.inj h;have HB := Aside0.mk (Below.refl w.heap.size w);have G1 := Aside0.mk (And.intro hr0_1 hr0_2);have G2 := Aside0.mk (And.intro hr1_1 hr1_2);clear h hr0_1 hr0_2 hr1_1 hr1_2 hc0_1 hc0_2 hc1_1 hc1_2;obtain ⟨p, hp⟩ : ∃ p, p = mayR a0_0 l0_1 l0_2 := ⟨_, rfl⟩
 obtain ⟨q, hq⟩ : ∃ q, q = mayR a1_0 l1_1 l1_2 := ⟨_, rfl⟩
 have HP := Aside0.mk hp;have HQ := Aside0.mk hq;rw [← hp, ← hq] at hR;clear hp hq;go_enter Try.func107, Try.ntmps107
 go_wp2_with fail
 have hck := check_any a0_0 l0_1 l0_2 A0_1 A0_2 c0_1 c0_2 _ (Kd.C_below G1.out.1 (below_alloc (below_alloc HB.out (.cells #[.int .i64 a0_0, .slice A0_1 l0_1.length c0_1, .slice A0_2 l0_2.length c0_2] 25)) (.cells #[.int .i64 a1_0, .slice A1_1 l1_1.length c1_1, .slice A1_2 l1_2.length c1_2] 25))) (Kd.C_below G1.out.2 (below_alloc (below_alloc HB.out _) _));rw [may_same, ← HP.out] at hck;refine hck.mono ?_;clear hck;rintro e w1 ⟨rfl, hB⟩;have a0 := Aside0.mk (below_then (below_alloc (below_alloc HB.out _) _) (below_alloc (below_alloc HB.out _) _).size hB);have HX := Aside0.mk (show BoxL w1 w.heap.size a0_0 (.slice A0_1 l0_1.length c0_1) (.slice A0_2 l0_2.length c0_2) from blk_below (blk_alloc (blk_new w _) _) hB);have HY := Aside0.mk (show BoxL w1 (w.heap.size + 1) a1_0 (.slice A1_1 l1_1.length c1_1) (.slice A1_2 l1_2.length c1_2) from blk_below (by have := blk_new (w.alloc (.cells #[.int .i64 a0_0, .slice A0_1 l0_1.length c0_1, .slice A0_2 l0_2.length c0_2] 25)) (.cells #[.int .i64 a1_0, .slice A1_1 l1_1.length c1_1, .slice A1_2 l1_2.length c1_2] 25); simpa using this) hB);clear hB
 cases p with
 | false =>
  rw [if_neg (by simp)] at hR;simp only [Prod.mk.injEq] at hR;obtain ⟨rfl, rfl⟩ := hR;go_wp2
  go_ret2
  exact ⟨rfl, a0.out⟩
 | true =>
  have y0 := HY.out.c0;have y1 := HY.out.c1;have y2 := HY.out.c2;go_wp2_with fail
  clear y0 y1 y2;have hck := check_any a1_0 l1_1 l1_2 A1_1 A1_2 c1_1 c1_2 w1 (Kd.C_below G2.out.1 a0.out) (Kd.C_below G2.out.2 a0.out);rw [may_same, ← HQ.out] at hck;refine hck.mono ?_;clear hck;rintro e w2 ⟨rfl, hB⟩;have a1 := Aside0.mk (below_then a0.out a0.out.size hB);have x0 := (HX.out.below hB).c0;have y0 := (HY.out.below hB).c0;clear hB
  cases q with
  | false =>
   rw [if_neg (by simp)] at hR;simp only [Prod.mk.injEq] at hR;obtain ⟨rfl, rfl⟩ := hR;go_wp2
   go_ret2
   exact ⟨rfl, a1.out⟩
  | true =>
   have a3 := lt_n HP.out.symm;have a4 := lt_n HQ.out.symm;have a5 : 0 ≤ a0_0 * a1_0 := Int.mul_nonneg (by omega) (by omega);have a6 : a0_0 * a1_0 ≤ 2048 * 2048 := Int.le_trans (Int.mul_le_mul_of_nonneg_right a3.2 (by omega)) (Int.mul_le_mul_of_nonneg_left a4.2 (by omega));have hw : IntKind.i64.wrap (a0_0 * a1_0) = a0_0 * a1_0 := by rw [IntKind.wrap_i64]; omega
   by_cases h0 : 0 ≤ a2
   ·have d0 : decide (a2 < 0) = false := decide_eq_false (by omega);by_cases h1 : a2 < a0_0 * a1_0
    ·rw [if_pos (by simp [h0, h1])] at hR;simp only [Prod.mk.injEq] at hR;obtain ⟨rfl, rfl⟩ := hR;have d1 : decide (a0_0 * a1_0 ≤ a2) = false := decide_eq_false (by omega);have z0 : ¬ a1_0 = 0 := by omega
     have a7 := Int.tdiv_nonneg h0 (show 0 ≤ a1_0 by omega);have a8 : Int.tdiv a2 a1_0 ≤ a2 := by rw [Int.tdiv_eq_ediv_of_nonneg h0]; exact Int.ediv_le_self _ h0
     have hwd : IntKind.i64.wrap (Int.tdiv a2 a1_0) = Int.tdiv a2 a1_0 := by rw [IntKind.wrap_i64]; omega
     clear a5 a6 a3 a4 h0 h1 a7 a8;go_wp2_with fail
     go_quiet (fail)
     go_wp2
     go_ret2
     exact ⟨rfl, pw_below_drewN a1.out _⟩
    ·rw [if_neg (by simp [h0, h1])] at hR;simp only [Prod.mk.injEq] at hR;obtain ⟨rfl, rfl⟩ := hR;have d1 : decide (a0_0 * a1_0 ≤ a2) = true := decide_eq_true (by omega);clear a5 a6 a3 a4 h0 h1;go_wp2
     go_ret2
     exact ⟨rfl, a1.out⟩
   ·rw [if_neg (by simp [h0])] at hR;simp only [Prod.mk.injEq] at hR;obtain ⟨rfl, rfl⟩ := hR;have d0 : decide (a2 < 0) = true := decide_eq_true (by omega);clear a5 a6 a3 a4 h0;go_wp2
    go_ret2
    exact ⟨rfl, a1.out⟩
end Go.Proofs.Ytmcbkmfpmcbdpaa.Pr
namespace Go.Proofs.Ytmcbkmfpmcbdpaa.H
open Go.RowKit Go.Proofs.Ytmcbkmfpmcbdpaa.Pr Go.Proofs.YtmcbkmfpmcbdpaaW.PrintWords Go.Proofs.Ytmcbkmfpmcbdpaa.Sem Go.Sort Go.Shelf Go.Lib
def GW (w W : World) : Prop := ∃ q os, W = grow (w.drewN q) os
theorem GW.refl (w : World) : GW w w := ⟨0, #[], by simp [grow, World.drewN]⟩
theorem GW.alloc {w W : World} (h : GW w W) (o : Obj) : GW w (W.alloc o) := by
 obtain ⟨q, os, rfl⟩ := h
 exact ⟨q, os ++ #[o], by rw [alloc_eq_grow, grow_grow]⟩
theorem GW.drew {w W : World} (h : GW w W) : GW w W.drew := by
 obtain ⟨q, os, rfl⟩ := h
 exact ⟨q + 1, os, by simp [grow, World.drewN, World.drew, Nat.add_assoc]⟩
theorem GW.drewN {w W : World} (h : GW w W) (m : Nat) : GW w (W.drewN m) := by
 obtain ⟨q, os, rfl⟩ := h
 exact ⟨q + m, os, by simp [grow, World.drewN, Nat.add_assoc]⟩
set_option maxRecDepth 100000 in
theorem compareG (a b : Ed) (w : World) : Calls Try.prog 122 #[.agg #[.int .i64 a.f0, .int .i64 a.f1, .int .i64 a.f2], .agg #[.int .i64 b.f0, .int .i64 b.f1, .int .i64 b.f2]] w fun e w' => e = .returned (.int .i64 (cmpE a b)) ∧ GW w w' := by
 go_enter Try.func122, Try.ntmps122
 go_wp2_with fail
 go_region_held3 (fun w' => w'.cell? ⟨w.heap.size, 0, none⟩ = some (.int .i64 a.f0) ∧ w'.cell? ⟨w.heap.size, 1, none⟩ = some (.int .i64 a.f1) ∧ w'.cell? ⟨w.heap.size, 2, none⟩ = some (.int .i64 a.f2) ∧ w'.cell? ⟨w.heap.size + 1, 0, none⟩ = some (.int .i64 b.f0) ∧ w'.cell? ⟨w.heap.size + 1, 1, none⟩ = some (.int .i64 b.f1) ∧ w'.cell? ⟨w.heap.size + 1, 2, none⟩ = some (.int .i64 b.f2))
  (first | go_keep)
  (first
   | (go_at_call 137; refine (compare_any _ _ _).mono ?_; rintro e w' ⟨rfl, rfl⟩)
   | (go_at_call 154; refine (or_any [cmpI a.f0 b.f0, cmpI a.f1 b.f1, cmpI a.f2 b.f2] _ _ _ (by simp) (by intro j hj; match j, hj with | 0, _ => go_simp | 1, _ => go_simp | 2, _ => go_simp)).mono ?_; rintro e w' ⟨rfl, rfl⟩))
 go_wp2
 go_ret
 exact ⟨rfl, by repeat (first | exact GW.refl _ | apply GW.alloc | apply GW.drewN | apply GW.drew)⟩
def encE (x : Ed) : List Value := [.int .i64 x.f0, .int .i64 x.f1, .int .i64 x.f2]
theorem ltE (x y : Ed) : ltOf cmpE x y = decide (elt x y) := by unfold ltOf; rw [decide_eq_decide]; exact cmpE_neg x y
theorem swoE : SWO (ltOf cmpE) where
 irrefl x := by rw [ltE]; simp [elt]
 trans x y z h1 h2 := by rw [ltE] at *; simp only [decide_eq_true_eq] at *; unfold elt at *; omega
 ntrans x y z h1 h2 := by rw [ltE] at *; simp only [decide_eq_false_iff_not] at *; unfold elt at *; omega
theorem totE (x y : Ed) (h1 : ltOf cmpE x y = false) (h2 : ltOf cmpE y x = false) : x = y := by
 rw [ltE, decide_eq_false_iff_not] at h1 h2
 obtain ⟨x0, x1, x2⟩ := x
 obtain ⟨y0, y1, y2⟩ := y
 unfold elt at h1 h2
 simp only at h1 h2
 rw [S80.mk.injEq]
 omega
theorem sortF_any (g c : Nat) (es : List Ed) (w : World) (hH : HoldsK encE 3 w g 0 es.toArray) (hblk : g < w.heap.size) (hsz : es.length ≤ 1000000) :
  Calls Try.prog 133 #[.slice (some ⟨g, 0, none⟩) es.length c, .func (.func 122) #[] #[]] w fun e w' => e = .returned (.tuple #[]) ∧ ∃ n os, w' = sortWorldK encE 3 w g 0 n (es.mergeSort fun x y => !(ltOf cmpE) y x).toArray os := by
 have eg : ∀ args w, (callFunc 122 args).run Try.prog w = .ok (.enter 122 args) w := enters_of Try.func122 (by kernel_rfl) rfl
 have hcon := AnyQ.slices_SortFunc_total Try.sortE 3 (fun _ => by kernel_rfl) (fun _ => by kernel_rfl) encE (fun _ => rfl) (fun x v hv => by simp [encE] at hv; rcases hv with rfl | rfl | rfl <;> rfl) cmpE swoE 122 #[] g 0 c es.toArray w eg (fun m os dk hs x y => compareG x y _) hH hblk (by simp; omega) totE
 change Calls Try.prog 133 _ _ _ at hcon
 simpa using hcon
theorem holdsK_of_R {W : World} {base g cap : Nat} {ok : Nat → Prop} {es : List Ed} (h : Kd.R k80 80 W base ok (.slice (some ⟨g, 0, none⟩) es.length cap) es) : HoldsK encE 3 W g 0 es.toArray := by
 intro j hj
 rw [size_flatK, List.size_toArray] at hj
 have hi : j / 3 < es.length := by omega
 obtain ⟨c, hcl, hM, hcc, hf⟩ := Kd.R_elem h z80 ((j / 3 : Nat) : Int) (by omega) (by omega)
 have hc := k80_openM hM
 rw [Int.toNat_natCast] at hc hcc hf
 have hsz : (k80 : Kd Ed).sz = 3 := rfl
 rw [hsz] at hcc hf
 have e : j / 3 * 3 + j % 3 = j := by omega
 have h3 : j % 3 < 3 := Nat.mod_lt _ (by omega)
 have hx : es.toArray[j / 3]! = es.getD (j / 3) z80 := by
  rw [getElem!_pos es.toArray (j / 3) (by simpa using hi), getD_get hi]
  simp
 rw [get_flatK _ _ _ _ (by rw [List.size_toArray]; exact hj), hx, Nat.zero_add]
 have hlen : (encE (es.getD (j / 3) z80)).length = 3 := rfl
 refine ⟨?_, by have := hf (j % 3); rwa [e] at this⟩
 have hu : c[j % 3]? = some ((encE (es.getD (j / 3) z80))[j % 3]!) := by
  rw [hc, getElem!_pos (encE (es.getD (j / 3) z80)) (j % 3) (by rw [hlen]; exact h3)]
  exact List.getElem?_eq_getElem (by exact h3)
 have := hcc (j % 3) _ hu
 rwa [e] at this
theorem flat_len (es : List Ed) : (flatK encE 3 es.toArray).toList.length = es.length * 3 := by
 rw [Array.length_toList, size_flatK, List.size_toArray]
theorem flat_seg (es : List Ed) (j : Nat) (hj : j < es.length) : ((flatK encE 3 es.toArray).toList.drop (j * 3)).take 3 = encE es[j] := by
 have hx : es.toArray[j]! = es[j] := by
  rw [getElem!_pos es.toArray j (by simpa using hj)]
  simp
 apply List.ext_getElem
 ·rw [List.length_take, List.length_drop, flat_len]
  show min 3 _ = 3
  omega
 ·intro i h1 h2
  have hi : i < 3 := h2
  rw [List.getElem_take, List.getElem_drop, Array.getElem_toList]
  have := get_flatK encE 3 es.toArray (j * 3 + i) (by rw [List.size_toArray]; omega)
  rw [getElem!_pos (flatK encE 3 es.toArray) (j * 3 + i) (by rw [size_flatK, List.size_toArray]; omega)] at this
  rw [this, show (j * 3 + i) / 3 = j by omega, show (j * 3 + i) % 3 = i by omega, hx]
  exact getElem!_pos (encE es[j]) i h2
theorem R_sorted {W : World} {base g cap : Nat} {es es' : List Ed} (h : Kd.R k80 80 W base (fun _ => True) (.slice (some ⟨g, 0, none⟩) es.length cap) es) (hl : es'.length = es.length) (m : Nat) (os : Array Obj) : Kd.R k80 80 (sortWorldK encE 3 W g 0 m es'.toArray os) base (fun _ => True) (.slice (some ⟨g, 0, none⟩) es'.length cap) es' := by
 obtain ⟨h0, inner, ho, hr⟩ := h;obtain ⟨hil, hcase⟩ := ho;rcases hcase with ⟨hv, _⟩ | ⟨g', cap', cur, hv, hb, hh, hnc, hcm, hcs, htk⟩
 ·cases hv
 ·cases hv;have hsz : (k80 : Kd Ed).sz = 3 := rfl;rw [hsz] at hcs htk hil;have hlt : g < W.heap.size := blk_lt hh
  have hheap : (sortWorldK encE 3 W g 0 m es'.toArray os).heap[g]? = some (.cells (putCells id 0 (flatK encE 3 es'.toArray) cur) 80 (0, 0)) := by
   show ((W.heap.modify g (onCells (putCells id 0 (flatK encE 3 es'.toArray)))) ++ os)[g]? = _;rw [Array.getElem?_append_left (by rw [Array.size_modify]; exact hlt), Array.getElem?_modify, if_pos rfl, hh];rfl
  refine ⟨fun _ _ => trivial, (flatK encE 3 es'.toArray).toList, ⟨by rw [flat_len, hsz], .inr ⟨g, cap, _, rfl, hb, hheap, by omega, hcm, by rw [hsz]; unfold putCells; rw [Array.size_mapIdx]; exact hcs, ?_⟩⟩, ?_⟩
  ·rw [hsz];apply List.ext_getElem
   ·have hq : (putCells id 0 (flatK encE 3 es'.toArray) cur).size = cap * 3 := by unfold putCells; rw [Array.size_mapIdx]; exact hcs
    have hq2 : (putCells id 0 (flatK encE 3 es'.toArray) cur).toList.length = cap * 3 := by rw [Array.length_toList]; exact hq
    rw [List.length_take, hq2, flat_len];have : es.length * 3 ≤ cap * 3 := Nat.mul_le_mul_right _ hnc;omega
   ·intro i h1 h2;rw [flat_len, hl] at h2;rw [List.getElem_take, Array.getElem_toList];unfold putCells;rw [Array.getElem_mapIdx, if_pos (by rw [size_flatK, List.size_toArray, hl]; omega), Nat.sub_zero, getElem!_pos (flatK encE 3 es'.toArray) i (by rw [size_flatK, List.size_toArray, hl]; exact h2)];rfl
  ·refine ⟨by rw [flat_len, hsz], fun j p hp => ?_⟩;obtain ⟨hj, rfl⟩ := List.getElem?_eq_some_iff.1 hp;rw [hsz, flat_seg es' j hj];exact k80_mkM _ _ _ _
def sortedE (es : List Ed) : List Ed := es.mergeSort fun x y => !(ltOf cmpE) y x
end Go.Proofs.Ytmcbkmfpmcbdpaa.H
namespace Go.Proofs.Ytmcbkmfpmcbdpaa.H
open Go.RowKit Go.Proofs.Ytmcbkmfpmcbdpaa.Pr Go.Proofs.YtmcbkmfpmcbdpaaW.PrintWords Go.Proofs.Ytmcbkmfpmcbdpaa.Sem Go.Lib
theorem run_clear_edges (w : World) (ty : TypeId) (b o n c : Nat) (hn : 0 < n)
  (hc : ∀ j, j < (Builtin.zeroCells #[.int .i64 0, .int .i64 0, .int .i64 0] n).toList.length → (w.cell? ⟨b, o + j, none⟩).isSome = true) (hf : ∀ j, j < (Builtin.zeroCells #[.int .i64 0, .int .i64 0, .int .i64 0] n).toList.length → w.frozen? ⟨b, o + j, none⟩ = false) :
  (Builtin.clear_ #[23] ty #[.slice (some ⟨b, o, none⟩) n c]).run Try.prog w = .ok (.tuple #[]) (w.setCells b o (Builtin.zeroCells #[.int .i64 0, .int .i64 0, .int .i64 0] n).toList) := by
 have hv : ∀ w, (zeroValue 80).run Try.prog w = .ok (.agg #[.int .i64 0, .int .i64 0, .int .i64 0]) w := fun w => by kernel_rfl
 have hst := run_storeCells_cells (P := Try.prog) b o (Builtin.zeroCells #[.int .i64 0, .int .i64 0, .int .i64 0] n).toList 0 w (by simpa using hc) (by simpa using hf) (by
  intro v hv'
  simp [Builtin.zeroCells] at hv'
  obtain ⟨a, _, rfl⟩ := hv'
  have : a % 3 < 3 := Nat.mod_lt _ (by omega)
  rcases (show a % 3 = 0 ∨ a % 3 = 1 ∨ a % 3 = 2 by omega) with h | h | h <;> simp [h, Value.oneCell'])
 simp only [Nat.add_zero] at hst
 obtain ⟨m, rfl⟩ : ∃ m, n = m + 1 := ⟨n - 1, by omega⟩
 simp [Builtin.clear_, run_underlying Try.underlying23, hv, hst, Value.cells]
end Go.Proofs.Ytmcbkmfpmcbdpaa.H
namespace Go.Proofs.Ytmcbkmfpmcbdpaa.Sem
open Go.Proofs.Ytmcbkmfpmcbdpaa.Pr
theorem elt_trans {a b c : Ed} (h1 : elt a b) (h2 : elt b c) : elt a c := by unfold elt at *; omega
theorem elt_irr (a : Ed) : ¬ elt a a := by unfold elt; omega
theorem elt_tri {a b : Ed} (h : ¬ elt a b) (h2 : ¬ cmpE a b = 0) : elt b a := by
 rw [cmpE_zero] at h2
 rcases Classical.em (elt b a) with q | q
 ·exact q
 ·exfalso
  apply h2
  obtain ⟨a0, a1, a2⟩ := a
  obtain ⟨b0, b1, b2⟩ := b
  unfold elt at h q
  simp only at h q
  rw [S80.mk.injEq]
  omega
theorem insE_mem (e x : Ed) : ∀ l, x ∈ insE e l ↔ x = e ∨ x ∈ l
 | [] => by simp [insE]
 | y :: r => by
  unfold insE
  split
  ·simp
  ·split
   ·rename_i h
    rw [cmpE_zero] at h
    subst h
    simp
   ·rw [List.mem_cons, insE_mem e x r, List.mem_cons]
    constructor
    ·rintro (h | h | h)
     ·exact .inr (.inl h)
     ·exact .inl h
     ·exact .inr (.inr h)
    ·rintro (h | h | h)
     ·exact .inr (.inl h)
     ·exact .inl h
     ·exact .inr (.inr h)
theorem insE_sorted (e : Ed) : ∀ l, l.Pairwise elt → (insE e l).Pairwise elt
 | [], _ => by simp [insE]
 | y :: r, h => by
  have h' := List.pairwise_cons.1 h
  unfold insE
  split
  ·rename_i q
   refine List.pairwise_cons.2 ⟨fun x hx => ?_, h⟩
   rcases List.mem_cons.1 hx with rfl | hx
   ·exact q
   ·exact elt_trans q (h'.1 x hx)
  ·split
   ·exact h
   ·rename_i q1 q2
    refine List.pairwise_cons.2 ⟨fun x hx => ?_, insE_sorted e r h'.2⟩
    rcases (insE_mem e x r).1 hx with rfl | hx
    ·exact elt_tri q1 q2
    ·exact h'.1 x hx
theorem strict_unique : ∀ (a b : List Ed), a.Pairwise elt → b.Pairwise elt → (∀ x, x ∈ a ↔ x ∈ b) → a = b
 | [], [], _, _, _ => rfl
 | [], y :: r, _, _, h => by have := (h y).2 (List.mem_cons_self ..); cases this
 | x :: r, [], _, _, h => by have := (h x).1 (List.mem_cons_self ..); cases this
 | x :: r, y :: s, ha, hb, h => by
  have ha' := List.pairwise_cons.1 ha
  have hb' := List.pairwise_cons.1 hb
  have e : x = y := by
   rcases List.mem_cons.1 ((h x).1 (List.mem_cons_self ..)) with q | q
   ·exact q
   ·rcases List.mem_cons.1 ((h y).2 (List.mem_cons_self ..)) with q2 | q2
    ·exact q2.symm
    ·exact absurd (elt_trans (hb'.1 x q) (ha'.1 y q2)) (elt_irr y)
  subst e
  rw [strict_unique r s ha'.2 hb'.2 fun z => ?_]
  have hz := h z
  constructor
  ·intro q
   rcases List.mem_cons.1 (hz.1 (List.mem_cons_of_mem _ q)) with rfl | q2
   ·exact absurd (ha'.1 _ q) (elt_irr _)
   ·exact q2
  ·intro q
   rcases List.mem_cons.1 (hz.2 (List.mem_cons_of_mem _ q)) with rfl | q2
   ·exact absurd (hb'.1 _ q) (elt_irr _)
   ·exact q2
def dd : List Ed → List Ed
 | [] => []
 | [a] => [a]
 | a :: b :: r => if cmpE a b = 0 then dd (b :: r) else a :: dd (b :: r)
theorem dd_mem (x : Ed) : ∀ l, x ∈ dd l ↔ x ∈ l
 | [] => by simp [dd]
 | [a] => by simp [dd]
 | a :: b :: r => by
  have ih := dd_mem x (b :: r)
  unfold dd
  split
  ·rename_i h
   rw [cmpE_zero] at h
   subst h
   rw [ih]
   simp
  ·rw [List.mem_cons, ih, List.mem_cons (a := x) (b := a)]
theorem elt_or {a b : Ed} (h : ¬ elt b a) : a = b ∨ elt a b := by
 by_cases q : cmpE b a = 0
 ·exact .inl ((cmpE_zero b a).1 q).symm
 ·exact .inr (elt_tri h q)
theorem dd_sorted : ∀ l : List Ed, l.Pairwise (fun a b => ¬ elt b a) → (dd l).Pairwise elt
 | [], _ => by simp [dd]
 | [a], _ => by simp [dd]
 | a :: b :: r, h => by
  have h' := List.pairwise_cons.1 h
  have ih := dd_sorted (b :: r) h'.2
  unfold dd
  split
  ·exact ih
  ·rename_i q
   refine List.pairwise_cons.2 ⟨fun x hx => ?_, ih⟩
   have hab : elt a b := by
    rcases elt_or (h'.1 b (List.mem_cons_self ..)) with e | e
    ·exact absurd ((cmpE_zero a b).2 e) q
    ·exact e
   rcases List.mem_cons.1 ((dd_mem x (b :: r)).1 hx) with rfl | hx
   ·exact hab
   ·rcases elt_or ((List.pairwise_cons.1 h'.2).1 x hx) with e | e
    ·rw [← e]; exact hab
    ·exact elt_trans hab e
theorem fold_ins : ∀ (es o : List Ed), o.Pairwise elt → (es.foldl (fun o e => insE e o) o).Pairwise elt ∧ ∀ x, x ∈ es.foldl (fun o e => insE e o) o ↔ x ∈ es ∨ x ∈ o
 | [], o, h => ⟨h, fun x => by simp⟩
 | e :: r, o, h => by
  have ih := fold_ins r (insE e o) (insE_sorted e o h)
  refine ⟨ih.1, fun x => ?_⟩
  rw [List.foldl_cons, ih.2 x, insE_mem, List.mem_cons]
  constructor
  ·rintro (h | h | h)
   ·exact .inl (.inr h)
   ·exact .inl (.inl h)
   ·exact .inr h
  ·rintro ((h | h) | h)
   ·exact .inr (.inl h)
   ·exact .inl h
   ·exact .inr (.inr h)
theorem dd_sortE {es l : List Ed} (h : l.Pairwise (fun a b => ¬ elt b a)) (hm : ∀ x, x ∈ l ↔ x ∈ es) : dd l = sortE es := by
 have hf := fold_ins es [] List.Pairwise.nil
 exact strict_unique _ _ (dd_sorted l h) hf.1 fun x => by rw [dd_mem, hm]; show _ ↔ x ∈ es.foldl (fun o e => insE e o) []; rw [hf.2 x]; simp
end Go.Proofs.Ytmcbkmfpmcbdpaa.Sem
namespace Go.Proofs.Ytmcbkmfpmcbdpaa.H
open Go.RowKit Go.Proofs.Ytmcbkmfpmcbdpaa.Pr Go.Proofs.YtmcbkmfpmcbdpaaW.PrintWords Go.Proofs.Ytmcbkmfpmcbdpaa.Sem Go.Lib Go.Sort
section
variable {α : Type} [Inhabited α] (enc : α → List Value) (k : Nat) (hk : ∀ x, (enc x).length = k)
include hk
theorem flat_set (d : Array α) (i : Nat) (x : α) (hi : i < d.size) : setMany (flatK enc k d) (i * k) (enc x) = flatK enc k (d.setIfInBounds i x) := by
 refine ext_get! (by simp) fun t ht => ?_
 have ht' : t < d.size * k := by simpa using ht
 have k0 : 0 < k := by
  rcases Nat.eq_zero_or_pos k with h | h
  ·subst h; simp at ht'
  ·exact h
 rw [get_setMany _ _ _ t (by simpa using ht'), get_flatK _ _ _ t ht', get_flatK _ _ _ t (by simpa using ht'), hk]
 by_cases a : t / k = i
 ·rw [if_pos ((blk_iff k i t k0).2 a), a, getElem!_set_same d i x hi]
  subst a
  rw [Nat.mod_eq_sub_div_mul]
 ·rw [if_neg (fun h => a ((blk_iff k i t k0).1 h)), getElem!_set_other d i _ x a]
theorem flat_lay (d : Array α) (j m : Nat) (z : α) (vs : List Value) (hj : j + m ≤ d.size) (hl : vs.length = m * k) (hv : ∀ t, t < m * k → vs[t]! = (enc z)[t % k]!) : setMany (flatK enc k d) (j * k) vs = flatK enc k (lay d j (List.replicate m z)) := by
 have hsz : (lay d j (List.replicate m z)).size = d.size := by
  have : ∀ (xs : List α) (d : Array α) (k : Nat), (lay d k xs).size = d.size := by
   intro xs
   induction xs with
   | nil => intro d k; rfl
   | cons x r ih => intro d k; show (lay (d.setIfInBounds k x) (k + 1) r).size = _; rw [ih]; simp
  exact this _ _ _
 refine ext_get! (by simp [hsz]) fun t ht => ?_
 have ht' : t < d.size * k := by simpa using ht
 have k0 : 0 < k := by
  rcases Nat.eq_zero_or_pos k with h | h
  ·subst h; simp at ht'
  ·exact h
 have hq : t / k < d.size := Nat.div_lt_of_lt_mul (by rwa [Nat.mul_comm] at ht')
 have hget : (lay d j (List.replicate m z))[t / k]! = if j ≤ t / k ∧ t / k < j + m then z else d[t / k]! := by
  have := lay_get? (List.replicate m z) d j (t / k) (by simpa using hj);rw [getElem!_pos _ (t / k) (by rw [hsz]; exact hq)];rw [Array.getElem?_eq_getElem (by rw [hsz]; exact hq)] at this;simp only [List.length_replicate] at this;split
  ·rename_i c;rw [if_pos c, List.getElem?_replicate, if_pos (by omega)] at this;exact Option.some.inj this
  ·rename_i c;rw [if_neg c, Array.getElem?_eq_getElem hq] at this;rw [getElem!_pos d (t / k) hq];exact Option.some.inj this
 rw [get_setMany _ _ _ t (by simpa using ht'), get_flatK _ _ _ t ht', get_flatK _ _ _ t (by rw [hsz]; exact ht'), hget, hl];have hmod : t = k * (t / k) + t % k := (Nat.div_add_mod t k).symm;have hm : t % k < k := Nat.mod_lt _ k0
 have iff1 : (j * k ≤ t ∧ t < j * k + m * k) ↔ (j ≤ t / k ∧ t / k < j + m) := by
  rw [Nat.le_div_iff_mul_le k0, Nat.div_lt_iff_lt_mul k0, Nat.add_mul]
 by_cases c : j ≤ t / k ∧ t / k < j + m
 ·rw [if_pos (iff1.2 c), if_pos c];have c2 := iff1.2 c;rw [hv _ (by omega)];congr 1
  have : t = (t - j * k) + k * j := by rw [Nat.mul_comm k j]; omega
  conv => rhs; rw [this]
  rw [Nat.add_mul_mod_self_left]
 ·rw [if_neg (fun h => c (iff1.1 h)), if_neg c]
theorem store_worldK (w wr : World) (n g off : Nat) (d : Array α) (i : Nat) (x : α) (hi : i < d.size) (h : wr = putRowK enc k (Sort.ahead w n) g off d) : wr.setCells g (off + i * k) (enc x) = putRowK enc k (Sort.ahead w n) g off (d.setIfInBounds i x) := by
 subst h
 have hb : i * k + k ≤ d.size * k := by
  have := Nat.mul_le_mul_right k (show i + 1 ≤ d.size from hi); rwa [Nat.add_mul, Nat.one_mul] at this
 unfold putRowK
 rw [setCells_putRow _ _ _ _ _ _ (by rw [hk, size_flatK]; exact hb), flat_set enc k hk d i x hi]
theorem clear_worldK (w wr : World) (n g off : Nat) (d : Array α) (j m : Nat) (z : α) (vs : List Value) (hj : j + m ≤ d.size) (hl : vs.length = m * k) (hv : ∀ t, t < m * k → vs[t]! = (enc z)[t % k]!) (h : wr = putRowK enc k (Sort.ahead w n) g off d) : wr.setCells g (off + j * k) vs = putRowK enc k (Sort.ahead w n) g off (lay d j (List.replicate m z)) := by
 subst h
 have hb : j * k + m * k ≤ d.size * k := by rw [← Nat.add_mul]; exact Nat.mul_le_mul_right k hj
 unfold putRowK
 rw [setCells_putRow _ _ _ _ _ _ (by rw [hl, size_flatK]; exact hb), flat_lay enc k hk d j m z vs hj hl hv]
end
instance : DecidableEq Ed := fun a b => decidable_of_iff (cmpE a b = 0) (cmpE_zero a b)
theorem dd_snoc : ∀ (l : List Ed) (b a : Ed), dd (l ++ [b, a]) = if b = a then dd (l ++ [b]) else dd (l ++ [b]) ++ [a]
 | [], b, a => by
  show dd [b, a] = _
  unfold dd
  by_cases q : b = a
  ·rw [if_pos ((cmpE_zero b a).2 q), if_pos q, q]; rfl
  ·rw [if_neg (fun h => q ((cmpE_zero b a).1 h)), if_neg q]; rfl
 | [x], b, a => by
  have ih := dd_snoc [] b a
  show dd (x :: b :: [a]) = _
  show _ = if b = a then dd (x :: b :: []) else dd (x :: b :: []) ++ [a]
  unfold dd
  rw [show dd [b, a] = _ from ih]
  split
  ·split <;> rfl
  ·split <;> rfl
 | x :: y :: r, b, a => by
  have ih := dd_snoc (y :: r) b a
  show dd (x :: y :: (r ++ [b, a])) = _
  show _ = if b = a then dd (x :: y :: (r ++ [b])) else dd (x :: y :: (r ++ [b])) ++ [a]
  unfold dd
  rw [show dd (y :: (r ++ [b, a])) = _ from ih]
  split
  ·rfl
  ·split <;> rfl
theorem compact_dd (es : List Ed) : compact es = dd es := by
 have : ∀ m, m ≤ es.length → compactUpTo es.toArray m = dd (es.take m) := by
  intro m
  induction m with
  | zero => intro _; simp [compactUpTo, dd]
  | succ m ih =>
   intro h
   have hm : m < es.length := by omega
   have e0 : es.toArray[m]! = es[m] := by rw [getElem!_pos es.toArray m (by simpa using hm)]; simp
   rw [compactUpTo_succ, ih (by omega), e0]
   rw [List.take_add_one, List.getElem?_eq_getElem hm]
   cases m with
   | zero => simp [keeps, dd]
   | succ m =>
    have hm' : m < es.length := by omega
    have e1 : es.toArray[m]! = es[m] := by rw [getElem!_pos es.toArray m (by simpa using hm')]; simp
    have ek : keeps es.toArray (m + 1) = decide (es[m] ≠ es[m + 1]) := by
     unfold keeps
     rw [e0, show m + 1 - 1 = m from rfl, e1]
     rw [decide_eq_decide]
     constructor
     ·rintro (h | h)
      ·omega
      ·exact fun q => h q.symm
     ·exact fun h => .inr fun q => h q.symm
    rw [ek, List.take_add_one, List.getElem?_eq_getElem hm']
    simp only [Option.toList_some, List.append_assoc, List.cons_append, List.nil_append]
    rw [dd_snoc]
    by_cases q : es[m] = es[m + 1]
    ·simp [q]
    ·simp [q]
 unfold compact
 rw [this _ (Nat.le_refl _), List.take_length]
theorem eqE (x0 x1 x2 y0 y1 y2 : Int) (w : World) : (Op.equalIn 10000 80 (.agg #[.int .i64 x0, .int .i64 x1, .int .i64 x2]) (.agg #[.int .i64 y0, .int .i64 y1, .int .i64 y2])).run Try.prog w = .ok (x0 == y0 && (x1 == y1 && x2 == y2)) w := by
 refine eqA_of Try.underlying80 (by kernel_rfl) ?_
 refine eqf_cons (by rfl) (by go_simp; rfl) (by go_simp; rfl) (by go_simp) ?_
 refine eqf_cons (by rfl) (by go_simp; rfl) (by go_simp; rfl) (by go_simp) ?_
 exact eqf_last (by rfl) (by go_simp; rfl) (by go_simp; rfl) (by go_simp)
theorem eqE_yes {x y : Ed} (h : x = y) (w : World) : (Op.equalIn 10000 80 (.agg #[.int .i64 x.f0, .int .i64 x.f1, .int .i64 x.f2]) (.agg #[.int .i64 y.f0, .int .i64 y.f1, .int .i64 y.f2])).run Try.prog w = .ok true w := by
 subst h; rw [eqE]; simp
theorem eqE_no {x y : Ed} (h : ¬ x = y) (w : World) : (Op.equalIn 10000 80 (.agg #[.int .i64 x.f0, .int .i64 x.f1, .int .i64 x.f2]) (.agg #[.int .i64 y.f0, .int .i64 y.f1, .int .i64 y.f2])).run Try.prog w = .ok false w := by
 rw [eqE]
 congr 1
 obtain ⟨x0, x1, x2⟩ := x
 obtain ⟨y0, y1, y2⟩ := y
 rw [S80.mk.injEq] at h
 simpa using h
theorem cellE {w : World} {g : Nat} {d : Array Ed} (h : HoldsK encE 3 w g 0 d) {i : Nat} (hi : i < d.size) : w.cell? ⟨g, i * 3, none⟩ = some (.int .i64 d[i]!.f0) ∧ w.cell? ⟨g, i * 3 + 1, none⟩ = some (.int .i64 d[i]!.f1) ∧ w.cell? ⟨g, i * 3 + 2, none⟩ = some (.int .i64 d[i]!.f2) ∧
  (w.frozen? ⟨g, i * 3, none⟩ = false ∧ w.frozen? ⟨g, i * 3 + 1, none⟩ = false ∧ w.frozen? ⟨g, i * 3 + 2, none⟩ = false) := by
 have c0 := h.cell hi (show 0 < 3 by omega)
 have c1 := h.cell hi (show 1 < 3 by omega)
 have c2 := h.cell hi (show 2 < 3 by omega)
 simp only [Nat.zero_add, Nat.add_zero] at c0 c1 c2
 exact ⟨c0.1, c1.1, c2.1, c0.2, c1.2, c2.2⟩
set_option maxHeartbeats 4000000 in
set_option maxRecDepth 1000000 in
theorem compact_arr (g cap : Nat) (d : Array Ed) (w : World) (hH : HoldsK encE 3 w g 0 d) (hsz : d.size ≤ 1000000) (hcap : d.size ≤ cap) :
  Calls Try.prog 134 #[.slice (some ⟨g, 0, none⟩) d.size cap] w fun e w' => e = .returned (.slice (some ⟨g, 0, none⟩) (compactUpTo d d.size).length cap) ∧ ∃ q, w' = putRowK encE 3 (Sort.ahead w q) g 0 (compactUpTo d d.size ++ List.replicate (d.size - (compactUpTo d d.size).length) z80).toArray := by
 have same : ∀ q, (∀ j, j < d.size → keeps d j = true) → (compactUpTo d d.size).length = d.size ∧ w.drewN q = putRowK encE 3 (Sort.ahead w q) g 0 (compactUpTo d d.size ++ List.replicate (d.size - (compactUpTo d d.size).length) z80).toArray := by
  intro q hall;have e : compactUpTo d d.size = d.toList := by rw [compactUpTo_all d _ hall, range_map_get]
  rw [e];refine ⟨by simp, ?_⟩;simp only [Array.length_toList, Nat.sub_self, List.replicate_zero, List.append_nil, Array.toArray_toList];exact (putRowK_self encE 3 (Sort.ahead w q) g 0 d (holdsK_ahead encE 3 w q g 0 d hH)).symm
 have HS := Aside0.mk same;clear same;by_cases h2 : d.size < 2
 ·have HH := Aside0.mk hH;clear hH;go_enter Try.func134, Try.ntmps134
  go_wp2
  go_ret
  obtain ⟨e1, e2⟩ := HS.out 0 (fun j hj => keeps_lt_one d j (by omega));exact ⟨by rw [e1]; rfl, 0, e2⟩
 ·have HH := Aside0.mk hH;clear hH;go_enter Try.func134, Try.ntmps134
  go_wp2
  go_loopg [3] d.size (fun gg s3 wr => ∃ k q : Nat, 1 ≤ k ∧ k ≤ d.size ∧ d.size - k ≤ gg ∧ s3 = .int .i64 k ∧ wr = w.drewN q ∧ Aside0 (∀ j, j < k → keeps d j = true))
  case atStart => exact ⟨1, 0, Nat.le_refl _, by omega, by omega, rfl, rfl, ⟨keeps_lt_one d⟩⟩
  case round =>
   obtain ⟨k, q, a7, hk, hg, rfl, rfl, hall⟩ := hrel;by_cases hlt : k < d.size
   ·obtain ⟨c10, a3, a4, f10⟩ := cellE HH.out hlt;obtain ⟨a0, a1, a2, f00⟩ := cellE HH.out (show k - 1 < d.size by omega);generalize hx : d[k]! = x at c10 a3 a4;generalize hy : d[k - 1]! = y at a0 a1 a2;have B := Aside0.mk (And.intro hx hy);clear hx hy f10 f00;by_cases hdup : x = y
    ·have hE := fun W => eqE_yes (x := x) (y := y) hdup W
     go_wp2_with fail
     go_quiet (fail)
     go_wp2
     clear c10 a3 a4 a0 a1 a2 hE;have HD := Aside0.mk (B.out.1.trans (hdup.trans B.out.2.symm));clear hdup B;go_loopg [3, 5] d.size (fun gg s3 s5 wr => ∃ (kk k2 q2 : Nat) (dk : Array Ed), s3 = .int .i64 kk ∧ s5 = .int .i64 k2 ∧ 1 ≤ k2 ∧ k + k2 ≤ d.size ∧ d.size - (k + k2) ≤ gg ∧ Aside0 (wr = putRowK encE 3 (Sort.ahead w q2) g 0 dk) ∧ Aside0 (CompInv d (k + k2) kk dk))
     case atStart => exact ⟨k, 1, _, d, rfl, rfl, Nat.le_refl _, by omega, by omega, ⟨(putRowK_self encE 3 (Sort.ahead w _) g 0 d (holdsK_ahead encE 3 w _ g 0 d HH.out)).symm⟩, ⟨CompInv.start hall.out (keeps_neg (by omega) HD.out)⟩⟩
     case round =>
      obtain ⟨kk, k2, q2, dk, rfl, rfl, h1, hle, a6, W2, I2⟩ := hrel;have hkk := I2.out.lt;have hds := I2.out.size;have HK := Aside0.mk (show HoldsK encE 3 wr g 0 dk by rw [W2.out]; exact holdsK_putRowK encE 3 _ g 0 d dk (holdsK_ahead encE 3 w q2 g 0 d HH.out) hds);by_cases hlt2 : k + k2 < d.size
      ·obtain ⟨m0, m1, m2, _⟩ := cellE HK.out (i := k + k2) (by omega);obtain ⟨p0, p1, p2, _⟩ := cellE HK.out (i := k + (k2 - 1)) (by omega);obtain ⟨o0, o1, o2, f0, f1, f2⟩ := cellE HK.out (i := kk) (by omega);rw [I2.out.high _ (by omega), Nat.add_mul] at m0 m1 m2;rw [I2.out.high _ (by omega), Nat.add_mul] at p0 p1 p2;generalize hu : d[k + k2]! = u at m0 m1 m2;generalize hv : d[k + (k2 - 1)]! = v at p0 p1 p2;generalize dk[kk]! = old at o0 o1 o2;have C := Aside0.mk (And.intro hu hv);clear hu hv;by_cases huv : u = v
       ·have hE := fun W => eqE_yes (x := u) (y := v) huv W
        clear o0 o1 o2 f0 f1 f2;go_wp2_with fail
        go_quiet (fail)
        go_wp2
        go_roundg (d.size - (k + (k2 + 1)))
        case measure => omega
        case rel => exact ⟨kk, k2 + 1, _, dk, rfl, by go_num, by omega, by omega, Nat.le_refl _, ⟨by rw [W2.out]; exact putRowK_drewN encE 3 w q2 _ g 0 dk⟩, ⟨I2.out.skip (keeps_neg (by omega) (by rw [show k + k2 - 1 = k + (k2 - 1) by omega, C.out.1, C.out.2]; exact huv))⟩⟩
       ·have hE := fun W => eqE_no (x := u) (y := v) huv W
        go_wp2_with fail
        go_quiet (fail)
        go_wp2
        go_roundg (d.size - (k + (k2 + 1)))
        case measure => omega
        case rel =>
         have a5 := store_worldK encE 3 (fun _ => rfl) w (wr.drewN nq) (q2 + nq) g 0 dk kk u (by omega) (by rw [W2.out]; exact putRowK_drewN encE 3 w q2 nq g 0 dk);rw [Nat.zero_add] at a5;refine ⟨kk + 1, k2 + 1, q2 + nq, dk.setIfInBounds kk u, by go_num, by go_num, by omega, by omega, Nat.le_refl _, ⟨a5⟩, ⟨?_⟩⟩;have := I2.out.keep hlt2 (keeps_pos (by rw [show k + k2 - 1 = k + (k2 - 1) by omega, C.out.1, C.out.2]; exact huv));rwa [C.out.1] at this
      ·have hend : k + k2 = d.size := by omega
       have hzl : (Builtin.zeroCells #[Value.int .i64 0, .int .i64 0, .int .i64 0] (d.size - kk)).toList.length = (d.size - kk) * 3 := by simp [Builtin.zeroCells, Nat.mul_comm]
       have hcl : ∀ ty, (Builtin.clear_ #[23] ty #[.slice (some ⟨g, kk * 3, none⟩) (d.size - kk) (cap - kk)]).run Try.prog wr = .ok (.tuple #[]) (wr.setCells g (kk * 3) (Builtin.zeroCells #[Value.int .i64 0, .int .i64 0, .int .i64 0] (d.size - kk)).toList) := by
        intro ty;refine run_clear_edges wr ty g (kk * 3) (d.size - kk) (cap - kk) (by omega) (fun j hj => ?_) (fun j hj => ?_)
        ·rw [hzl] at hj;have := HK.out.cell (i := kk + j / 3) (c := j % 3) (by omega) (Nat.mod_lt _ (by omega));rw [show 0 + (kk + j / 3) * 3 + j % 3 = kk * 3 + j by omega] at this;rw [this.1]; rfl
        ·rw [hzl] at hj;have := HK.out.cell (i := kk + j / 3) (c := j % 3) (by omega) (Nat.mod_lt _ (by omega));rw [show 0 + (kk + j / 3) * 3 + j % 3 = kk * 3 + j by omega] at this;exact this.2
       have HW := Aside0.mk (clear_worldK encE 3 (fun _ => rfl) w wr q2 g 0 dk kk (d.size - kk) z80 (Builtin.zeroCells #[Value.int .i64 0, .int .i64 0, .int .i64 0] (d.size - kk)).toList (by omega) hzl (by
        intro t ht;rw [getElem!_pos _ t (by rw [hzl]; exact ht)];have h3 : t % 3 < 3 := Nat.mod_lt _ (by omega);rcases (show t % 3 = 0 ∨ t % 3 = 1 ∨ t % 3 = 2 by omega) with h | h | h <;> simp [Builtin.zeroCells, h, encE, z80]) W2.out)
       generalize (Builtin.zeroCells #[Value.int .i64 0, .int .i64 0, .int .i64 0] (d.size - kk)).toList = zc at hcl HW;clear hzl;go_wp2
       go_ret
       have hI := I2.out;rw [hend] at hI;refine ⟨by rw [hI.len]; rfl, q2, ?_⟩;have hw := HW.out;rw [Nat.zero_add] at hw;rw [hw, hI.len, ← hI.done z80]
    ·have hE := fun W => eqE_no (x := x) (y := y) hdup W
     go_wp2_with fail
     go_quiet (fail)
     go_wp2
     go_roundg (d.size - (k + 1))
     case measure => omega
     case rel =>
      refine ⟨k + 1, _, by omega, by omega, Nat.le_refl _, by go_num, rfl, ⟨fun j hj => ?_⟩⟩;by_cases e : j = k
      ·subst e;exact keeps_pos (by rw [B.out.1, B.out.2]; exact hdup)
      ·exact hall.out j (by omega)
   ·have : k = d.size := by omega
    subst this;go_wp2
    go_ret
    obtain ⟨e1, e2⟩ := HS.out q hall.out;exact ⟨by rw [e1]; rfl, q, e2⟩
theorem dd_len : ∀ l : List Ed, (dd l).length ≤ l.length
 | [] => Nat.le_refl _
 | [a] => Nat.le_refl _
 | a :: b :: r => by
  have ih := dd_len (b :: r)
  unfold dd
  split
  ·simp at ih ⊢; omega
  ·simp at ih ⊢; omega
theorem grown_sortedK (W : World) (g m : Nat) (d : Array Ed) (os : Array Obj) : W.grownBy (sortWorldK encE 3 W g 0 m d os) (some g) := by
 refine ⟨rfl, rfl, rfl, ?_, fun k hk hne => ?_⟩
 ·show W.heap.size ≤ ((W.heap.modify g (onCells (putCells id 0 (flatK encE 3 d)))) ++ os).size
  rw [Array.size_append, Array.size_modify]
  omega
 ·show ((W.heap.modify g (onCells (putCells id 0 (flatK encE 3 d)))) ++ os)[k]? = _
  rw [Array.getElem?_append_left (by rw [Array.size_modify]; omega), Array.getElem?_modify, if_neg (fun e => hne (by rw [e]))]
theorem sortC_any (base : Nat) (v : Value) (es : List Ed) (w : World) (h : Kd.R k80 80 w base (fun _ => True) v es) (hel : es.length ≤ 1000000) :
  Calls Try.prog 133 #[v, .func (.func 122) #[] #[]] w fun e w' => e = .returned (.tuple #[]) ∧ Kd.R k80 80 w' base (fun _ => True) v (sortedE es) ∧ w.grownBy w' v.ownBlock := by
 obtain ⟨A, c, rfl⟩ := Kd.R_slice h
 rcases A with _ | ad
 ·have h0 : es = [] := by
   obtain ⟨A', c', hv, _, hC⟩ := Kd.R_reads h
   injection hv with hA _ _
   subst hA
   rcases es with _ | ⟨x, r⟩
   ·rfl
   ·obtain ⟨ad, h, _⟩ := hC.2.2 (by simp)
    cases h
  subst h0
  refine (Calls.mono (R := fun e w' => e = .returned (.tuple #[]) ∧ w' = w) ?_ ?_)
  ·have := AnyF.slices_SortFunc_none Try.sortE none c (.func (.func 122) #[] #[]) w
   exact this
  ·rintro e w' ⟨rfl, rfl⟩
   exact ⟨rfl, by simpa [sortedE] using h, grown_of_below (Below.refl _ _) _⟩
 ·obtain ⟨g, rfl⟩ := Kd.R_head h
  refine (sortF_any g c es w (holdsK_of_R h) (Kd.R_lt h g rfl) hel).mono ?_
  rintro e w' ⟨rfl, n, os, rfl⟩
  have := R_sorted (es' := sortedE es) h (List.length_mergeSort es) n os
  rw [show (sortedE es).length = es.length from List.length_mergeSort es] at this
  exact ⟨rfl, this, grown_sortedK w g n _ os⟩
theorem sortedE_length (es : List Ed) : (sortedE es).length = es.length := List.length_mergeSort es
theorem compactE_any (g cap base : Nat) (es : List Ed) (w : World) (h : Kd.R k80 80 w base (fun _ => True) (.slice (some ⟨g, 0, none⟩) es.length cap) es) (hel : es.length ≤ 1000000) :
  Calls Try.prog 134 #[.slice (some ⟨g, 0, none⟩) es.length cap] w fun e w' => e = .returned (.slice (some ⟨g, 0, none⟩) (dd es).length cap) ∧ Kd.R k80 80 w' base (fun _ => True) (.slice (some ⟨g, 0, none⟩) (dd es).length cap) (dd es) ∧ w.grownBy w' (some g) := by
 have hc : es.length ≤ cap := (Kd.R_reads' h).2.1
 have hcd : compactUpTo es.toArray es.toArray.size = dd es := by rw [List.size_toArray]; exact compact_dd es
 have hw := compact_arr g cap es.toArray w (holdsK_of_R h) (by simpa using hel) (by simpa using hc)
 rw [hcd] at hw
 simp only [List.size_toArray] at hw
 refine hw.mono ?_
 rintro e w' ⟨rfl, q, rfl⟩
 have hl := dd_len es
 have hL : (dd es ++ List.replicate (es.length - (dd es).length) z80).length = es.length := by simp; omega
 have hs : putRowK encE 3 (Sort.ahead w q) g 0 (dd es ++ List.replicate (es.length - (dd es).length) z80).toArray = sortWorldK encE 3 w g 0 q (dd es ++ List.replicate (es.length - (dd es).length) z80).toArray #[] := by unfold sortWorldK; simp [grow]
 rw [hs]
 have hR := R_sorted h hL q #[]
 have hT := Kd.R_take (m := (dd es).length) hR (by simp)
 rw [List.take_left] at hT
 exact ⟨rfl, hT, grown_sortedK w g q _ #[]⟩
set_option maxHeartbeats 1000000 in
theorem compactE_none (A : Option Addr) (c : Nat) (w : World) : Calls Try.prog 134 #[.slice A 0 c] w fun e w' => e = .returned (.slice A 0 c) ∧ w' = w := by
 go_enter Try.func134, Try.ntmps134
 go_wp2
 go_ret
 exact ⟨rfl, rfl⟩
theorem compactC_any (base : Nat) (v : Value) (es : List Ed) (w : World) (h : Kd.R k80 80 w base (fun _ => True) v es) (hel : es.length ≤ 1000000) :
  Calls Try.prog 134 #[v] w fun e w' => ∃ v', e = .returned v' ∧ Kd.R k80 80 w' base (fun _ => True) v' (dd es) ∧ w.grownBy w' v.ownBlock := by
 obtain ⟨A, c, rfl⟩ := Kd.R_slice h
 rcases A with _ | ad
 ·have h0 : es = [] := by
   obtain ⟨A', c', hv, _, hC⟩ := Kd.R_reads h
   injection hv with hA _ _
   subst hA
   rcases es with _ | ⟨x, r⟩
   ·rfl
   ·obtain ⟨ad, h, _⟩ := hC.2.2 (by simp)
    cases h
  subst h0
  refine (compactE_none none c w).mono ?_
  rintro e w' ⟨rfl, rfl⟩
  exact ⟨_, rfl, h, grown_of_below (Below.refl _ _) _⟩
 ·obtain ⟨g, rfl⟩ := Kd.R_head h
  refine (compactE_any g c base es w h hel).mono ?_
  rintro e w' ⟨rfl, hR, hG⟩
  exact ⟨_, rfl, hR, hG⟩
end Go.Proofs.Ytmcbkmfpmcbdpaa.H
namespace Go.Proofs.Ytmcbkmfpmcbdpaa.H
open Go.RowKit Go.Proofs.Ytmcbkmfpmcbdpaa.Pr Go.Proofs.YtmcbkmfpmcbdpaaW.PrintWords Go.Proofs.Ytmcbkmfpmcbdpaa.Sem Go.Proofs.YtmcbkmfpmcbdpaaW.PrintLast
set_option maxHeartbeats 4000000 in
set_option maxRecDepth 100000 in
theorem cloneS_any (xs : List ByteArray) (A : Option Addr) (c : Nat) (w : World) (hC : Kd.C Kd.string w A xs.length xs) (hel : xs.length ≤ 1000000) :
  Calls Try.prog 135 #[.slice A xs.length c] w fun e w' => ∃ v0 : Value, e = .returned v0 ∧ Kd.R Kd.string 9 w' w.heap.size (fun _ => True) v0 xs ∧ Below w.heap.size w w' := by
 have HC := Aside0.mk hC;have HB := Aside0.mk (Below.refl w.heap.size w);rcases A with _ | ad
 ·have h0 : xs.length = 0 := by
   rcases Nat.eq_zero_or_pos xs.length with h | h
   ·exact h
   ·obtain ⟨ad, h, _⟩ := hC.2.2 h
    cases h
  obtain rfl : xs = [] := List.eq_nil_of_length_eq_zero h0;clear hC HC h0;have q_ : ∀ (W : World) (a : Option Addr) (n c n' c' : Nat), (binOp .eql 22 (.slice a n c) (.slice none n' c')).run Try.prog W = .ok (.bool a.isNone) W := fun W a n c n' c' => Lib.run_eql_slice_nil W _ _ a n c n' c' Try.underlying22
  go_enter Try.func135, Try.ntmps135
  go_wp2
  go_ret
  exact ⟨_, rfl, Kd.R_nil _ _ _ _ _, HB.out⟩
 ·clear hC;have q_ : ∀ (W : World) (a : Option Addr) (n c n' c' : Nat), (binOp .eql 22 (.slice a n c) (.slice none n' c')).run Try.prog W = .ok (.bool a.isNone) W := fun W a n c n' c' => Lib.run_eql_slice_nil W _ _ a n c n' c' Try.underlying22
  go_enter Try.func135, Try.ntmps135
  go_wp2_with (first
   | ((with_reducible refine gate_dst (N := 5) rfl ?_); refine Kd.R_lit Kd.string _ 9 ?hg (N := 5) ?hd (xs := ([] : List ByteArray)) (inner := []) (ok := fun _ => True) (okp := fun _ => True) ?hr ?hp (fun _ hk => hk) trivial (Below.refl _ _) (Nat.le_refl _) (by simp) ?_; (case hd => rfl); (case hg => rfl); (case hr => first | (go_simp; done) | (go_simp; rfl)); (case hp => exact (Reps.none _ _)); intro v1 w1 ho hb hg_ hnew_; clear hg_ hnew_; have HO := Aside0.mk ho; have HB1 := Aside0.mk (below_step HB.out hb); clear ho hb)
   | (at_builtin; refine Kd.R_append_rows Kd.string (w0 := w) w.heap.size rfl (.tmp 5) (.tmp 6) 22 9 (.string ⟨#[]⟩) 16 rfl Try.underlying22 info9 rfl (by decide) (by omega) v1 [] xs (some ad) _ c (fun _ => True) (fun _ => False) rfl rfl HO.out (Kd.C_below HC.out HB1.out) (fun _ _ h => h) (fun _ h => h.elim) (fun _ _ => trivial) HB1.out HB1.out.size (by simp; omega) ?_; intro v2 w2 ho hb hg hat; have HO2 := Aside0.mk ho; have HB2 := Aside0.mk hb; clear ho hb hg hat))
  go_ret
  exact ⟨_, rfl, by simpa using HO2.out, HB2.out⟩
theorem sortedE_sortE (es : List Ed) : dd (sortedE es) = sortE es := by
 refine dd_sortE ?_ fun x => (List.mergeSort_perm _ _).mem_iff
 have := List.pairwise_mergeSort (le := fun x y => !(ltOf cmpE) y x) (fun a b c h1 h2 => by
  simp only [ltE, Bool.not_eq_true', decide_eq_false_iff_not] at *
  unfold elt at *; omega) (fun a b => by
  simp only [ltE, Bool.or_eq_true, Bool.not_eq_true', decide_eq_false_iff_not]
  unfold elt; omega) es
 refine this.imp fun {a b} h => ?_
 simpa only [ltE, Bool.not_eq_true', decide_eq_false_iff_not] using h
theorem BoxL.set2 {w : World} {b : Nat} {n : Int} {v1 v2 : Value} (h : BoxL w b n v1 v2) (u : Value) : BoxL (w.setCell ⟨b, 2, none⟩ u) b n v1 u := blk_put h 2 u rfl
set_option maxRecDepth 100000 in
theorem sort_any (n : Int) (ls : List ByteArray) (es : List Ed) (A1 A2 : Option Addr) (c1 c2 : Nat) (w : World) (hr1 : Kd.C Kd.string w A1 ls.length ls) (hc1 : ls.length ≤ c1) (hr2 : Kd.C k80 w A2 es.length es) (hc2 : es.length ≤ c2) (hl : ls.length ≤ 1000000) (he : es.length ≤ 1000000) {r1 : Int} {r2 : List ByteArray} {r3 : List Ed} {r4 : Int} (h : (if mayR n ls (sortE es) then (n, ls, sortE es, (0 : Int)) else (0, [], [], 1)) = (r1, r2, r3, r4)) :
  Calls Try.prog 104 #[.agg #[.int .i64 n, .slice A1 ls.length c1, .slice A2 es.length c2]] w fun e w' => ∃ v1_ v2_ : Value, e = .returned (.tuple #[.agg #[.int .i64 r1, v1_, v2_], .int .i64 r4]) ∧ Kd.R Kd.string 9 w' w.heap.size (fun _ => True) v1_ r2 ∧ Kd.R k80 80 w' w.heap.size (fun _ => True) v2_ r3 ∧ Below w.heap.size w w' := by
 have HB := Aside0.mk (Below.refl w.heap.size w);have b9 := Aside0.mk hr1;have e5 := Aside0.mk hr2;have HH := Aside0.mk h;clear hr1 hr2 h;go_enter Try.func104, Try.ntmps104
 go_wp2_with fail
 refine (clone_any es A2 c2 _ (Kd.C_below e5.out (below_alloc (below_alloc HB.out _) _)) he).mono ?_;rintro e w1 ⟨v1, rfl, hR, hB⟩;have d2 := Kd.R_lower (base' := w.heap.size) hR (below_alloc (below_alloc HB.out _) _).size;have a8 := Aside0.mk (show BoxL w1 w.heap.size n (.slice A1 ls.length c1) (.slice A2 es.length c2) from blk_below (blk_alloc (blk_new w _) _) hB);have e1 := Aside0.mk (show w1.heap[w.heap.size + 1]? = some (.cells #[.int .i64 0, .slice none 0 0, .slice none 0 0] 25 (0, 0)) from blk_below (by have := blk_new (w.alloc (.cells #[.int .i64 n, .slice A1 ls.length c1, .slice A2 es.length c2] 25)) (.cells #[.int .i64 0, .slice none 0 0, .slice none 0 0] 25); simpa using this) hB);have d5 := Aside0.mk (below_then (below_alloc (below_alloc HB.out _) _) (below_alloc (below_alloc HB.out _) _).size hB);have d8 := Aside0.mk d2;have b2 := a8.out.c2;have f2 := Go.Proofs.YtmcbkmfpmcbdpaaW.PrintWords.blk_frozen a8.out 2;obtain ⟨A4, c4, e8⟩ := Kd.R_slice d2;subst e8;clear hR hB d2;go_wp2_with fail
 have b4 := Aside0.mk (a8.out.set2 (.slice A4 es.length c4));have b6 := Aside0.mk (blk_far e1.out (p := ⟨w.heap.size, 2, none⟩) (by simp) (.slice A4 es.length c4));have a5 := Aside0.mk (Kd.R_set d8.out a8.out (by decide) 2 (.slice A4 es.length c4));have a9 := Aside0.mk (below_set d5.out (Nat.le_refl _) (j := 2) (v := .slice A4 es.length c4));clear b2 f2 a8 e1 d8 d5;generalize w1.setCell ⟨w.heap.size, 2, none⟩ (.slice A4 es.length c4) = w2 at b4 b6 a5 a9 ⊢;refine (sortC_any w.heap.size _ es w2 a5.out he).mono ?_;rintro e w3 ⟨rfl, hR, hG⟩;have b5 := Aside0.mk (show BoxL w3 w.heap.size n (.slice A1 ls.length c1) (.slice A4 es.length c4) from blk_grown b4.out hG (Kd.R_ne a5.out b4.out (by decide)));have d1 := Aside0.mk (blk_grown b6.out hG (Kd.R_ne a5.out b6.out (by decide)));have b8 := Aside0.mk (pw_below_grown a9.out _ a9.out.size hG (fun k hk => Kd.R_base a5.out k hk));have a7 := Aside0.mk hR;have b2 := b5.out.c2;clear b4 b6 a5 a9 hR hG;go_wp2_with fail
 refine (compactC_any w.heap.size _ (sortedE es) w3 a7.out (by rw [sortedE_length]; exact he)).mono ?_;rintro e w4 ⟨v5, rfl, hR, hG⟩;rw [sortedE_sortE] at hR;have a3 := Aside0.mk (show BoxL w4 w.heap.size n (.slice A1 ls.length c1) (.slice A4 es.length c4) from blk_grown b5.out hG (Kd.R_ne a7.out b5.out (by decide)));have e2 := Aside0.mk (blk_grown d1.out hG (Kd.R_ne a7.out d1.out (by decide)));have d6 := Aside0.mk (pw_below_grown b8.out _ b8.out.size hG (fun k hk => Kd.R_base a7.out k hk));obtain ⟨A6, c6, e9⟩ := Kd.R_slice hR;subst e9;have d9 := Aside0.mk hR;have b0 := a3.out.c0;have b1 := a3.out.c1;have b2' := a3.out.c2;have f2 := Go.Proofs.YtmcbkmfpmcbdpaaW.PrintWords.blk_frozen a3.out 2;clear b2 b5 d1 a7 b8 hR hG;go_wp2_with fail
 have d0 := Aside0.mk (a3.out.set2 (.slice A6 (sortE es).length c6));have b7 := Aside0.mk (blk_far e2.out (p := ⟨w.heap.size, 2, none⟩) (by simp) (.slice A6 (sortE es).length c6));have b3 := Aside0.mk (Kd.R_set d9.out a3.out (by decide) 2 (.slice A6 (sortE es).length c6));have a1 := Aside0.mk (below_set d6.out (Nat.le_refl _) (j := 2) (v := .slice A6 (sortE es).length c6));clear b0 b1 b2' f2 a3 e2 d9 d6;generalize w4.setCell ⟨w.heap.size, 2, none⟩ (.slice A6 (sortE es).length c6) = w5 at d0 b7 b3 a1 ⊢;obtain ⟨_, _, hv, hcl, hC⟩ := Kd.R_reads b3.out;injection hv with hA _ hc
 subst hA hc;have d7 := Aside0.mk hC;have f3 := Aside0.mk hcl;clear hC hcl
 cases hm : mayR n ls (sortE es) with
 | false =>
  have HF := HH.out;rw [hm, if_neg (by simp)] at HF;simp only [Prod.mk.injEq] at HF;obtain ⟨rfl, rfl, rfl, rfl⟩ := HF;refine (check_no n ls (sortE es) A1 A6 c1 c6 w5 (Kd.C_below b9.out a1.out) d7.out (by rw [may_same]; exact hm)).mono ?_;rintro e w6 ⟨rfl, hB⟩;have a0 := Aside0.mk (blk_below b7.out hB);have a4 := Aside0.mk (below_then a1.out a1.out.size hB);have y0 := bcz a0 0 rfl;have y1 := bcz a0 1 rfl;have y2 := bcz a0 2 rfl;have g0 := Go.Proofs.YtmcbkmfpmcbdpaaW.PrintWords.blk_frozen a0.out 0;have g1 := Go.Proofs.YtmcbkmfpmcbdpaaW.PrintWords.blk_frozen a0.out 1;have g2 := Go.Proofs.YtmcbkmfpmcbdpaaW.PrintWords.blk_frozen a0.out 2;clear hB hm;go_wp2
  refine bodyPost_ret (results_ct rfl _ _ (w.heap.size + 1) 25 #[.int .i64 0, .slice none 0 0, .slice none 0 0] (0, 0) _ rfl (blk_put (blk_put (blk_put a0.out 0 (.int .i64 0) rfl) 1 (.slice none 0 0) rfl) 2 (.slice none 0 0) rfl) Try.underlying25 rfl (by kernel_rfl)) rfl ?_;exact ⟨_, _, rfl, Kd.R_nil _ _ _ _ _, Kd.R_nil _ _ _ _ _, below_set (below_set (below_set a4.out (by omega)) (by omega)) (by omega)⟩
 | true =>
  have HF := HH.out;rw [hm, if_pos rfl] at HF;simp only [Prod.mk.injEq] at HF;obtain ⟨rfl, rfl, rfl, rfl⟩ := HF;refine (check_yes n ls (sortE es) A1 A6 c1 c6 w5 (Kd.C_below b9.out a1.out) d7.out (by rw [may_same]; exact hm)).mono ?_;rintro e w6 ⟨rfl, hB⟩;have e0 := Aside0.mk (d0.out.below hB);have a0 := Aside0.mk (blk_below b7.out hB);have e6 := Aside0.mk (Kd.R_below b3.out hB);have a4 := Aside0.mk (below_then a1.out a1.out.size hB);have b1 := e0.out.c1;clear hB hm d0 b7 b3 a1;go_wp2_with fail
  refine (cloneS_any ls A1 c1 w6 (Kd.C_below b9.out a4.out) hl).mono ?_;rintro e w7 ⟨v8, rfl, hR, hB⟩;obtain ⟨A8, c8, f0⟩ := Kd.R_slice hR;subst f0;have a6 := Aside0.mk (e0.out.below hB);have a2 := Aside0.mk (blk_below a0.out hB);have e7 := Aside0.mk (Kd.R_below e6.out hB);have e4 := Aside0.mk (Kd.R_lower hR a4.out.size);have e3 := Aside0.mk (below_then a4.out a4.out.size hB);have b0 := a6.out.c0;have b1' := a6.out.c1;have b2 := a6.out.c2;have f1 := Go.Proofs.YtmcbkmfpmcbdpaaW.PrintWords.blk_frozen a6.out 1;have y0 := bcz a2 0 rfl;have y1 := bcz a2 1 rfl;have y2 := bcz a2 2 rfl;have g0 := Go.Proofs.YtmcbkmfpmcbdpaaW.PrintWords.blk_frozen a2.out 0;have g1 := Go.Proofs.YtmcbkmfpmcbdpaaW.PrintWords.blk_frozen a2.out 1;have g2 := Go.Proofs.YtmcbkmfpmcbdpaaW.PrintWords.blk_frozen a2.out 2;clear b1 hB hR;go_wp2
  refine bodyPost_ret (results_ct rfl _ _ (w.heap.size + 1) 25 #[.int .i64 n, .slice A8 ls.length c8, .slice A6 (sortE es).length c6] (0, 0) _ rfl (blk_put (blk_put (blk_put (blk_far a2.out (p := ⟨w.heap.size, 1, none⟩) (by simp) _) 0 (.int .i64 n) rfl) 1 (.slice A8 ls.length c8) rfl) 2 (.slice A6 (sortE es).length c6) rfl) Try.underlying25 rfl (by kernel_rfl)) rfl ?_;have d3 := blk_far a2.out (p := ⟨w.heap.size, 1, none⟩) (by simp) (.slice A8 ls.length c8);have d4 := blk_put d3 0 (.int .i64 n) rfl;have hYa := blk_put d4 1 (.slice A8 ls.length c8) rfl
  exact ⟨_, _, rfl, Kd.R_set (Kd.R_set (Kd.R_set (Kd.R_set e4.out a6.out (by decide) 1 _) d3 (by decide) 0 _) d4 (by decide) 1 _) hYa (by decide) 2 _,
   Kd.R_set (Kd.R_set (Kd.R_set (Kd.R_set e7.out a6.out (by decide) 1 _) d3 (by decide) 0 _) d4 (by decide) 1 _) hYa (by decide) 2 _,
   below_set (below_set (below_set (below_set e3.out (Nat.le_refl _)) (by omega)) (by omega)) (by omega)⟩
end Go.Proofs.Ytmcbkmfpmcbdpaa.H
namespace Go.Proofs.Ytmcbkmfpmcbdpaa.Pr
open Go.RowKit Go.Proofs.YtmcbkmfpmcbdpaaW.PrintWords Go.Proofs.YtmcbkmfpmcbdpaaW.PrintLast Go.Proofs.YtmcbkmfpmcbdpaaW.PrintMore
def Pxi.f (a0_0 : Int) (l0_1 : List ByteArray) (l0_2 : List S80) : Option Int := some (H.errB (H.mayR a0_0 l0_1 l0_2))
theorem Pxi.calls (a0_0 : Int) (A0_1 : Option Addr) (c0_1 : Nat) (l0_1 : List ByteArray) (A0_2 : Option Addr) (c0_2 : Nat) (l0_2 : List S80) (r : Int) (w : World) (hr0_1 : Kd.C Kd.string w A0_1 l0_1.length l0_1) (hc0_1 : l0_1.length ≤ c0_1) (hr0_2 : Kd.C k80 w A0_2 l0_2.length l0_2) (hc0_2 : l0_2.length ≤ c0_2) (h : Pxi.f a0_0 l0_1 l0_2 = some r) :
  Calls Try.prog 72 #[.agg #[.int .i64 a0_0, .slice A0_1 l0_1.length c0_1, .slice A0_2 l0_2.length c0_2]] w fun e w' => e = .returned (.int .i64 r) ∧ Below w.heap.size w w' := by
 have e : H.errB (H.mayR a0_0 l0_1 l0_2) = r := by simpa [Pxi.f] using h
 subst e
 rw [← H.may_same]
 exact H.check_any a0_0 l0_1 l0_2 A0_1 A0_2 c0_1 c0_2 w hr0_1 hr0_2
def Pxj.f (a0_0 : Int) (l0_1 : List ByteArray) (l0_2 : List S80) : Option (Int × List ByteArray × List S80 × Int) :=
 if l0_2.length ≤ 1000000 ∧ l0_1.length ≤ 1000000 then some (if H.mayR a0_0 l0_1 (Sem.sortE l0_2) then (a0_0, l0_1, Sem.sortE l0_2, 0) else (0, [], [], 1)) else none
theorem Pxj.calls (a0_0 : Int) (A0_1 : Option Addr) (c0_1 : Nat) (l0_1 : List ByteArray) (A0_2 : Option Addr) (c0_2 : Nat) (l0_2 : List S80) (r1 : Int) (r2 : List ByteArray) (r3 : List S80) (r4 : Int) (w : World) (hr0_1 : Kd.C Kd.string w A0_1 l0_1.length l0_1) (hc0_1 : l0_1.length ≤ c0_1) (hr0_2 : Kd.C k80 w A0_2 l0_2.length l0_2) (hc0_2 : l0_2.length ≤ c0_2) (h : Pxj.f a0_0 l0_1 l0_2 = some (r1, r2, r3, r4)) :
  Calls Try.prog 104 #[.agg #[.int .i64 a0_0, .slice A0_1 l0_1.length c0_1, .slice A0_2 l0_2.length c0_2]] w fun e w' => ∃ v1_ v2_ : Value, e = .returned (.tuple #[.agg #[.int .i64 r1, v1_, v2_], .int .i64 r4]) ∧ Kd.R Kd.string 9 w' w.heap.size (fun _ => True) v1_ r2 ∧ Kd.R k80 80 w' w.heap.size (fun _ => True) v2_ r3 ∧ Below w.heap.size w w' := by
 unfold Pxj.f at h
 split at h
 ·rename_i hn
  simp only [Option.some.injEq] at h
  exact H.sort_any a0_0 l0_1 l0_2 A0_1 A0_2 c0_1 c0_2 w hr0_1 hc0_1 hr0_2 hc0_2 hn.2 hn.1 h
 ·cases h
attribute [local go_sem] max2_int min2_int max_two min_two max_three min_three max_four min_four
set_option linter.unusedVariables false
set_option linter.unusedSimpArgs false
mutual
def Pxg.j0 : Nat → Bool → Int → List ByteArray → List (S80) → Int → List ByteArray → List (S80) → Option (Int × List ByteArray × (List (S80)) × Int)
 | 0, _, _, _, _, _, _, _ => none
 | k + 1, x22, x140000, x140001, x140002, x141000, x141001, x141002 => if x22 = true then (some (0, ([] : List ByteArray), ([] : List (S80)), 1)) else ((Pxe.f x140001 x141001).bind fun t144 => (if (wrap64 (x140000 * x141000)) > 2048 then (Pxg.j1 k true x140000 x140001 x140002 x141000 x141001 x141002 (wrap64 (x140000 * x141000)) t144) else (Pxg.j1 k (decide ((t144.length : Int) > 64)) x140000 x140001 x140002 x141000 x141001 x141002 (wrap64 (x140000 * x141000)) t144)))
def Pxg.j1 : Nat → Bool → Int → List ByteArray → List (S80) → Int → List ByteArray → List (S80) → Int → List ByteArray → Option (Int × List ByteArray × (List (S80)) × Int)
 | 0, _, _, _, _, _, _, _, _, _ => none
 | k + 1, x43, x140000, x140001, x140002, x141000, x141001, x141002, x148000, x148001 => if x43 = true then (some (0, ([] : List ByteArray), ([] : List (S80)), 8)) else (Pxg.l0 k x148001 (x148001.length : Int) 0 x140000 x140001 x140002 x141000 x141001 x141002 x148000 x148001 ([] : List (S80)))
def Pxg.l0 : Nat → List ByteArray → Int → Int → Int → List ByteArray → List (S80) → Int → List ByteArray → List (S80) → Int → List ByteArray → List (S80) → Option (Int × List ByteArray × (List (S80)) × Int)
 | 0, _, _, _, _, _, _, _, _, _, _, _, _ => none
 | k + 1, x46, x47, x48, x140000, x140001, x140002, x141000, x141001, x141002, x148000, x148001, x148002 => if x48 < x47 then (if 0 ≤ x48 then (if x48 < (x46.length : Int) then ((Pxc.f k x140000 x140001 x140002 x141000 x141001 x141002 (rdOf ByteArray.empty x46 x48)).bind fun bt157 => (if (wrap64 ((x148002.length : Int) + (wrap64 ((bt157.1.length : Int) * (bt157.2.length : Int))))) > 1000000 then (some (0, ([] : List ByteArray), ([] : List (S80)), 8)) else (Pxg.l1 k x48 bt157.2 x46 x47 x48 bt157.1 (bt157.1.length : Int) 0 x140000 x140001 x140002 x141000 x141001 x141002 x148000 x148001 x148002))) else (none)) else (none)) else ((Pxj.f x148000 x148001 x148002).bind fun bt148 => (some (bt148.1, bt148.2.1, bt148.2.2.1, bt148.2.2.2)))
def Pxg.l1 : Nat → Int → List (S80) → List ByteArray → Int → Int → List (S80) → Int → Int → Int → List ByteArray → List (S80) → Int → List ByteArray → List (S80) → Int → List ByteArray → List (S80) → Option (Int × List ByteArray × (List (S80)) × Int)
 | 0, _, _, _, _, _, _, _, _, _, _, _, _, _, _, _, _, _ => none
 | k + 1, x7, x10, x46, x47, x48, x71, x72, x73, x140000, x140001, x140002, x141000, x141001, x141002, x148000, x148001, x148002 => if x73 < x72 then (if 0 ≤ x73 then (if x73 < (x71.length : Int) then (Pxg.l2 k x7 x10 x46 x47 x48 x71 x72 x73 x10 (x10.length : Int) 0 x140000 x140001 x140002 x141000 x141001 x141002 x148000 x148001 x148002 ((rd_T80 x71 x73).f0) ((rd_T80 x71 x73).f1) ((rd_T80 x71 x73).f2)) else (none)) else (none)) else (Pxg.l0 k x46 x47 (wrap64 (x48 + 1)) x140000 x140001 x140002 x141000 x141001 x141002 x148000 x148001 x148002)
def Pxg.l2 : Nat → Int → List (S80) → List ByteArray → Int → Int → List (S80) → Int → Int → List (S80) → Int → Int → Int → List ByteArray → List (S80) → Int → List ByteArray → List (S80) → Int → List ByteArray → List (S80) → Int → Int → Int → Option (Int × List ByteArray × (List (S80)) × Int)
 | 0, _, _, _, _, _, _, _, _, _, _, _, _, _, _, _, _, _, _, _, _, _, _, _ => none
 | k + 1, x7, x10, x46, x47, x48, x71, x72, x73, x77, x78, x79, x140000, x140001, x140002, x141000, x141001, x141002, x148000, x148001, x148002, x165000, x165001, x165002 => if x79 < x78 then (if 0 ≤ x79 then (if x79 < (x77.length : Int) then (if x148002.length < 5864062014805 then (Pxg.l2 k x7 x10 x46 x47 x48 x71 x72 x73 x77 x78 (wrap64 (x79 + 1)) x140000 x140001 x140002 x141000 x141001 x141002 x148000 x148001 (x148002 ++ [(⟨wrap64 ((wrap64 (x165000 * x141000)) + ((rd_T80 x77 x79).f0)), x7, wrap64 ((wrap64 (x165002 * x141000)) + ((rd_T80 x77 x79).f2))⟩ : S80)]) x165000 x165001 x165002) else (none)) else (none)) else (none)) else (Pxg.l1 k x7 x10 x46 x47 x48 x71 x72 (wrap64 (x73 + 1)) x140000 x140001 x140002 x141000 x141001 x141002 x148000 x148001 x148002)
end
def Pxg.f (k : Nat) (a0_0 : Int) (l0_1 : List ByteArray) (l0_2 : List (S80)) (a1_0 : Int) (l1_1 : List ByteArray) (l1_2 : List (S80)) : Option (Int × List ByteArray × (List (S80)) × Int) := (Pxi.f a0_0 l0_1 l0_2).bind fun t142 => (if t142 = 0 then ((Pxi.f a1_0 l1_1 l1_2).bind fun t143 => (Pxg.j0 k (t143 != 0) a0_0 l0_1 l0_2 a1_0 l1_1 l1_2)) else (Pxg.j0 k true a0_0 l0_1 l0_2 a1_0 l1_1 l1_2))
theorem Pxg.mono_l : ∀ k, (∀ y0 y1 y2 y3 y4 y5 y6, LeO (Pxg.j0 k y0 y1 y2 y3 y4 y5 y6) (Pxg.j0 (k + 1) y0 y1 y2 y3 y4 y5 y6)) ∧ (∀ y0 y1 y2 y3 y4 y5 y6 y7 y8, LeO (Pxg.j1 k y0 y1 y2 y3 y4 y5 y6 y7 y8) (Pxg.j1 (k + 1) y0 y1 y2 y3 y4 y5 y6 y7 y8)) ∧ (∀ y0 y1 y2 y3 y4 y5 y6 y7 y8 y9 y10 y11, LeO (Pxg.l0 k y0 y1 y2 y3 y4 y5 y6 y7 y8 y9 y10 y11) (Pxg.l0 (k + 1) y0 y1 y2 y3 y4 y5 y6 y7 y8 y9 y10 y11)) ∧ (∀ y0 y1 y2 y3 y4 y5 y6 y7 y8 y9 y10 y11 y12 y13 y14 y15 y16, LeO (Pxg.l1 k y0 y1 y2 y3 y4 y5 y6 y7 y8 y9 y10 y11 y12 y13 y14 y15 y16) (Pxg.l1 (k + 1) y0 y1 y2 y3 y4 y5 y6 y7 y8 y9 y10 y11 y12 y13 y14 y15 y16)) ∧ (∀ y0 y1 y2 y3 y4 y5 y6 y7 y8 y9 y10 y11 y12 y13 y14 y15 y16 y17 y18 y19 y20 y21 y22, LeO (Pxg.l2 k y0 y1 y2 y3 y4 y5 y6 y7 y8 y9 y10 y11 y12 y13 y14 y15 y16 y17 y18 y19 y20 y21 y22) (Pxg.l2 (k + 1) y0 y1 y2 y3 y4 y5 y6 y7 y8 y9 y10 y11 y12 y13 y14 y15 y16 y17 y18 y19 y20 y21 y22))
 | 0 => ⟨fun _ _ _ _ _ _ _ r h => by simp [Pxg.j0] at h, fun _ _ _ _ _ _ _ _ _ r h => by simp [Pxg.j1] at h, fun _ _ _ _ _ _ _ _ _ _ _ _ r h => by simp [Pxg.l0] at h, fun _ _ _ _ _ _ _ _ _ _ _ _ _ _ _ _ _ r h => by simp [Pxg.l1] at h, fun _ _ _ _ _ _ _ _ _ _ _ _ _ _ _ _ _ _ _ _ _ _ _ r h => by simp [Pxg.l2] at h⟩
 | k + 1 => by
  obtain ⟨ih0, ih1, ih2, ih3, ih4⟩ := Pxg.mono_l k
  refine ⟨?_, ?_, ?_, ?_, ?_⟩
  ·intro y0 y1 y2 y3 y4 y5 y6
   unfold Pxg.j0
   repeat' first
   | (with_reducible exact ih0 _ _ _ _ _ _ _)
   | (with_reducible exact ih1 _ _ _ _ _ _ _ _ _)
   | (with_reducible exact ih2 _ _ _ _ _ _ _ _ _ _ _ _)
   | (with_reducible exact ih3 _ _ _ _ _ _ _ _ _ _ _ _ _ _ _ _ _)
   | (with_reducible exact ih4 _ _ _ _ _ _ _ _ _ _ _ _ _ _ _ _ _ _ _ _ _ _ _)
   | (with_reducible exact Pxc.mono _ _ _ _ _ _ _ _)
   | (with_reducible exact LeO.refl _)
   | (with_reducible exact LeO.none _)
   | (with_reducible refine LeO.ite ?_ ?_)
   | (with_reducible refine LeO.bind ?_ (fun _ => ?_))
   | exact ih0 _ _ _ _ _ _ _
   | exact ih1 _ _ _ _ _ _ _ _ _
   | exact ih2 _ _ _ _ _ _ _ _ _ _ _ _
   | exact ih3 _ _ _ _ _ _ _ _ _ _ _ _ _ _ _ _ _
   | exact ih4 _ _ _ _ _ _ _ _ _ _ _ _ _ _ _ _ _ _ _ _ _ _ _
   | exact Pxc.mono _ _ _ _ _ _ _ _
   | exact LeO.none _
   | refine LeO.ite ?_ ?_
   | refine LeO.bind ?_ (fun _ => ?_)
  ·intro y0 y1 y2 y3 y4 y5 y6 y7 y8
   unfold Pxg.j1
   repeat' first
   | (with_reducible exact ih0 _ _ _ _ _ _ _)
   | (with_reducible exact ih1 _ _ _ _ _ _ _ _ _)
   | (with_reducible exact ih2 _ _ _ _ _ _ _ _ _ _ _ _)
   | (with_reducible exact ih3 _ _ _ _ _ _ _ _ _ _ _ _ _ _ _ _ _)
   | (with_reducible exact ih4 _ _ _ _ _ _ _ _ _ _ _ _ _ _ _ _ _ _ _ _ _ _ _)
   | (with_reducible exact Pxc.mono _ _ _ _ _ _ _ _)
   | (with_reducible exact LeO.refl _)
   | (with_reducible exact LeO.none _)
   | (with_reducible refine LeO.ite ?_ ?_)
   | (with_reducible refine LeO.bind ?_ (fun _ => ?_))
   | exact ih0 _ _ _ _ _ _ _
   | exact ih1 _ _ _ _ _ _ _ _ _
   | exact ih2 _ _ _ _ _ _ _ _ _ _ _ _
   | exact ih3 _ _ _ _ _ _ _ _ _ _ _ _ _ _ _ _ _
   | exact ih4 _ _ _ _ _ _ _ _ _ _ _ _ _ _ _ _ _ _ _ _ _ _ _
   | exact Pxc.mono _ _ _ _ _ _ _ _
   | exact LeO.none _
   | refine LeO.ite ?_ ?_
   | refine LeO.bind ?_ (fun _ => ?_)
  ·intro y0 y1 y2 y3 y4 y5 y6 y7 y8 y9 y10 y11
   unfold Pxg.l0
   repeat' first
   | (with_reducible exact ih0 _ _ _ _ _ _ _)
   | (with_reducible exact ih1 _ _ _ _ _ _ _ _ _)
   | (with_reducible exact ih2 _ _ _ _ _ _ _ _ _ _ _ _)
   | (with_reducible exact ih3 _ _ _ _ _ _ _ _ _ _ _ _ _ _ _ _ _)
   | (with_reducible exact ih4 _ _ _ _ _ _ _ _ _ _ _ _ _ _ _ _ _ _ _ _ _ _ _)
   | (with_reducible exact Pxc.mono _ _ _ _ _ _ _ _)
   | (with_reducible exact LeO.refl _)
   | (with_reducible exact LeO.none _)
   | (with_reducible refine LeO.ite ?_ ?_)
   | (with_reducible refine LeO.bind ?_ (fun _ => ?_))
   | exact ih0 _ _ _ _ _ _ _
   | exact ih1 _ _ _ _ _ _ _ _ _
   | exact ih2 _ _ _ _ _ _ _ _ _ _ _ _
   | exact ih3 _ _ _ _ _ _ _ _ _ _ _ _ _ _ _ _ _
   | exact ih4 _ _ _ _ _ _ _ _ _ _ _ _ _ _ _ _ _ _ _ _ _ _ _
   | exact Pxc.mono _ _ _ _ _ _ _ _
   | exact LeO.none _
   | refine LeO.ite ?_ ?_
   | refine LeO.bind ?_ (fun _ => ?_)
  ·intro y0 y1 y2 y3 y4 y5 y6 y7 y8 y9 y10 y11 y12 y13 y14 y15 y16
   unfold Pxg.l1
   repeat' first
   | (with_reducible exact ih0 _ _ _ _ _ _ _)
   | (with_reducible exact ih1 _ _ _ _ _ _ _ _ _)
   | (with_reducible exact ih2 _ _ _ _ _ _ _ _ _ _ _ _)
   | (with_reducible exact ih3 _ _ _ _ _ _ _ _ _ _ _ _ _ _ _ _ _)
   | (with_reducible exact ih4 _ _ _ _ _ _ _ _ _ _ _ _ _ _ _ _ _ _ _ _ _ _ _)
   | (with_reducible exact Pxc.mono _ _ _ _ _ _ _ _)
   | (with_reducible exact LeO.refl _)
   | (with_reducible exact LeO.none _)
   | (with_reducible refine LeO.ite ?_ ?_)
   | (with_reducible refine LeO.bind ?_ (fun _ => ?_))
   | exact ih0 _ _ _ _ _ _ _
   | exact ih1 _ _ _ _ _ _ _ _ _
   | exact ih2 _ _ _ _ _ _ _ _ _ _ _ _
   | exact ih3 _ _ _ _ _ _ _ _ _ _ _ _ _ _ _ _ _
   | exact ih4 _ _ _ _ _ _ _ _ _ _ _ _ _ _ _ _ _ _ _ _ _ _ _
   | exact Pxc.mono _ _ _ _ _ _ _ _
   | exact LeO.none _
   | refine LeO.ite ?_ ?_
   | refine LeO.bind ?_ (fun _ => ?_)
  ·intro y0 y1 y2 y3 y4 y5 y6 y7 y8 y9 y10 y11 y12 y13 y14 y15 y16 y17 y18 y19 y20 y21 y22
   unfold Pxg.l2
   repeat' first
   | (with_reducible exact ih0 _ _ _ _ _ _ _)
   | (with_reducible exact ih1 _ _ _ _ _ _ _ _ _)
   | (with_reducible exact ih2 _ _ _ _ _ _ _ _ _ _ _ _)
   | (with_reducible exact ih3 _ _ _ _ _ _ _ _ _ _ _ _ _ _ _ _ _)
   | (with_reducible exact ih4 _ _ _ _ _ _ _ _ _ _ _ _ _ _ _ _ _ _ _ _ _ _ _)
   | (with_reducible exact Pxc.mono _ _ _ _ _ _ _ _)
   | (with_reducible exact LeO.refl _)
   | (with_reducible exact LeO.none _)
   | (with_reducible refine LeO.ite ?_ ?_)
   | (with_reducible refine LeO.bind ?_ (fun _ => ?_))
   | exact ih0 _ _ _ _ _ _ _
   | exact ih1 _ _ _ _ _ _ _ _ _
   | exact ih2 _ _ _ _ _ _ _ _ _ _ _ _
   | exact ih3 _ _ _ _ _ _ _ _ _ _ _ _ _ _ _ _ _
   | exact ih4 _ _ _ _ _ _ _ _ _ _ _ _ _ _ _ _ _ _ _ _ _ _ _
   | exact Pxc.mono _ _ _ _ _ _ _ _
   | exact LeO.none _
   | refine LeO.ite ?_ ?_
   | refine LeO.bind ?_ (fun _ => ?_)
theorem Pxg.mono : ∀ a0 a1 a2 a3 a4 a5 k, LeO (Pxg.f k a0 a1 a2 a3 a4 a5) (Pxg.f (k + 1) a0 a1 a2 a3 a4 a5) := by
 intro a0 a1 a2 a3 a4 a5 k
 obtain ⟨ih0, ih1, ih2, ih3, ih4⟩ := Pxg.mono_l k
 unfold Pxg.f
 repeat' first
   | (with_reducible exact ih0 _ _ _ _ _ _ _)
   | (with_reducible exact ih1 _ _ _ _ _ _ _ _ _)
   | (with_reducible exact ih2 _ _ _ _ _ _ _ _ _ _ _ _)
   | (with_reducible exact ih3 _ _ _ _ _ _ _ _ _ _ _ _ _ _ _ _ _)
   | (with_reducible exact ih4 _ _ _ _ _ _ _ _ _ _ _ _ _ _ _ _ _ _ _ _ _ _ _)
   | (with_reducible exact Pxc.mono _ _ _ _ _ _ _ _)
   | (with_reducible exact LeO.refl _)
   | (with_reducible exact LeO.none _)
   | (with_reducible refine LeO.ite ?_ ?_)
   | (with_reducible refine LeO.bind ?_ (fun _ => ?_))
   | exact ih0 _ _ _ _ _ _ _
   | exact ih1 _ _ _ _ _ _ _ _ _
   | exact ih2 _ _ _ _ _ _ _ _ _ _ _ _
   | exact ih3 _ _ _ _ _ _ _ _ _ _ _ _ _ _ _ _ _
   | exact ih4 _ _ _ _ _ _ _ _ _ _ _ _ _ _ _ _ _ _ _ _ _ _ _
   | exact Pxc.mono _ _ _ _ _ _ _ _
   | exact LeO.none _
   | refine LeO.ite ?_ ?_
   | refine LeO.bind ?_ (fun _ => ?_)
def Pxg.T3 : Bool × List (List Nat × List Nat) := (true, [([], []), ([0], [0]), ([], []), ([2], [2]), ([1, 3], [1, 3]), ([], []), ([5], [5]), ([], []), ([7], [7]), ([6, 8], [6, 8]), ([4, 9], [4, 9]), ([], []), ([11, 10, 9, 0, 1, 2, 3, 4, 5, 6, 7, 8, 9, 10, 11], [10, 11])])
def Pxg.B3 : List Nat := [0, 1, 0, 4, 15, 0, 32, 0, 128, 480, 1023, 0, 4095]
theorem Pxg.tab3 : rtab .any (opsOf Try.f56 3) = Pxg.T3 := by kernel_rfl
theorem Pxg.bits3 : waitsOk Pxg.T3.2 Pxg.B3 = true := by kernel_rfl
set_option maxHeartbeats 8000000 in
set_option maxRecDepth 100000 in
theorem Pxg.calls (k : Nat) (a0_0 : Int) (A0_1 : Option Addr) (c0_1 : Nat) (l0_1 : List ByteArray) (A0_2 : Option Addr) (c0_2 : Nat) (l0_2 : List (S80)) (a1_0 : Int) (A1_1 : Option Addr) (c1_1 : Nat) (l1_1 : List ByteArray) (A1_2 : Option Addr) (c1_2 : Nat) (l1_2 : List (S80)) (r1 : Int) (r2 : List ByteArray) (r3 : List (S80)) (r4 : Int) (w : World) (hr0_1 : Kd.C Kd.string w A0_1 l0_1.length l0_1) (hc0_1 : l0_1.length ≤ c0_1) (hr0_2 : Kd.C k80 w A0_2 l0_2.length l0_2) (hc0_2 : l0_2.length ≤ c0_2) (hr1_1 : Kd.C Kd.string w A1_1 l1_1.length l1_1) (hc1_1 : l1_1.length ≤ c1_1) (hr1_2 : Kd.C k80 w A1_2 l1_2.length l1_2) (hc1_2 : l1_2.length ≤ c1_2) (h : Pxg.f k a0_0 l0_1 l0_2 a1_0 l1_1 l1_2 = some (r1, r2, r3, r4)) :
  Calls Try.prog 56 #[.agg #[.int .i64 a0_0, .slice A0_1 l0_1.length c0_1, .slice A0_2 l0_2.length c0_2], .agg #[.int .i64 a1_0, .slice A1_1 l1_1.length c1_1, .slice A1_2 l1_2.length c1_2]] w fun e w' => ∃ v1_ v2_ : Value, e = .returned (.tuple #[.agg #[.int .i64 r1, v1_, v2_], .int .i64 r4]) ∧ Kd.R Kd.string 9 w' w.heap.size (fun _ => True) v1_ r2 ∧ Kd.R k80 80 w' w.heap.size (fun _ => True) v2_ r3 ∧ Below w.heap.size w w' := by
 have bf := Try.underlying25;have bg := Try.underlying80;have m4 := Aside0.mk hr0_1;have m3 := Aside0.mk hc0_1;clear hr0_1 hc0_1;have t5 := Aside0.mk hr0_2;have s9 := Aside0.mk hc0_2;clear hr0_2 hc0_2;have o7 := Aside0.mk hr1_1;have o6 := Aside0.mk hc1_1;clear hr1_1 hc1_1;have A5 := Aside0.mk hr1_2;have A4 := Aside0.mk hc1_2;clear hr1_2 hc1_2;have HB := Aside0.mk (Below.refl w.heap.size w);have H : ((Pxi.f a0_0 l0_1 l0_2).bind fun h6 => (if h6 = 0 then ((Pxi.f a1_0 l1_1 l1_2).bind fun o4 => (Pxg.j0 k (o4 != 0) a0_0 l0_1 l0_2 a1_0 l1_1 l1_2)) else (Pxg.j0 k true a0_0 l0_1 l0_2 a1_0 l1_1 l1_2))) = some (r1, r2, r3, r4) := h;clear h;have E7 := Aside0.mk H;clear H;go_enter Try.func56, Try.ntmps56
 go_upto_region 1 with (first | ((with_reducible refine gate_dst (N := 2) rfl ?_); (try (refine gate_guard (by rfl) ?_; dsimp only)); refine box_event ?hg (N := 2) ?hd (cs := #[.int .i64 a0_0, .slice A0_1 l0_1.length c0_1, .slice A0_2 l0_2.length c0_2]) (t := 25) ?hr ?_; (case hd => rfl); (case hg => rfl); (case hr => first | (go_simp; done) | (go_simp; rfl)); intro b2 hg w4 hbox hb; have d2 := Aside0.mk (below_step (wz HB.out) hb); have d3 := Aside0.mk (hbox); have d4 := Aside0.mk ((by rw [hg]; exact (below_size (wz HB.out)) : w.heap.size ≤ b2)); have d5 := Aside0.mk ((by rw [hg]; exact (below_size (wz HB.out)) : w.heap.size ≤ b2)); clear HB; have HB := d2; have a0 := d3; have W2 := d4; have V7 := d5; clear d2 d3 d4 d5 hb hbox hg) | ((with_reducible refine gate_dst (N := 3) rfl ?_); (try (refine gate_guard (by rfl) ?_; dsimp only)); refine box_event ?hg (N := 3) ?hd (cs := #[.int .i64 a1_0, .slice A1_1 l1_1.length c1_1, .slice A1_2 l1_2.length c1_2]) (t := 25) ?hr ?_; (case hd => rfl); (case hg => rfl); (case hr => first | (go_simp; done) | (go_simp; rfl)); intro b3 hg w5 hbox hb; have d2 := Aside0.mk (blk_below (bz a0.out) hb); have d3 := Aside0.mk (below_step (wz HB.out) hb); have d4 := Aside0.mk (hbox); have d5 := Aside0.mk ((by rw [hg]; exact (below_size (wz HB.out)) : w.heap.size ≤ b3)); have e2 := Aside0.mk ((by rw [hg]; exact (below_size (wz HB.out)) : w.heap.size ≤ b3)); have e5 := Aside0.mk ((by rw [hg]; exact Nat.ne_of_lt (blk_lt (g := b2) (o := .cells #[.int .i64 a0_0, .slice A0_1 l0_1.length c0_1, .slice A0_2 l0_2.length c0_2] 25 (0, 0)) (bz a0.out)) : b2 ≠ b3)); have e6 := Aside0.mk ((by rw [hg]; exact Nat.ne_of_gt (blk_lt (g := b2) (o := .cells #[.int .i64 a0_0, .slice A0_1 l0_1.length c0_1, .slice A0_2 l0_2.length c0_2] 25 (0, 0)) (bz a0.out)) : b3 ≠ b2)); clear a0 HB; have a0 := d2; have HB := d3; have a1 := d4; have W3 := d5; have V8 := e2; have g9 := e5; have h0 := e6; clear d2 d3 d4 d5 e2 e5 e6 hb hbox hg) | ((with_reducible refine gate_dst (N := 4) rfl ?_); (try (refine gate_guard (by rfl) ?_; dsimp only)); refine box_event ?hg (N := 4) ?hd (cs := #[.int .i64 0, .slice none 0 0, .slice none 0 0]) (t := 25) ?hr ?_; (case hd => rfl); (case hg => rfl); (case hr => first | (go_simp; done) | (go_simp; rfl)); intro b5 hg w6 hbox hb; have d2 := Aside0.mk (blk_below (bz a0.out) hb); have d3 := Aside0.mk (blk_below (bz a1.out) hb); have d4 := Aside0.mk (below_step (wz HB.out) hb); have d5 := Aside0.mk (hbox); have e2 := Aside0.mk ((by rw [hg]; exact (below_size (wz HB.out)) : w.heap.size ≤ b5)); have e5 := Aside0.mk ((by rw [hg]; exact (below_size (wz HB.out)) : w.heap.size ≤ b5)); have e6 := Aside0.mk ((by rw [hg]; exact Nat.ne_of_lt (blk_lt (g := b2) (o := .cells #[.int .i64 a0_0, .slice A0_1 l0_1.length c0_1, .slice A0_2 l0_2.length c0_2] 25 (0, 0)) (bz a0.out)) : b2 ≠ b5)); have e8 := Aside0.mk ((by rw [hg]; exact Nat.ne_of_gt (blk_lt (g := b2) (o := .cells #[.int .i64 a0_0, .slice A0_1 l0_1.length c0_1, .slice A0_2 l0_2.length c0_2] 25 (0, 0)) (bz a0.out)) : b5 ≠ b2)); have e9 := Aside0.mk ((by rw [hg]; exact Nat.ne_of_lt (blk_lt (g := b3) (o := .cells #[.int .i64 a1_0, .slice A1_1 l1_1.length c1_1, .slice A1_2 l1_2.length c1_2] 25 (0, 0)) (bz a1.out)) : b3 ≠ b5)); have f3 := Aside0.mk ((by rw [hg]; exact Nat.ne_of_gt (blk_lt (g := b3) (o := .cells #[.int .i64 a1_0, .slice A1_1 l1_1.length c1_1, .slice A1_2 l1_2.length c1_2] 25 (0, 0)) (bz a1.out)) : b5 ≠ b3)); clear a0 a1 HB; have a0 := d2; have a1 := d3; have HB := d4; have a3 := d5; have W4 := e2; have V9 := e5; have f6 := e6; have f8 := e8; have f7 := e9; have f9 := f3; clear d2 d3 d4 d5 e2 e5 e6 e8 e9 f3 hb hbox hg))
 (try simp only [Act.put, qz1, qz2, qz3])
 go_cut [22] (fun V1 wc => ∃ (kq : Nat) (t8 : Bool), V1 = .bool t8 ∧ Aside0 (Pxg.j0 kq t8 a0_0 l0_1 l0_2 a1_0 l1_1 l1_2 = some (r1, r2, r3, r4)) ∧ Aside0 (kq ≤ k) ∧ Aside0 (wc.heap[b2]? = some (.cells #[.int .i64 a0_0, (.slice A0_1 l0_1.length c0_1), (.slice A0_2 l0_2.length c0_2)] 25 (0, 0))) ∧ Aside0 (wc.heap[b3]? = some (.cells #[.int .i64 a1_0, (.slice A1_1 l1_1.length c1_1), (.slice A1_2 l1_2.length c1_2)] 25 (0, 0))) ∧ Aside0 (wc.heap[b5]? = some (.cells #[.int .i64 0, (.slice none 0 0), (.slice none 0 0)] 25 (0, 0))) ∧ Aside0 (Below w.heap.size w wc))
 case first =>
  have H := E7.out;clear E7;replace H := Option.bind_eq_some_iff.mp H;obtain ⟨h6, I0, H⟩ := H;replace H : (if h6 = 0 then ((Pxi.f a1_0 l1_1 l1_2).bind fun o4 => (Pxg.j0 k (o4 != 0) a0_0 l0_1 l0_2 a1_0 l1_1 l1_2)) else (Pxg.j0 k true a0_0 l0_1 l0_2 a1_0 l1_1 l1_2)) = some (r1, r2, r3, r4) := H;have A7 := Aside0.mk I0;clear I0;by_cases c8 : h6 = 0
  ·rw [if_pos c8] at H;have c8b0 : (h6 == 0) = true := beq_iff_eq.mpr c8;have c8b1 : (h6 != 0) = false := bne_eq_false_iff_eq.mpr c8;clear c8
   (first | rw [c8b0] | (simp only [i64_w, i32_w]; rw [c8b0]) | skip)
   replace H := Option.bind_eq_some_iff.mp H;obtain ⟨o4, I1, H⟩ := H;replace H : (Pxg.j0 k (o4 != 0) a0_0 l0_1 l0_2 a1_0 l1_1 l1_2) = some (r1, r2, r3, r4) := H;have A9 := Aside0.mk I1;clear I1;have H' := Aside0.mk H;clear H;have X0 := g9.out;have af := h0.out;have X1 := f6.out;have ag := f8.out;have h7 : w6.cell? ⟨b2, 0, none⟩ = some (.int .i64 a0_0) := bcz a0 0 rfl;have h8 : w6.cell? ⟨b2, 1, none⟩ = some (.slice A0_1 l0_1.length c0_1) := bcz a0 1 rfl;have h9 : w6.cell? ⟨b2, 2, none⟩ = some (.slice A0_2 l0_2.length c0_2) := bcz a0 2 rfl;have i7 := blk_frozen a0.out 0;have i8 := blk_frozen a0.out 1;have i9 := blk_frozen a0.out 2;go_wp2_with (first | ((with_reducible refine gate_callee (f := 72) rfl ?_); refine goesL_ (some 16) rfl rfl Try.func72 (by kernel_rfl) rfl #[.agg #[.int .i64 a0_0, .slice A0_1 l0_1.length c0_1, .slice A0_2 l0_2.length c0_2]] rfl (by (try simp only [List.map_toArray, List.map_cons, List.map_nil]); first | done | rfl | (simp only [List.length_drop, List.length_take]; rfl)) ?_; (with_reducible refine (Pxi.calls a0_0 _ _ l0_1 _ _ l0_2 h6 _ ?k7 ?k8 ?k9 ?l3 A7.out).mono ?_); (case k7 => exact cz m4.out HB.out); (case k8 => exact m3.out); (case k9 => exact cz t5.out HB.out); (case l3 => exact s9.out); rintro e G0 ⟨rfl, hb⟩; refine ⟨_, rfl, ?_⟩; have d2 := Aside0.mk (blk_below (bz a0.out) hb); have d3 := Aside0.mk (blk_below (bz a1.out) hb); have d4 := Aside0.mk (blk_below (bz a3.out) hb); have d5 := Aside0.mk (below_step (wz HB.out) hb); clear a0; clear a1; clear a3; clear HB; have a0 := d2; have a1 := d3; have a3 := d4; have HB := d5; clear d2 d3 d4 d5; (try clear hb); (try clear u1); (try clear hk); (try clear hi); have X2 := f7.out; have ah := f9.out; have i0 : G0.cell? ⟨b3, 0, none⟩ = some (.int .i64 a1_0) := bcz a1 0 rfl; have i1 : G0.cell? ⟨b3, 1, none⟩ = some (.slice A1_1 l1_1.length c1_1) := bcz a1 1 rfl; have i2 : G0.cell? ⟨b3, 2, none⟩ = some (.slice A1_2 l1_2.length c1_2) := bcz a1 2 rfl; have j2 := blk_frozen a1.out 0; have j3 := blk_frozen a1.out 1; have j4 := blk_frozen a1.out 2) | (go_at_call 72; (with_reducible refine (Pxi.calls a1_0 _ _ l1_1 _ _ l1_2 o4 _ ?k7 ?k8 ?k9 ?l3 A9.out).mono ?_); (case k7 => exact cz o7.out HB.out); (case k8 => exact o6.out); (case k9 => exact cz A5.out HB.out); (case l3 => exact A4.out); rintro e bk ⟨rfl, hb⟩; have d2 := Aside0.mk (blk_below (bz a0.out) hb); have d3 := Aside0.mk (blk_below (bz a1.out) hb); have d4 := Aside0.mk (blk_below (bz a3.out) hb); have d5 := Aside0.mk (below_step (wz HB.out) hb); clear a0; clear a1; clear a3; clear HB; have a0 := d2; have a1 := d3; have a3 := d4; have HB := d5; clear d2 d3 d4 d5; (try clear hb); (try clear u1); (try clear hk); (try clear hi)))
   go_meet
   case rel => exact ⟨_, ((o4 != 0)), (by first | rfl | (simp; done) | (simp [*]; done)), H', ⟨by first | omega | exact Nat.le_refl _⟩, ⟨bz a0.out⟩, ⟨bz a1.out⟩, ⟨bz a3.out⟩, ⟨wz HB.out⟩⟩
  ·rw [if_neg c8] at H;have c8b0 : (h6 == 0) = false := beq_eq_false_iff_ne.mpr c8;have c8b1 : (h6 != 0) = true := bne_iff_ne.mpr c8
   (first | rw [c8b0] | (simp only [i64_w, i32_w]; rw [c8b0]) | skip)
   have H' := Aside0.mk H;clear H;have X3 := g9.out;have ai := h0.out;have X4 := f6.out;have aj := f8.out;have i3 : w6.cell? ⟨b2, 0, none⟩ = some (.int .i64 a0_0) := bcz a0 0 rfl;have i4 : w6.cell? ⟨b2, 1, none⟩ = some (.slice A0_1 l0_1.length c0_1) := bcz a0 1 rfl;have i5 : w6.cell? ⟨b2, 2, none⟩ = some (.slice A0_2 l0_2.length c0_2) := bcz a0 2 rfl;have j5 := blk_frozen a0.out 0;have j6 := blk_frozen a0.out 1;have j7 := blk_frozen a0.out 2;go_wp2_with (first | ((with_reducible refine gate_callee (f := 72) rfl ?_); refine goesL_ (some 16) rfl rfl Try.func72 (by kernel_rfl) rfl #[.agg #[.int .i64 a0_0, .slice A0_1 l0_1.length c0_1, .slice A0_2 l0_2.length c0_2]] rfl (by (try simp only [List.map_toArray, List.map_cons, List.map_nil]); first | done | rfl | (simp only [List.length_drop, List.length_take]; rfl)) ?_; (with_reducible refine (Pxi.calls a0_0 _ _ l0_1 _ _ l0_2 h6 _ ?k7 ?k8 ?k9 ?l3 A7.out).mono ?_); (case k7 => exact cz m4.out HB.out); (case k8 => exact m3.out); (case k9 => exact cz t5.out HB.out); (case l3 => exact s9.out); rintro e bl ⟨rfl, hb⟩; refine ⟨_, rfl, ?_⟩; have d2 := Aside0.mk (blk_below (bz a0.out) hb); have d3 := Aside0.mk (blk_below (bz a1.out) hb); have d4 := Aside0.mk (blk_below (bz a3.out) hb); have d5 := Aside0.mk (below_step (wz HB.out) hb); clear a0; clear a1; clear a3; clear HB; have a0 := d2; have a1 := d3; have a3 := d4; have HB := d5; clear d2 d3 d4 d5; (try clear hb); (try clear u1); (try clear hk); (try clear hi)))
   go_meet
   case rel => exact ⟨_, (true), (by first | rfl | (simp; done) | (simp [*]; done)), H', ⟨by first | omega | exact Nat.le_refl _⟩, ⟨bz a0.out⟩, ⟨bz a1.out⟩, ⟨bz a3.out⟩, ⟨wz HB.out⟩⟩
 case rest =>
  clear E7;(try clear c8);(try clear c8b0);(try clear c8b1);(try clear h7);(try clear h8);(try clear h9);(try clear i0);(try clear i1);(try clear i2);(try clear i3);(try clear i4);(try clear i5);(try clear i7);(try clear i8);(try clear i9);(try clear j2);(try clear j3);(try clear j4);(try clear j5);(try clear j6);(try clear j7);obtain ⟨kq, t8, rfl, HA, q5, a0, a1, a3, HB⟩ := hcut
  cases kq with
  | zero => exact absurd HA.out (by simp [Pxg.j0])
  | succ kj2 =>
   have H := HA.out;clear HA;simp only [Pxg.j0] at H;by_cases r7 : t8 = true
   ·subst r7;have H1 : (some (0, ([] : List ByteArray), ([] : List (S80)), 1)) = some (r1, r2, r3, r4) := by rw [if_pos rfl] at H; exact H
    clear H;have H := H1;clear H1;simp only [Option.some.injEq, Prod.mk.injEq] at H;obtain ⟨rfl, rfl, rfl, rfl⟩ := H;have X5 := f8.out;have ak := f6.out;have X6 := f9.out;have al := f7.out;have m5 : wc.cell? ⟨b5, 0, none⟩ = some (.int .i64 0) := bcz a3 0 rfl;have m6 : wc.cell? ⟨b5, 1, none⟩ = some (.slice none 0 0) := bcz a3 1 rfl;have m7 : wc.cell? ⟨b5, 2, none⟩ = some (.slice none 0 0) := bcz a3 2 rfl;have n4 := blk_frozen a3.out 0;have n5 := blk_frozen a3.out 1;have n6 := blk_frozen a3.out 2;go_wp2
    refine bodyPost_ret (results_ct rfl _ _ b5 25 #[.int .i64 0, .slice none 0 0, .slice none 0 0] (0, 0) _ rfl (by (with_reducible repeat (first | refine blk_drewN ?_ _ | refine blk_drew ?_ | refine blk_alloc ?_ _)); refine blk_put (cs := #[.int .i64 0, .slice none 0 0, .slice none 0 0]) ?_ 2 _ rfl; (with_reducible repeat (first | refine blk_drewN ?_ _ | refine blk_drew ?_ | refine blk_alloc ?_ _)); refine blk_put (cs := #[.int .i64 0, .slice none 0 0, .slice none 0 0]) ?_ 1 _ rfl; (with_reducible repeat (first | refine blk_drewN ?_ _ | refine blk_drew ?_ | refine blk_alloc ?_ _)); refine blk_put (cs := #[.int .i64 0, .slice none 0 0, .slice none 0 0]) ?_ 0 _ rfl; (with_reducible repeat (first | refine blk_drewN ?_ _ | refine blk_drew ?_ | refine blk_alloc ?_ _)); exact a3.out) Try.underlying25 rfl (by kernel_rfl)) rfl ?_;exact ⟨_, _, by first | rfl | (simp [errW_none, errW_some] <;> rfl) | (simp [*, errW_none, errW_some] <;> rfl), by first | exact Kd.R_nil _ _ _ _ _ | exact Kd.N_nil _ _ _ _ _ | exact Kd.V_nil _ _ _ _ _ | exact Kd.Q_nil _ _ _ _ _ | exact Kd.S_nil _ _ _ _ _, by first | exact Kd.R_nil _ _ _ _ _ | exact Kd.N_nil _ _ _ _ _ | exact Kd.V_nil _ _ _ _ _ | exact Kd.Q_nil _ _ _ _ _ | exact Kd.S_nil _ _ _ _ _, wz HB.out⟩
   ·replace r7 := Bool.eq_false_iff.mpr r7;subst r7;have H1 : ((Pxe.f l0_1 l1_1).bind fun b1 => (if (wrap64 (a0_0 * a1_0)) > 2048 then (Pxg.j1 kj2 true a0_0 l0_1 l0_2 a1_0 l1_1 l1_2 (wrap64 (a0_0 * a1_0)) b1) else (Pxg.j1 kj2 (decide ((b1.length : Int) > 64)) a0_0 l0_1 l0_2 a1_0 l1_1 l1_2 (wrap64 (a0_0 * a1_0)) b1))) = some (r1, r2, r3, r4) := by rw [if_neg (show ¬ (false = true) by decide)] at H; exact H
    clear H;have H := H1;clear H1;replace H := Option.bind_eq_some_iff.mp H;obtain ⟨b1, E4, H⟩ := H;replace H : (if (wrap64 (a0_0 * a1_0)) > 2048 then (Pxg.j1 kj2 true a0_0 l0_1 l0_2 a1_0 l1_1 l1_2 (wrap64 (a0_0 * a1_0)) b1) else (Pxg.j1 kj2 (decide ((b1.length : Int) > 64)) a0_0 l0_1 l0_2 a1_0 l1_1 l1_2 (wrap64 (a0_0 * a1_0)) b1)) = some (r1, r2, r3, r4) := H;have H8 := Aside0.mk E4;clear E4;have C0 := Aside0.mk H;clear H;try go_wp2
    have d2 := Aside0.mk (blk_drew a0.out);have d3 := Aside0.mk (blk_drew a1.out);have d4 := Aside0.mk (blk_drew a3.out);have d5 := Aside0.mk (below_drew1 HB.out);clear a0 a1 a3 HB;have a0 := d2;have a1 := d3;have a3 := d4;have HB := d5;clear d2 d3 d4 d5;refine start_ (n := 13) (S := fun w' => w'.cell? ⟨b2, 0, none⟩ = some (.int .i64 a0_0) ∧ w'.cell? ⟨b2, 1, none⟩ = some (.slice A0_1 l0_1.length c0_1) ∧ w'.cell? ⟨b2, 2, none⟩ = some (.slice A0_2 l0_2.length c0_2) ∧ w'.cell? ⟨b3, 0, none⟩ = some (.int .i64 a1_0) ∧ w'.cell? ⟨b3, 1, none⟩ = some (.slice A1_1 l1_1.length c1_1) ∧ w'.cell? ⟨b3, 2, none⟩ = some (.slice A1_2 l1_2.length c1_2)) (ds := []) (bqz 13 0) (by kernel_rfl) rfl rfl ⟨bcz a0 0 rfl, bcz a0 1 rfl, bcz a0 2 rfl, bcz a1 0 rfl, bcz a1 1 rfl, bcz a1 2 rfl⟩ (fun hHeld => ?_); refine with_tabW Pxg.tab3 Pxg.bits3 (fun HT_ HW_ => ?_)
    generalize wc.drew = w27 at a0 a1 a3 HB hHeld ⊢;refine pqz 0 (some 24) (bqz 13 1) rfl rfl (any_of HT_.out (by kernel_rfl)) ?_ ?_ (fun _ _ _ h => h) (by rfl) ?_ ?_ ?_;rotate_left 2;intro w';go_simp;(with_reducible rfl);simp only [Act.put, qz1, qz2, qz3, i64_w, i32_w];rfl
    refine pqz 2 (some 26) (bqz 13 5) rfl rfl (any_of HT_.out (by kernel_rfl)) ?_ ?_ (fun _ _ _ h => h) (by rfl) ?_ ?_ ?_;rotate_left 2;intro w';go_simp;(with_reducible rfl);simp only [Act.put, qz1, qz2, qz3, i64_w, i32_w];rfl
    refine pqz 5 (some 29) (bqz 13 37) rfl rfl (any_of HT_.out (by kernel_rfl)) ?_ ?_ (fun _ _ _ h => h) (by rfl) ?_ ?_ ?_;rotate_left 2;intro w';go_simp;(with_reducible rfl);simp only [Act.put, qz1, qz2, qz3, i64_w, i32_w];rfl
    refine pqz 7 (some 31) (bqz 13 165) rfl rfl (any_of HT_.out (by kernel_rfl)) ?_ ?_ (fun _ _ _ h => h) (by rfl) ?_ ?_ ?_;rotate_left 2;intro w';go_simp;(with_reducible rfl);simp only [Act.put, qz1, qz2, qz3, i64_w, i32_w];rfl
    refine tqz 1 (some 25) (bqz 13 167) rfl rfl (take_ofW HT_.out HW_.out (by kernel_rfl)) ?_ ?_ (fun _ _ _ h => h) (by rfl) ?_ hHeld ?_ ?_;rotate_left 2;rintro w' ⟨s0, s1, s2, s3, s4, s5⟩;go_simp;(with_reducible rfl);simp only [Act.put, qz1, qz2, qz3, i64_w, i32_w];rfl
    refine tqz 3 (some 27) (bqz 13 175) rfl rfl (take_ofW HT_.out HW_.out (by kernel_rfl)) ?_ ?_ (fun _ _ _ h => h) (by rfl) ?_ hHeld ?_ ?_;rotate_left 2;rintro w' ⟨s0, s1, s2, s3, s4, s5⟩;go_simp;(with_reducible rfl);simp only [Act.put, qz1, qz2, qz3, i64_w, i32_w];rfl
    refine pqz 4 (some 28) (bqz 13 191) rfl rfl (any_of HT_.out (by kernel_rfl)) ?_ ?_ (fun _ _ _ h => h) (by rfl) ?_ ?_ ?_;rotate_left 2;intro w';go_simp;(with_reducible rfl);simp only [Act.put, qz1, qz2, qz3, i64_w, i32_w];rfl
    refine tqz 6 (some 30) (bqz 13 255) rfl rfl (take_ofW HT_.out HW_.out (by kernel_rfl)) ?_ ?_ (fun _ _ _ h => h) (by rfl) ?_ hHeld ?_ ?_;rotate_left 2;rintro w' ⟨s0, s1, s2, s3, s4, s5⟩;go_simp;(with_reducible rfl);simp only [Act.put, qz1, qz2, qz3, i64_w, i32_w];rfl
    refine tqz 8 (some 32) (bqz 13 511) rfl rfl (take_ofW HT_.out HW_.out (by kernel_rfl)) ?_ ?_ (fun _ _ _ h => h) (by rfl) ?_ hHeld ?_ ?_;rotate_left 2;rintro w' ⟨s0, s1, s2, s3, s4, s5⟩;go_simp;(with_reducible rfl);simp only [Act.put, qz1, qz2, qz3, i64_w, i32_w];rfl
    refine join_ (σ := Value × Nat) 1 (bqz 13 4095) (fun s_ => [(33, s_.1), (6, .pointer (some ⟨s_.2, 0, none⟩)), (34, .agg #[.int .i64 (wrap64 (a0_0 * a1_0)), s_.1, .slice none 0 0])]) (fun s_ w' => (w'.cell? ⟨b2, 0, none⟩ = some (.int .i64 a0_0) ∧ w'.cell? ⟨b2, 1, none⟩ = some (.slice A0_1 l0_1.length c0_1) ∧ w'.cell? ⟨b2, 2, none⟩ = some (.slice A0_2 l0_2.length c0_2) ∧ w'.cell? ⟨b3, 0, none⟩ = some (.int .i64 a1_0) ∧ w'.cell? ⟨b3, 1, none⟩ = some (.slice A1_1 l1_1.length c1_1) ∧ w'.cell? ⟨b3, 2, none⟩ = some (.slice A1_2 l1_2.length c1_2)) ∧ (Kd.R Kd.string 9 w' w.heap.size (fun _ => True) s_.1 b1) ∧ (w'.heap[b2]? = some (.cells #[.int .i64 a0_0, .slice A0_1 l0_1.length c0_1, .slice A0_2 l0_2.length c0_2] 25 (0, 0))) ∧ (w'.heap[b3]? = some (.cells #[.int .i64 a1_0, .slice A1_1 l1_1.length c1_1, .slice A1_2 l1_2.length c1_2] 25 (0, 0))) ∧ (w'.heap[b5]? = some (.cells #[.int .i64 0, .slice none 0 0, .slice none 0 0] 25 (0, 0))) ∧ (w'.heap[s_.2]? = some (.cells #[.int .i64 0, .slice none 0 0, .slice none 0 0] 25 (0, 0))) ∧ (w.heap.size ≤ s_.2) ∧ (w.heap.size ≤ s_.2) ∧ (b2 ≠ s_.2) ∧ (s_.2 ≠ b2) ∧ (b3 ≠ s_.2) ∧ (s_.2 ≠ b3) ∧ (b5 ≠ s_.2) ∧ (s_.2 ≠ b5) ∧ (Below w.heap.size w w')) ?_ ?_;rotate_left
    ·intro hCont;refine two_ (i := 9) (j := 11) (Ni := some 33) (Nj := some 6) (bqz 13 1023) (bqz 13 2559) rfl rfl rfl rfl (two_of HT_.out (by kernel_rfl)) (by decide) (by decide) (fun K hK => ?_) (fun K hK => ?_)
     ·skip
      refine goes_ Try.func108 (by kernel_rfl) rfl #[.slice A0_1 l0_1.length c0_1, .slice A1_1 l1_1.length c1_1] (by rfl) rfl rfl (by (try simp only [List.map_toArray, List.map_cons, List.map_nil]); first | done | rfl | (simp only [List.length_drop, List.length_take]; rfl)) ?_;with_reducible refine (Pxe.calls _ _ l0_1 _ _ l1_1 b1 _ ?k7 ?k8 ?k9 ?l3 H8.out).mono ?_
      (case k7 => exact cz m4.out HB.out)
      (case k8 => exact m3.out)
      (case k9 => exact cz o7.out HB.out)
      (case l3 => exact o6.out)
      rintro e V6 ⟨C4, rfl, g7, hb⟩;refine ⟨_, rfl, ?_⟩;have d2 := Aside0.mk (Kd.R_lower g7 (below_size (wz HB.out)));have d3 := Aside0.mk (blk_below (bz a0.out) hb);have d4 := Aside0.mk (blk_below (bz a1.out) hb);have d5 := Aside0.mk (blk_below (bz a3.out) hb);have e2 := Aside0.mk (below_step (wz HB.out) hb);clear a0 a1 a3 HB;have g6 := d2;have a0 := d3;have a1 := d4;have a3 := d5;have HB := e2;clear d2 d3 d4 d5 e2
      (try clear hb)
      (try clear u1)
      (try clear hk)
      (try clear hi)
      (try clear g7)
      obtain ⟨J3, J6, E8⟩ := Kd.R_slice g6.out
      (first | subst E8 | (injection E8 with f1_ f2_ f3_; have f4_ := f1_.symm; have f5_ := f3_.symm; clear f1_ f2_ f3_; subst f4_; subst f5_))
      refine hK.out _ _ ⟨bcz a0 0 rfl, bcz a0 1 rfl, bcz a0 2 rfl, bcz a1 0 rfl, bcz a1 1 rfl, bcz a1 2 rfl⟩ (fun hHeld => ?_);clear hK K;refine norm_ (a' := ?_) ?_ ?_;rotate_left
      ·show Act.put _ (some 33) _ = _;simp only [Act.put, qz1, qz2, qz3, i64_w, i32_w];rfl
      refine pqz 10 (some 34) (bqz 13 2047) rfl rfl (any_of HT_.out (by kernel_rfl)) ?_ ?_ (fun _ _ _ h => h) (by rfl) ?_ ?_ ?_;rotate_left 2;intro w';go_simp;(with_reducible rfl);simp only [Act.put, qz1, qz2, qz3, i64_w, i32_w];rfl
      refine one_ (i := 11) (N := some 6) (bqz 13 4095) rfl rfl (one_of HT_.out (by kernel_rfl)) (by decide) (fun K hK => ?_);refine box_step ?hg (N := 6) ?hd (cs := #[.int .i64 0, .slice none 0 0, .slice none 0 0]) (t := 25) ?hr ?_; (case hd => rfl); (case hg => rfl); (case hr => first | (go_simp; done) | (go_simp; rfl))
      intro a4 hg bn hbox hb;have d2 := Aside0.mk (Kd.R_below (rz g6.out) hb);have d3 := Aside0.mk (blk_below (bz a0.out) hb);have d4 := Aside0.mk (blk_below (bz a1.out) hb);have d5 := Aside0.mk (blk_below (bz a3.out) hb);have e2 := Aside0.mk (below_step (wz HB.out) hb);have e5 := Aside0.mk (hbox);have e6 := Aside0.mk ((by rw [hg]; exact (below_size (wz HB.out)) : w.heap.size ≤ a4));have e8 := Aside0.mk ((by rw [hg]; exact (below_size (wz HB.out)) : w.heap.size ≤ a4));have e9 := Aside0.mk ((by rw [hg]; exact Nat.ne_of_lt (blk_lt (g := b2) (o := .cells #[.int .i64 a0_0, .slice A0_1 l0_1.length c0_1, .slice A0_2 l0_2.length c0_2] 25 (0, 0)) (bz a0.out)) : b2 ≠ a4));have f3 := Aside0.mk ((by rw [hg]; exact Nat.ne_of_gt (blk_lt (g := b2) (o := .cells #[.int .i64 a0_0, .slice A0_1 l0_1.length c0_1, .slice A0_2 l0_2.length c0_2] 25 (0, 0)) (bz a0.out)) : a4 ≠ b2));have g0 := Aside0.mk ((by rw [hg]; exact Nat.ne_of_lt (blk_lt (g := b3) (o := .cells #[.int .i64 a1_0, .slice A1_1 l1_1.length c1_1, .slice A1_2 l1_2.length c1_2] 25 (0, 0)) (bz a1.out)) : b3 ≠ a4));have g1 := Aside0.mk ((by rw [hg]; exact Nat.ne_of_gt (blk_lt (g := b3) (o := .cells #[.int .i64 a1_0, .slice A1_1 l1_1.length c1_1, .slice A1_2 l1_2.length c1_2] 25 (0, 0)) (bz a1.out)) : a4 ≠ b3));have g2 := Aside0.mk ((by rw [hg]; exact Nat.ne_of_lt (blk_lt (g := b5) (o := .cells #[.int .i64 0, .slice none 0 0, .slice none 0 0] 25 (0, 0)) (bz a3.out)) : b5 ≠ a4));have h4 := Aside0.mk ((by rw [hg]; exact Nat.ne_of_gt (blk_lt (g := b5) (o := .cells #[.int .i64 0, .slice none 0 0, .slice none 0 0] 25 (0, 0)) (bz a3.out)) : a4 ≠ b5));clear g6 a0 a1 a3 HB;have g6 := d2;have a0 := d3;have a1 := d4;have a3 := d5;have HB := e2;have a2 := e5;have s8 := e6;have s7 := e8;have b7 := e9;have d9 := f3;have b8 := g0;have e0 := g1;have d0 := g2;have d7 := h4;clear d2 d3 d4 d5 e2 e5 e6 e8 e9 f3 g0 g1 g2 h4 hb hbox hg;refine hK.out _ _ ⟨bcz a0 0 rfl, bcz a0 1 rfl, bcz a0 2 rfl, bcz a1 0 rfl, bcz a1 1 rfl, bcz a1 2 rfl⟩ (fun hHeld => ?_);clear hK K;refine norm_ (a' := ?_) ?_ ?_;rotate_left
      ·show Act.put _ (some 6) _ = _;simp only [Act.put, qz1, qz2, qz3, i64_w, i32_w];rfl
      exact norm_ (by simp only [putAll, Act.put, qz1, qz2, qz3]) (hCont (.slice J3 b1.length J6, a4) _ ⟨hHeld, (rz g6.out), (bz a0.out), (bz a1.out), (bz a3.out), (bz a2.out), s8.out, s7.out, b7.out, d9.out, b8.out, e0.out, d0.out, d7.out, (wz HB.out)⟩)
     ·skip
      refine box_step ?hg (N := 6) ?hd (cs := #[.int .i64 0, .slice none 0 0, .slice none 0 0]) (t := 25) ?hr ?_; (case hd => rfl); (case hg => rfl); (case hr => first | (go_simp; done) | (go_simp; rfl))
      intro a4 hg V6 hbox hb;have d2 := Aside0.mk (blk_below (bz a0.out) hb);have d3 := Aside0.mk (blk_below (bz a1.out) hb);have d4 := Aside0.mk (blk_below (bz a3.out) hb);have d5 := Aside0.mk (below_step (wz HB.out) hb);have e2 := Aside0.mk (hbox);have e5 := Aside0.mk ((by rw [hg]; exact (below_size (wz HB.out)) : w.heap.size ≤ a4));have e6 := Aside0.mk ((by rw [hg]; exact (below_size (wz HB.out)) : w.heap.size ≤ a4));have e8 := Aside0.mk ((by rw [hg]; exact Nat.ne_of_lt (blk_lt (g := b2) (o := .cells #[.int .i64 a0_0, .slice A0_1 l0_1.length c0_1, .slice A0_2 l0_2.length c0_2] 25 (0, 0)) (bz a0.out)) : b2 ≠ a4));have e9 := Aside0.mk ((by rw [hg]; exact Nat.ne_of_gt (blk_lt (g := b2) (o := .cells #[.int .i64 a0_0, .slice A0_1 l0_1.length c0_1, .slice A0_2 l0_2.length c0_2] 25 (0, 0)) (bz a0.out)) : a4 ≠ b2));have f3 := Aside0.mk ((by rw [hg]; exact Nat.ne_of_lt (blk_lt (g := b3) (o := .cells #[.int .i64 a1_0, .slice A1_1 l1_1.length c1_1, .slice A1_2 l1_2.length c1_2] 25 (0, 0)) (bz a1.out)) : b3 ≠ a4));have g0 := Aside0.mk ((by rw [hg]; exact Nat.ne_of_gt (blk_lt (g := b3) (o := .cells #[.int .i64 a1_0, .slice A1_1 l1_1.length c1_1, .slice A1_2 l1_2.length c1_2] 25 (0, 0)) (bz a1.out)) : a4 ≠ b3));have g1 := Aside0.mk ((by rw [hg]; exact Nat.ne_of_lt (blk_lt (g := b5) (o := .cells #[.int .i64 0, .slice none 0 0, .slice none 0 0] 25 (0, 0)) (bz a3.out)) : b5 ≠ a4));have g2 := Aside0.mk ((by rw [hg]; exact Nat.ne_of_gt (blk_lt (g := b5) (o := .cells #[.int .i64 0, .slice none 0 0, .slice none 0 0] 25 (0, 0)) (bz a3.out)) : a4 ≠ b5));clear a0 a1 a3 HB;have a0 := d2;have a1 := d3;have a3 := d4;have HB := d5;have a2 := e2;have s8 := e5;have s7 := e6;have b7 := e8;have d9 := e9;have b8 := f3;have e0 := g0;have d0 := g1;have d7 := g2;clear d2 d3 d4 d5 e2 e5 e6 e8 e9 f3 g0 g1 g2 hb hbox hg;refine hK.out _ _ ⟨bcz a0 0 rfl, bcz a0 1 rfl, bcz a0 2 rfl, bcz a1 0 rfl, bcz a1 1 rfl, bcz a1 2 rfl⟩ (fun hHeld => ?_);clear hK K;refine norm_ (a' := ?_) ?_ ?_;rotate_left
      ·show Act.put _ (some 6) _ = _;simp only [Act.put, qz1, qz2, qz3, i64_w, i32_w];rfl
      refine one_ (i := 9) (N := some 33) (bqz 13 3071) rfl rfl (one_of HT_.out (by kernel_rfl)) (by decide) (fun K hK => ?_);refine goes_ Try.func108 (by kernel_rfl) rfl #[.slice A0_1 l0_1.length c0_1, .slice A1_1 l1_1.length c1_1] (by rfl) rfl rfl (by (try simp only [List.map_toArray, List.map_cons, List.map_nil]); first | done | rfl | (simp only [List.length_drop, List.length_take]; rfl)) ?_;with_reducible refine (Pxe.calls _ _ l0_1 _ _ l1_1 b1 _ ?k7 ?k8 ?k9 ?l3 H8.out).mono ?_
      (case k7 => exact cz m4.out HB.out)
      (case k8 => exact m3.out)
      (case k9 => exact cz o7.out HB.out)
      (case l3 => exact o6.out)
      rintro e bm ⟨C4, rfl, g7, hb⟩;refine ⟨_, rfl, ?_⟩;have d2 := Aside0.mk (Kd.R_lower g7 (below_size (wz HB.out)));have d3 := Aside0.mk (blk_below (bz a0.out) hb);have d4 := Aside0.mk (blk_below (bz a1.out) hb);have d5 := Aside0.mk (blk_below (bz a3.out) hb);have e2 := Aside0.mk (blk_below (bz a2.out) hb);have e5 := Aside0.mk (below_step (wz HB.out) hb);clear a0 a1 a3 a2 HB;have g6 := d2;have a0 := d3;have a1 := d4;have a3 := d5;have a2 := e2;have HB := e5;clear d2 d3 d4 d5 e2 e5
      (try clear hb)
      (try clear u1)
      (try clear hk)
      (try clear hi)
      (try clear g7)
      obtain ⟨J4, J7, E9⟩ := Kd.R_slice g6.out
      (first | subst E9 | (injection E9 with f1_ f2_ f3_; have f4_ := f1_.symm; have f5_ := f3_.symm; clear f1_ f2_ f3_; subst f4_; subst f5_))
      refine hK.out _ _ ⟨bcz a0 0 rfl, bcz a0 1 rfl, bcz a0 2 rfl, bcz a1 0 rfl, bcz a1 1 rfl, bcz a1 2 rfl⟩ (fun hHeld => ?_);clear hK K;refine norm_ (a' := ?_) ?_ ?_;rotate_left
      ·show Act.put _ (some 33) _ = _;simp only [Act.put, qz1, qz2, qz3, i64_w, i32_w];rfl
      refine pqz 10 (some 34) (bqz 13 4095) rfl rfl (any_of HT_.out (by kernel_rfl)) ?_ ?_ (fun _ _ _ h => h) (by rfl) ?_ ?_ ?_;rotate_left 2;intro w';go_simp;(with_reducible rfl);simp only [Act.put, qz1, qz2, qz3, i64_w, i32_w];rfl
      exact norm_ (by simp only [putAll, Act.put, qz1, qz2, qz3]) (hCont (.slice J4 b1.length J7, a4) _ ⟨hHeld, (rz g6.out), (bz a0.out), (bz a1.out), (bz a3.out), (bz a2.out), s8.out, s7.out, b7.out, d9.out, b8.out, e0.out, d0.out, d7.out, (wz HB.out)⟩)
    rintro ⟨C4, a4⟩ g4 ⟨hS_, I2, I3, I4, I5, I6, I7, I8, I9, J0, J1, F1, F2, F3, F4⟩;have d2 : Aside0 (Kd.R Kd.string 9 g4 w.heap.size (fun _ => True) C4 b1) := ⟨I2⟩
    have d3 : Aside0 (g4.heap[b2]? = some (.cells #[.int .i64 a0_0, .slice A0_1 l0_1.length c0_1, .slice A0_2 l0_2.length c0_2] 25 (0, 0))) := ⟨I3⟩
    have d4 : Aside0 (g4.heap[b3]? = some (.cells #[.int .i64 a1_0, .slice A1_1 l1_1.length c1_1, .slice A1_2 l1_2.length c1_2] 25 (0, 0))) := ⟨I4⟩
    have d5 : Aside0 (g4.heap[b5]? = some (.cells #[.int .i64 0, .slice none 0 0, .slice none 0 0] 25 (0, 0))) := ⟨I5⟩
    have e2 : Aside0 (g4.heap[a4]? = some (.cells #[.int .i64 0, .slice none 0 0, .slice none 0 0] 25 (0, 0))) := ⟨I6⟩
    have e5 : Aside0 (w.heap.size ≤ a4) := ⟨I7⟩
    have e6 : Aside0 (w.heap.size ≤ a4) := ⟨I8⟩
    have e8 : Aside0 (b2 ≠ a4) := ⟨I9⟩
    have e9 : Aside0 (a4 ≠ b2) := ⟨J0⟩
    have f3 : Aside0 (b3 ≠ a4) := ⟨J1⟩
    have g0 : Aside0 (a4 ≠ b3) := ⟨F1⟩
    have g1 : Aside0 (b5 ≠ a4) := ⟨F2⟩
    have g2 : Aside0 (a4 ≠ b5) := ⟨F3⟩
    have h4 : Aside0 (Below w.heap.size w g4) := ⟨F4⟩
    clear a0 a1 a3 HB I2 I3 I4 I5 I6 I7 I8 I9 J0 J1 F1 F2 F3 F4;have g6 := d2;have a0 := d3;have a1 := d4;have a3 := d5;have a2 := e2;have s8 := e5;have s7 := e6;have b7 := e8;have d9 := e9;have b8 := f3;have e0 := g0;have d0 := g1;have d7 := g2;have HB := h4;clear d2 d3 d4 d5 e2 e5 e6 e8 e9 f3 g0 g1 g2 h4;have hHeld : g4.cell? ⟨b2, 0, none⟩ = some (.int .i64 a0_0) ∧ g4.cell? ⟨b2, 1, none⟩ = some (.slice A0_1 l0_1.length c0_1) ∧ g4.cell? ⟨b2, 2, none⟩ = some (.slice A0_2 l0_2.length c0_2) ∧ g4.cell? ⟨b3, 0, none⟩ = some (.int .i64 a1_0) ∧ g4.cell? ⟨b3, 1, none⟩ = some (.slice A1_1 l1_1.length c1_1) ∧ g4.cell? ⟨b3, 2, none⟩ = some (.slice A1_2 l1_2.length c1_2) := hS_;obtain ⟨h2, e4, F0⟩ := Kd.R_slice g6.out
    (first | subst F0 | (injection F0 with f1_ f2_ f3_; have f4_ := f1_.symm; have f5_ := f3_.symm; clear f1_ f2_ f3_; subst f4_; subst f5_))
    refine norm_ (a' := ?_) ?_ ?_;rotate_left
    ·simp only [putAll, Act.put, qz1, qz2, qz3];rfl
    refine one_ (i := 12) (N := none) (bqz 13 8191) rfl rfl (one_of HT_.out (by kernel_rfl)) (by decide) (fun K hK => ?_);have bc : g4.cell? ⟨a4, 0, none⟩ = some (.int .i64 0) := bcz a2 0 rfl;have W7 := blk_frozen a2.out 0;have Q0 := b7.out;have Q1 := b8.out;have Q2 := d0.out;have P1 := d9.out;have P2 := e0.out;have P3 := d7.out;have bd : g4.cell? ⟨a4, 1, none⟩ = some (.slice none 0 0) := bcz a2 1 rfl;have W8 := blk_frozen a2.out 1;have Q3 := b7.out;have Q4 := b8.out;have Q5 := d0.out;have P4 := d9.out;have P5 := e0.out;have P6 := d7.out;have be : g4.cell? ⟨a4, 2, none⟩ = some (.slice none 0 0) := bcz a2 2 rfl;have W9 := blk_frozen a2.out 2;have Q6 := b7.out;have Q7 := b8.out;have Q8 := d0.out;have P7 := d9.out;have P8 := e0.out;have P9 := d7.out;refine skip_ (w1 := ?_) (by rfl) rfl ?_ ?_;rotate_left
    ·go_simp;rfl
    refine hK.out _ _ ⟨((cell_far (p := ⟨a4, _, none⟩) b7.out _).trans (((cell_far (p := ⟨a4, _, none⟩) b7.out _).trans (((cell_far (p := ⟨a4, _, none⟩) b7.out _).trans (hHeld.1)))))), ((cell_far (p := ⟨a4, _, none⟩) b7.out _).trans (((cell_far (p := ⟨a4, _, none⟩) b7.out _).trans (((cell_far (p := ⟨a4, _, none⟩) b7.out _).trans (hHeld.2.1)))))), ((cell_far (p := ⟨a4, _, none⟩) b7.out _).trans (((cell_far (p := ⟨a4, _, none⟩) b7.out _).trans (((cell_far (p := ⟨a4, _, none⟩) b7.out _).trans (hHeld.2.2.1)))))), ((cell_far (p := ⟨a4, _, none⟩) b8.out _).trans (((cell_far (p := ⟨a4, _, none⟩) b8.out _).trans (((cell_far (p := ⟨a4, _, none⟩) b8.out _).trans (hHeld.2.2.2.1)))))), ((cell_far (p := ⟨a4, _, none⟩) b8.out _).trans (((cell_far (p := ⟨a4, _, none⟩) b8.out _).trans (((cell_far (p := ⟨a4, _, none⟩) b8.out _).trans (hHeld.2.2.2.2.1)))))), ((cell_far (p := ⟨a4, _, none⟩) b8.out _).trans (((cell_far (p := ⟨a4, _, none⟩) b8.out _).trans (((cell_far (p := ⟨a4, _, none⟩) b8.out _).trans (hHeld.2.2.2.2.2))))))⟩ (fun hHeld => ?_);clear hK K;refine done_ (done_of HT_.out (by kernel_rfl)) ?_;go_upto_region 4 with (fail)
    go_cut [43] (fun V2 wc => ∃ (kq : Nat) (o9 : Bool), V2 = .bool o9 ∧ Aside0 (Pxg.j1 kq o9 a0_0 l0_1 l0_2 a1_0 l1_1 l1_2 (wrap64 (a0_0 * a1_0)) b1 = some (r1, r2, r3, r4)) ∧ Aside0 (kq ≤ kj2) ∧ Aside0 (Kd.R Kd.string 9 wc w.heap.size (fun _ => True) (.slice h2 b1.length e4) b1) ∧ Aside0 (wc.heap[b2]? = some (.cells #[.int .i64 a0_0, (.slice A0_1 l0_1.length c0_1), (.slice A0_2 l0_2.length c0_2)] 25 (0, 0))) ∧ Aside0 (wc.heap[b3]? = some (.cells #[.int .i64 a1_0, (.slice A1_1 l1_1.length c1_1), (.slice A1_2 l1_2.length c1_2)] 25 (0, 0))) ∧ Aside0 (wc.heap[b5]? = some (.cells #[.int .i64 0, (.slice none 0 0), (.slice none 0 0)] 25 (0, 0))) ∧ Aside0 (wc.heap[a4]? = some (.cells #[.int .i64 (wrap64 (a0_0 * a1_0)), (.slice h2 b1.length e4), (.slice none 0 0)] 25 (0, 0))) ∧ Aside0 (Below w.heap.size w wc))
    case first =>
     have H := C0.out;clear C0;by_cases o3 : (wrap64 (a0_0 * a1_0)) > 2048
     ·rw [if_pos o3] at H;have c36b0 : decide (2048 < (wrap64 (a0_0 * a1_0))) = true := decide_eq_true o3;clear o3
      (first | rw [c36b0] | (simp only [i64_w, i32_w]; rw [c36b0]) | skip)
      have H' := Aside0.mk H;clear H;have X7 := d9.out;have am := b7.out;have X8 := e0.out;have an := b8.out;have X9 := d7.out;have ao := d0.out;have m8 : g4.cell? ⟨a4, 0, none⟩ = some (.int .i64 0) := bcz a2 0 rfl;have m9 : g4.cell? ⟨a4, 1, none⟩ = some (.slice none 0 0) := bcz a2 1 rfl;have n0 : g4.cell? ⟨a4, 2, none⟩ = some (.slice none 0 0) := bcz a2 2 rfl;have n7 := blk_frozen a2.out 0;have n8 := blk_frozen a2.out 1;have n9 := blk_frozen a2.out 2;go_wp2
      go_meet
      case rel => exact ⟨_, (true), (by first | rfl | (simp; done) | (simp [*]; done)), H', ⟨by have := q5.out; first | omega | exact Nat.le_refl _⟩, ⟨rz (Kd.R_mono (Kd.R_far (p := ⟨a4, 2, none⟩) (Kd.R_far (p := ⟨a4, 1, none⟩) (Kd.R_far (p := ⟨a4, 0, none⟩) (Kd.R_types g6.out a2.out (by decide)) (fun _ hk => hk.2) (.int .i64 (wrap64 (a0_0 * a1_0)))) (fun _ hk => hk.2) (.slice h2 b1.length e4)) (fun _ hk => hk.2) (.slice none 0 0)) (fun _ hk => trivial))⟩, ⟨fz a0.out b7.out⟩, ⟨fz a1.out b8.out⟩, ⟨fz a3.out d0.out⟩, ⟨by (with_reducible repeat (first | refine blk_drewN ?_ _ | refine blk_drew ?_ | refine blk_alloc ?_ _)); refine blk_put (cs := #[.int .i64 (wrap64 (a0_0 * a1_0)), .slice h2 b1.length e4, .slice none 0 0]) ?_ 2 _ rfl; (with_reducible repeat (first | refine blk_drewN ?_ _ | refine blk_drew ?_ | refine blk_alloc ?_ _)); refine blk_put (cs := #[.int .i64 (wrap64 (a0_0 * a1_0)), .slice none 0 0, .slice none 0 0]) ?_ 1 _ rfl; (with_reducible repeat (first | refine blk_drewN ?_ _ | refine blk_drew ?_ | refine blk_alloc ?_ _)); refine blk_put (cs := #[.int .i64 0, .slice none 0 0, .slice none 0 0]) ?_ 0 _ rfl; (with_reducible repeat (first | refine blk_drewN ?_ _ | refine blk_drew ?_ | refine blk_alloc ?_ _)); exact a2.out⟩, ⟨wz HB.out⟩⟩
     ·rw [if_neg o3] at H;have c36b0 : decide (2048 < (wrap64 (a0_0 * a1_0))) = false := decide_eq_false o3;clear o3
      (first | rw [c36b0] | (simp only [i64_w, i32_w]; rw [c36b0]) | skip)
      have H' := Aside0.mk H;clear H;have Y0 := d9.out;have ap := b7.out;have Y1 := e0.out;have aq := b8.out;have Y2 := d7.out;have ar := d0.out;have n1 : g4.cell? ⟨a4, 0, none⟩ = some (.int .i64 0) := bcz a2 0 rfl;have n2 : g4.cell? ⟨a4, 1, none⟩ = some (.slice none 0 0) := bcz a2 1 rfl;have n3 : g4.cell? ⟨a4, 2, none⟩ = some (.slice none 0 0) := bcz a2 2 rfl;have o0 := blk_frozen a2.out 0;have o1 := blk_frozen a2.out 1;have o2 := blk_frozen a2.out 2;go_wp2
      go_meet
      case rel => exact ⟨_, (decide ((b1.length : Int) > 64)), (by first | rfl | (simp; done) | (simp [*]; done)), H', ⟨by have := q5.out; first | omega | exact Nat.le_refl _⟩, ⟨rz (Kd.R_mono (Kd.R_far (p := ⟨a4, 2, none⟩) (Kd.R_far (p := ⟨a4, 1, none⟩) (Kd.R_far (p := ⟨a4, 0, none⟩) (Kd.R_types g6.out a2.out (by decide)) (fun _ hk => hk.2) (.int .i64 (wrap64 (a0_0 * a1_0)))) (fun _ hk => hk.2) (.slice h2 b1.length e4)) (fun _ hk => hk.2) (.slice none 0 0)) (fun _ hk => trivial))⟩, ⟨fz a0.out b7.out⟩, ⟨fz a1.out b8.out⟩, ⟨fz a3.out d0.out⟩, ⟨by (with_reducible repeat (first | refine blk_drewN ?_ _ | refine blk_drew ?_ | refine blk_alloc ?_ _)); refine blk_put (cs := #[.int .i64 (wrap64 (a0_0 * a1_0)), .slice h2 b1.length e4, .slice none 0 0]) ?_ 2 _ rfl; (with_reducible repeat (first | refine blk_drewN ?_ _ | refine blk_drew ?_ | refine blk_alloc ?_ _)); refine blk_put (cs := #[.int .i64 (wrap64 (a0_0 * a1_0)), .slice none 0 0, .slice none 0 0]) ?_ 1 _ rfl; (with_reducible repeat (first | refine blk_drewN ?_ _ | refine blk_drew ?_ | refine blk_alloc ?_ _)); refine blk_put (cs := #[.int .i64 0, .slice none 0 0, .slice none 0 0]) ?_ 0 _ rfl; (with_reducible repeat (first | refine blk_drewN ?_ _ | refine blk_drew ?_ | refine blk_alloc ?_ _)); exact a2.out⟩, ⟨wz HB.out⟩⟩
    case rest =>
     clear C0;(try clear c8);(try clear c8b0);(try clear c8b1);(try clear r7);(try clear o3);(try clear c36b0);(try clear h7);(try clear h8);(try clear h9);(try clear i0);(try clear i1);(try clear i2);(try clear i3);(try clear i4);(try clear i5);(try clear m5);(try clear m6);(try clear m7);(try clear m8);(try clear m9);(try clear n0);(try clear n1);(try clear n2);(try clear n3);(try clear i7);(try clear i8);(try clear i9);(try clear j2);(try clear j3);(try clear j4);(try clear j5);(try clear j6);(try clear j7);(try clear n4);(try clear n5);(try clear n6);(try clear n7);(try clear n8);(try clear n9);(try clear o0);(try clear o1);(try clear o2);obtain ⟨kq, o9, rfl, HA, p0, b4, a0, a1, a3, a2, HB⟩ := hcut
     cases kq with
     | zero => exact absurd HA.out (by simp [Pxg.j1])
     | succ kj25 =>
      have H := HA.out;clear HA;simp only [Pxg.j1] at H;by_cases t9 : o9 = true
      ·subst t9;have H1 : (some (0, ([] : List ByteArray), ([] : List (S80)), 8)) = some (r1, r2, r3, r4) := by rw [if_pos rfl] at H; exact H
       clear H;have H := H1;clear H1;simp only [Option.some.injEq, Prod.mk.injEq] at H;obtain ⟨rfl, rfl, rfl, rfl⟩ := H;have Y3 := f8.out;have au := f6.out;have Y4 := f9.out;have av := f7.out;have Y5 := d0.out;have aw := d7.out;have p1 : wc.cell? ⟨b5, 0, none⟩ = some (.int .i64 0) := bcz a3 0 rfl;have p2 : wc.cell? ⟨b5, 1, none⟩ = some (.slice none 0 0) := bcz a3 1 rfl;have p3 : wc.cell? ⟨b5, 2, none⟩ = some (.slice none 0 0) := bcz a3 2 rfl;have p7 := blk_frozen a3.out 0;have p8 := blk_frozen a3.out 1;have p9 := blk_frozen a3.out 2;go_wp2
       refine bodyPost_ret (results_ct rfl _ _ b5 25 #[.int .i64 0, .slice none 0 0, .slice none 0 0] (0, 0) _ rfl (by (with_reducible repeat (first | refine blk_drewN ?_ _ | refine blk_drew ?_ | refine blk_alloc ?_ _)); refine blk_put (cs := #[.int .i64 0, .slice none 0 0, .slice none 0 0]) ?_ 2 _ rfl; (with_reducible repeat (first | refine blk_drewN ?_ _ | refine blk_drew ?_ | refine blk_alloc ?_ _)); refine blk_put (cs := #[.int .i64 0, .slice none 0 0, .slice none 0 0]) ?_ 1 _ rfl; (with_reducible repeat (first | refine blk_drewN ?_ _ | refine blk_drew ?_ | refine blk_alloc ?_ _)); refine blk_put (cs := #[.int .i64 0, .slice none 0 0, .slice none 0 0]) ?_ 0 _ rfl; (with_reducible repeat (first | refine blk_drewN ?_ _ | refine blk_drew ?_ | refine blk_alloc ?_ _)); exact a3.out) Try.underlying25 rfl (by kernel_rfl)) rfl ?_;exact ⟨_, _, by first | rfl | (simp [errW_none, errW_some] <;> rfl) | (simp [*, errW_none, errW_some] <;> rfl), by first | exact Kd.R_nil _ _ _ _ _ | exact Kd.N_nil _ _ _ _ _ | exact Kd.V_nil _ _ _ _ _ | exact Kd.Q_nil _ _ _ _ _ | exact Kd.S_nil _ _ _ _ _, by first | exact Kd.R_nil _ _ _ _ _ | exact Kd.N_nil _ _ _ _ _ | exact Kd.V_nil _ _ _ _ _ | exact Kd.Q_nil _ _ _ _ _ | exact Kd.S_nil _ _ _ _ _, wz HB.out⟩
      ·replace t9 := Bool.eq_false_iff.mpr t9;subst t9;have H1 : (Pxg.l0 kj25 b1 (b1.length : Int) 0 a0_0 l0_1 l0_2 a1_0 l1_1 l1_2 (wrap64 (a0_0 * a1_0)) b1 ([] : List (S80))) = some (r1, r2, r3, r4) := by rw [if_neg (show ¬ (false = true) by decide)] at H; exact H
       clear H;have H := H1;clear H1;have H' := Aside0.mk H;clear H;have Y6 := d9.out;have ax := b7.out;have Y7 := e0.out;have ay := b8.out;have Y8 := d7.out;have az := d0.out;have p4 : wc.cell? ⟨a4, 0, none⟩ = some (.int .i64 (wrap64 (a0_0 * a1_0))) := bcz a2 0 rfl;have p5 : wc.cell? ⟨a4, 1, none⟩ = some (.slice h2 b1.length e4) := bcz a2 1 rfl;have p6 : wc.cell? ⟨a4, 2, none⟩ = some (.slice none 0 0) := bcz a2 2 rfl;have q0 := blk_frozen a2.out 0;have q1 := blk_frozen a2.out 1;have q2 := blk_frozen a2.out 2;go_wp2
       go_loopg [48] kj25 (fun kq V3 w' => ∃ (d1 : Int) (e1 : Int) (e3 : List (S80)) (b9 : Value), V3 = .int .i64 d1 ∧ Aside0 (Pxg.l0 kq b1 (b1.length : Int) d1 a0_0 l0_1 l0_2 a1_0 l1_1 l1_2 (wrap64 (a0_0 * a1_0)) b1 e3 = some (r1, r2, r3, r4)) ∧ Aside0 (kq ≤ kj25) ∧ Aside0 (Kd.R Kd.string 9 w' w.heap.size (fun _ => True) (.slice h2 b1.length e4) b1) ∧ Aside0 (Kd.R Kd.string 9 w' w.heap.size (fun _ => True) (.slice h2 b1.length e4) b1) ∧ Aside0 (Kd.R k80 80 w' w.heap.size (fun _ => True) b9 e3) ∧ Aside0 (w'.heap[b2]? = some (.cells #[.int .i64 a0_0, (.slice A0_1 l0_1.length c0_1), (.slice A0_2 l0_2.length c0_2)] 25 (0, 0))) ∧ Aside0 (w'.heap[b3]? = some (.cells #[.int .i64 a1_0, (.slice A1_1 l1_1.length c1_1), (.slice A1_2 l1_2.length c1_2)] 25 (0, 0))) ∧ Aside0 (w'.heap[b5]? = some (.cells #[.int .i64 e1, (.slice none 0 0), (.slice none 0 0)] 25 (0, 0))) ∧ Aside0 (w'.heap[a4]? = some (.cells #[.int .i64 (wrap64 (a0_0 * a1_0)), (.slice h2 b1.length e4), b9] 25 (0, 0))) ∧ Aside0 (Below w.heap.size w w'))
       case atStart => exact ⟨(0), (0), (([] : List (S80))), (.slice none 0 0), (by first | rfl | (simp; done) | (simp [*]; done)), H', ⟨Nat.le_refl _⟩, ⟨rz b4.out⟩, ⟨rz b4.out⟩, ⟨by first | exact Kd.R_nil _ _ _ _ _ | exact Kd.N_nil _ _ _ _ _ | exact Kd.V_nil _ _ _ _ _ | exact Kd.Q_nil _ _ _ _ _ | exact Kd.S_nil _ _ _ _ _⟩, ⟨bz a0.out⟩, ⟨bz a1.out⟩, ⟨bz a3.out⟩, ⟨bz a2.out⟩, ⟨wz HB.out⟩⟩
       case round =>
        clear H';(try clear c8);(try clear c8b0);(try clear c8b1);(try clear r7);(try clear o3);(try clear c36b0);(try clear t9);(try clear h7);(try clear h8);(try clear h9);(try clear i0);(try clear i1);(try clear i2);(try clear i3);(try clear i4);(try clear i5);(try clear m5);(try clear m6);(try clear m7);(try clear m8);(try clear m9);(try clear n0);(try clear n1);(try clear n2);(try clear n3);(try clear p1);(try clear p2);(try clear p3);(try clear p4);(try clear p5);(try clear p6);(try clear i7);(try clear i8);(try clear i9);(try clear j2);(try clear j3);(try clear j4);(try clear j5);(try clear j6);(try clear j7);(try clear n4);(try clear n5);(try clear n6);(try clear n7);(try clear n8);(try clear n9);(try clear o0);(try clear o1);(try clear o2);(try clear p7);(try clear p8);(try clear p9);(try clear q0);(try clear q1);(try clear q2);obtain ⟨d1, e1, e3, b9, rfl, HA, v0, d6, b4, a5, a0, a1, a3, a2, HB⟩ := hrel
        cases gk with
        | zero => exact absurd HA.out (by simp [Pxg.l0])
        | succ k3 =>
         have H := HA.out;clear HA;simp only [Pxg.l0] at H;by_cases r8 : d1 < (b1.length : Int)
         ·rw [if_pos r8] at H;have c54b0 : decide (d1 < (b1.length : Int)) = true := decide_eq_true r8;clear r8;by_cases v2 : 0 ≤ d1
          ·rw [if_pos v2] at H;have c55b0 : decide (0 ≤ d1) = true := decide_eq_true v2;clear v2;by_cases v3 : d1 < (b1.length : Int)
           ·rw [if_pos v3] at H;have c56b0 : decide (d1 < (b1.length : Int)) = true := decide_eq_true v3;clear v3;replace H := Option.bind_eq_some_iff.mp H;obtain ⟨⟨a9, a6⟩, E5, H⟩ := H;replace H : (if (wrap64 ((e3.length : Int) + (wrap64 ((a9.length : Int) * (a6.length : Int))))) > 1000000 then (some (0, ([] : List ByteArray), ([] : List (S80)), 8)) else (Pxg.l1 k3 d1 a6 b1 (b1.length : Int) d1 a9 (a9.length : Int) 0 a0_0 l0_1 l0_2 a1_0 l1_1 l1_2 (wrap64 (a0_0 * a1_0)) b1 e3)) = some (r1, r2, r3, r4) := H;have H9 := Aside0.mk E5;clear E5;by_cases r9 : (wrap64 ((e3.length : Int) + (wrap64 ((a9.length : Int) * (a6.length : Int))))) > 1000000
            ·rw [if_pos r9] at H;have c58b0 : decide (1000000 < (wrap64 ((e3.length : Int) + (wrap64 ((a9.length : Int) * (a6.length : Int)))))) = true := decide_eq_true r9;clear r9;simp only [Option.some.injEq, Prod.mk.injEq] at H;obtain ⟨rfl, rfl, rfl, rfl⟩ := H;have k2 : 0 ≤ (d1 : Int) := of_decide_eq_true (by first | (with_reducible assumption) | assumption);have k6 : d1 < (b1.length : Int) := of_decide_eq_true (by first | (with_reducible assumption) | assumption);obtain ⟨e7, C1, q3⟩ := Kd.at_string (Kd.R_reads' d6.out).2.2 d1 k2 k6
             cases C1;replace k2 := eq_true k2;replace k6 := eq_true k6;have Y9 := g9.out;have aA := h0.out;have Z0 := f6.out;have aC := f8.out;have Z1 := b7.out;have aD := d9.out;have v5 : wr.cell? ⟨b2, 0, none⟩ = some (.int .i64 a0_0) := bcz a0 0 rfl;have v6 : wr.cell? ⟨b2, 1, none⟩ = some (.slice A0_1 l0_1.length c0_1) := bcz a0 1 rfl;have v7 : wr.cell? ⟨b2, 2, none⟩ = some (.slice A0_2 l0_2.length c0_2) := bcz a0 2 rfl;have y1 := blk_frozen a0.out 0;have y2 := blk_frozen a0.out 1;have y3 := blk_frozen a0.out 2;have Z2 := f7.out;have aE := f9.out;have Z3 := b8.out;have aG := e0.out;have v8 : wr.cell? ⟨b3, 0, none⟩ = some (.int .i64 a1_0) := bcz a1 0 rfl;have v9 : wr.cell? ⟨b3, 1, none⟩ = some (.slice A1_1 l1_1.length c1_1) := bcz a1 1 rfl;have w2 : wr.cell? ⟨b3, 2, none⟩ = some (.slice A1_2 l1_2.length c1_2) := bcz a1 2 rfl;have y4 := blk_frozen a1.out 0;have y5 := blk_frozen a1.out 1;have y6 := blk_frozen a1.out 2;go_wp2_with (first | ((with_reducible refine gate_callee (f := 109) rfl ?_); refine goesL_ (some 57) rfl rfl Try.func109 (by kernel_rfl) rfl #[.agg #[.int .i64 a0_0, .slice A0_1 l0_1.length c0_1, .slice A0_2 l0_2.length c0_2], .agg #[.int .i64 a1_0, .slice A1_1 l1_1.length c1_1, .slice A1_2 l1_2.length c1_2], .string (rdOf ByteArray.empty b1 d1)] rfl (by (try simp only [List.map_toArray, List.map_cons, List.map_nil]); first | done | rfl | (simp only [List.length_drop, List.length_take]; rfl)) ?_; (with_reducible refine (Pxc.calls k3 a0_0 _ _ l0_1 _ _ l0_2 a1_0 _ _ l1_1 _ _ l1_2 (rdOf ByteArray.empty b1 d1) a9 a6 _ ?k7 ?k8 ?k9 ?l3 ?H4 ?H5 ?H6 ?H7 H9.out).mono ?_); (case k7 => exact cz m4.out HB.out); (case k8 => exact m3.out); (case k9 => exact cz t5.out HB.out); (case l3 => exact s9.out); (case H4 => exact cz o7.out HB.out); (case H5 => exact o6.out); (case H6 => exact cz A5.out HB.out); (case H7 => exact A4.out); rintro e A2 ⟨O9, P0, rfl, g7, m2, hb⟩; refine ⟨_, rfl, ?_⟩; have d2 := Aside0.mk (Kd.R_below (rz d6.out) hb); have d3 := Aside0.mk (Kd.R_below (rz b4.out) hb); have d4 := Aside0.mk (Kd.R_mono (Kd.R_told (Kd.R_told (Kd.R_old (rz a5.out) hb) (Kd.R_base g7)) (Kd.R_base m2)) (fun _ h_ => h_.1)); have d5 := Aside0.mk (Kd.R_lower (Kd.R_new' g7 (Kd.R_lt (rz a5.out))) (below_size (wz HB.out))); have e2 := Aside0.mk (Kd.R_lower (Kd.R_new' m2 (Kd.R_lt (rz a5.out))) (below_size (wz HB.out))); have e5 := Aside0.mk (blk_below (bz a0.out) hb); have e6 := Aside0.mk (blk_below (bz a1.out) hb); have e8 := Aside0.mk (blk_below (bz a3.out) hb); have e9 := Aside0.mk (blk_below (bz a2.out) hb); have f3 := Aside0.mk (below_step (wz HB.out) hb); clear d6; clear b4; clear a5; clear a0; clear a1; clear a3; clear a2; clear HB; have d6 := d2; have b4 := d3; have a5 := d4; have t2 := d5; have t4 := e2; have a0 := e5; have a1 := e6; have a3 := e8; have a2 := e9; have HB := f3; clear d2 d3 d4 d5 e2 e5 e6 e8 e9 f3; (try clear hb); (try clear u1); (try clear hk); (try clear hi); (try clear g7); (try clear m2); have Z4 := d7.out; have aH := d0.out; have w3 : A2.cell? ⟨a4, 0, none⟩ = some (.int .i64 (wrap64 (a0_0 * a1_0))) := bcz a2 0 rfl; have w7 : A2.cell? ⟨a4, 1, none⟩ = some (.slice (some e7) b1.length e4) := bcz a2 1 rfl; have w8 : A2.cell? ⟨a4, 2, none⟩ = some (b9) := bcz a2 2 rfl; have y7 := blk_frozen a2.out 0; have y8 := blk_frozen a2.out 1; have y9 := blk_frozen a2.out 2; obtain ⟨aW, aZ, K1⟩ := Kd.R_slice a5.out; subst K1; obtain ⟨aX, ba, K2⟩ := Kd.R_slice t2.out; subst K2; obtain ⟨aY, bb, K3⟩ := Kd.R_slice t4.out; subst K3; have w9 : A2.cell? ⟨b5, 0, none⟩ = some (.int .i64 e1) := bcz a3 0 rfl; have x0 : A2.cell? ⟨b5, 1, none⟩ = some (.slice none 0 0) := bcz a3 1 rfl; have x1 : A2.cell? ⟨b5, 2, none⟩ = some (.slice none 0 0) := bcz a3 2 rfl; have z0 := blk_frozen a3.out 0; have z1 := blk_frozen a3.out 1; have z2 := blk_frozen a3.out 2))
             refine bodyPost_ret (results_ct rfl _ _ b5 25 #[.int .i64 0, .slice none 0 0, .slice none 0 0] (0, 0) _ rfl (by (with_reducible repeat (first | refine blk_drewN ?_ _ | refine blk_drew ?_ | refine blk_alloc ?_ _)); refine blk_put (cs := #[.int .i64 0, .slice none 0 0, .slice none 0 0]) ?_ 2 _ rfl; (with_reducible repeat (first | refine blk_drewN ?_ _ | refine blk_drew ?_ | refine blk_alloc ?_ _)); refine blk_put (cs := #[.int .i64 0, .slice none 0 0, .slice none 0 0]) ?_ 1 _ rfl; (with_reducible repeat (first | refine blk_drewN ?_ _ | refine blk_drew ?_ | refine blk_alloc ?_ _)); refine blk_put (cs := #[.int .i64 e1, .slice none 0 0, .slice none 0 0]) ?_ 0 _ rfl; (with_reducible repeat (first | refine blk_drewN ?_ _ | refine blk_drew ?_ | refine blk_alloc ?_ _)); exact a3.out) Try.underlying25 rfl (by kernel_rfl)) rfl ?_;exact ⟨_, _, by first | rfl | (simp [errW_none, errW_some] <;> rfl) | (simp [*, errW_none, errW_some] <;> rfl), by first | exact Kd.R_nil _ _ _ _ _ | exact Kd.N_nil _ _ _ _ _ | exact Kd.V_nil _ _ _ _ _ | exact Kd.Q_nil _ _ _ _ _ | exact Kd.S_nil _ _ _ _ _, by first | exact Kd.R_nil _ _ _ _ _ | exact Kd.N_nil _ _ _ _ _ | exact Kd.V_nil _ _ _ _ _ | exact Kd.Q_nil _ _ _ _ _ | exact Kd.S_nil _ _ _ _ _, wz HB.out⟩
            ·rw [if_neg r9] at H;have c58b0 : decide (1000000 < (wrap64 ((e3.length : Int) + (wrap64 ((a9.length : Int) * (a6.length : Int)))))) = false := decide_eq_false r9;clear r9;have H' := Aside0.mk H;clear H;have k2 : 0 ≤ (d1 : Int) := of_decide_eq_true (by first | (with_reducible assumption) | assumption);have k6 : d1 < (b1.length : Int) := of_decide_eq_true (by first | (with_reducible assumption) | assumption);obtain ⟨e7, C1, q3⟩ := Kd.at_string (Kd.R_reads' d6.out).2.2 d1 k2 k6
             cases C1;replace k2 := eq_true k2;replace k6 := eq_true k6;have Z5 := g9.out;have aI := h0.out;have Z6 := f6.out;have aJ := f8.out;have Z7 := b7.out;have aK := d9.out;have x2 : wr.cell? ⟨b2, 0, none⟩ = some (.int .i64 a0_0) := bcz a0 0 rfl;have x3 : wr.cell? ⟨b2, 1, none⟩ = some (.slice A0_1 l0_1.length c0_1) := bcz a0 1 rfl;have x4 : wr.cell? ⟨b2, 2, none⟩ = some (.slice A0_2 l0_2.length c0_2) := bcz a0 2 rfl;have z3 := blk_frozen a0.out 0;have z4 := blk_frozen a0.out 1;have z5 := blk_frozen a0.out 2;have Z8 := f7.out;have aM := f9.out;have Z9 := b8.out;have aN := e0.out;have x5 : wr.cell? ⟨b3, 0, none⟩ = some (.int .i64 a1_0) := bcz a1 0 rfl;have x6 : wr.cell? ⟨b3, 1, none⟩ = some (.slice A1_1 l1_1.length c1_1) := bcz a1 1 rfl;have x7 : wr.cell? ⟨b3, 2, none⟩ = some (.slice A1_2 l1_2.length c1_2) := bcz a1 2 rfl;have z6 := blk_frozen a1.out 0;have z7 := blk_frozen a1.out 1;have z8 := blk_frozen a1.out 2;go_wp2_with (first | ((with_reducible refine gate_callee (f := 109) rfl ?_); refine goesL_ (some 57) rfl rfl Try.func109 (by kernel_rfl) rfl #[.agg #[.int .i64 a0_0, .slice A0_1 l0_1.length c0_1, .slice A0_2 l0_2.length c0_2], .agg #[.int .i64 a1_0, .slice A1_1 l1_1.length c1_1, .slice A1_2 l1_2.length c1_2], .string (rdOf ByteArray.empty b1 d1)] rfl (by (try simp only [List.map_toArray, List.map_cons, List.map_nil]); first | done | rfl | (simp only [List.length_drop, List.length_take]; rfl)) ?_; (with_reducible refine (Pxc.calls k3 a0_0 _ _ l0_1 _ _ l0_2 a1_0 _ _ l1_1 _ _ l1_2 (rdOf ByteArray.empty b1 d1) a9 a6 _ ?k7 ?k8 ?k9 ?l3 ?H4 ?H5 ?H6 ?H7 H9.out).mono ?_); (case k7 => exact cz m4.out HB.out); (case k8 => exact m3.out); (case k9 => exact cz t5.out HB.out); (case l3 => exact s9.out); (case H4 => exact cz o7.out HB.out); (case H5 => exact o6.out); (case H6 => exact cz A5.out HB.out); (case H7 => exact A4.out); rintro e G3 ⟨O9, P0, rfl, g7, m2, hb⟩; refine ⟨_, rfl, ?_⟩; have d2 := Aside0.mk (Kd.R_below (rz d6.out) hb); have d3 := Aside0.mk (Kd.R_below (rz b4.out) hb); have d4 := Aside0.mk (Kd.R_mono (Kd.R_told (Kd.R_told (Kd.R_old (rz a5.out) hb) (Kd.R_base g7)) (Kd.R_base m2)) (fun _ h_ => h_.1)); have d5 := Aside0.mk (Kd.R_lower (Kd.R_new' g7 (Kd.R_lt (rz a5.out))) (below_size (wz HB.out))); have e2 := Aside0.mk (Kd.R_lower (Kd.R_new' m2 (Kd.R_lt (rz a5.out))) (below_size (wz HB.out))); have e5 := Aside0.mk (blk_below (bz a0.out) hb); have e6 := Aside0.mk (blk_below (bz a1.out) hb); have e8 := Aside0.mk (blk_below (bz a3.out) hb); have e9 := Aside0.mk (blk_below (bz a2.out) hb); have f3 := Aside0.mk (below_step (wz HB.out) hb); clear d6; clear b4; clear a5; clear a0; clear a1; clear a3; clear a2; clear HB; have d6 := d2; have b4 := d3; have a5 := d4; have t2 := d5; have t4 := e2; have a0 := e5; have a1 := e6; have a3 := e8; have a2 := e9; have HB := f3; clear d2 d3 d4 d5 e2 e5 e6 e8 e9 f3; (try clear hb); (try clear u1); (try clear hk); (try clear hi); (try clear g7); (try clear m2); have aa := d7.out; have aQ := d0.out; have x8 : G3.cell? ⟨a4, 0, none⟩ = some (.int .i64 (wrap64 (a0_0 * a1_0))) := bcz a2 0 rfl; have x9 : G3.cell? ⟨a4, 1, none⟩ = some (.slice (some e7) b1.length e4) := bcz a2 1 rfl; have y0 : G3.cell? ⟨a4, 2, none⟩ = some (b9) := bcz a2 2 rfl; have z9 := blk_frozen a2.out 0; have A0 := blk_frozen a2.out 1; have A1 := blk_frozen a2.out 2; obtain ⟨J5, J8, K4⟩ := Kd.R_slice a5.out; subst K4; obtain ⟨B9, h5, K5⟩ := Kd.R_slice t2.out; subst K5; obtain ⟨j9, g8, K6⟩ := Kd.R_slice t4.out; subst K6))
             go_loopg [73] k3 (fun kq V4 w' => ∃ (a7 : Int) (h1 : List (S80)) (b9 : Value), V4 = .int .i64 a7 ∧ Aside0 (Pxg.l1 kq d1 a6 b1 (b1.length : Int) d1 a9 (a9.length : Int) a7 a0_0 l0_1 l0_2 a1_0 l1_1 l1_2 (wrap64 (a0_0 * a1_0)) b1 h1 = some (r1, r2, r3, r4)) ∧ Aside0 (kq ≤ k3) ∧ Aside0 (Kd.R k80 80 w' w.heap.size (fun k_ => some k_ ≠ ((.slice B9 a9.length h5) : Value).ownBlock ∧ some k_ ≠ (b9 : Value).ownBlock) (.slice j9 a6.length g8) a6) ∧ Aside0 (Kd.R Kd.string 9 w' w.heap.size (fun _ => True) (.slice (some e7) b1.length e4) b1) ∧ Aside0 (Kd.R k80 80 w' w.heap.size (fun k_ => some k_ ≠ ((.slice j9 a6.length g8) : Value).ownBlock ∧ some k_ ≠ (b9 : Value).ownBlock) (.slice B9 a9.length h5) a9) ∧ Aside0 (Kd.R Kd.string 9 w' w.heap.size (fun _ => True) (.slice (some e7) b1.length e4) b1) ∧ Aside0 (Kd.R k80 80 w' w.heap.size (fun k_ => some k_ ≠ ((.slice j9 a6.length g8) : Value).ownBlock ∧ some k_ ≠ ((.slice B9 a9.length h5) : Value).ownBlock) b9 h1) ∧ Aside0 (w'.heap[b2]? = some (.cells #[.int .i64 a0_0, (.slice A0_1 l0_1.length c0_1), (.slice A0_2 l0_2.length c0_2)] 25 (0, 0))) ∧ Aside0 (w'.heap[b3]? = some (.cells #[.int .i64 a1_0, (.slice A1_1 l1_1.length c1_1), (.slice A1_2 l1_2.length c1_2)] 25 (0, 0))) ∧ Aside0 (w'.heap[b5]? = some (.cells #[.int .i64 e1, (.slice none 0 0), (.slice none 0 0)] 25 (0, 0))) ∧ Aside0 (w'.heap[a4]? = some (.cells #[.int .i64 (wrap64 (a0_0 * a1_0)), (.slice (some e7) b1.length e4), b9] 25 (0, 0))) ∧ Aside0 (Below w.heap.size w w'))
             case atStart => exact ⟨(0), (e3), (.slice J5 e3.length J8), (by first | rfl | (simp; done) | (simp [*]; done)), H', ⟨Nat.le_refl _⟩, ⟨rz t4.out⟩, ⟨rz d6.out⟩, ⟨rz t2.out⟩, ⟨rz b4.out⟩, ⟨rz (Kd.R_mono a5.out (fun _ hk => ⟨hk.2, hk.1.2⟩))⟩, ⟨bz a0.out⟩, ⟨bz a1.out⟩, ⟨bz a3.out⟩, ⟨bz a2.out⟩, ⟨wz HB.out⟩⟩
             case round =>
              clear H';(try clear c8);(try clear c8b0);(try clear c8b1);(try clear r7);(try clear o3);(try clear c36b0);(try clear t9);(try clear r8);(try clear c54b0);(try clear v2);(try clear c55b0);(try clear v3);(try clear c56b0);(try clear r9);(try clear c58b0);(try clear h7);(try clear h8);(try clear h9);(try clear i0);(try clear i1);(try clear i2);(try clear i3);(try clear i4);(try clear i5);(try clear m5);(try clear m6);(try clear m7);(try clear m8);(try clear m9);(try clear n0);(try clear n1);(try clear n2);(try clear n3);(try clear p1);(try clear p2);(try clear p3);(try clear p4);(try clear p5);(try clear p6);(try clear v5);(try clear v6);(try clear v7);(try clear v8);(try clear v9);(try clear w2);(try clear w3);(try clear w7);(try clear w8);(try clear w9);(try clear x0);(try clear x1);(try clear x2);(try clear x3);(try clear x4);(try clear x5);(try clear x6);(try clear x7);(try clear x8);(try clear x9);(try clear y0);(try clear i7);(try clear i8);(try clear i9);(try clear j2);(try clear j3);(try clear j4);(try clear j5);(try clear j6);(try clear j7);(try clear n4);(try clear n5);(try clear n6);(try clear n7);(try clear n8);(try clear n9);(try clear o0);(try clear o1);(try clear o2);(try clear p7);(try clear p8);(try clear p9);(try clear q0);(try clear q1);(try clear q2);(try clear y1);(try clear y2);(try clear y3);(try clear y4);(try clear y5);(try clear y6);(try clear y7);(try clear y8);(try clear y9);(try clear z0);(try clear z1);(try clear z2);(try clear z3);(try clear z4);(try clear z5);(try clear z6);(try clear z7);(try clear z8);(try clear z9);(try clear A0);(try clear A1);(try clear q3);(try clear k2);(try clear k6);obtain ⟨a7, h1, b9, rfl, HA, v1, f4, d6, f5, b4, a5, a0, a1, a3, a2, HB⟩ := hrel
              cases gk with
              | zero => exact absurd HA.out (by simp [Pxg.l1])
              | succ k4 =>
               have H := HA.out;clear HA;simp only [Pxg.l1] at H;by_cases u0 : a7 < (a9.length : Int)
               ·rw [if_pos u0] at H;have c86b0 : decide (a7 < (a9.length : Int)) = true := decide_eq_true u0;clear u0;by_cases B7 : 0 ≤ a7
                ·rw [if_pos B7] at H;have c87b0 : decide (0 ≤ a7) = true := decide_eq_true B7;clear B7;by_cases B8 : a7 < (a9.length : Int)
                 ·rw [if_pos B8] at H;have c88b0 : decide (a7 < (a9.length : Int)) = true := decide_eq_true B8;clear B8;have H' := Aside0.mk H;clear H;have A8 : 0 ≤ (a7 : Int) := of_decide_eq_true (by first | (with_reducible assumption) | assumption);have B0 : a7 < (a9.length : Int) := of_decide_eq_true (by first | (with_reducible assumption) | assumption);obtain ⟨k0, J9, E1, E2, E3⟩ := at_T80 (Kd.R_reads' f5.out).2.2 a7 A8 B0
                  cases J9;replace A8 := eq_true A8;replace B0 := eq_true B0;go_wp2_with (first | ((with_reducible refine gate_dst (N := 12) rfl ?_); (try (refine gate_guard (by rfl) ?_; dsimp only)); refine box_event ?hg (N := 12) ?hd (cs := #[.int .i64 0, .int .i64 0, .int .i64 0]) (t := 80) ?hr ?_; (case hd => rfl); (case hg => rfl); (case hr => first | (go_simp; done) | (go_simp; rfl)); intro b6 hg G4 hbox hb; have d2 := Aside0.mk (Kd.R_below (Kd.R_elderB (rz f4.out) b6 (Nat.le_of_eq hg.symm)) hb); have d3 := Aside0.mk (Kd.R_below (rz d6.out) hb); have d4 := Aside0.mk (Kd.R_below (Kd.R_elderB (rz f5.out) b6 (Nat.le_of_eq hg.symm)) hb); have d5 := Aside0.mk (Kd.R_below (rz b4.out) hb); have e2 := Aside0.mk (Kd.R_below (Kd.R_elderB (rz a5.out) b6 (Nat.le_of_eq hg.symm)) hb); have e5 := Aside0.mk (blk_below (bz a0.out) hb); have e6 := Aside0.mk (blk_below (bz a1.out) hb); have e8 := Aside0.mk (blk_below (bz a3.out) hb); have e9 := Aside0.mk (blk_below (bz a2.out) hb); have f3 := Aside0.mk (below_step (wz HB.out) hb); have g0 := Aside0.mk (hbox); have g1 := Aside0.mk ((by rw [hg]; exact (below_size (wz HB.out)) : w.heap.size ≤ b6)); have g2 := Aside0.mk ((by rw [hg]; exact (below_size (wz HB.out)) : w.heap.size ≤ b6)); have h4 := Aside0.mk ((by rw [hg]; exact Nat.ne_of_lt (blk_lt (g := b2) (o := .cells #[.int .i64 a0_0, .slice A0_1 l0_1.length c0_1, .slice A0_2 l0_2.length c0_2] 25 (0, 0)) (bz a0.out)) : b2 ≠ b6)); have u2 := Aside0.mk ((by rw [hg]; exact Nat.ne_of_gt (blk_lt (g := b2) (o := .cells #[.int .i64 a0_0, .slice A0_1 l0_1.length c0_1, .slice A0_2 l0_2.length c0_2] 25 (0, 0)) (bz a0.out)) : b6 ≠ b2)); have u3 := Aside0.mk ((by rw [hg]; exact Nat.ne_of_lt (blk_lt (g := b3) (o := .cells #[.int .i64 a1_0, .slice A1_1 l1_1.length c1_1, .slice A1_2 l1_2.length c1_2] 25 (0, 0)) (bz a1.out)) : b3 ≠ b6)); have u4 := Aside0.mk ((by rw [hg]; exact Nat.ne_of_gt (blk_lt (g := b3) (o := .cells #[.int .i64 a1_0, .slice A1_1 l1_1.length c1_1, .slice A1_2 l1_2.length c1_2] 25 (0, 0)) (bz a1.out)) : b6 ≠ b3)); have u5 := Aside0.mk ((by rw [hg]; exact Nat.ne_of_lt (blk_lt (g := b5) (o := .cells #[.int .i64 e1, .slice none 0 0, .slice none 0 0] 25 (0, 0)) (bz a3.out)) : b5 ≠ b6)); have u6 := Aside0.mk ((by rw [hg]; exact Nat.ne_of_gt (blk_lt (g := b5) (o := .cells #[.int .i64 e1, .slice none 0 0, .slice none 0 0] 25 (0, 0)) (bz a3.out)) : b6 ≠ b5)); have u7 := Aside0.mk ((by rw [hg]; exact Nat.ne_of_lt (blk_lt (g := a4) (o := .cells #[.int .i64 (wrap64 (a0_0 * a1_0)), .slice (some e7) b1.length e4, b9] 25 (0, 0)) (bz a2.out)) : a4 ≠ b6)); have u8 := Aside0.mk ((by rw [hg]; exact Nat.ne_of_gt (blk_lt (g := a4) (o := .cells #[.int .i64 (wrap64 (a0_0 * a1_0)), .slice (some e7) b1.length e4, b9] 25 (0, 0)) (bz a2.out)) : b6 ≠ a4)); clear f4 d6 f5 b4 a5 a0 a1 a3 a2 HB; have f4 := d2; have d6 := d3; have f5 := d4; have b4 := d5; have a5 := e2; have a0 := e5; have a1 := e6; have a3 := e8; have a2 := e9; have HB := f3; have d8 := g0; have W5 := g1; have W0 := g2; have l6 := h4; have r0 := u2; have l7 := u3; have r5 := u4; have l8 := u5; have r6 := u6; have l9 := u7; have m0 := u8; clear d2 d3 d4 d5 e2 e5 e6 e8 e9 f3 g0 g1 g2 h4 u2 u3 u4 u5 u6 u7 u8 hb hbox hg; have ab := r0.out; have aR := l6.out; have ac := r5.out; have aT := l7.out; have ad := r6.out; have aU := l8.out; have ae := m0.out; have aV := l9.out; have D5 : G4.cell? ⟨b6, 0, none⟩ = some (.int .i64 0) := bcz d8 0 rfl; have D6 : G4.cell? ⟨b6, 1, none⟩ = some (.int .i64 0) := bcz d8 1 rfl; have D7 : G4.cell? ⟨b6, 2, none⟩ = some (.int .i64 0) := bcz d8 2 rfl; have D8 := blk_frozen d8.out 0; have D9 := blk_frozen d8.out 1; have E0 := blk_frozen d8.out 2))
                  go_loopg [79] k4 (fun kq V5 w' => ∃ (a8 : Int) (g3 : List (S80)) (b9 : Value), V5 = .int .i64 a8 ∧ Aside0 (Pxg.l2 kq d1 a6 b1 (b1.length : Int) d1 a9 (a9.length : Int) a7 a6 (a6.length : Int) a8 a0_0 l0_1 l0_2 a1_0 l1_1 l1_2 (wrap64 (a0_0 * a1_0)) b1 g3 ((rd_T80 a9 a7).f0) ((rd_T80 a9 a7).f1) ((rd_T80 a9 a7).f2) = some (r1, r2, r3, r4)) ∧ Aside0 (kq ≤ k4) ∧ Aside0 (Kd.R k80 80 w' w.heap.size (fun k_ => some k_ ≠ ((.slice (some k0) a9.length h5) : Value).ownBlock ∧ some k_ ≠ (b9 : Value).ownBlock ∧ k_ ≠ b6) (.slice j9 a6.length g8) a6) ∧ Aside0 (Kd.R Kd.string 9 w' w.heap.size (fun _ => True) (.slice (some e7) b1.length e4) b1) ∧ Aside0 (Kd.R k80 80 w' w.heap.size (fun k_ => some k_ ≠ ((.slice j9 a6.length g8) : Value).ownBlock ∧ some k_ ≠ ((.slice j9 a6.length g8) : Value).ownBlock ∧ some k_ ≠ (b9 : Value).ownBlock ∧ k_ ≠ b6) (.slice (some k0) a9.length h5) a9) ∧ Aside0 (Kd.R k80 80 w' w.heap.size (fun k_ => some k_ ≠ ((.slice (some k0) a9.length h5) : Value).ownBlock ∧ some k_ ≠ (b9 : Value).ownBlock ∧ k_ ≠ b6) (.slice j9 a6.length g8) a6) ∧ Aside0 (Kd.R Kd.string 9 w' w.heap.size (fun _ => True) (.slice (some e7) b1.length e4) b1) ∧ Aside0 (Kd.R k80 80 w' w.heap.size (fun k_ => some k_ ≠ ((.slice j9 a6.length g8) : Value).ownBlock ∧ some k_ ≠ ((.slice (some k0) a9.length h5) : Value).ownBlock ∧ some k_ ≠ ((.slice j9 a6.length g8) : Value).ownBlock ∧ k_ ≠ b6) b9 g3) ∧ Aside0 (w'.heap[b2]? = some (.cells #[.int .i64 a0_0, (.slice A0_1 l0_1.length c0_1), (.slice A0_2 l0_2.length c0_2)] 25 (0, 0))) ∧ Aside0 (w'.heap[b3]? = some (.cells #[.int .i64 a1_0, (.slice A1_1 l1_1.length c1_1), (.slice A1_2 l1_2.length c1_2)] 25 (0, 0))) ∧ Aside0 (w'.heap[b5]? = some (.cells #[.int .i64 e1, (.slice none 0 0), (.slice none 0 0)] 25 (0, 0))) ∧ Aside0 (w'.heap[a4]? = some (.cells #[.int .i64 (wrap64 (a0_0 * a1_0)), (.slice (some e7) b1.length e4), b9] 25 (0, 0))) ∧ Aside0 (w'.heap[b6]? = some (.cells #[.int .i64 ((rd_T80 a9 a7).f0), .int .i64 ((rd_T80 a9 a7).f1), .int .i64 ((rd_T80 a9 a7).f2)] 80 (0, 0))) ∧ Aside0 (Below w.heap.size w w'))
                  case atStart => exact ⟨(0), (h1), (b9), (by first | rfl | (simp; done) | (simp [*]; done)), H', ⟨Nat.le_refl _⟩, ⟨rz (Kd.R_mono (Kd.R_far (p := ⟨b6, 2, none⟩) (Kd.R_far (p := ⟨b6, 1, none⟩) (Kd.R_far (p := ⟨b6, 0, none⟩) (Kd.R_mono f4.out (fun k_ hk => (⟨hk, hk.2⟩ : _ ∧ k_ ≠ b6))) (fun _ hk => hk.2) (.int .i64 ((rd_T80 a9 a7).f0))) (fun _ hk => hk.2) (.int .i64 ((rd_T80 a9 a7).f1))) (fun _ hk => hk.2) (.int .i64 ((rd_T80 a9 a7).f2))) (fun _ hk => ⟨hk.1.1.1, ⟨hk.1.1.2, hk.1.2⟩⟩))⟩, ⟨rz (Kd.R_mono (Kd.R_far (p := ⟨b6, 2, none⟩) (Kd.R_far (p := ⟨b6, 1, none⟩) (Kd.R_far (p := ⟨b6, 0, none⟩) (Kd.R_types d6.out d8.out (by decide)) (fun _ hk => hk.2) (.int .i64 ((rd_T80 a9 a7).f0))) (fun _ hk => hk.2) (.int .i64 ((rd_T80 a9 a7).f1))) (fun _ hk => hk.2) (.int .i64 ((rd_T80 a9 a7).f2))) (fun _ hk => trivial))⟩, ⟨rz (Kd.R_mono (Kd.R_far (p := ⟨b6, 2, none⟩) (Kd.R_far (p := ⟨b6, 1, none⟩) (Kd.R_far (p := ⟨b6, 0, none⟩) (Kd.R_mono f5.out (fun k_ hk => (⟨hk, hk.2⟩ : _ ∧ k_ ≠ b6))) (fun _ hk => hk.2) (.int .i64 ((rd_T80 a9 a7).f0))) (fun _ hk => hk.2) (.int .i64 ((rd_T80 a9 a7).f1))) (fun _ hk => hk.2) (.int .i64 ((rd_T80 a9 a7).f2))) (fun _ hk => ⟨hk.1.1.1, ⟨hk.1.1.1, ⟨hk.1.1.2, hk.1.2⟩⟩⟩))⟩, ⟨rz (Kd.R_mono (Kd.R_far (p := ⟨b6, 2, none⟩) (Kd.R_far (p := ⟨b6, 1, none⟩) (Kd.R_far (p := ⟨b6, 0, none⟩) (Kd.R_mono f4.out (fun k_ hk => (⟨hk, hk.2⟩ : _ ∧ k_ ≠ b6))) (fun _ hk => hk.2) (.int .i64 ((rd_T80 a9 a7).f0))) (fun _ hk => hk.2) (.int .i64 ((rd_T80 a9 a7).f1))) (fun _ hk => hk.2) (.int .i64 ((rd_T80 a9 a7).f2))) (fun _ hk => ⟨hk.1.1.1, ⟨hk.1.1.2, hk.1.2⟩⟩))⟩, ⟨rz (Kd.R_mono (Kd.R_far (p := ⟨b6, 2, none⟩) (Kd.R_far (p := ⟨b6, 1, none⟩) (Kd.R_far (p := ⟨b6, 0, none⟩) (Kd.R_types b4.out d8.out (by decide)) (fun _ hk => hk.2) (.int .i64 ((rd_T80 a9 a7).f0))) (fun _ hk => hk.2) (.int .i64 ((rd_T80 a9 a7).f1))) (fun _ hk => hk.2) (.int .i64 ((rd_T80 a9 a7).f2))) (fun _ hk => trivial))⟩, ⟨rz (Kd.R_mono (Kd.R_far (p := ⟨b6, 2, none⟩) (Kd.R_far (p := ⟨b6, 1, none⟩) (Kd.R_far (p := ⟨b6, 0, none⟩) (Kd.R_mono a5.out (fun k_ hk => (⟨hk, hk.2⟩ : _ ∧ k_ ≠ b6))) (fun _ hk => hk.2) (.int .i64 ((rd_T80 a9 a7).f0))) (fun _ hk => hk.2) (.int .i64 ((rd_T80 a9 a7).f1))) (fun _ hk => hk.2) (.int .i64 ((rd_T80 a9 a7).f2))) (fun _ hk => ⟨hk.1.1.1, ⟨hk.1.1.2, ⟨hk.1.1.1, hk.1.2⟩⟩⟩))⟩, ⟨fz a0.out l6.out⟩, ⟨fz a1.out l7.out⟩, ⟨fz a3.out l8.out⟩, ⟨fz a2.out l9.out⟩, ⟨by (with_reducible repeat (first | refine blk_drewN ?_ _ | refine blk_drew ?_ | refine blk_alloc ?_ _)); refine blk_put (cs := #[.int .i64 ((rd_T80 a9 a7).f0), .int .i64 ((rd_T80 a9 a7).f1), .int .i64 0]) ?_ 2 _ rfl; (with_reducible repeat (first | refine blk_drewN ?_ _ | refine blk_drew ?_ | refine blk_alloc ?_ _)); refine blk_put (cs := #[.int .i64 ((rd_T80 a9 a7).f0), .int .i64 0, .int .i64 0]) ?_ 1 _ rfl; (with_reducible repeat (first | refine blk_drewN ?_ _ | refine blk_drew ?_ | refine blk_alloc ?_ _)); refine blk_put (cs := #[.int .i64 0, .int .i64 0, .int .i64 0]) ?_ 0 _ rfl; (with_reducible repeat (first | refine blk_drewN ?_ _ | refine blk_drew ?_ | refine blk_alloc ?_ _)); exact d8.out⟩, ⟨wz HB.out⟩⟩
                  case round =>
                   clear H';(try clear c8);(try clear c8b0);(try clear c8b1);(try clear r7);(try clear o3);(try clear c36b0);(try clear t9);(try clear r8);(try clear c54b0);(try clear v2);(try clear c55b0);(try clear v3);(try clear c56b0);(try clear r9);(try clear c58b0);(try clear u0);(try clear c86b0);(try clear B7);(try clear c87b0);(try clear B8);(try clear c88b0);(try clear h7);(try clear h8);(try clear h9);(try clear i0);(try clear i1);(try clear i2);(try clear i3);(try clear i4);(try clear i5);(try clear m5);(try clear m6);(try clear m7);(try clear m8);(try clear m9);(try clear n0);(try clear n1);(try clear n2);(try clear n3);(try clear p1);(try clear p2);(try clear p3);(try clear p4);(try clear p5);(try clear p6);(try clear v5);(try clear v6);(try clear v7);(try clear v8);(try clear v9);(try clear w2);(try clear w3);(try clear w7);(try clear w8);(try clear w9);(try clear x0);(try clear x1);(try clear x2);(try clear x3);(try clear x4);(try clear x5);(try clear x6);(try clear x7);(try clear x8);(try clear x9);(try clear y0);(try clear D5);(try clear D6);(try clear D7);(try clear i7);(try clear i8);(try clear i9);(try clear j2);(try clear j3);(try clear j4);(try clear j5);(try clear j6);(try clear j7);(try clear n4);(try clear n5);(try clear n6);(try clear n7);(try clear n8);(try clear n9);(try clear o0);(try clear o1);(try clear o2);(try clear p7);(try clear p8);(try clear p9);(try clear q0);(try clear q1);(try clear q2);(try clear y1);(try clear y2);(try clear y3);(try clear y4);(try clear y5);(try clear y6);(try clear y7);(try clear y8);(try clear y9);(try clear z0);(try clear z1);(try clear z2);(try clear z3);(try clear z4);(try clear z5);(try clear z6);(try clear z7);(try clear z8);(try clear z9);(try clear A0);(try clear A1);(try clear D8);(try clear D9);(try clear E0);(try clear q3);(try clear E1);(try clear E2);(try clear E3);(try clear k2);(try clear A8);(try clear k6);(try clear B0);obtain ⟨a8, g3, b9, rfl, HA, C8, f4, d6, f5, h3, b4, a5, a0, a1, a3, a2, d8, HB⟩ := hrel
                   cases gk with
                   | zero => exact absurd HA.out (by simp [Pxg.l2])
                   | succ k5 =>
                    have H := HA.out;clear HA;simp only [Pxg.l2] at H;by_cases v4 : a8 < (a6.length : Int)
                    ·rw [if_pos v4] at H;have c95b0 : decide (a8 < (a6.length : Int)) = true := decide_eq_true v4;clear v4;by_cases D2 : 0 ≤ a8
                     ·rw [if_pos D2] at H;have c96b0 : decide (0 ≤ a8) = true := decide_eq_true D2;clear D2;by_cases D3 : a8 < (a6.length : Int)
                      ·rw [if_pos D3] at H;have c97b0 : decide (a8 < (a6.length : Int)) = true := decide_eq_true D3;clear D3;by_cases D4 : g3.length < 5864062014805
                       ·rw [if_pos D4] at H;have G6 := Aside0.mk D4;clear D4;obtain ⟨l4, o8⟩ : ∃ y_ : List (S80), y_ = (g3 ++ [(⟨wrap64 ((wrap64 (((rd_T80 a9 a7).f0) * a1_0)) + ((rd_T80 a6 a8).f0)), d1, wrap64 ((wrap64 (((rd_T80 a9 a7).f2) * a1_0)) + ((rd_T80 a6 a8).f2))⟩ : S80)]) := ⟨_, rfl⟩
                        replace H : (Pxg.l2 k5 d1 a6 b1 (b1.length : Int) d1 a9 (a9.length : Int) a7 a6 (a6.length : Int) (wrap64 (a8 + 1)) a0_0 l0_1 l0_2 a1_0 l1_1 l1_2 (wrap64 (a0_0 * a1_0)) b1 l4 ((rd_T80 a9 a7).f0) ((rd_T80 a9 a7).f1) ((rd_T80 a9 a7).f2)) = some (r1, r2, r3, r4) := by first | (rw [o8]; with_reducible exact H) | (have E6 := (Option.bind_some _ _).symm.trans H; rw [o8]; with_reducible exact E6) | (have E6 := (Option.bind_some _ _).symm.trans H; with_reducible exact E6) | with_reducible exact H | (rw [o8]; exact H) | exact H
                        have G7 := Aside0.mk o8;clear o8;have H' := Aside0.mk H;clear H;have C2 : 0 ≤ (a8 : Int) := of_decide_eq_true (by first | (with_reducible assumption) | assumption);have C3 : a8 < (a6.length : Int) := of_decide_eq_true (by first | (with_reducible assumption) | assumption);obtain ⟨t6, K0, Q9, R0, R1⟩ := at_T80 (Kd.R_reads' h3.out).2.2 a8 C2 C3
                        cases K0;replace C2 := eq_true C2;replace C3 := eq_true C3;go_wp2_with (first | ((with_reducible refine gate_dst (N := 14) rfl ?_); (try (refine gate_guard (by rfl) ?_; dsimp only)); refine box_event ?hg (N := 14) ?hd (cs := #[.int .i64 0, .int .i64 0, .int .i64 0]) (t := 80) ?hr ?_; (case hd => rfl); (case hg => rfl); (case hr => first | (go_simp; done) | (go_simp; rfl)); intro b0 hg l5 hbox hb; have d2 := Aside0.mk (Kd.R_below (Kd.R_elderB (rz f4.out) b0 (Nat.le_of_eq hg.symm)) hb); have d3 := Aside0.mk (Kd.R_below (rz d6.out) hb); have d4 := Aside0.mk (Kd.R_below (Kd.R_elderB (rz f5.out) b0 (Nat.le_of_eq hg.symm)) hb); have d5 := Aside0.mk (Kd.R_below (Kd.R_elderB (rz h3.out) b0 (Nat.le_of_eq hg.symm)) hb); have e2 := Aside0.mk (Kd.R_below (rz b4.out) hb); have e5 := Aside0.mk (Kd.R_below (Kd.R_elderB (rz a5.out) b0 (Nat.le_of_eq hg.symm)) hb); have e6 := Aside0.mk (blk_below (bz a0.out) hb); have e8 := Aside0.mk (blk_below (bz a1.out) hb); have e9 := Aside0.mk (blk_below (bz a3.out) hb); have f3 := Aside0.mk (blk_below (bz a2.out) hb); have g0 := Aside0.mk (blk_below (bz d8.out) hb); have g1 := Aside0.mk (below_step (wz HB.out) hb); have g2 := Aside0.mk (hbox); have h4 := Aside0.mk ((by rw [hg]; exact (below_size (wz HB.out)) : w.heap.size ≤ b0)); have u2 := Aside0.mk ((by rw [hg]; exact (below_size (wz HB.out)) : w.heap.size ≤ b0)); have u3 := Aside0.mk ((by rw [hg]; exact Nat.ne_of_lt (blk_lt (g := b2) (o := .cells #[.int .i64 a0_0, .slice A0_1 l0_1.length c0_1, .slice A0_2 l0_2.length c0_2] 25 (0, 0)) (bz a0.out)) : b2 ≠ b0)); have u4 := Aside0.mk ((by rw [hg]; exact Nat.ne_of_gt (blk_lt (g := b2) (o := .cells #[.int .i64 a0_0, .slice A0_1 l0_1.length c0_1, .slice A0_2 l0_2.length c0_2] 25 (0, 0)) (bz a0.out)) : b0 ≠ b2)); have u5 := Aside0.mk ((by rw [hg]; exact Nat.ne_of_lt (blk_lt (g := b3) (o := .cells #[.int .i64 a1_0, .slice A1_1 l1_1.length c1_1, .slice A1_2 l1_2.length c1_2] 25 (0, 0)) (bz a1.out)) : b3 ≠ b0)); have u6 := Aside0.mk ((by rw [hg]; exact Nat.ne_of_gt (blk_lt (g := b3) (o := .cells #[.int .i64 a1_0, .slice A1_1 l1_1.length c1_1, .slice A1_2 l1_2.length c1_2] 25 (0, 0)) (bz a1.out)) : b0 ≠ b3)); have u7 := Aside0.mk ((by rw [hg]; exact Nat.ne_of_lt (blk_lt (g := b5) (o := .cells #[.int .i64 e1, .slice none 0 0, .slice none 0 0] 25 (0, 0)) (bz a3.out)) : b5 ≠ b0)); have u8 := Aside0.mk ((by rw [hg]; exact Nat.ne_of_gt (blk_lt (g := b5) (o := .cells #[.int .i64 e1, .slice none 0 0, .slice none 0 0] 25 (0, 0)) (bz a3.out)) : b0 ≠ b5)); have F5 := Aside0.mk ((by rw [hg]; exact Nat.ne_of_lt (blk_lt (g := a4) (o := .cells #[.int .i64 (wrap64 (a0_0 * a1_0)), .slice (some e7) b1.length e4, b9] 25 (0, 0)) (bz a2.out)) : a4 ≠ b0)); have F6 := Aside0.mk ((by rw [hg]; exact Nat.ne_of_gt (blk_lt (g := a4) (o := .cells #[.int .i64 (wrap64 (a0_0 * a1_0)), .slice (some e7) b1.length e4, b9] 25 (0, 0)) (bz a2.out)) : b0 ≠ a4)); have F7 := Aside0.mk ((by rw [hg]; exact Nat.ne_of_lt (blk_lt (g := b6) (o := .cells #[.int .i64 ((rd_T80 a9 a7).f0), .int .i64 ((rd_T80 a9 a7).f1), .int .i64 ((rd_T80 a9 a7).f2)] 80 (0, 0)) (bz d8.out)) : b6 ≠ b0)); have F8 := Aside0.mk ((by rw [hg]; exact Nat.ne_of_gt (blk_lt (g := b6) (o := .cells #[.int .i64 ((rd_T80 a9 a7).f0), .int .i64 ((rd_T80 a9 a7).f1), .int .i64 ((rd_T80 a9 a7).f2)] 80 (0, 0)) (bz d8.out)) : b0 ≠ b6)); clear f4 d6 f5 h3 b4 a5 a0 a1 a3 a2 d8 HB; have f4 := d2; have d6 := d3; have f5 := d4; have h3 := d5; have b4 := e2; have a5 := e5; have a0 := e6; have a1 := e8; have a3 := e9; have a2 := f3; have d8 := g0; have HB := g1; have g5 := g2; have W6 := h4; have W1 := u2; have q6 := u3; have B1 := u4; have q7 := u5; have B2 := u6; have q8 := u7; have B4 := u8; have q9 := F5; have B5 := F6; have m1 := F7; have B6 := F8; clear d2 d3 d4 d5 e2 e5 e6 e8 e9 f3 g0 g1 g2 h4 u2 u3 u4 u5 u6 u7 u8 F5 F6 F7 F8 hb hbox hg; have R2 := B1.out; have T1 := q6.out; have R3 := B2.out; have T2 := q7.out; have R4 := B4.out; have T4 := q8.out; have R5 := B5.out; have T5 := q9.out; have R6 := B6.out; have T6 := m1.out; have K7 : l5.cell? ⟨b0, 0, none⟩ = some (.int .i64 0) := bcz g5 0 rfl; have K8 : l5.cell? ⟨b0, 1, none⟩ = some (.int .i64 0) := bcz g5 1 rfl; have K9 : l5.cell? ⟨b0, 2, none⟩ = some (.int .i64 0) := bcz g5 2 rfl; have M8 := blk_frozen g5.out 0; have M9 := blk_frozen g5.out 1; have N0 := blk_frozen g5.out 2; have R7 := d9.out; have T7 := b7.out; have R8 := e0.out; have T8 := b8.out; have R9 := d7.out; have T9 := d0.out; have S0 := l9.out; have U0 := m0.out; have L0 : l5.cell? ⟨a4, 0, none⟩ = some (.int .i64 (wrap64 (a0_0 * a1_0))) := bcz a2 0 rfl; have L1 : l5.cell? ⟨a4, 1, none⟩ = some (.slice (some e7) b1.length e4) := bcz a2 1 rfl; have L2 : l5.cell? ⟨a4, 2, none⟩ = some (b9) := bcz a2 2 rfl; have N1 := blk_frozen a2.out 0; have N2 := blk_frozen a2.out 1; have N3 := blk_frozen a2.out 2; have S1 := r0.out; have U1 := l6.out; have S2 := r5.out; have U2 := l7.out; have S3 := r6.out; have U3 := l8.out; have L3 : l5.cell? ⟨b6, 0, none⟩ = some (.int .i64 ((rd_T80 a9 a7).f0)) := bcz d8 0 rfl; have L4 : l5.cell? ⟨b6, 1, none⟩ = some (.int .i64 ((rd_T80 a9 a7).f1)) := bcz d8 1 rfl; have L5 : l5.cell? ⟨b6, 2, none⟩ = some (.int .i64 ((rd_T80 a9 a7).f2)) := bcz d8 2 rfl; have N4 := blk_frozen d8.out 0; have N5 := blk_frozen d8.out 1; have N6 := blk_frozen d8.out 2; have S4 := h0.out; have U4 := g9.out; have S5 := f7.out; have U5 := f9.out; have L6 : l5.cell? ⟨b3, 0, none⟩ = some (.int .i64 a1_0) := bcz a1 0 rfl; have L7 : l5.cell? ⟨b3, 1, none⟩ = some (.slice A1_1 l1_1.length c1_1) := bcz a1 1 rfl; have L8 : l5.cell? ⟨b3, 2, none⟩ = some (.slice A1_2 l1_2.length c1_2) := bcz a1 2 rfl; have N7 := blk_frozen a1.out 0; have N8 := blk_frozen a1.out 1; have N9 := blk_frozen a1.out 2) | ((with_reducible refine gate_builtin (b := .append) (xs := #[.tmp 84, .tmp 103]) rfl ?_); (try (refine gate_guard (by rfl) ?_; dsimp only)); at_builtin; refine Kd.R_append k80 (w0 := w) w.heap.size rfl (.tmp 84) (.tmp 103) 23 80 (.agg #[(.int .i64 0), (.int .i64 0), (.int .i64 0)]) 24 rfl Try.underlying23 info80 rfl (by decide) (by omega) b9 g3 (⟨wrap64 ((wrap64 (((rd_T80 a9 a7).f0) * a1_0)) + ((rd_T80 a6 a8).f0)), d1, wrap64 ((wrap64 (((rd_T80 a9 a7).f2) * a1_0)) + ((rd_T80 a6 a8).f2))⟩ : S80) [.int .i64 (wrap64 ((wrap64 (((rd_T80 a9 a7).f0) * a1_0)) + ((rd_T80 a6 a8).f0))), .int .i64 d1, .int .i64 (wrap64 ((wrap64 (((rd_T80 a9 a7).f2) * a1_0)) + ((rd_T80 a6 a8).f2)))] (fun k_ => some k_ ≠ (.slice (some t6) a6.length g8 : Value).ownBlock ∧ some k_ ≠ (.slice (some k0) a9.length h5 : Value).ownBlock ∧ some k_ ≠ (.slice (some t6) a6.length g8 : Value).ownBlock ∧ k_ ≠ b6 ∧ k_ ≠ b0) (fun _ => False) rfl (by first | (go_simp; done) | (go_simp; rfl)) ?aP (fun _ hk => hk.elim) ?aF ?aO ?aB ?aS ?aL ?_; (case aP => exact k80_mkM _ _ _ (⟨wrap64 ((wrap64 (((rd_T80 a9 a7).f0) * a1_0)) + ((rd_T80 a6 a8).f0)), d1, wrap64 ((wrap64 (((rd_T80 a9 a7).f2) * a1_0)) + ((rd_T80 a6 a8).f2))⟩ : S80)); (case aB => exact (wz HB.out)); (case aF => exact (fun k_ hk => ⟨Kd.fresh' (Kd.R_lt (rz (Kd.R_mono (Kd.R_far (p := ⟨b0, 2, none⟩) (Kd.R_far (p := ⟨b0, 1, none⟩) (Kd.R_far (p := ⟨b0, 0, none⟩) (Kd.R_mono f4.out (fun k_ hk => (⟨hk, hk.2⟩ : _ ∧ k_ ≠ b0))) (fun _ hk => hk.2) (.int .i64 ((rd_T80 a6 a8).f0))) (fun _ hk => hk.2) (.int .i64 ((rd_T80 a6 a8).f1))) (fun _ hk => hk.2) (.int .i64 ((rd_T80 a6 a8).f2))) (fun _ h_ => h_.1)))) k_ hk, Kd.fresh' (Kd.R_lt (rz (Kd.R_mono (Kd.R_far (p := ⟨b0, 2, none⟩) (Kd.R_far (p := ⟨b0, 1, none⟩) (Kd.R_far (p := ⟨b0, 0, none⟩) (Kd.R_mono f5.out (fun k_ hk => (⟨hk, hk.2⟩ : _ ∧ k_ ≠ b0))) (fun _ hk => hk.2) (.int .i64 ((rd_T80 a6 a8).f0))) (fun _ hk => hk.2) (.int .i64 ((rd_T80 a6 a8).f1))) (fun _ hk => hk.2) (.int .i64 ((rd_T80 a6 a8).f2))) (fun _ h_ => h_.1)))) k_ hk, Kd.fresh' (Kd.R_lt (rz (Kd.R_mono (Kd.R_far (p := ⟨b0, 2, none⟩) (Kd.R_far (p := ⟨b0, 1, none⟩) (Kd.R_far (p := ⟨b0, 0, none⟩) (Kd.R_mono h3.out (fun k_ hk => (⟨hk, hk.2⟩ : _ ∧ k_ ≠ b0))) (fun _ hk => hk.2) (.int .i64 ((rd_T80 a6 a8).f0))) (fun _ hk => hk.2) (.int .i64 ((rd_T80 a6 a8).f1))) (fun _ hk => hk.2) (.int .i64 ((rd_T80 a6 a8).f2))) (fun _ h_ => h_.1)))) k_ hk, Kd.freshB (g := b6) (o := .cells #[.int .i64 ((rd_T80 a9 a7).f0), .int .i64 ((rd_T80 a9 a7).f1), .int .i64 ((rd_T80 a9 a7).f2)] 80 (0, 0)) (fz d8.out m1.out) k_ hk, Kd.freshB (g := b0) (o := .cells #[.int .i64 ((rd_T80 a6 a8).f0), .int .i64 ((rd_T80 a6 a8).f1), .int .i64 ((rd_T80 a6 a8).f2)] 80 (0, 0)) (by (with_reducible repeat (first | refine blk_drewN ?_ _ | refine blk_drew ?_ | refine blk_alloc ?_ _)); refine blk_put (cs := #[.int .i64 ((rd_T80 a6 a8).f0), .int .i64 ((rd_T80 a6 a8).f1), .int .i64 0]) ?_ 2 _ rfl; (with_reducible repeat (first | refine blk_drewN ?_ _ | refine blk_drew ?_ | refine blk_alloc ?_ _)); refine blk_put (cs := #[.int .i64 ((rd_T80 a6 a8).f0), .int .i64 0, .int .i64 0]) ?_ 1 _ rfl; (with_reducible repeat (first | refine blk_drewN ?_ _ | refine blk_drew ?_ | refine blk_alloc ?_ _)); refine blk_put (cs := #[.int .i64 0, .int .i64 0, .int .i64 0]) ?_ 0 _ rfl; (with_reducible repeat (first | refine blk_drewN ?_ _ | refine blk_drew ?_ | refine blk_alloc ?_ _)); exact g5.out) k_ hk⟩)); (case aO => exact (rz (Kd.R_mono (Kd.R_far (p := ⟨b0, 2, none⟩) (Kd.R_far (p := ⟨b0, 1, none⟩) (Kd.R_far (p := ⟨b0, 0, none⟩) (Kd.R_mono a5.out (fun k_ hk => (⟨hk, hk.2⟩ : _ ∧ k_ ≠ b0))) (fun _ hk => hk.2) (.int .i64 ((rd_T80 a6 a8).f0))) (fun _ hk => hk.2) (.int .i64 ((rd_T80 a6 a8).f1))) (fun _ hk => hk.2) (.int .i64 ((rd_T80 a6 a8).f2))) (fun _ hk => ⟨hk.1.1.1, ⟨hk.1.1.2.1, ⟨hk.1.1.2.2.1, ⟨hk.1.1.2.2.2, hk.1.2⟩⟩⟩⟩)))); (case aS => exact (below_size (wz HB.out))); (case aL => have := G6.out; omega); intro bj C5 ho hb hg hat; rw [← G7.out] at ho; have d2 := Aside0.mk (Kd.R_after (ok := (fun k_ => some k_ ≠ (.slice (some k0) a9.length h5 : Value).ownBlock ∧ k_ ≠ b6 ∧ k_ ≠ b0)) (rz (Kd.R_mono (Kd.R_far (p := ⟨b0, 2, none⟩) (Kd.R_far (p := ⟨b0, 1, none⟩) (Kd.R_far (p := ⟨b0, 0, none⟩) (Kd.R_mono f4.out (fun k_ hk => (⟨hk, hk.2⟩ : _ ∧ k_ ≠ b0))) (fun _ hk => hk.2) (.int .i64 ((rd_T80 a6 a8).f0))) (fun _ hk => hk.2) (.int .i64 ((rd_T80 a6 a8).f1))) (fun _ hk => hk.2) (.int .i64 ((rd_T80 a6 a8).f2))) (fun _ hk => ⟨⟨hk.1.1.1, ⟨hk.1.1.2.2, hk.1.2⟩⟩, hk.1.1.2.1⟩))) hg hat); have d3 := Aside0.mk (Kd.R_over' (rz (Kd.R_mono (Kd.R_far (p := ⟨b0, 2, none⟩) (Kd.R_far (p := ⟨b0, 1, none⟩) (Kd.R_far (p := ⟨b0, 0, none⟩) (Kd.R_types d6.out g5.out (by decide)) (fun _ hk => hk.2) (.int .i64 ((rd_T80 a6 a8).f0))) (fun _ hk => hk.2) (.int .i64 ((rd_T80 a6 a8).f1))) (fun _ hk => hk.2) (.int .i64 ((rd_T80 a6 a8).f2))) (fun _ h_ => h_.1))) (Kd.R_typed (rz (Kd.R_mono (Kd.R_far (p := ⟨b0, 2, none⟩) (Kd.R_far (p := ⟨b0, 1, none⟩) (Kd.R_far (p := ⟨b0, 0, none⟩) (Kd.R_mono a5.out (fun k_ hk => (⟨hk, hk.2⟩ : _ ∧ k_ ≠ b0))) (fun _ hk => hk.2) (.int .i64 ((rd_T80 a6 a8).f0))) (fun _ hk => hk.2) (.int .i64 ((rd_T80 a6 a8).f1))) (fun _ hk => hk.2) (.int .i64 ((rd_T80 a6 a8).f2))) (fun _ h_ => h_.1)))) (by decide) hg); have d4 := Aside0.mk (Kd.R_after (ok := (fun k_ => some k_ ≠ (.slice (some t6) a6.length g8 : Value).ownBlock ∧ some k_ ≠ (.slice (some t6) a6.length g8 : Value).ownBlock ∧ k_ ≠ b6 ∧ k_ ≠ b0)) (rz (Kd.R_mono (Kd.R_far (p := ⟨b0, 2, none⟩) (Kd.R_far (p := ⟨b0, 1, none⟩) (Kd.R_far (p := ⟨b0, 0, none⟩) (Kd.R_mono f5.out (fun k_ hk => (⟨hk, hk.2⟩ : _ ∧ k_ ≠ b0))) (fun _ hk => hk.2) (.int .i64 ((rd_T80 a6 a8).f0))) (fun _ hk => hk.2) (.int .i64 ((rd_T80 a6 a8).f1))) (fun _ hk => hk.2) (.int .i64 ((rd_T80 a6 a8).f2))) (fun _ hk => ⟨⟨hk.1.1.1, ⟨hk.1.1.2.1, ⟨hk.1.1.2.2.2, hk.1.2⟩⟩⟩, hk.1.1.2.2.1⟩))) hg hat); have d5 := Aside0.mk (Kd.R_after (ok := (fun k_ => some k_ ≠ (.slice (some k0) a9.length h5 : Value).ownBlock ∧ k_ ≠ b6 ∧ k_ ≠ b0)) (rz (Kd.R_mono (Kd.R_far (p := ⟨b0, 2, none⟩) (Kd.R_far (p := ⟨b0, 1, none⟩) (Kd.R_far (p := ⟨b0, 0, none⟩) (Kd.R_mono h3.out (fun k_ hk => (⟨hk, hk.2⟩ : _ ∧ k_ ≠ b0))) (fun _ hk => hk.2) (.int .i64 ((rd_T80 a6 a8).f0))) (fun _ hk => hk.2) (.int .i64 ((rd_T80 a6 a8).f1))) (fun _ hk => hk.2) (.int .i64 ((rd_T80 a6 a8).f2))) (fun _ hk => ⟨⟨hk.1.1.1, ⟨hk.1.1.2.2, hk.1.2⟩⟩, hk.1.1.2.1⟩))) hg hat); have e2 := Aside0.mk (Kd.R_over' (rz (Kd.R_mono (Kd.R_far (p := ⟨b0, 2, none⟩) (Kd.R_far (p := ⟨b0, 1, none⟩) (Kd.R_far (p := ⟨b0, 0, none⟩) (Kd.R_types b4.out g5.out (by decide)) (fun _ hk => hk.2) (.int .i64 ((rd_T80 a6 a8).f0))) (fun _ hk => hk.2) (.int .i64 ((rd_T80 a6 a8).f1))) (fun _ hk => hk.2) (.int .i64 ((rd_T80 a6 a8).f2))) (fun _ h_ => h_.1))) (Kd.R_typed (rz (Kd.R_mono (Kd.R_far (p := ⟨b0, 2, none⟩) (Kd.R_far (p := ⟨b0, 1, none⟩) (Kd.R_far (p := ⟨b0, 0, none⟩) (Kd.R_mono a5.out (fun k_ hk => (⟨hk, hk.2⟩ : _ ∧ k_ ≠ b0))) (fun _ hk => hk.2) (.int .i64 ((rd_T80 a6 a8).f0))) (fun _ hk => hk.2) (.int .i64 ((rd_T80 a6 a8).f1))) (fun _ hk => hk.2) (.int .i64 ((rd_T80 a6 a8).f2))) (fun _ h_ => h_.1)))) (by decide) hg); have e5 := Aside0.mk (blk_grown (g := b2) (o := .cells #[.int .i64 a0_0, .slice A0_1 l0_1.length c0_1, .slice A0_2 l0_2.length c0_2] 25 (0, 0)) (fz a0.out q6.out) hg (Kd.R_ne a5.out a0.out (by decide))); have e6 := Aside0.mk (blk_grown (g := b3) (o := .cells #[.int .i64 a1_0, .slice A1_1 l1_1.length c1_1, .slice A1_2 l1_2.length c1_2] 25 (0, 0)) (fz a1.out q7.out) hg (Kd.R_ne a5.out a1.out (by decide))); have e8 := Aside0.mk (blk_grown (g := b5) (o := .cells #[.int .i64 e1, .slice none 0 0, .slice none 0 0] 25 (0, 0)) (fz a3.out q8.out) hg (Kd.R_ne a5.out a3.out (by decide))); have e9 := Aside0.mk (blk_grown (g := a4) (o := .cells #[.int .i64 (wrap64 (a0_0 * a1_0)), .slice (some e7) b1.length e4, b9] 25 (0, 0)) (fz a2.out q9.out) hg (Kd.R_ne a5.out a2.out (by decide))); have f3 := Aside0.mk (blk_grown (g := b6) (o := .cells #[.int .i64 ((rd_T80 a9 a7).f0), .int .i64 ((rd_T80 a9 a7).f1), .int .i64 ((rd_T80 a9 a7).f2)] 80 (0, 0)) (fz d8.out m1.out) hg (Kd.R_away a5.out (fun _ hk => hk.1.2.2.2))); have g0 := Aside0.mk (blk_grown (g := b0) (o := .cells #[.int .i64 ((rd_T80 a6 a8).f0), .int .i64 ((rd_T80 a6 a8).f1), .int .i64 ((rd_T80 a6 a8).f2)] 80 (0, 0)) (by (with_reducible repeat (first | refine blk_drewN ?_ _ | refine blk_drew ?_ | refine blk_alloc ?_ _)); refine blk_put (cs := #[.int .i64 ((rd_T80 a6 a8).f0), .int .i64 ((rd_T80 a6 a8).f1), .int .i64 0]) ?_ 2 _ rfl; (with_reducible repeat (first | refine blk_drewN ?_ _ | refine blk_drew ?_ | refine blk_alloc ?_ _)); refine blk_put (cs := #[.int .i64 ((rd_T80 a6 a8).f0), .int .i64 0, .int .i64 0]) ?_ 1 _ rfl; (with_reducible repeat (first | refine blk_drewN ?_ _ | refine blk_drew ?_ | refine blk_alloc ?_ _)); refine blk_put (cs := #[.int .i64 0, .int .i64 0, .int .i64 0]) ?_ 0 _ rfl; (with_reducible repeat (first | refine blk_drewN ?_ _ | refine blk_drew ?_ | refine blk_alloc ?_ _)); exact g5.out) hg (Kd.R_away a5.out (fun _ hk => hk.2))); have g1 := Aside0.mk (hb); have g2 := Aside0.mk (ho); clear f4 d6 f5 h3 b4 a0 a1 a3 a2 d8 g5 HB a5; have f4 := d2; have d6 := d3; have f5 := d4; have h3 := d5; have b4 := e2; have a0 := e5; have a1 := e6; have a3 := e8; have a2 := e9; have d8 := f3; have g5 := g0; have HB := g1; have D1 := g2; clear d2 d3 d4 d5 e2 e5 e6 e8 e9 f3 g0 g1 g2 ho hb hg hat; obtain ⟨j8, k1, G9⟩ := Kd.R_slice D1.out; subst G9; have L9 : C5.cell? ⟨a4, 0, none⟩ = some (.int .i64 (wrap64 (a0_0 * a1_0))) := bcz a2 0 rfl; have M0 : C5.cell? ⟨a4, 1, none⟩ = some (.slice (some e7) b1.length e4) := bcz a2 1 rfl; have M1 : C5.cell? ⟨a4, 2, none⟩ = some (b9) := bcz a2 2 rfl; have O0 := blk_frozen a2.out 0; have O1 := blk_frozen a2.out 1; have O2 := blk_frozen a2.out 2))
                        go_roundg k5
                        case measure => have := q5.out; have := p0.out; have := v0.out; have := v1.out; have := C8.out; omega
                        case rel => exact ⟨(wrap64 (a8 + 1)), (l4), (.slice j8 l4.length k1), (by first | rfl | (simp; done) | (simp [*]; done)), H', ⟨by have := q5.out; have := p0.out; have := v0.out; have := v1.out; have := C8.out; omega⟩, ⟨rz (Kd.R_mono (Kd.R_far (p := ⟨a4, 2, none⟩) (Kd.R_types f4.out a2.out (by decide)) (fun _ hk => hk.2) (.slice j8 l4.length k1)) (fun _ hk => ⟨hk.1.1.1, ⟨hk.1.2, hk.1.1.2.1⟩⟩))⟩, ⟨rz (Kd.R_mono (Kd.R_far (p := ⟨a4, 2, none⟩) (Kd.R_types d6.out a2.out (by decide)) (fun _ hk => hk.2) (.slice j8 l4.length k1)) (fun _ hk => trivial))⟩, ⟨rz (Kd.R_mono (Kd.R_far (p := ⟨a4, 2, none⟩) (Kd.R_types f5.out a2.out (by decide)) (fun _ hk => hk.2) (.slice j8 l4.length k1)) (fun _ hk => ⟨hk.1.1.1, ⟨hk.1.1.2.1, ⟨hk.1.2, hk.1.1.2.2.1⟩⟩⟩))⟩, ⟨rz (Kd.R_mono (Kd.R_far (p := ⟨a4, 2, none⟩) (Kd.R_types h3.out a2.out (by decide)) (fun _ hk => hk.2) (.slice j8 l4.length k1)) (fun _ hk => ⟨hk.1.1.1, ⟨hk.1.2, hk.1.1.2.1⟩⟩))⟩, ⟨rz (Kd.R_mono (Kd.R_far (p := ⟨a4, 2, none⟩) (Kd.R_types b4.out a2.out (by decide)) (fun _ hk => hk.2) (.slice j8 l4.length k1)) (fun _ hk => trivial))⟩, ⟨rz (Kd.R_mono (Kd.R_far (p := ⟨a4, 2, none⟩) (Kd.R_types D1.out a2.out (by decide)) (fun _ hk => hk.2) (.slice j8 l4.length k1)) (fun _ hk => ⟨hk.1.1, ⟨hk.1.2.1, ⟨hk.1.2.2.1, hk.1.2.2.2.1⟩⟩⟩))⟩, ⟨fz a0.out b7.out⟩, ⟨fz a1.out b8.out⟩, ⟨fz a3.out d0.out⟩, ⟨by (with_reducible repeat (first | refine blk_drewN ?_ _ | refine blk_drew ?_ | refine blk_alloc ?_ _)); refine blk_put (cs := #[.int .i64 (wrap64 (a0_0 * a1_0)), .slice (some e7) b1.length e4, b9]) ?_ 2 _ rfl; (with_reducible repeat (first | refine blk_drewN ?_ _ | refine blk_drew ?_ | refine blk_alloc ?_ _)); exact a2.out⟩, ⟨fz d8.out m0.out⟩, ⟨wz HB.out⟩⟩
                       ·rw [if_neg D4] at H;exact absurd H (by simp)
                      ·rw [if_neg D3] at H;exact absurd H (by simp)
                     ·rw [if_neg D2] at H;exact absurd H (by simp)
                    ·rw [if_neg v4] at H;have c95b0 : decide (a8 < (a6.length : Int)) = false := decide_eq_false v4;clear v4;have H' := Aside0.mk H;clear H;go_wp2
                     go_roundg k5
                     case measure => have := q5.out; have := p0.out; have := v0.out; have := v1.out; have := C8.out; omega
                     case rel => exact ⟨(wrap64 (a7 + 1)), (g3), (b9), (by first | rfl | (simp; done) | (simp [*]; done)), H', ⟨by have := q5.out; have := p0.out; have := v0.out; have := v1.out; have := C8.out; omega⟩, ⟨rz (Kd.R_mono f4.out (fun _ hk => ⟨hk.1, hk.2.1⟩))⟩, ⟨rz d6.out⟩, ⟨rz (Kd.R_mono f5.out (fun _ hk => ⟨hk.1, hk.2.2.1⟩))⟩, ⟨rz b4.out⟩, ⟨rz (Kd.R_mono a5.out (fun _ hk => ⟨hk.1, hk.2.1⟩))⟩, ⟨bz a0.out⟩, ⟨bz a1.out⟩, ⟨bz a3.out⟩, ⟨bz a2.out⟩, ⟨wz HB.out⟩⟩
                 ·rw [if_neg B8] at H;exact absurd H (by simp)
                ·rw [if_neg B7] at H;exact absurd H (by simp)
               ·rw [if_neg u0] at H;have c86b0 : decide (a7 < (a9.length : Int)) = false := decide_eq_false u0;clear u0;have H' := Aside0.mk H;clear H;go_wp2
                go_roundg k4
                case measure => have := q5.out; have := p0.out; have := v0.out; have := v1.out; omega
                case rel => exact ⟨(wrap64 (d1 + 1)), (e1), (h1), (b9), (by first | rfl | (simp; done) | (simp [*]; done)), H', ⟨by have := q5.out; have := p0.out; have := v0.out; have := v1.out; omega⟩, ⟨rz d6.out⟩, ⟨rz b4.out⟩, ⟨rz (Kd.R_mono a5.out (fun _ hk => trivial))⟩, ⟨bz a0.out⟩, ⟨bz a1.out⟩, ⟨bz a3.out⟩, ⟨bz a2.out⟩, ⟨wz HB.out⟩⟩
           ·rw [if_neg v3] at H;exact absurd H (by simp)
          ·rw [if_neg v2] at H;exact absurd H (by simp)
         ·rw [if_neg r8] at H;have c54b0 : decide (d1 < (b1.length : Int)) = false := decide_eq_false r8;clear r8;replace H := Option.bind_eq_some_iff.mp H;obtain ⟨⟨o5, q4, u9, F9⟩, C7, H⟩ := H;replace H : (some (o5, q4, u9, F9)) = some (r1, r2, r3, r4) := H;have J2 := Aside0.mk C7;clear C7;simp only [Option.some.injEq, Prod.mk.injEq] at H;obtain ⟨rfl, rfl, rfl, rfl⟩ := H;have S6 := d9.out;have U6 := b7.out;have S7 := e0.out;have U7 := b8.out;have S8 := d7.out;have U8 := d0.out;have M2 : wr.cell? ⟨a4, 0, none⟩ = some (.int .i64 (wrap64 (a0_0 * a1_0))) := bcz a2 0 rfl;have M3 : wr.cell? ⟨a4, 1, none⟩ = some (.slice h2 b1.length e4) := bcz a2 1 rfl;have M4 : wr.cell? ⟨a4, 2, none⟩ = some (b9) := bcz a2 2 rfl;have O3 := blk_frozen a2.out 0;have O4 := blk_frozen a2.out 1;have O5 := blk_frozen a2.out 2;obtain ⟨G5, G8, H0⟩ := Kd.R_slice a5.out;subst H0;go_wp2_with (first | ((with_reducible refine gate_callee (f := 104) rfl ?_); refine goesL_ (some 110) rfl rfl Try.func104 (by kernel_rfl) rfl #[.agg #[.int .i64 (wrap64 (a0_0 * a1_0)), .slice h2 b1.length e4, .slice G5 e3.length G8]] rfl (by (try simp only [List.map_toArray, List.map_cons, List.map_nil]); first | done | rfl | (simp only [List.length_drop, List.length_take]; rfl)) ?_; (with_reducible refine (Pxj.calls (wrap64 (a0_0 * a1_0)) _ _ b1 _ _ e3 o5 q4 u9 F9 _ ?k7 ?k8 ?k9 ?l3 J2.out).mono ?_); (case k7 => repeat (first | exact (Kd.R_reads' b4.out).2.2 | (with_reducible refine Kd.C_alloc ?_ _) | (with_reducible refine Kd.C_drewN ?_ _) | (with_reducible refine Kd.C_drew ?_))); (case k8 => exact (Kd.R_reads' b4.out).2.1); (case k9 => repeat (first | exact (Kd.R_reads' a5.out).2.2 | (with_reducible refine Kd.C_alloc ?_ _) | (with_reducible refine Kd.C_drewN ?_ _) | (with_reducible refine Kd.C_drew ?_))); (case l3 => exact (Kd.R_reads' a5.out).2.1); rintro e C6 ⟨bh, bi, rfl, g7, m2, hb⟩; refine ⟨_, rfl, ?_⟩; have d2 := Aside0.mk (Kd.R_elder' (rz d6.out) (Kd.R_base g7) hb); have d3 := Aside0.mk (Kd.R_elder' (rz b4.out) (Kd.R_base g7) hb); have d4 := Aside0.mk (Kd.R_elder' (rz a5.out) (Kd.R_base m2) hb); have d5 := Aside0.mk (Kd.R_lower (Kd.R_new' (Kd.R_new' g7 (Kd.R_lt (rz d6.out))) (Kd.R_lt (rz b4.out))) (below_size (wz HB.out))); have e2 := Aside0.mk (Kd.R_lower (Kd.R_new' m2 (Kd.R_lt (rz a5.out))) (below_size (wz HB.out))); have e5 := Aside0.mk (blk_below (bz a0.out) hb); have e6 := Aside0.mk (blk_below (bz a1.out) hb); have e8 := Aside0.mk (blk_below (bz a3.out) hb); have e9 := Aside0.mk (blk_below (bz a2.out) hb); have f3 := Aside0.mk (below_step (wz HB.out) hb); clear d6; clear b4; clear a5; clear a0; clear a1; clear a3; clear a2; clear HB; have d6 := d2; have b4 := d3; have a5 := d4; have C9 := d5; have D0 := e2; have a0 := e5; have a1 := e6; have a3 := e8; have a2 := e9; have HB := f3; clear d2 d3 d4 d5 e2 e5 e6 e8 e9 f3; (try clear hb); (try clear u1); (try clear hk); (try clear hi); (try clear g7); (try clear m2); have S9 := f8.out; have U9 := f6.out; have T0 := f9.out; have V0 := f7.out; have M5 : C6.cell? ⟨b5, 0, none⟩ = some (.int .i64 e1) := bcz a3 0 rfl; have M6 : C6.cell? ⟨b5, 1, none⟩ = some (.slice none 0 0) := bcz a3 1 rfl; have M7 : C6.cell? ⟨b5, 2, none⟩ = some (.slice none 0 0) := bcz a3 2 rfl; have O6 := blk_frozen a3.out 0; have O7 := blk_frozen a3.out 1; have O8 := blk_frozen a3.out 2; obtain ⟨s6, t7, H2⟩ := Kd.R_slice C9.out; subst H2; obtain ⟨A3, A6, H3⟩ := Kd.R_slice D0.out; subst H3))
          refine bodyPost_ret (results_ct rfl _ _ b5 25 #[.int .i64 o5, .slice s6 q4.length t7, .slice A3 u9.length A6] (0, 0) _ rfl (by (with_reducible repeat (first | refine blk_drewN ?_ _ | refine blk_drew ?_ | refine blk_alloc ?_ _)); refine blk_put (cs := #[.int .i64 o5, .slice s6 q4.length t7, .slice none 0 0]) ?_ 2 _ rfl; (with_reducible repeat (first | refine blk_drewN ?_ _ | refine blk_drew ?_ | refine blk_alloc ?_ _)); refine blk_put (cs := #[.int .i64 o5, .slice none 0 0, .slice none 0 0]) ?_ 1 _ rfl; (with_reducible repeat (first | refine blk_drewN ?_ _ | refine blk_drew ?_ | refine blk_alloc ?_ _)); refine blk_put (cs := #[.int .i64 e1, .slice none 0 0, .slice none 0 0]) ?_ 0 _ rfl; (with_reducible repeat (first | refine blk_drewN ?_ _ | refine blk_drew ?_ | refine blk_alloc ?_ _)); exact a3.out) Try.underlying25 rfl (by kernel_rfl)) rfl ?_;exact ⟨_, _, by first | rfl | (simp [errW_none, errW_some] <;> rfl) | (simp [*, errW_none, errW_some] <;> rfl), rz (Kd.R_mono (Kd.R_far (p := ⟨b5, 2, none⟩) (Kd.R_far (p := ⟨b5, 1, none⟩) (Kd.R_far (p := ⟨b5, 0, none⟩) (Kd.R_types C9.out a3.out (by decide)) (fun _ hk => hk.2) (.int .i64 o5)) (fun _ hk => hk.2) (.slice s6 q4.length t7)) (fun _ hk => hk.2) (.slice A3 u9.length A6)) (fun _ hk => trivial)), rz (Kd.R_mono (Kd.R_far (p := ⟨b5, 2, none⟩) (Kd.R_far (p := ⟨b5, 1, none⟩) (Kd.R_far (p := ⟨b5, 0, none⟩) (Kd.R_types D0.out a3.out (by decide)) (fun _ hk => hk.2) (.int .i64 o5)) (fun _ hk => hk.2) (.slice s6 q4.length t7)) (fun _ hk => hk.2) (.slice A3 u9.length A6)) (fun _ hk => trivial)), wz HB.out⟩
end Go.Proofs.Ytmcbkmfpmcbdpaa.Pr
