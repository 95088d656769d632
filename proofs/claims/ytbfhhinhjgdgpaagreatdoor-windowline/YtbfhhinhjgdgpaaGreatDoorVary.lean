/-
  A part of the proof of windowLine_holds: see the text that holds it. No conditions of its own.
-/
import Derived.Test.YtbfhhinhjgdgpaaGreatDoorPan
import Derived.Test.YtbfhhinhjgdgpaaGreatDoorBits2
import Derived.Test.YtbfhhinhjgdgpaaGreatDoorRunsM
namespace Go.Yb
open Go Go.Proofs Go.RowKit

/-! vary: whole numbers as bytes -/
def encU8 (n : Int) : List Value := [.int .u8 n]
def encU64 (n : Int) : List Value := [.int .u64 n]
def vbytes : Nat → Int → List Int
  | 0, _ => []
  | k + 1, n => if n / 128 = 0 then [n % 128] else (n % 128 + 128) :: vbytes k (n / 128)
def vbU (n : Int) : List Int := vbytes 10 n
def zig (n : Int) : Int := if 0 ≤ n then 2 * n else -2 * n - 1
def bnd128 : Nat → Int
  | 0 => 1
  | k + 1 => 128 * bnd128 k
theorem vb_end {k : Nat} {n : Int} (h : n / 128 = 0) : vbytes (k + 1) n = [n % 128] := by simp only [vbytes, h, if_true]
theorem vb_go {k : Nat} {n : Int} (h : ¬ n / 128 = 0) : vbytes (k + 1) n = (n % 128 + 128) :: vbytes k (n / 128) := by simp only [vbytes]; rw [if_neg h]
theorem vb_len : ∀ (k : Nat) (n : Int), (vbytes k n).length ≤ k
  | 0, n => by simp [vbytes]
  | k + 1, n => by
    by_cases h : n / 128 = 0
    · rw [vb_end h]; simp
    · rw [vb_go h]; have := vb_len k (n / 128); simp; omega
theorem vbU_len (n : Int) : (vbU n).length ≤ 10 := vb_len 10 n
theorem drop_get {α : Type} {l : List α} {k : Nat} {x : α} {r : List α} (h : l.drop k = x :: r) : l[k]? = some x ∧ l.drop (k + 1) = r := by
 have h1 : (l.drop k)[0]? = some x := by rw [h]; rfl
 rw [List.getElem?_drop] at h1
 refine ⟨by simpa using h1, ?_⟩
 rw [show l.drop (k + 1) = (l.drop k).drop 1 from by rw [List.drop_drop], h]
 rfl
theorem drop_len {α : Type} {l : List α} {k : Nat} {x : α} (h : l.drop k = [x]) : k + 1 = l.length := by
 have := congrArg List.length h
 simp at this
 have h2 : k < l.length := (List.getElem?_eq_some_iff.1 (drop_get h).1).1
 omega
theorem i_bytes (n : Int) (b : Nat) (hn0 : 0 ≤ n) (hn1 : n < 18446744073709551616) : Iter Tryz.prog 305 [] [.pointer (some ⟨b, 0, none⟩)] [.cell b [.int .u64 n] 396] [] (vbU n) (fun x vs Lx => vs = [.int .u8 x] ∧ Lx = []) := by
 intro yv S Sx I R Ix Rx s0 h0 hyld
 refine FnC.go (m := 21) Tryz.func305 Tryz.ntmps305 rfl (Nat.le_of_ble_eq_true rfl) (fun Lf => ?_)
 refine W.scope ?_
 refine W.seq ?_
 refine W.label ?_
 refine W.block ?_
 refine W.loopS (X := (S) × (Nat) × (Nat) × (Int)) (fun (x : (S) × (Nat) × (Nat) × (Int)) => match x with | (u, k, fu, m) => (I k u ∧ (vbU n).drop k = vbytes (fu + 1) m ∧ (0 ≤ m ∧ m < 18446744073709551616) ∧ m < bnd128 (fu + 1) : Prop)) (fun (x : (S) × (Nat) × (Nat) × (Int)) => match x with | (u, k, fu, m) => ([] : Env)) (fun (x : (S) × (Nat) × (Nat) × (Int)) => match x with | (u, k, fu, m) => (([.cell b [.int .u64 m] 396] ++ R u) : List Res)) (fun (x : (S) × (Nat) × (Nat) × (Int)) => match x with | (u, k, fu, m) => (fu : Nat)) (s0, 0, 9, n) [(0, _), (1, _)] (by exact ⟨h0, rfl, ⟨hn0, hn1⟩, by rw [show bnd128 (9 + 1) = 1180591620717411303424 from rfl]; omega⟩) (Le.cons rfl (Le.cons rfl (Le.nil _))) (by repeat constructor) ?_
 rintro ⟨u, k, fu, m⟩ hinv
 show W _ _ _ _ _ _ ([] ++ _) _ (([.cell b [.int .u64 m] 396] ++ R u) ++ _)
 obtain ⟨i1, i2, i3, i4⟩ := hinv
 have ea := and127 m (by omega) (by omega)
 refine W.block ?_
 refine Wr ?_
 refine Oy rfl (Yl.load1 Tryz.isAgg396 rfl (by repeat constructor) (by repeat constructor)) ?_
 refine Oy rfl (Yl.bits (op := .and) rfl rfl rfl ea) ?_
 refine Oy rfl (Yl.conv Tryz.underlying396 Tryz.underlying5 rfl (show IntKind.u8.wrap (m % 128) = m % 128 from by rw [IntKind.wrap_u8]; omega)) ?_
 refine Oy rfl (Yl.assign rfl) ?_
 refine OW.nil ?_
 refine W.seq ?_
 refine Wr ?_
 refine Oy rfl (Yl.load1 Tryz.isAgg396 rfl (by repeat constructor) (by repeat constructor)) ?_
 refine Oy rfl (Yl.shr 7 128 rfl rfl rfl (by decide) (by decide)) ?_
 refine OW.store (Wn.plain rfl) Tryz.sizeOf396 rfl rfl (by constructor) (by repeat constructor) rfl (by repeat constructor) (by repeat constructor) ?_
 refine OW.nil ?_
 refine Wr ?_
 refine Oy rfl (Yl.load1 Tryz.isAgg396 rfl (by repeat constructor) (by repeat constructor)) ?_
 refine Oy rfl (Yl.gtr rfl rfl) ?_
 refine OW.nil ?_
 refine W.cond rfl (fun hq1 => ?_) (fun hq1 => ?_)
 ·have hq1d := of_decide_eq_true hq1
  have hne : ¬ m / 128 = 0 := by omega
  rw [vb_go hne] at i2
  obtain ⟨hgt, hdr⟩ := drop_get i2
  have hfu : 1 ≤ fu := by rcases Nat.eq_zero_or_pos fu with h | h; (subst h; simp only [bnd128] at i4; omega); exact h
  have eo := or128 (m % 128) (by omega) (by omega)
  refine W.region ?_
  refine Oy rfl (Yl.move rfl) ?_
  refine Oy rfl (Yl.bits (op := .or) rfl rfl rfl eo) ?_
  refine Oy rfl (Yl.assign rfl) ?_
  refine OW.nil ?_
  refine Wr ?_
  refine Oy rfl (Yl.move rfl) ?_
  refine Oy rfl (Yl.move rfl) ?_
  refine OW.yield (Wn.plain rfl) rfl rfl rfl (by repeat constructor) (by repeat constructor) (hyld k _ u _ [] hgt ⟨rfl, rfl⟩ i1) ?_ ?_
  ·rintro s' hI'
   refine Oy rfl (Yl.not rfl) ?_
   refine Oy rfl (Yl.move rfl) ?_
   refine OW.yl (Wn.run rfl rfl rfl (bnot_t rfl)) rfl (Yl.load1 Tryz.isAgg396 rfl (by repeat constructor) (by repeat constructor)) ?_
   refine OW.yl (Wn.run rfl rfl rfl (bnot_t rfl)) rfl (Yl.eql rfl rfl) ?_
   refine Oy rfl (Yl.pick_false rfl (bnot_t rfl) rfl) ?_
   refine OW.nil ?_
   refine W.cond rfl (fun hq2 => ?_) (fun hq2 => ?_)
   ·have hq2d := of_decide_eq_true hq2
    exfalso; omega
   ·have hq2d := of_decide_eq_false hq2
    refine W.skip ?_
    refine ⟨(s', k + 1, fu - 1, m / 128), _, ?_, (Le.cons rfl (Le.cons rfl (Le.nil _))), rfl, by repeat constructor, by repeat constructor, by (first | omega | (dsimp only; omega))⟩
    have e : fu - 1 + 1 = fu := by omega
    exact ⟨hI', by rw [hdr, e], by omega, by rw [e]; simp only [bnd128] at i4; omega⟩
  ·rintro s' hX
   refine Oy rfl (Yl.not rfl) ?_
   refine Oy rfl (Yl.move rfl) ?_
   refine OW.not (Wn.not rfl rfl rfl (bnot_f rfl)) rfl ?_
   refine OW.not (Wn.not rfl rfl rfl (bnot_f rfl)) rfl ?_
   refine Oy rfl (Yl.pick_true rfl (bnot_f rfl) rfl) ?_
   refine OW.nil ?_
   refine W.cond_true rfl ?_
   refine W.exit ?_
   first | exact Fin.mk (Rsl.none rfl) (.inr ⟨_, hX, rfl⟩) (by repeat constructor) (by repeat constructor) | exact Fin.mk (Rsl.none rfl) (.inl ⟨_, hkl ▸ hI', rfl⟩) (by repeat constructor) (by repeat constructor)
 ·have hq1d := of_decide_eq_false hq1
  have hne : m / 128 = 0 := by omega
  rw [vb_end hne] at i2
  obtain ⟨hgt, hdr⟩ := drop_get i2
  have hkl := drop_len i2
  refine W.skip ?_
  refine Wr ?_
  refine Oy rfl (Yl.move rfl) ?_
  refine Oy rfl (Yl.move rfl) ?_
  refine OW.yield (Wn.plain rfl) rfl rfl rfl (by repeat constructor) (by repeat constructor) (hyld k _ u _ [] hgt ⟨rfl, rfl⟩ i1) ?_ ?_
  ·rintro s' hI'
   refine Oy rfl (Yl.not rfl) ?_
   refine Oy rfl (Yl.move rfl) ?_
   refine OW.yl (Wn.run rfl rfl rfl (bnot_t rfl)) rfl (Yl.load1 Tryz.isAgg396 rfl (by repeat constructor) (by repeat constructor)) ?_
   refine OW.yl (Wn.run rfl rfl rfl (bnot_t rfl)) rfl (Yl.eql rfl rfl) ?_
   refine Oy rfl (Yl.pick_false rfl (bnot_t rfl) rfl) ?_
   refine OW.nil ?_
   refine W.cond rfl (fun hq3 => ?_) (fun hq3 => ?_)
   ·have hq3d := of_decide_eq_true hq3
    refine W.exit ?_
    first | exact Fin.mk (Rsl.none rfl) (.inr ⟨_, hX, rfl⟩) (by repeat constructor) (by repeat constructor) | exact Fin.mk (Rsl.none rfl) (.inl ⟨_, hkl ▸ hI', rfl⟩) (by repeat constructor) (by repeat constructor)
   ·have hq3d := of_decide_eq_false hq3
    exfalso; omega
  ·rintro s' hX
   refine Oy rfl (Yl.not rfl) ?_
   refine Oy rfl (Yl.move rfl) ?_
   refine OW.not (Wn.not rfl rfl rfl (bnot_f rfl)) rfl ?_
   refine OW.not (Wn.not rfl rfl rfl (bnot_f rfl)) rfl ?_
   refine Oy rfl (Yl.pick_true rfl (bnot_f rfl) rfl) ?_
   refine OW.nil ?_
   refine W.cond_true rfl ?_
   refine W.exit ?_
   first | exact Fin.mk (Rsl.none rfl) (.inr ⟨_, hX, rfl⟩) (by repeat constructor) (by repeat constructor) | exact Fin.mk (Rsl.none rfl) (.inl ⟨_, hkl ▸ hI', rfl⟩) (by repeat constructor) (by repeat constructor)
theorem c_bytes (n : Int) : FnC Tryz.prog 301 #[.int .u64 n] [] (fun v L' => ∃ b, v = .func (.func 305) #[] #[.pointer (some ⟨b, 0, none⟩)] ∧ L' = [.cell b [.int .u64 n] 396]) := by
 refine FnC.go (m := 4) Tryz.func301 Tryz.ntmps301 rfl (Nat.le_of_ble_eq_true rfl) (fun Lf => ?_)
 refine Wr ?_
 refine OW.box (Wn.plain rfl) rfl rfl (by constructor) (fun b1 => ?_)
 refine Oy rfl (Yl.assign rfl) ?_
 refine OW.nil ?_
 refine Wr ?_
 refine Oy rfl (Yl.makeFunc rfl rfl) ?_
 refine Oy rfl (Yl.assign rfl) ?_
 refine OW.nil ?_
 refine W.ret ?_
 exact Fin.mk (Rsl.one rfl rfl) ⟨_, rfl, rfl⟩ (by repeat constructor) (by repeat constructor)
theorem c_vplain (n : Int) : FnV Tryz.prog 292 #[.int .u64 n] [] (.int .u64 n) := by
 refine FnC.go (m := 4) Tryz.func292 Tryz.ntmps292 rfl (Nat.le_of_ble_eq_true rfl) (fun Lf => ?_)
 refine Wr ?_
 refine Oy rfl (Yl.assign rfl) ?_
 refine OW.nil ?_
 refine Wr ?_
 refine Oy rfl (Yl.move rfl) ?_
 refine Oy rfl (Yl.assign rfl) ?_
 refine OW.nil ?_
 refine W.ret ?_
 refine Fin.mk (Rsl.one rfl rfl) ⟨?_, rfl⟩ (by repeat constructor) (by repeat constructor)
 rfl

theorem zig_law (n : Int) (h0 : -9223372036854775808 ≤ n) (h1 : n ≤ 9223372036854775807) : Go.bits .xor .u64 (IntKind.u64.wrap (IntKind.i64.wrap (n * 2))) (IntKind.u64.wrap (n / 9223372036854775808)) = zig n := by
 have e1 : IntKind.u64.wrap (IntKind.i64.wrap (n * 2)) = (n * 2) % 18446744073709551616 := by rw [IntKind.wrap_i64, IntKind.wrap_u64]; omega
 rw [e1]
 unfold zig
 by_cases h : 0 ≤ n
 ·rw [if_pos h, show IntKind.u64.wrap (n / 9223372036854775808) = 0 from by rw [IntKind.wrap_u64]; omega, xor_zero _ (by omega) (by omega)]; omega
 ·rw [if_neg h, show IntKind.u64.wrap (n / 9223372036854775808) = 18446744073709551615 from by rw [IntKind.wrap_u64]; omega, xor_ones _ (by omega) (by omega)]; omega
theorem zig_in (n : Int) (h0 : -9223372036854775808 ≤ n) (h1 : n ≤ 9223372036854775807) : 0 ≤ zig n ∧ zig n < 18446744073709551616 := by unfold zig; split <;> omega

theorem c_vfolded (n : Int) (h0 : -9223372036854775808 ≤ n) (h1 : n ≤ 9223372036854775807) : FnV Tryz.prog 294 #[.int .i64 n] [] (.int .u64 (zig n)) := by
 refine FnC.go (m := 10) Tryz.func294 Tryz.ntmps294 rfl (Nat.le_of_ble_eq_true rfl) (fun Lf => ?_)
 refine Wr ?_
 refine Oy rfl (Yl.assign rfl) ?_
 refine OW.nil ?_
 refine Wr ?_
 refine Oy rfl (Yl.move rfl) ?_
 refine Oy rfl (Yl.shl 1 2 rfl rfl rfl (by decide) (by decide) rfl) ?_
 refine Oy rfl (Yl.conv Tryz.underlying2 Tryz.underlying396 rfl rfl) ?_
 refine Oy rfl (Yl.move rfl) ?_
 refine Oy rfl (Yl.shr 63 9223372036854775808 rfl rfl rfl (by decide) (by decide)) ?_
 refine Oy rfl (Yl.conv Tryz.underlying2 Tryz.underlying396 rfl rfl) ?_
 refine Oy rfl (Yl.bits (op := .xor) rfl rfl rfl rfl) ?_
 refine Oy rfl (Yl.assign rfl) ?_
 refine OW.nil ?_
 refine W.ret ?_
 refine Fin.mk (Rsl.one rfl rfl) ⟨?_, rfl⟩ (by repeat constructor) (by repeat constructor)
 rw [← zig_law n h0 h1]
theorem c_putsU (b : List Int) (ba : Option Addr) (bc : Nat) (n : Int) (la : Option Addr) (lc : Nat) (hb : b.length ≤ 100000) (hn0 : 0 ≤ n) (hn1 : n < 18446744073709551616) : FnC Tryz.prog 291 #[.slice ba b.length bc, .func (.func 292) #[] #[], .slice la 1 lc] [rowI 1 encU8 b ba bc, rowI 1 encU64 [n] la lc] (RetRow 1 encU8 (b ++ vbU n)) := by
 refine FnC.go (m := 43) Tryz.func291 Tryz.ntmps291 rfl (Nat.le_of_ble_eq_true rfl) (fun Lf => ?_)
 have hvl := vbU_len n
 have hn : [n][0]? = some n := rfl
 refine Wr ?_
 refine Oy rfl (Yl.assign rfl) ?_
 refine OW.nil ?_
 refine Wr ?_
 refine Oy rfl (Yl.move rfl) ?_
 refine Oy rfl (Yl.len ⟨Tryz.underlying236, Tryz.sizeOf5⟩ rfl) ?_
 refine Oy rfl (Yl.move rfl) ?_
 refine Oy rfl (Yl.len ⟨Tryz.underlying236, Tryz.sizeOf5⟩ rfl) ?_
 refine Oy rfl (Yl.move rfl) ?_
 refine Oy rfl (Yl.len ⟨Tryz.underlying394, Tryz.sizeOf83⟩ rfl) ?_
 refine Oy rfl (Yl.add rfl rfl (by omega)) ?_
 refine Oy rfl (Yl.add rfl rfl (by omega)) ?_
 refine OW.makeN (b.length) (b.length + 1 + 8) (Wn.plain rfl) rfl rw_236 rfl rfl rfl (by omega) (by first | omega | (unfold maxLen; omega)) (by first | omega | (unfold maxLen; omega)) (by first | omega | (unfold maxLen; omega)) (fun b1 xs1 => ?_)
 refine OW.alloc (Wn.plain rfl) rfl Tryz.zeroValue236 (by constructor) (fun b2 => ?_)
 refine OW.store (Wn.plain rfl) Tryz.sizeOf236 rfl rfl (by constructor) (by repeat constructor) rfl (by repeat constructor) (by repeat constructor) ?_
 refine OW.nil ?_
 refine Wr ?_
 refine Oy rfl (Yl.load1 Tryz.isAgg236 rfl (by repeat constructor) (by repeat constructor)) ?_
 refine Oy rfl (Yl.move rfl) ?_
 refine OW.copyR (f := encU8) (b) (Wn.plain rfl) rfl rw_236 rfl rfl (by repeat constructor) rfl (Src.sl (sz := 1) (a := ba) (xs := b.map encU8) (by decide) (by repeat constructor)) (fun _ => rfl) (fun _ => by repeat constructor) ?_
 refine OW.nil ?_
 refine W.seq ?_
 refine Wr ?_
 refine Oy rfl (Yl.move rfl) ?_
 refine Oy rfl (Yl.len ⟨Tryz.underlying394, Tryz.sizeOf83⟩ rfl) ?_
 refine Oy rfl (Yl.move rfl) ?_
 refine OW.nil ?_
 refine W.block ?_
 refine W.loopL ?_
 refine WL.round ?_
 refine Wr ?_
 refine Oy rfl (Yl.lss rfl rfl) ?_
 refine OW.nil ?_
 refine W.seq ?_
 refine W.cond_t1 rfl (by decide) ?_
 refine W.skip ?_
 refine W.seq ?_
 refine W.block ?_
 refine Wr ?_
 refine OW.fact (Sl.isSome (a := la) (by repeat constructor) (by simp)) ?_
 rintro ⟨p1, hp1⟩; try dsimp only at hp1
 subst hp1
 refine Oy rfl (Yl.indexS 0 ⟨Tryz.underlying394, Tryz.sizeOf83⟩ rfl rfl rfl (by decide)) ?_
 refine Oy rfl (Yl.loadS0 Tryz.isAgg83 rfl (by repeat constructor) (map_at hn) (by repeat constructor)) ?_
 refine Oy rfl (Yl.assign rfl) ?_
 refine OW.nil ?_
 refine Wr ?_
 refine Oy rfl (Yl.move rfl) ?_
 refine Oy rfl (Yl.move rfl) ?_
 refine OW.call (Wn.plain rfl) rfl rfl rfl (FnC.triC Tryz.call292 (c_vplain n)) (by repeat constructor) ?_
 rintro _ _ ⟨rfl, rfl⟩
 refine Oy rfl (Yl.makeFunc rfl rfl) ?_
 refine Oy rfl (Yl.assign rfl) ?_
 refine OW.nil ?_
 refine Wr ?_
 refine Oy rfl (Yl.move rfl) ?_
 refine OW.call (Wn.plain rfl) rfl rfl rfl (FnC.triC Tryz.call301 (c_bytes _)) (by repeat constructor) ?_
 rintro _ _ ⟨bb, rfl, rfl⟩
 refine OW.nil ?_
 refine W.block ?_
 refine W.rangeF (S := (List Int) × (Option Addr) × (Nat)) (fun (k : Nat) (x : (List Int) × (Option Addr) × (Nat)) => match x with | (ys, oa, oc) => (ys = b ++ (vbU n).take k : Prop)) (fun  (x : (List Int) × (Option Addr) × (Nat)) => match x with | (ys, oa, oc) => ([.cell b2 [.slice oa ys.length oc] 236, rowR 5 1 encU8 ys oa oc] : List Res)) (fun (ex : Exit) (x : (List Int) × (Option Addr) × (Nat)) => match x with | (ys, oa, oc) => (False : Prop)) (fun  (x : (List Int) × (Option Addr) × (Nat)) => match x with | (ys, oa, oc) => ([.cell b2 [.slice oa ys.length oc] 236, rowR 5 1 encU8 ys oa oc] : List Res)) (b, _, _) rfl Tryz.call305 (i_bytes n _ hn0 hn1) (by repeat constructor) (by simp) rfl (by rintro _ _ _ ⟨rfl, _⟩; rfl) ?_ ?_ ?_
 ·rintro lp k p ⟨ys, oa, oc⟩ vs Lx hx ⟨rfl, rfl⟩ hI Lf
  show W _ _ _ _ _ _ _ [] ([] ++ [.cell b2 [.slice oa ys.length oc] 236, rowR 5 1 encU8 ys oa oc] ++ Lf)
  have hyl : ys.length ≤ 100010 := by rw [hI]; simp; omega
  refine W.region ?_
  refine Oy rfl (Yl.assign rfl) ?_
  refine OW.nil ?_
  refine ⟨rfl, _, by repeat constructor, fun Lf => ?_⟩
  refine W.block ?_
  refine W.region ?_
  refine Oy rfl (Yl.load1 Tryz.isAgg236 rfl (by repeat constructor) (by repeat constructor)) ?_
  refine Oy rfl (Yl.move rfl) ?_
  refine OW.lit (is := [0]) (xs := [.tmp 38]) (Wn.plain rfl) rfl rw_236 rfl rfl rfl (by decide) (by repeat constructor) (fun b3 => ?_)
  refine OW.push  (Wn.plain rfl) rfl rw_236 rfl rfl (by repeat constructor) ⟨_, by repeat constructor⟩ (by rfl) (by rfl) (by repeat constructor) (by omega) (by omega) (fun a2 c2 => ?_)
  refine OW.store (Wn.plain rfl) Tryz.sizeOf236 rfl rfl (by constructor) (by repeat constructor) rfl (by repeat constructor) (by repeat constructor) ?_
  refine OW.nil ?_
  refine ⟨(ys ++ [p], _, _), ?_, EntL (by repeat constructor) (by repeat constructor)⟩
  rw [take_at hx, hI]; simp
 ·rintro D1 ⟨ys, oa, oc⟩ hI
  rw [List.take_length] at hI; subst hI
  refine W.region ?_
  refine Oy rfl (Yl.addW (c := 1) rfl rfl rfl) ?_
  refine Oy rfl (Yl.move rfl) ?_
  refine OW.nil ?_
  refine WL.round ?_
  refine Wr ?_
  refine Oy rfl (Yl.lss rfl rfl) ?_
  refine OW.nil ?_
  refine W.seq ?_
  refine W.cond_f1 rfl (by decide) ?_
  refine W.exit ?_
  refine Wr ?_
  refine Oy rfl (Yl.load1 Tryz.isAgg236 rfl (by repeat constructor) (by repeat constructor)) ?_
  refine Oy rfl (Yl.assign rfl) ?_
  refine OW.nil ?_
  refine W.ret ?_
  refine Fin.marks [D1] rfl (by repeat constructor) ?_
  refine Fin.ent (Ent.sealP (f := encU8) (E := 5) (sz := 1) (by repeat constructor) (fun _ => rfl)) ?_
  exact Fin.mk (Rsl.one rfl rfl) ⟨_, _, rfl, rfl⟩ (by repeat constructor) (by repeat constructor)
 ·rintro _ _ _ h; exact h.elim
theorem c_putsI (b : List Int) (ba : Option Addr) (bc : Nat) (n : Int) (la : Option Addr) (lc : Nat) (hb : b.length ≤ 100000) (hn0 : -9223372036854775808 ≤ n) (hn1 : n ≤ 9223372036854775807) : FnC Tryz.prog 293 #[.slice ba b.length bc, .func (.func 294) #[] #[], .slice la 1 lc] [rowI 1 encU8 b ba bc, rowI 1 encI [n] la lc] (RetRow 1 encU8 (b ++ vbU (zig n))) := by
 refine FnC.go (m := 43) Tryz.func293 Tryz.ntmps293 rfl (Nat.le_of_ble_eq_true rfl) (fun Lf => ?_)
 have hvl := vbU_len (zig n)
 have hn : [n][0]? = some n := rfl
 refine Wr ?_
 refine Oy rfl (Yl.assign rfl) ?_
 refine OW.nil ?_
 refine Wr ?_
 refine Oy rfl (Yl.move rfl) ?_
 refine Oy rfl (Yl.len ⟨Tryz.underlying236, Tryz.sizeOf5⟩ rfl) ?_
 refine Oy rfl (Yl.move rfl) ?_
 refine Oy rfl (Yl.len ⟨Tryz.underlying236, Tryz.sizeOf5⟩ rfl) ?_
 refine Oy rfl (Yl.move rfl) ?_
 refine Oy rfl (Yl.len ⟨Tryz.underlying51, Tryz.sizeOf2⟩ rfl) ?_
 refine Oy rfl (Yl.add rfl rfl (by omega)) ?_
 refine Oy rfl (Yl.add rfl rfl (by omega)) ?_
 refine OW.makeN (b.length) (b.length + 1 + 8) (Wn.plain rfl) rfl rw_236 rfl rfl rfl (by omega) (by first | omega | (unfold maxLen; omega)) (by first | omega | (unfold maxLen; omega)) (by first | omega | (unfold maxLen; omega)) (fun b1 xs1 => ?_)
 refine OW.alloc (Wn.plain rfl) rfl Tryz.zeroValue236 (by constructor) (fun b2 => ?_)
 refine OW.store (Wn.plain rfl) Tryz.sizeOf236 rfl rfl (by constructor) (by repeat constructor) rfl (by repeat constructor) (by repeat constructor) ?_
 refine OW.nil ?_
 refine Wr ?_
 refine Oy rfl (Yl.load1 Tryz.isAgg236 rfl (by repeat constructor) (by repeat constructor)) ?_
 refine Oy rfl (Yl.move rfl) ?_
 refine OW.copyR (f := encU8) (b) (Wn.plain rfl) rfl rw_236 rfl rfl (by repeat constructor) rfl (Src.sl (sz := 1) (a := ba) (xs := b.map encU8) (by decide) (by repeat constructor)) (fun _ => rfl) (fun _ => by repeat constructor) ?_
 refine OW.nil ?_
 refine W.seq ?_
 refine Wr ?_
 refine Oy rfl (Yl.move rfl) ?_
 refine Oy rfl (Yl.len ⟨Tryz.underlying51, Tryz.sizeOf2⟩ rfl) ?_
 refine Oy rfl (Yl.move rfl) ?_
 refine OW.nil ?_
 refine W.block ?_
 refine W.loopL ?_
 refine WL.round ?_
 refine Wr ?_
 refine Oy rfl (Yl.lss rfl rfl) ?_
 refine OW.nil ?_
 refine W.seq ?_
 refine W.cond_t1 rfl (by decide) ?_
 refine W.skip ?_
 refine W.seq ?_
 refine W.block ?_
 refine Wr ?_
 refine OW.fact (Sl.isSome (a := la) (by repeat constructor) (by simp)) ?_
 rintro ⟨p1, hp1⟩; try dsimp only at hp1
 subst hp1
 refine Oy rfl (Yl.indexS 0 ⟨Tryz.underlying51, Tryz.sizeOf2⟩ rfl rfl rfl (by decide)) ?_
 refine Oy rfl (Yl.loadS0 Tryz.isAgg2 rfl (by repeat constructor) (map_at hn) (by repeat constructor)) ?_
 refine Oy rfl (Yl.assign rfl) ?_
 refine OW.nil ?_
 refine Wr ?_
 refine Oy rfl (Yl.move rfl) ?_
 refine Oy rfl (Yl.move rfl) ?_
 refine OW.call (Wn.plain rfl) rfl rfl rfl (FnC.triC Tryz.call294 (c_vfolded n hn0 hn1)) (by repeat constructor) ?_
 rintro _ _ ⟨rfl, rfl⟩
 refine Oy rfl (Yl.makeFunc rfl rfl) ?_
 refine Oy rfl (Yl.assign rfl) ?_
 refine OW.nil ?_
 refine Wr ?_
 refine Oy rfl (Yl.move rfl) ?_
 refine OW.call (Wn.plain rfl) rfl rfl rfl (FnC.triC Tryz.call301 (c_bytes _)) (by repeat constructor) ?_
 rintro _ _ ⟨bb, rfl, rfl⟩
 refine OW.nil ?_
 refine W.block ?_
 refine W.rangeF (S := (List Int) × (Option Addr) × (Nat)) (fun (k : Nat) (x : (List Int) × (Option Addr) × (Nat)) => match x with | (ys, oa, oc) => (ys = b ++ (vbU (zig n)).take k : Prop)) (fun  (x : (List Int) × (Option Addr) × (Nat)) => match x with | (ys, oa, oc) => ([.cell b2 [.slice oa ys.length oc] 236, rowR 5 1 encU8 ys oa oc] : List Res)) (fun (ex : Exit) (x : (List Int) × (Option Addr) × (Nat)) => match x with | (ys, oa, oc) => (False : Prop)) (fun  (x : (List Int) × (Option Addr) × (Nat)) => match x with | (ys, oa, oc) => ([.cell b2 [.slice oa ys.length oc] 236, rowR 5 1 encU8 ys oa oc] : List Res)) (b, _, _) rfl Tryz.call305 (i_bytes (zig n) _ (zig_in n hn0 hn1).1 (zig_in n hn0 hn1).2) (by repeat constructor) (by simp) rfl (by rintro _ _ _ ⟨rfl, _⟩; rfl) ?_ ?_ ?_
 ·rintro lp k p ⟨ys, oa, oc⟩ vs Lx hx ⟨rfl, rfl⟩ hI Lf
  show W _ _ _ _ _ _ _ [] ([] ++ [.cell b2 [.slice oa ys.length oc] 236, rowR 5 1 encU8 ys oa oc] ++ Lf)
  have hyl : ys.length ≤ 100010 := by rw [hI]; simp; omega
  refine W.region ?_
  refine Oy rfl (Yl.assign rfl) ?_
  refine OW.nil ?_
  refine ⟨rfl, _, by repeat constructor, fun Lf => ?_⟩
  refine W.block ?_
  refine W.region ?_
  refine Oy rfl (Yl.load1 Tryz.isAgg236 rfl (by repeat constructor) (by repeat constructor)) ?_
  refine Oy rfl (Yl.move rfl) ?_
  refine OW.lit (is := [0]) (xs := [.tmp 38]) (Wn.plain rfl) rfl rw_236 rfl rfl rfl (by decide) (by repeat constructor) (fun b3 => ?_)
  refine OW.push  (Wn.plain rfl) rfl rw_236 rfl rfl (by repeat constructor) ⟨_, by repeat constructor⟩ (by rfl) (by rfl) (by repeat constructor) (by omega) (by omega) (fun a2 c2 => ?_)
  refine OW.store (Wn.plain rfl) Tryz.sizeOf236 rfl rfl (by constructor) (by repeat constructor) rfl (by repeat constructor) (by repeat constructor) ?_
  refine OW.nil ?_
  refine ⟨(ys ++ [p], _, _), ?_, EntL (by repeat constructor) (by repeat constructor)⟩
  rw [take_at hx, hI]; simp
 ·rintro D1 ⟨ys, oa, oc⟩ hI
  rw [List.take_length] at hI; subst hI
  refine W.region ?_
  refine Oy rfl (Yl.addW (c := 1) rfl rfl rfl) ?_
  refine Oy rfl (Yl.move rfl) ?_
  refine OW.nil ?_
  refine WL.round ?_
  refine Wr ?_
  refine Oy rfl (Yl.lss rfl rfl) ?_
  refine OW.nil ?_
  refine W.seq ?_
  refine W.cond_f1 rfl (by decide) ?_
  refine W.exit ?_
  refine Wr ?_
  refine Oy rfl (Yl.load1 Tryz.isAgg236 rfl (by repeat constructor) (by repeat constructor)) ?_
  refine Oy rfl (Yl.assign rfl) ?_
  refine OW.nil ?_
  refine W.ret ?_
  refine Fin.marks [D1] rfl (by repeat constructor) ?_
  refine Fin.ent (Ent.sealP (f := encU8) (E := 5) (sz := 1) (by repeat constructor) (fun _ => rfl)) ?_
  exact Fin.mk (Rsl.one rfl rfl) ⟨_, _, rfl, rfl⟩ (by repeat constructor) (by repeat constructor)
 ·rintro _ _ _ h; exact h.elim
theorem c_PutU (b : List Int) (ba : Option Addr) (bc : Nat) (n : Int) (hb : b.length ≤ 100000) (hn0 : 0 ≤ n) (hn1 : n < 18446744073709551616) : FnC Tryz.prog 273 #[.slice ba b.length bc, .int .u64 n] [rowI 1 encU8 b ba bc] (RetRow 1 encU8 (b ++ vbU n)) := by
 refine FnC.go (m := 9) Tryz.func273 Tryz.ntmps273 rfl (Nat.le_of_ble_eq_true rfl) (fun Lf => ?_)
 refine Wr ?_
 refine Oy rfl (Yl.assign rfl) ?_
 refine OW.nil ?_
 refine Wr ?_
 refine Oy rfl (Yl.move rfl) ?_
 refine Oy rfl (Yl.move rfl) ?_
 refine OW.lit (is := [0]) (xs := [.tmp 6]) (Wn.plain rfl) rfl rw_394 rfl rfl rfl (by decide) (by repeat constructor) (fun b1 => ?_)
 refine OW.ent (Ent.seal_cell (sz := 1) encU64 ([n]) rfl (fun _ => rfl) (by first | decide | simp)) ?_
 refine OW.call (Wn.plain rfl) rfl rfl rfl (FnC.tri0 Tryz.call291 (c_putsU b _ _ n _ _ hb hn0 hn1)) (by repeat constructor) ?_
 rintro _ _ ⟨ra, rc, rfl, rfl⟩
 refine Oy rfl (Yl.assign rfl) ?_
 refine OW.nil ?_
 refine W.ret ?_
 exact Fin.mk (Rsl.one rfl rfl) ⟨_, _, rfl, rfl⟩ (by repeat constructor) (by repeat constructor)
theorem c_Put (b : List Int) (ba : Option Addr) (bc : Nat) (n : Int) (hb : b.length ≤ 100000) (hn0 : -9223372036854775808 ≤ n) (hn1 : n ≤ 9223372036854775807) : FnC Tryz.prog 275 #[.slice ba b.length bc, .int .i64 n] [rowI 1 encU8 b ba bc] (RetRow 1 encU8 (b ++ vbU (zig n))) := by
 refine FnC.go (m := 9) Tryz.func275 Tryz.ntmps275 rfl (Nat.le_of_ble_eq_true rfl) (fun Lf => ?_)
 refine Wr ?_
 refine Oy rfl (Yl.assign rfl) ?_
 refine OW.nil ?_
 refine Wr ?_
 refine Oy rfl (Yl.move rfl) ?_
 refine Oy rfl (Yl.move rfl) ?_
 refine OW.lit (is := [0]) (xs := [.tmp 6]) (Wn.plain rfl) rfl rw_51 rfl rfl rfl (by decide) (by repeat constructor) (fun b1 => ?_)
 refine OW.ent (Ent.seal_cell (sz := 1) encI ([n]) rfl (fun _ => rfl) (by first | decide | simp)) ?_
 refine OW.call (Wn.plain rfl) rfl rfl rfl (FnC.tri0 Tryz.call293 (c_putsI b _ _ n _ _ hb hn0 hn1)) (by repeat constructor) ?_
 rintro _ _ ⟨ra, rc, rfl, rfl⟩
 refine Oy rfl (Yl.assign rfl) ?_
 refine OW.nil ?_
 refine W.ret ?_
 exact Fin.mk (Rsl.one rfl rfl) ⟨_, _, rfl, rfl⟩ (by repeat constructor) (by repeat constructor)
end Go.Yb
