/-
  A part of the proof of windowLine_holds: see the text that holds it. No conditions of its own.
-/
import Derived.Test.YtbfhhinhjgdgpaaGreatDoorTab
import Derived.Test.YtbfhhinhjgdgpaaGreatDoorDiv
import Derived.Lib.Mul64
import Derived.Laws.Externs
import Derived.Laws.Bits64b
namespace Go.Yb
open Go Go.Proofs Go.RowKit

/-! wide: whole numbers of 128 bits -/
def InW (n : Int) : Prop := -170141183460469231731687303715884105728 ≤ n ∧ n ≤ 170141183460469231731687303715884105727
instance (n : Int) : Decidable (InW n) := by unfold InW; infer_instance
def wrapW (n : Int) : Int := (n + 170141183460469231731687303715884105728) % 340282366920938463463374607431768211456 - 170141183460469231731687303715884105728
def encW (n : Int) : List Value := [.int .i64 (n / 18446744073709551616), .int .u64 (n % 18446744073709551616)]
def cmpI (a b : Int) : Int := if a = b then 0 else if a < b then -1 else 1
theorem wrapW_in {n : Int} (h : InW n) : wrapW n = n := by unfold InW at h; unfold wrapW; omega
theorem in_wrapW (n : Int) : InW (wrapW n) := by unfold InW wrapW; omega

theorem x_Add64 (x y c : Int) (hx : 0 ≤ x) (hy : 0 ≤ y) (hc0 : 0 ≤ c) (hc : c ≤ 1) : Tri Tryz.prog (.func (.func 211) #[] #[]) #[.int .u64 x, .int .u64 y, .int .u64 c] []
    (fun v L' => v = .tuple #[.int .u64 ((x + y + c) % 18446744073709551616), .int .u64 ((x + y + c) / 18446744073709551616)] ∧ L' = []) := Tri.ext fun w => by
  have h := run_callFunc_extern (P := Tryz.prog) Tryz.func211 (by kernel_rfl) (by kernel_rfl) (by kernel_rfl) (e := add64Entry) (by kernel_rfl) #[.int .u64 x, .int .u64 y, .int .u64 c] w
  rw [run_add64 x y c hx hy hc0 hc] at h
  exact h

def sub64Entry : Array Value → Sem Value := fun args => do
  let (x, y, b) ← Extern.MathBitsCarry.three "Sub64" args
  pure (Extern.MathBitsCarry.pair ((x + Extern.MathBitsCarry.m64 - y - b) % Extern.MathBitsCarry.m64) (if x < y + b then 1 else 0))
theorem run_sub64 {P : Program} (x y b : Nat) (hb : b ≤ 1) (w : World) : (sub64Entry #[.int .u64 x, .int .u64 y, .int .u64 b]).run P w =
      .ok (.tuple #[.int .u64 (((x + 18446744073709551616 - y - b) % 18446744073709551616 : Nat) : Int), .int .u64 ((if x < y + b then 1 else 0 : Nat) : Int)]) w := by
  have : b = 0 ∨ b = 1 := by omega
  rcases this with rfl | rfl <;> rfl
def bor (x y : Int) : Int := if x < y then 1 else 0
theorem bor_cases (x y : Int) : (x < y ∧ bor x y = 1) ∨ (¬ x < y ∧ bor x y = 0) := by unfold bor; split <;> simp [*]
theorem x_Sub64 (x y b : Int) (hx : 0 ≤ x) (hy : 0 ≤ y) (hy2 : y < 18446744073709551616) (hb0 : 0 ≤ b) (hb : b ≤ 1) : Tri Tryz.prog (.func (.func 212) #[] #[]) #[.int .u64 x, .int .u64 y, .int .u64 b] []
  (fun v L' => v = .tuple #[.int .u64 ((x - y - b) % 18446744073709551616), .int .u64 (bor x (y + b))] ∧ L' = []) := Tri.ext fun w => by
 have h := run_callFunc_extern (P := Tryz.prog) Tryz.func212 (by kernel_rfl) (by kernel_rfl) (by kernel_rfl) (e := sub64Entry) (by kernel_rfl) #[.int .u64 x, .int .u64 y, .int .u64 b] w
 have h2 : (sub64Entry #[.int .u64 x, .int .u64 y, .int .u64 b]).run Tryz.prog w = .ok (.tuple #[.int .u64 ((x - y - b) % 18446744073709551616), .int .u64 (bor x (y + b))]) w := by
  obtain ⟨x, rfl⟩ := Int.eq_ofNat_of_zero_le hx
  obtain ⟨y, rfl⟩ := Int.eq_ofNat_of_zero_le hy
  obtain ⟨b, rfl⟩ := Int.eq_ofNat_of_zero_le hb0
  have e1 : (((x + 18446744073709551616 - y - b) % 18446744073709551616 : Nat) : Int) = ((x : Int) - y - b) % 18446744073709551616 := by omega
  have e2 : ((if x < y + b then 1 else 0 : Nat) : Int) = bor (x : Int) ((y : Int) + b) := by unfold bor; split <;> split <;> omega
  rw [← e1, ← e2]
  exact run_sub64 x y b (by omega) w
 rw [h2] at h
 exact h

theorem eqT_85 (a b c d : Int) (w : World) : (Op.equalIn 10000 85 (.agg #[.int .i64 a, .int .u64 b]) (.agg #[.int .i64 c, .int .u64 d])).run Tryz.prog w = .ok (a == c && b == d) w := by
 have hS : Tryz.prog.underlying 85 = some (.struct (Tryz.prog.fieldsOf 85)) := by kernel_rfl
 have hp : Tryz.prog.stoodInHeld 85 = false := by kernel_rfl
 have u2 := Tryz.underlying2
 have u83 := Tryz.underlying83
 rw [show (10000 : Nat) = 9999 + 1 from rfl, run_equalIn_agg w 9999 85 _ _ hS hp]
 simp only [Program.fieldsOf, Tryz.underlying85]
 go_simp
 by_cases h1 : a = c <;> by_cases h2 : b = d <;> simp [h1, h2]
theorem eg_85 : Tryz.prog.eqGuardType Tryz.prog.depth 85 = false := by kernel_rfl
section
variable {e : Env} {L : List Res} {d : Option Tmp} {ty : TypeId} {pos : String} {af : Array Edge} {g : Option (Nat × Bool)}
theorem Yl.eqW {x y : Operand} {yt : TypeId} {a b : Int} (hx : Env.ev e x = some (.agg (encW a).toArray)) (hy : Env.ev e y = some (.agg (encW b).toArray)) : Yl Tryz.prog e L ⟨d, .binOp .eql 85 x y yt, ty, pos, af, g⟩ (.bool (decide (a = b))) :=
 Yl.of rfl fun _ _ _ a' w ha _ => by
  have h1 := run_eqGuard_agg (P := Tryz.prog) w .eql 85 x y (encW a).toArray (encW b).toArray eg_85
  have h2 : (binOp .eql 85 (.agg (encW a).toArray) (.agg (encW b).toArray)).run Tryz.prog w = .ok (.bool (decide (a = b))) w := by
   rw [run_eql_struct, show (encW a).toArray = #[.int .i64 (a / 18446744073709551616), .int .u64 (a % 18446744073709551616)] from rfl, show (encW b).toArray = #[.int .i64 (b / 18446744073709551616), .int .u64 (b % 18446744073709551616)] from rfl, eqT_85]
   have hb : (a / 18446744073709551616 == b / 18446744073709551616 && a % 18446744073709551616 == b % 18446744073709551616) = decide (a = b) := by
    rw [Bool.eq_iff_iff]
    simp only [Bool.and_eq_true, beq_iff_eq, decide_eq_true_eq]
    omega
   simp only [Result.andThen_ok, hb]
  simp only [execOp, ha.eval hx, ha.eval hy, Sem.run_bind, h1, h2, Result.andThen_ok, Sem.run_pure]
end
theorem c_Of (n : Int) (h1 : -9223372036854775808 ≤ n) (h2 : n ≤ 9223372036854775807) : FnV Tryz.prog 50 #[.int .i64 n] [] (.agg (encW n).toArray) := by
 refine FnC.go (m := 8) Tryz.func50 Tryz.ntmps50 rfl (Nat.le_of_ble_eq_true rfl) (fun Lf => ?_)
 refine Wr ?_
 refine OW.alloc (Wn.plain rfl) rfl Tryz.zeroValue85 (by constructor) (fun b1 => ?_)
 refine OW.nil ?_
 refine Wr ?_
 refine Oy rfl (Yl.move rfl) ?_
 refine Oy rfl (Yl.shr 63 9223372036854775808 rfl rfl rfl (by decide) (by decide)) ?_
 refine Oy rfl (Yl.move rfl) ?_
 refine Oy rfl (Yl.conv Tryz.underlying2 Tryz.underlying83 rfl rfl) ?_
 refine Oy rfl (Yl.build (is := [0, 1]) (xs := [.tmp 4, .tmp 6]) st_85 rfl rfl (by repeat constructor)) ?_
 refine OW.store (Wn.plain rfl) Tryz.sizeOf85 rfl rfl (by constructor) (by repeat constructor) rfl (by repeat constructor) (by repeat constructor) ?_
 refine OW.nil ?_
 refine W.ret ?_
 refine Fin.mk (Rsl.of1 rfl (.cell ⟨Tryz.isAgg85, Tryz.sizeOf85⟩ rfl (by repeat constructor) (by repeat constructor))) ⟨?_, rfl⟩ (by repeat constructor) (by repeat constructor)
 simp only [encW, IntKind.wrap_u64]
 rw [show n / 9223372036854775808 = n / 18446744073709551616 from by omega]
theorem c_toldW (n : Int) (f : Bool) : FnV Tryz.prog 143 #[.agg (encW n).toArray, .bool f] [] (.tuple #[.agg (encW (if f then n else 0)).toArray, .int .i64 (if f then 0 else 5)]) := by
 refine FnC.go (m := 11) Tryz.func143 Tryz.ntmps143 rfl (Nat.le_of_ble_eq_true rfl) (fun Lf => ?_)
 refine Wr ?_
 refine OW.box (Wn.plain rfl) rfl rfl (by constructor) (fun b1 => ?_)
 refine OW.alloc (Wn.plain rfl) rfl Tryz.zeroValue85 (by constructor) (fun b2 => ?_)
 refine Oy rfl (Yl.assign rfl) ?_
 refine OW.nil ?_
 refine W.seq ?_
 refine Wr ?_
 refine Oy rfl (Yl.move rfl) ?_
 refine Oy rfl (Yl.not rfl) ?_
 refine OW.nil ?_
 refine W.cond rfl (fun hq1 => ?_) (fun hq1 => ?_)
 ·have hq1n := not_t hq1
  refine Wr ?_
  refine OW.alloc (Wn.plain rfl) rfl Tryz.zeroValue85 (by constructor) (fun b3 => ?_)
  refine OW.nil ?_
  refine Wr ?_
  refine Oy rfl (Yl.load ⟨Tryz.isAgg85, Tryz.sizeOf85⟩ rfl (by repeat constructor) (by repeat constructor)) ?_
  refine OW.store (Wn.plain rfl) Tryz.sizeOf85 rfl rfl (by constructor) (by repeat constructor) rfl (by repeat constructor) (by repeat constructor) ?_
  refine Oy rfl (Yl.assign rfl) ?_
  refine OW.nil ?_
  refine W.ret ?_
  refine Fin.mk (Rsl.of2 rfl (.cell ⟨Tryz.isAgg85, Tryz.sizeOf85⟩ rfl (by repeat constructor) (by repeat constructor)) (.tmp rfl)) ⟨?_, rfl⟩ (by repeat constructor) (by repeat constructor)
  simp_all [encW]
 ·have hq1n := not_f hq1
  refine W.skip ?_
  refine Wr ?_
  refine Oy rfl (Yl.load ⟨Tryz.isAgg85, Tryz.sizeOf85⟩ rfl (by repeat constructor) (by repeat constructor)) ?_
  refine OW.store (Wn.plain rfl) Tryz.sizeOf85 rfl rfl (by constructor) (by repeat constructor) rfl (by repeat constructor) (by repeat constructor) ?_
  refine Oy rfl (Yl.assign rfl) ?_
  refine OW.nil ?_
  refine W.ret ?_
  refine Fin.mk (Rsl.of2 rfl (.cell ⟨Tryz.isAgg85, Tryz.sizeOf85⟩ rfl (by repeat constructor) (by repeat constructor)) (.tmp rfl)) ⟨?_, rfl⟩ (by repeat constructor) (by repeat constructor)
  simp_all [encW]
theorem c_toldI (n : Int) (f : Bool) : FnV Tryz.prog 285 #[.int .i64 n, .bool f] [] (.tuple #[.int .i64 (if f then n else 0), .int .i64 (if f then 0 else 5)]) := by
 refine FnC.go (m := 11) Tryz.func285 Tryz.ntmps285 rfl (Nat.le_of_ble_eq_true rfl) (fun Lf => ?_)
 refine Wr ?_
 refine Oy rfl (Yl.assign rfl) ?_
 refine Oy rfl (Yl.assign rfl) ?_
 refine OW.nil ?_
 refine W.seq ?_
 refine Wr ?_
 refine Oy rfl (Yl.move rfl) ?_
 refine Oy rfl (Yl.not rfl) ?_
 refine OW.nil ?_
 refine W.cond rfl (fun hq1 => ?_) (fun hq1 => ?_)
 ·have hq1n := not_t hq1
  refine Wr ?_
  refine Oy rfl (Yl.assign rfl) ?_
  refine OW.nil ?_
  refine Wr ?_
  refine Oy rfl (Yl.move rfl) ?_
  refine Oy rfl (Yl.assign rfl) ?_
  refine Oy rfl (Yl.assign rfl) ?_
  refine OW.nil ?_
  refine W.ret ?_
  refine Fin.mk (Rsl.two rfl rfl rfl) ⟨?_, rfl⟩ (by repeat constructor) (by repeat constructor)
  simp_all
 ·have hq1n := not_f hq1
  refine W.skip ?_
  refine Wr ?_
  refine Oy rfl (Yl.move rfl) ?_
  refine Oy rfl (Yl.assign rfl) ?_
  refine Oy rfl (Yl.assign rfl) ?_
  refine OW.nil ?_
  refine W.ret ?_
  refine Fin.mk (Rsl.two rfl rfl rfl) ⟨?_, rfl⟩ (by repeat constructor) (by repeat constructor)
  simp_all

theorem intv {k : IntKind} {a b : Int} (h : a = b) : Value.int k a = .int k b := by rw [h]
theorem tupWB {x y n : Int} {b c : Bool} (h1 : x = n / 18446744073709551616) (h2 : y = n % 18446744073709551616) (h3 : b = c) : Value.tuple [.agg [.int .i64 x, .int .u64 y].toArray, .bool b].toArray = .tuple [.agg (encW n).toArray, .bool c].toArray := by rw [h1, h2, h3]; rfl
theorem agg_encW {a b n : Int} (h1 : a = n / 18446744073709551616) (h2 : b = n % 18446744073709551616) : Value.agg [.int .i64 a, .int .u64 b].toArray = .agg (encW n).toArray := by rw [h1, h2]; rfl

theorem c_sum (a b : Int) (ha : InW a) (hb : InW b) : FnV Tryz.prog 144 #[.agg (encW a).toArray, .agg (encW b).toArray] [] (.tuple #[.agg (encW (wrapW (a + b))).toArray, .bool (decide (InW (a + b)))]) := by
 refine FnC.go (m := 51) Tryz.func144 Tryz.ntmps144 rfl (Nat.le_of_ble_eq_true rfl) (fun Lf => ?_)
 unfold InW at ha hb
 refine Wr ?_
 refine OW.box (Wn.plain rfl) rfl rfl (by constructor) (fun b1 => ?_)
 refine OW.box (Wn.plain rfl) rfl rfl (by constructor) (fun b2 => ?_)
 refine OW.alloc (Wn.plain rfl) rfl Tryz.zeroValue85 (by constructor) (fun b3 => ?_)
 refine Oy rfl (Yl.assign rfl) ?_
 refine OW.nil ?_
 refine Wr ?_
 refine Oy rfl (Yl.fieldL 1 (fa_85_1) rfl rfl) ?_
 refine Oy rfl (Yl.load1 Tryz.isAgg83 rfl (by repeat constructor) (by repeat constructor)) ?_
 refine Oy rfl (Yl.fieldL 1 (fa_85_1) rfl rfl) ?_
 refine Oy rfl (Yl.load1 Tryz.isAgg83 rfl (by repeat constructor) (by repeat constructor)) ?_
 refine OW.call (Wn.plain rfl) rfl rfl rfl (x_Add64 _ _ _ (by  omega) (by  omega) (by omega) (by omega)) (by repeat constructor) ?_
 rintro _ _ ⟨rfl, rfl⟩
 refine Oy rfl (Yl.move rfl) ?_
 refine Oy rfl (Yl.extract rfl (by repeat constructor)) ?_
 refine Oy rfl (Yl.extract rfl (by repeat constructor)) ?_
 refine Oy rfl (Yl.assign rfl) ?_
 refine Oy rfl (Yl.assign rfl) ?_
 refine OW.nil ?_
 refine Wr ?_
 refine Oy rfl (Yl.fieldL 0 (fa_85_0) rfl rfl) ?_
 refine Oy rfl (Yl.load1 Tryz.isAgg2 rfl (by repeat constructor) (by repeat constructor)) ?_
 refine Oy rfl (Yl.conv Tryz.underlying2 Tryz.underlying83 rfl rfl) ?_
 refine Oy rfl (Yl.fieldL 0 (fa_85_0) rfl rfl) ?_
 refine Oy rfl (Yl.load1 Tryz.isAgg2 rfl (by repeat constructor) (by repeat constructor)) ?_
 refine Oy rfl (Yl.conv Tryz.underlying2 Tryz.underlying83 rfl rfl) ?_
 refine Oy rfl (Yl.move rfl) ?_
 refine OW.call (Wn.plain rfl) rfl rfl rfl (x_Add64 _ _ _ (by rw [IntKind.wrap_u64]; omega) (by rw [IntKind.wrap_u64]; omega) (by omega) (by omega)) (by repeat constructor) ?_
 rintro _ _ ⟨rfl, rfl⟩
 refine Oy rfl (Yl.move rfl) ?_
 refine Oy rfl (Yl.extract rfl (by repeat constructor)) ?_
 refine Oy rfl (Yl.extract rfl (by repeat constructor)) ?_
 refine Oy rfl (Yl.assign rfl) ?_
 refine Oy rfl (Yl.assign rfl) ?_
 refine OW.nil ?_
 refine Wr ?_
 refine Oy rfl (Yl.move rfl) ?_
 refine Oy rfl (Yl.conv Tryz.underlying83 Tryz.underlying2 rfl rfl) ?_
 refine Oy rfl (Yl.move rfl) ?_
 refine Oy rfl (Yl.build (is := [0, 1]) (xs := [.tmp 31, .tmp 32]) st_85 rfl rfl (by repeat constructor)) ?_
 refine OW.alloc (Wn.plain rfl) rfl Tryz.zeroValue85 (by constructor) (fun b4 => ?_)
 refine OW.store (Wn.plain rfl) Tryz.sizeOf85 rfl rfl (by constructor) (by repeat constructor) rfl (by repeat constructor) (by repeat constructor) ?_
 refine OW.nil ?_
 refine W.seq ?_
 refine W.draw mixed ?_
 refine Al (i := 0) rfl (Wn.plain rfl) rfl (by repeat constructor) (Yl.load ⟨Tryz.isAgg85, Tryz.sizeOf85⟩ rfl .head (by repeat constructor)) ?_
 refine Aq (i := 1) rfl (Wn.plain rfl) rfl (fun _ => Yl.fieldL 0 (fa_85_0) rfl rfl) ?_
 refine Al (i := 2) rfl (Wn.plain rfl) rfl (by repeat constructor) (Yl.load1 Tryz.isAgg2 rfl .head (by repeat constructor)) ?_
 refine Aq (i := 3) rfl (Wn.plain rfl) rfl (fun _ => Yl.lss rfl rfl) ?_
 refine Aq (i := 4) rfl (Wn.plain rfl) rfl (fun _ => Yl.fieldL 0 (fa_85_0) rfl rfl) ?_
 refine Al (i := 5) rfl (Wn.plain rfl) rfl (by repeat constructor) (Yl.load1 Tryz.isAgg2 rfl .head (by repeat constructor)) ?_
 refine Aq (i := 6) rfl (Wn.plain rfl) rfl (fun _ => Yl.lss rfl rfl) ?_
 refine Aq (i := 7) rfl (Wn.plain rfl) rfl (fun _ => Yl.neqb Tryz.underlying4 rfl rfl) ?_
 refine Aq (i := 8) rfl (Wn.plain rfl) rfl (fun _ => Yl.move rfl) ?_
 refine AW.split (t := 42) rfl (fun hq1 => ?_) (fun hq1 => ?_)
 ·refine AW.not (i := 9) rfl (by kernel_rfl) (by kernel_rfl) (by kernel_rfl) (Wn.not rfl rfl rfl hq1) rfl ?_
  refine AW.not (i := 10) rfl (by kernel_rfl) (by kernel_rfl) (by kernel_rfl) (Wn.not rfl rfl rfl hq1) rfl ?_
  refine AW.not (i := 11) rfl (by kernel_rfl) (by kernel_rfl) (by kernel_rfl) (Wn.not rfl rfl rfl hq1) rfl ?_
  refine AW.not (i := 12) rfl (by kernel_rfl) (by kernel_rfl) (by kernel_rfl) (Wn.not rfl rfl rfl hq1) rfl ?_
  refine AW.not (i := 13) rfl (by kernel_rfl) (by kernel_rfl) (by kernel_rfl) (Wn.not rfl rfl rfl hq1) rfl ?_
  refine AW.not (i := 14) rfl (by kernel_rfl) (by kernel_rfl) (by kernel_rfl) (Wn.not rfl rfl rfl hq1) rfl ?_
  refine AW.not (i := 15) rfl (by kernel_rfl) (by kernel_rfl) (by kernel_rfl) (Wn.not rfl rfl rfl hq1) rfl ?_
  refine Aq (i := 16) rfl (Wn.plain rfl) rfl (fun _ => Yl.pick_true rfl hq1 rfl) ?_
  refine AW.step (i := 17) rfl (by kernel_rfl) (Wn.plain rfl) rfl (Ex.store Tryz.sizeOf85 rfl rfl (by constructor) (by repeat constructor) rfl (by repeat constructor) (by repeat constructor)) (.keep (by kernel_rfl) (.keep (by kernel_rfl) (.drop (by kernel_rfl) .nil))) ?_
  rintro _ _ rfl; refine ⟨by repeat constructor, ?_⟩
  refine Aq (i := 18) rfl (Wn.plain rfl) rfl (fun _ => Yl.assign rfl) ?_
  refine AW.done (by kernel_rfl) ?_
  refine W.ret ?_
  refine Fin.mk (Rsl.of2 rfl (.cell ⟨Tryz.isAgg85, Tryz.sizeOf85⟩ rfl (by repeat constructor) (by repeat constructor)) (.tmp rfl)) ⟨?_, rfl⟩ (by repeat constructor) (by repeat constructor)
  refine tupWB ?_ ?_ ?_
  ·simp only [IntKind.wrap_i64, IntKind.wrap_u64, wrapW]; omega
  ·simp only [wrapW]; omega
  ·have h := bxor_t hq1; refine t_dec ?_; unfold InW; omega
 ·refine Aq (i := 9) rfl (Wn.run rfl rfl rfl hq1) rfl (fun _ => Yl.fieldL 0 (fa_85_0) rfl rfl) ?_
  refine Al (i := 10) rfl (Wn.run rfl rfl rfl hq1) rfl (by repeat constructor) (Yl.load1 Tryz.isAgg2 rfl .head (by repeat constructor)) ?_
  refine Aq (i := 11) rfl (Wn.run rfl rfl rfl hq1) rfl (fun _ => Yl.lss rfl rfl) ?_
  refine Aq (i := 12) rfl (Wn.run rfl rfl rfl hq1) rfl (fun _ => Yl.fieldL 0 (fa_85_0) rfl rfl) ?_
  refine Al (i := 13) rfl (Wn.run rfl rfl rfl hq1) rfl (by repeat constructor) (Yl.load1 Tryz.isAgg2 rfl .head (by repeat constructor)) ?_
  refine Aq (i := 14) rfl (Wn.run rfl rfl rfl hq1) rfl (fun _ => Yl.lss rfl rfl) ?_
  refine Aq (i := 15) rfl (Wn.run rfl rfl rfl hq1) rfl (fun _ => Yl.eqlb Tryz.underlying4 rfl rfl) ?_
  refine Aq (i := 16) rfl (Wn.plain rfl) rfl (fun _ => Yl.pick_false rfl hq1 rfl) ?_
  refine AW.step (i := 17) rfl (by kernel_rfl) (Wn.plain rfl) rfl (Ex.store Tryz.sizeOf85 rfl rfl (by constructor) (by repeat constructor) rfl (by repeat constructor) (by repeat constructor)) (.keep (by kernel_rfl) (.keep (by kernel_rfl) (.keep (by kernel_rfl) (.keep (by kernel_rfl) (.drop (by kernel_rfl) .nil))))) ?_
  rintro _ _ rfl; refine ⟨by repeat constructor, ?_⟩
  refine Aq (i := 18) rfl (Wn.plain rfl) rfl (fun _ => Yl.assign rfl) ?_
  refine AW.done (by kernel_rfl) ?_
  refine W.ret ?_
  refine Fin.mk (Rsl.of2 rfl (.cell ⟨Tryz.isAgg85, Tryz.sizeOf85⟩ rfl (by repeat constructor) (by repeat constructor)) (.tmp rfl)) ⟨?_, rfl⟩ (by repeat constructor) (by repeat constructor)
  refine tupWB ?_ ?_ ?_
  ·simp only [IntKind.wrap_i64, IntKind.wrap_u64, wrapW]; omega
  ·simp only [wrapW]; omega
  ·have h := bxor_f hq1
   refine dec_eq (fun h1 => ?_) (fun h1 => ?_)
   ·have h2 := beq_tt h1; simp only [IntKind.wrap_i64, IntKind.wrap_u64, InW] at *; omega
   ·have h2 := beq_ff h1; simp only [IntKind.wrap_i64, IntKind.wrap_u64, InW] at *; omega
theorem c_difference (a b : Int) (ha : InW a) (hb : InW b) : FnV Tryz.prog 149 #[.agg (encW a).toArray, .agg (encW b).toArray] [] (.tuple #[.agg (encW (wrapW (a - b))).toArray, .bool (decide (InW (a - b)))]) := by
 refine FnC.go (m := 51) Tryz.func149 Tryz.ntmps149 rfl (Nat.le_of_ble_eq_true rfl) (fun Lf => ?_)
 unfold InW at ha hb
 refine Wr ?_
 refine OW.box (Wn.plain rfl) rfl rfl (by constructor) (fun b1 => ?_)
 refine OW.box (Wn.plain rfl) rfl rfl (by constructor) (fun b2 => ?_)
 refine OW.alloc (Wn.plain rfl) rfl Tryz.zeroValue85 (by constructor) (fun b3 => ?_)
 refine Oy rfl (Yl.assign rfl) ?_
 refine OW.nil ?_
 refine Wr ?_
 refine Oy rfl (Yl.fieldL 1 (fa_85_1) rfl rfl) ?_
 refine Oy rfl (Yl.load1 Tryz.isAgg83 rfl (by repeat constructor) (by repeat constructor)) ?_
 refine Oy rfl (Yl.fieldL 1 (fa_85_1) rfl rfl) ?_
 refine Oy rfl (Yl.load1 Tryz.isAgg83 rfl (by repeat constructor) (by repeat constructor)) ?_
 refine OW.call (Wn.plain rfl) rfl rfl rfl (x_Sub64 _ _ _ (by  omega) (by  omega) (by  omega) (by omega) (by omega)) (by repeat constructor) ?_
 rintro _ _ ⟨rfl, rfl⟩
 refine Oy rfl (Yl.move rfl) ?_
 refine Oy rfl (Yl.extract rfl (by repeat constructor)) ?_
 refine Oy rfl (Yl.extract rfl (by repeat constructor)) ?_
 refine Oy rfl (Yl.assign rfl) ?_
 refine Oy rfl (Yl.assign rfl) ?_
 refine OW.nil ?_
 refine Wr ?_
 refine Oy rfl (Yl.fieldL 0 (fa_85_0) rfl rfl) ?_
 refine Oy rfl (Yl.load1 Tryz.isAgg2 rfl (by repeat constructor) (by repeat constructor)) ?_
 refine Oy rfl (Yl.conv Tryz.underlying2 Tryz.underlying83 rfl rfl) ?_
 refine Oy rfl (Yl.fieldL 0 (fa_85_0) rfl rfl) ?_
 refine Oy rfl (Yl.load1 Tryz.isAgg2 rfl (by repeat constructor) (by repeat constructor)) ?_
 refine Oy rfl (Yl.conv Tryz.underlying2 Tryz.underlying83 rfl rfl) ?_
 refine Oy rfl (Yl.move rfl) ?_
 refine OW.call (Wn.plain rfl) rfl rfl rfl (x_Sub64 _ _ _ (by rw [IntKind.wrap_u64]; omega) (by rw [IntKind.wrap_u64]; omega) (by rw [IntKind.wrap_u64]; omega) (by have := bor_cases (a % 18446744073709551616) (b % 18446744073709551616 + 0); omega) (by have := bor_cases (a % 18446744073709551616) (b % 18446744073709551616 + 0); omega)) (by repeat constructor) ?_
 rintro _ _ ⟨rfl, rfl⟩
 refine Oy rfl (Yl.move rfl) ?_
 refine Oy rfl (Yl.extract rfl (by repeat constructor)) ?_
 refine Oy rfl (Yl.extract rfl (by repeat constructor)) ?_
 refine Oy rfl (Yl.assign rfl) ?_
 refine Oy rfl (Yl.assign rfl) ?_
 refine OW.nil ?_
 refine Wr ?_
 refine Oy rfl (Yl.move rfl) ?_
 refine Oy rfl (Yl.conv Tryz.underlying83 Tryz.underlying2 rfl rfl) ?_
 refine Oy rfl (Yl.move rfl) ?_
 refine Oy rfl (Yl.build (is := [0, 1]) (xs := [.tmp 31, .tmp 32]) st_85 rfl rfl (by repeat constructor)) ?_
 refine OW.alloc (Wn.plain rfl) rfl Tryz.zeroValue85 (by constructor) (fun b4 => ?_)
 refine OW.store (Wn.plain rfl) Tryz.sizeOf85 rfl rfl (by constructor) (by repeat constructor) rfl (by repeat constructor) (by repeat constructor) ?_
 refine OW.nil ?_
 refine W.seq ?_
 refine W.draw mixed ?_
 refine Al (i := 0) rfl (Wn.plain rfl) rfl (by repeat constructor) (Yl.load ⟨Tryz.isAgg85, Tryz.sizeOf85⟩ rfl .head (by repeat constructor)) ?_
 refine Aq (i := 1) rfl (Wn.plain rfl) rfl (fun _ => Yl.fieldL 0 (fa_85_0) rfl rfl) ?_
 refine Al (i := 2) rfl (Wn.plain rfl) rfl (by repeat constructor) (Yl.load1 Tryz.isAgg2 rfl .head (by repeat constructor)) ?_
 refine Aq (i := 3) rfl (Wn.plain rfl) rfl (fun _ => Yl.lss rfl rfl) ?_
 refine Aq (i := 4) rfl (Wn.plain rfl) rfl (fun _ => Yl.fieldL 0 (fa_85_0) rfl rfl) ?_
 refine Al (i := 5) rfl (Wn.plain rfl) rfl (by repeat constructor) (Yl.load1 Tryz.isAgg2 rfl .head (by repeat constructor)) ?_
 refine Aq (i := 6) rfl (Wn.plain rfl) rfl (fun _ => Yl.lss rfl rfl) ?_
 refine Aq (i := 7) rfl (Wn.plain rfl) rfl (fun _ => Yl.eqlb Tryz.underlying4 rfl rfl) ?_
 refine Aq (i := 8) rfl (Wn.plain rfl) rfl (fun _ => Yl.move rfl) ?_
 refine AW.split (t := 42) rfl (fun hq1 => ?_) (fun hq1 => ?_)
 ·refine AW.not (i := 9) rfl (by kernel_rfl) (by kernel_rfl) (by kernel_rfl) (Wn.not rfl rfl rfl hq1) rfl ?_
  refine AW.not (i := 10) rfl (by kernel_rfl) (by kernel_rfl) (by kernel_rfl) (Wn.not rfl rfl rfl hq1) rfl ?_
  refine AW.not (i := 11) rfl (by kernel_rfl) (by kernel_rfl) (by kernel_rfl) (Wn.not rfl rfl rfl hq1) rfl ?_
  refine AW.not (i := 12) rfl (by kernel_rfl) (by kernel_rfl) (by kernel_rfl) (Wn.not rfl rfl rfl hq1) rfl ?_
  refine AW.not (i := 13) rfl (by kernel_rfl) (by kernel_rfl) (by kernel_rfl) (Wn.not rfl rfl rfl hq1) rfl ?_
  refine AW.not (i := 14) rfl (by kernel_rfl) (by kernel_rfl) (by kernel_rfl) (Wn.not rfl rfl rfl hq1) rfl ?_
  refine AW.not (i := 15) rfl (by kernel_rfl) (by kernel_rfl) (by kernel_rfl) (Wn.not rfl rfl rfl hq1) rfl ?_
  refine Aq (i := 16) rfl (Wn.plain rfl) rfl (fun _ => Yl.pick_true rfl hq1 rfl) ?_
  refine AW.step (i := 17) rfl (by kernel_rfl) (Wn.plain rfl) rfl (Ex.store Tryz.sizeOf85 rfl rfl (by constructor) (by repeat constructor) rfl (by repeat constructor) (by repeat constructor)) (.keep (by kernel_rfl) (.keep (by kernel_rfl) (.drop (by kernel_rfl) .nil))) ?_
  rintro _ _ rfl; refine ⟨by repeat constructor, ?_⟩
  refine Aq (i := 18) rfl (Wn.plain rfl) rfl (fun _ => Yl.assign rfl) ?_
  refine AW.done (by kernel_rfl) ?_
  refine W.ret ?_
  refine Fin.mk (Rsl.of2 rfl (.cell ⟨Tryz.isAgg85, Tryz.sizeOf85⟩ rfl (by repeat constructor) (by repeat constructor)) (.tmp rfl)) ⟨?_, rfl⟩ (by repeat constructor) (by repeat constructor)
  refine tupWB ?_ ?_ ?_
  ·simp only [IntKind.wrap_i64, IntKind.wrap_u64, wrapW]; have := bor_cases (a % 18446744073709551616) (b % 18446744073709551616 + 0); omega
  ·simp only [wrapW]; omega
  ·have h := beq_tt hq1; refine t_dec ?_; unfold InW; omega
 ·refine Aq (i := 9) rfl (Wn.run rfl rfl rfl hq1) rfl (fun _ => Yl.fieldL 0 (fa_85_0) rfl rfl) ?_
  refine Al (i := 10) rfl (Wn.run rfl rfl rfl hq1) rfl (by repeat constructor) (Yl.load1 Tryz.isAgg2 rfl .head (by repeat constructor)) ?_
  refine Aq (i := 11) rfl (Wn.run rfl rfl rfl hq1) rfl (fun _ => Yl.lss rfl rfl) ?_
  refine Aq (i := 12) rfl (Wn.run rfl rfl rfl hq1) rfl (fun _ => Yl.fieldL 0 (fa_85_0) rfl rfl) ?_
  refine Al (i := 13) rfl (Wn.run rfl rfl rfl hq1) rfl (by repeat constructor) (Yl.load1 Tryz.isAgg2 rfl .head (by repeat constructor)) ?_
  refine Aq (i := 14) rfl (Wn.run rfl rfl rfl hq1) rfl (fun _ => Yl.lss rfl rfl) ?_
  refine Aq (i := 15) rfl (Wn.run rfl rfl rfl hq1) rfl (fun _ => Yl.eqlb Tryz.underlying4 rfl rfl) ?_
  refine Aq (i := 16) rfl (Wn.plain rfl) rfl (fun _ => Yl.pick_false rfl hq1 rfl) ?_
  refine AW.step (i := 17) rfl (by kernel_rfl) (Wn.plain rfl) rfl (Ex.store Tryz.sizeOf85 rfl rfl (by constructor) (by repeat constructor) rfl (by repeat constructor) (by repeat constructor)) (.keep (by kernel_rfl) (.keep (by kernel_rfl) (.keep (by kernel_rfl) (.keep (by kernel_rfl) (.drop (by kernel_rfl) .nil))))) ?_
  rintro _ _ rfl; refine ⟨by repeat constructor, ?_⟩
  refine Aq (i := 18) rfl (Wn.plain rfl) rfl (fun _ => Yl.assign rfl) ?_
  refine AW.done (by kernel_rfl) ?_
  refine W.ret ?_
  refine Fin.mk (Rsl.of2 rfl (.cell ⟨Tryz.isAgg85, Tryz.sizeOf85⟩ rfl (by repeat constructor) (by repeat constructor)) (.tmp rfl)) ⟨?_, rfl⟩ (by repeat constructor) (by repeat constructor)
  refine tupWB ?_ ?_ ?_
  ·simp only [IntKind.wrap_i64, IntKind.wrap_u64, wrapW]; have := bor_cases (a % 18446744073709551616) (b % 18446744073709551616 + 0); omega
  ·simp only [wrapW]; omega
  ·have h := beq_ff hq1
   refine dec_eq (fun h1 => ?_) (fun h1 => ?_)
   ·have h2 := beq_tt h1; simp only [IntKind.wrap_i64, IntKind.wrap_u64, InW] at *; have := bor_cases (a % 18446744073709551616) (b % 18446744073709551616 + 0); omega
   ·have h2 := beq_ff h1; simp only [IntKind.wrap_i64, IntKind.wrap_u64, InW] at *; have := bor_cases (a % 18446744073709551616) (b % 18446744073709551616 + 0); omega
theorem c_Add (a b : Int) (ha : InW a) (hb : InW b) (hab : InW (a + b)) : FnV Tryz.prog 94 #[.agg (encW a).toArray, .agg (encW b).toArray] [] (.tuple #[.agg (encW (a + b)).toArray, .int .i64 0]) := by
 refine FnC.go (m := 14) Tryz.func94 Tryz.ntmps94 rfl (Nat.le_of_ble_eq_true rfl) (fun Lf => ?_)
 refine Wr ?_
 refine OW.box (Wn.plain rfl) rfl rfl (by constructor) (fun b1 => ?_)
 refine OW.box (Wn.plain rfl) rfl rfl (by constructor) (fun b2 => ?_)
 refine OW.alloc (Wn.plain rfl) rfl Tryz.zeroValue85 (by constructor) (fun b3 => ?_)
 refine Oy rfl (Yl.assign rfl) ?_
 refine OW.nil ?_
 refine Wr ?_
 refine Oy rfl (Yl.load ⟨Tryz.isAgg85, Tryz.sizeOf85⟩ rfl (by repeat constructor) (by repeat constructor)) ?_
 refine Oy rfl (Yl.load ⟨Tryz.isAgg85, Tryz.sizeOf85⟩ rfl (by repeat constructor) (by repeat constructor)) ?_
 refine OW.callv (Wn.plain rfl) rfl Tryz.call144 rfl (c_sum _ _ (by assumption) (by assumption)) (by repeat constructor) ?_
 refine Oy rfl (Yl.extract rfl (by repeat constructor)) ?_
 refine Oy rfl (Yl.extract rfl (by repeat constructor)) ?_
 refine OW.callv (Wn.plain rfl) rfl Tryz.call143 rfl (c_toldW _ _) (by repeat constructor) ?_
 refine Oy rfl (Yl.extract rfl (by repeat constructor)) ?_
 refine Oy rfl (Yl.extract rfl (by repeat constructor)) ?_
 refine OW.store (Wn.plain rfl) Tryz.sizeOf85 rfl rfl (by constructor) (by repeat constructor) rfl (by repeat constructor) (by repeat constructor) ?_
 refine Oy rfl (Yl.assign rfl) ?_
 refine OW.nil ?_
 refine W.ret ?_
 refine Fin.mk (Rsl.of2 rfl (.cell ⟨Tryz.isAgg85, Tryz.sizeOf85⟩ rfl (by repeat constructor) (by repeat constructor)) (.tmp rfl)) ⟨?_, rfl⟩ (by repeat constructor) (by repeat constructor)
 simp [hab, wrapW_in hab, encW]
theorem c_Sub (a b : Int) (ha : InW a) (hb : InW b) (hab : InW (a - b)) : FnV Tryz.prog 247 #[.agg (encW a).toArray, .agg (encW b).toArray] [] (.tuple #[.agg (encW (a - b)).toArray, .int .i64 0]) := by
 refine FnC.go (m := 14) Tryz.func247 Tryz.ntmps247 rfl (Nat.le_of_ble_eq_true rfl) (fun Lf => ?_)
 refine Wr ?_
 refine OW.box (Wn.plain rfl) rfl rfl (by constructor) (fun b1 => ?_)
 refine OW.box (Wn.plain rfl) rfl rfl (by constructor) (fun b2 => ?_)
 refine OW.alloc (Wn.plain rfl) rfl Tryz.zeroValue85 (by constructor) (fun b3 => ?_)
 refine Oy rfl (Yl.assign rfl) ?_
 refine OW.nil ?_
 refine Wr ?_
 refine Oy rfl (Yl.load ⟨Tryz.isAgg85, Tryz.sizeOf85⟩ rfl (by repeat constructor) (by repeat constructor)) ?_
 refine Oy rfl (Yl.load ⟨Tryz.isAgg85, Tryz.sizeOf85⟩ rfl (by repeat constructor) (by repeat constructor)) ?_
 refine OW.callv (Wn.plain rfl) rfl Tryz.call149 rfl (c_difference _ _ (by assumption) (by assumption)) (by repeat constructor) ?_
 refine Oy rfl (Yl.extract rfl (by repeat constructor)) ?_
 refine Oy rfl (Yl.extract rfl (by repeat constructor)) ?_
 refine OW.callv (Wn.plain rfl) rfl Tryz.call143 rfl (c_toldW _ _) (by repeat constructor) ?_
 refine Oy rfl (Yl.extract rfl (by repeat constructor)) ?_
 refine Oy rfl (Yl.extract rfl (by repeat constructor)) ?_
 refine OW.store (Wn.plain rfl) Tryz.sizeOf85 rfl rfl (by constructor) (by repeat constructor) rfl (by repeat constructor) (by repeat constructor) ?_
 refine Oy rfl (Yl.assign rfl) ?_
 refine OW.nil ?_
 refine W.ret ?_
 refine Fin.mk (Rsl.of2 rfl (.cell ⟨Tryz.isAgg85, Tryz.sizeOf85⟩ rfl (by repeat constructor) (by repeat constructor)) (.tmp rfl)) ⟨?_, rfl⟩ (by repeat constructor) (by repeat constructor)
 simp [hab, wrapW_in hab, encW]

def absW (n : Int) : Int := if n < 0 then -n else n
theorem absW_cases (n : Int) : (n < 0 ∧ absW n = -n) ∨ (0 ≤ n ∧ absW n = n) := by unfold absW; split <;> omega
theorem tup2i {a b c d : Int} (h1 : a = c) (h2 : b = d) : Value.tuple [.int .i64 a, .int .i64 b].toArray = .tuple [.int .i64 c, .int .i64 d].toArray := by rw [h1, h2]
theorem tup2u {a b c d : Int} (h1 : a = c) (h2 : b = d) : Value.tuple [.int .u64 a, .int .u64 b].toArray = .tuple [.int .u64 c, .int .u64 d].toArray := by rw [h1, h2]
theorem tup3u {a b c d x y : Int} (h1 : a = c) (h2 : b = d) (h3 : x = y) : Value.tuple [.int .u64 a, .int .u64 b, .int .u64 x].toArray = .tuple [.int .u64 c, .int .u64 d, .int .u64 y].toArray := by rw [h1, h2, h3]

theorem c_size (n : Int) (h : InW n) : FnV Tryz.prog 146 #[.agg (encW n).toArray] [] (.tuple #[.int .u64 (absW n / 18446744073709551616), .int .u64 (absW n % 18446744073709551616)]) := by
 refine FnC.go (m := 32) Tryz.func146 Tryz.ntmps146 rfl (Nat.le_of_ble_eq_true rfl) (fun Lf => ?_)
 unfold InW at h
 have hab := absW_cases n
 have hb := bor_cases 0 (n % 18446744073709551616 + 0)
 refine Wr ?_
 refine OW.box (Wn.plain rfl) rfl rfl (by constructor) (fun b1 => ?_)
 refine Oy rfl (Yl.assign rfl) ?_
 refine Oy rfl (Yl.assign rfl) ?_
 refine OW.nil ?_
 refine W.seq ?_
 refine Wr ?_
 refine Oy rfl (Yl.fieldL 0 (fa_85_0) rfl rfl) ?_
 refine Oy rfl (Yl.load1 Tryz.isAgg2 rfl (by repeat constructor) (by repeat constructor)) ?_
 refine Oy rfl (Yl.geq rfl rfl) ?_
 refine OW.nil ?_
 refine W.cond rfl (fun hq1 => ?_) (fun hq1 => ?_)
 ·have hq1d := of_decide_eq_true hq1
  refine W.seq ?_
  refine W.draw mixed ?_
  refine Aq (i := 0) rfl (Wn.plain rfl) rfl (fun _ => Yl.fieldL 0 (fa_85_0) rfl rfl) ?_
  refine Al (i := 1) rfl (Wn.plain rfl) rfl (by repeat constructor) (Yl.load1 Tryz.isAgg2 rfl .head (by repeat constructor)) ?_
  refine Aq (i := 2) rfl (Wn.plain rfl) rfl (fun _ => Yl.conv Tryz.underlying2 Tryz.underlying83 rfl rfl) ?_
  refine Aq (i := 3) rfl (Wn.plain rfl) rfl (fun _ => Yl.fieldL 1 (fa_85_1) rfl rfl) ?_
  refine Al (i := 4) rfl (Wn.plain rfl) rfl (by repeat constructor) (Yl.load1 Tryz.isAgg83 rfl .head (by repeat constructor)) ?_
  refine Aq (i := 5) rfl (Wn.plain rfl) rfl (fun _ => Yl.assign rfl) ?_
  refine Aq (i := 6) rfl (Wn.plain rfl) rfl (fun _ => Yl.assign rfl) ?_
  refine AW.done (by kernel_rfl) ?_
  refine W.ret ?_
  refine Fin.mk (Rsl.two rfl rfl rfl) ⟨?_, rfl⟩ (by repeat constructor) (by repeat constructor)
  refine tup2u ?_ ?_
  ·simp only [IntKind.wrap_u64]; omega
  ·omega
 ·have hq1d := of_decide_eq_false hq1
  refine W.skip ?_
  refine Wr ?_
  refine Oy rfl (Yl.fieldL 1 (fa_85_1) rfl rfl) ?_
  refine Oy rfl (Yl.load1 Tryz.isAgg83 rfl (by repeat constructor) (by repeat constructor)) ?_
  refine OW.call (Wn.plain rfl) rfl rfl rfl (x_Sub64 _ _ _ (by omega) (by  omega) (by  omega) (by omega) (by omega)) (by repeat constructor) ?_
  rintro _ _ ⟨rfl, rfl⟩
  refine Oy rfl (Yl.move rfl) ?_
  refine Oy rfl (Yl.extract rfl (by repeat constructor)) ?_
  refine Oy rfl (Yl.extract rfl (by repeat constructor)) ?_
  refine Oy rfl (Yl.assign rfl) ?_
  refine Oy rfl (Yl.assign rfl) ?_
  refine OW.nil ?_
  refine Wr ?_
  refine Oy rfl (Yl.fieldL 0 (fa_85_0) rfl rfl) ?_
  refine Oy rfl (Yl.load1 Tryz.isAgg2 rfl (by repeat constructor) (by repeat constructor)) ?_
  refine Oy rfl (Yl.conv Tryz.underlying2 Tryz.underlying83 rfl rfl) ?_
  refine Oy rfl (Yl.move rfl) ?_
  refine OW.call (Wn.plain rfl) rfl rfl rfl (x_Sub64 _ _ _ (by omega) (by rw [IntKind.wrap_u64]; omega) (by rw [IntKind.wrap_u64]; omega) (by omega) (by omega)) (by repeat constructor) ?_
  rintro _ _ ⟨rfl, rfl⟩
  refine Oy rfl (Yl.move rfl) ?_
  refine Oy rfl (Yl.extract rfl (by repeat constructor)) ?_
  refine Oy rfl (Yl.extract rfl (by repeat constructor)) ?_
  refine Oy rfl (Yl.assign rfl) ?_
  refine Oy rfl (Yl.assign rfl) ?_
  refine OW.nil ?_
  refine Wr ?_
  refine Oy rfl (Yl.move rfl) ?_
  refine Oy rfl (Yl.move rfl) ?_
  refine Oy rfl (Yl.assign rfl) ?_
  refine Oy rfl (Yl.assign rfl) ?_
  refine OW.nil ?_
  refine W.ret ?_
  refine Fin.mk (Rsl.two rfl rfl rfl) ⟨?_, rfl⟩ (by repeat constructor) (by repeat constructor)
  refine tup2u ?_ ?_
  ·simp only [IntKind.wrap_u64]; omega
  ·omega

theorem agg_raw {a b n : Int} (h1 : a = n / 18446744073709551616) (h2 : b = n % 18446744073709551616) : Value.agg #[.int .i64 a, .int .u64 b] = .agg (encW n).toArray := by rw [h1, h2]; rfl

theorem c_signed (below : Bool) (m : Int) (h0 : 0 ≤ m) (h1 : m ≤ 340282366920938463463374607431768211455) : FnV Tryz.prog 148 #[.bool below, .int .u64 (m / 18446744073709551616), .int .u64 (m % 18446744073709551616)] [] (.tuple #[.agg (encW (wrapW (if below then -m else m))).toArray, .bool (decide (InW (if below then -m else m)))]) := by
 refine FnC.go (m := 38) Tryz.func148 Tryz.ntmps148 rfl (Nat.le_of_ble_eq_true rfl) (fun Lf => ?_)
 refine Wr ?_
 refine OW.alloc (Wn.plain rfl) rfl Tryz.zeroValue85 (by constructor) (fun b1 => ?_)
 refine Oy rfl (Yl.assign rfl) ?_
 refine OW.nil ?_
 refine W.seq ?_
 refine Wr ?_
 refine Oy rfl (Yl.move rfl) ?_
 refine Oy rfl (Yl.not rfl) ?_
 refine OW.nil ?_
 refine W.cond rfl (fun hq1 => ?_) (fun hq1 => ?_)
 ·have hq1n := not_t hq1
  refine Wr ?_
  refine Oy rfl (Yl.move rfl) ?_
  refine Oy rfl (Yl.conv Tryz.underlying83 Tryz.underlying2 rfl rfl) ?_
  refine Oy rfl (Yl.move rfl) ?_
  refine Oy rfl (Yl.build (is := [0, 1]) (xs := [.tmp 13, .tmp 14]) st_85 rfl rfl (by repeat constructor)) ?_
  refine Oy rfl (Yl.move rfl) ?_
  refine Oy rfl (Yl.lss rfl rfl) ?_
  refine OW.store (Wn.plain rfl) Tryz.sizeOf85 rfl rfl (by constructor) (by repeat constructor) rfl (by repeat constructor) (by repeat constructor) ?_
  refine Oy rfl (Yl.assign rfl) ?_
  refine OW.nil ?_
  refine W.ret ?_
  refine Fin.mk (Rsl.of2 rfl (.cell ⟨Tryz.isAgg85, Tryz.sizeOf85⟩ rfl (by repeat constructor) (by repeat constructor)) (.tmp rfl)) ⟨?_, rfl⟩ (by repeat constructor) (by repeat constructor)
  have hb : below = false := by simpa using hq1
  subst hb
  refine tupWB ?_ ?_ ?_
  ·simp only [IntKind.wrap_i64, wrapW]; simp; omega
  ·simp only [wrapW]; simp; omega
  ·refine dec_eq (fun h2 => ?_) (fun h2 => ?_)
   ·have h3 := of_decide_eq_true h2; simp only [InW]; simp; omega
   ·have h3 := of_decide_eq_false h2; simp only [InW]; simp; omega
 ·have hq1n := not_f hq1
  refine W.skip ?_
  refine Wr ?_
  refine Oy rfl (Yl.build (is := []) (xs := []) st_85 rfl rfl (by repeat constructor)) ?_
  refine Oy rfl (Yl.move rfl) ?_
  refine Oy rfl (Yl.conv Tryz.underlying83 Tryz.underlying2 rfl rfl) ?_
  refine Oy rfl (Yl.move rfl) ?_
  refine Oy rfl (Yl.build (is := [0, 1]) (xs := [.tmp 21, .tmp 22]) st_85 rfl rfl (by repeat constructor)) ?_
  refine OW.callv (Wn.plain rfl) rfl Tryz.call149 rfl (by rw [agg_raw (n := 0) (by omega) (by omega), agg_raw (n := wrapW m) (by simp only [IntKind.wrap_i64, wrapW]; omega) (by simp only [wrapW]; omega)]; exact c_difference 0 (wrapW m) (by unfold InW; omega) (in_wrapW m)) (by repeat constructor) ?_
  refine Oy rfl (Yl.move rfl) ?_
  refine Oy rfl (Yl.extract rfl (by repeat constructor)) ?_
  refine Oy rfl (Yl.extract rfl (by repeat constructor)) ?_
  refine OW.alloc (Wn.plain rfl) rfl Tryz.zeroValue85 (by constructor) (fun b2 => ?_)
  refine OW.store (Wn.plain rfl) Tryz.sizeOf85 rfl rfl (by constructor) (by repeat constructor) rfl (by repeat constructor) (by repeat constructor) ?_
  refine Oy rfl (Yl.assign rfl) ?_
  refine OW.nil ?_
  refine Wr ?_
  refine Oy rfl (Yl.load ⟨Tryz.isAgg85, Tryz.sizeOf85⟩ rfl (by repeat constructor) (by repeat constructor)) ?_
  refine Oy rfl (Yl.move rfl) ?_
  refine Oy rfl (Yl.lss rfl rfl) ?_
  refine Oy rfl (Yl.move rfl) ?_
  refine OW.split (t := 30) rfl (fun hq2 => ?_) (fun hq2 => ?_)
  ·have hq2d := of_decide_eq_true hq2
   refine OW.not (Wn.not rfl rfl rfl hq2) rfl ?_
   refine OW.not (Wn.not rfl rfl rfl hq2) rfl ?_
   refine OW.not (Wn.not rfl rfl rfl hq2) rfl ?_
   refine OW.not (Wn.nob rfl rfl rfl) rfl ?_
   refine OW.not (Wn.nob rfl rfl rfl) rfl ?_
   refine OW.not (Wn.not rfl rfl rfl hq2) rfl ?_
   refine Oy rfl (Yl.pick_true rfl hq2 rfl) ?_
   refine OW.store (Wn.plain rfl) Tryz.sizeOf85 rfl rfl (by constructor) (by repeat constructor) rfl (by repeat constructor) (by repeat constructor) ?_
   refine Oy rfl (Yl.assign rfl) ?_
   refine OW.nil ?_
   refine W.ret ?_
   refine Fin.mk (Rsl.of2 rfl (.cell ⟨Tryz.isAgg85, Tryz.sizeOf85⟩ rfl (by repeat constructor) (by repeat constructor)) (.tmp rfl)) ⟨?_, rfl⟩ (by repeat constructor) (by repeat constructor)
   have hb : below = true := by simpa using hq1
   subst hb
   refine tupWB ?_ ?_ ?_
   ·simp only [wrapW]; simp; omega
   ·simp only [wrapW]; simp; omega
   ·refine t_dec ?_; simp only [InW]; simp; omega
  ·have hq2d := of_decide_eq_false hq2
   refine OW.yl (Wn.run rfl rfl rfl hq2) rfl (Yl.move rfl) ?_
   refine OW.yl (Wn.run rfl rfl rfl hq2) rfl (Yl.eql rfl rfl) ?_
   refine OW.yl (Wn.run rfl rfl rfl hq2) rfl (Yl.move rfl) ?_
   refine OW.split (t := 33) rfl (fun hq3 => ?_) (fun hq3 => ?_)
   ·have hq3d := of_decide_eq_true hq3
    refine OW.yl (Wn.run rfl rfl rfl hq3) rfl (Yl.move rfl) ?_
    refine OW.yl (Wn.run rfl rfl rfl hq3) rfl (Yl.eql rfl rfl) ?_
    refine OW.yl (Wn.run rfl rfl rfl hq2) rfl (Yl.pick_true rfl hq3 rfl) ?_
    refine Oy rfl (Yl.pick_false rfl hq2 rfl) ?_
    refine OW.store (Wn.plain rfl) Tryz.sizeOf85 rfl rfl (by constructor) (by repeat constructor) rfl (by repeat constructor) (by repeat constructor) ?_
    refine Oy rfl (Yl.assign rfl) ?_
    refine OW.nil ?_
    refine W.ret ?_
    refine Fin.mk (Rsl.of2 rfl (.cell ⟨Tryz.isAgg85, Tryz.sizeOf85⟩ rfl (by repeat constructor) (by repeat constructor)) (.tmp rfl)) ⟨?_, rfl⟩ (by repeat constructor) (by repeat constructor)
    have hb : below = true := by simpa using hq1
    subst hb
    refine tupWB ?_ ?_ ?_
    ·simp only [wrapW]; simp; omega
    ·simp only [wrapW]; simp; omega
    ·refine dec_eq (fun h2 => ?_) (fun h2 => ?_)
     ·have h3 := of_decide_eq_true h2; simp only [InW]; simp; omega
     ·have h3 := of_decide_eq_false h2; simp only [InW]; simp; omega
   ·have hq3d := of_decide_eq_false hq3
    refine OW.not (Wn.not rfl rfl rfl hq3) rfl ?_
    refine OW.not (Wn.not rfl rfl rfl hq3) rfl ?_
    refine OW.yl (Wn.run rfl rfl rfl hq2) rfl (Yl.pick_false rfl hq3 rfl) ?_
    refine Oy rfl (Yl.pick_false rfl hq2 rfl) ?_
    refine OW.store (Wn.plain rfl) Tryz.sizeOf85 rfl rfl (by constructor) (by repeat constructor) rfl (by repeat constructor) (by repeat constructor) ?_
    refine Oy rfl (Yl.assign rfl) ?_
    refine OW.nil ?_
    refine W.ret ?_
    refine Fin.mk (Rsl.of2 rfl (.cell ⟨Tryz.isAgg85, Tryz.sizeOf85⟩ rfl (by repeat constructor) (by repeat constructor)) (.tmp rfl)) ⟨?_, rfl⟩ (by repeat constructor) (by repeat constructor)
    have hb : below = true := by simpa using hq1
    subst hb
    refine tupWB ?_ ?_ ?_
    ·simp only [wrapW]; simp; omega
    ·simp only [wrapW]; simp; omega
    ·refine f_dec ?_; simp only [InW]; simp; omega

theorem mul_split (x1 x0 y1 y0 : Int) : (x1*4294967296 + x0)*(y1*4294967296+y0) = x1*y1*18446744073709551616 + (x1*y0 + x0*y1)*4294967296 + x0*y0 := by grind
theorem mul_parts (x y : Int) : x * y = (x / 4294967296) * (y / 4294967296) * 18446744073709551616 + ((x / 4294967296) * (y % 4294967296) + (x % 4294967296) * (y / 4294967296)) * 4294967296 + (x % 4294967296) * (y % 4294967296) := by
 have := mul_split (x / 4294967296) (x % 4294967296) (y / 4294967296) (y % 4294967296)
 rwa [show x / 4294967296 * 4294967296 + x % 4294967296 = x from by omega, show y / 4294967296 * 4294967296 + y % 4294967296 = y from by omega] at this
theorem half_mul {a b : Int} (h1 : 0 ≤ a) (h2 : a < 4294967296) (h3 : 0 ≤ b) (h4 : b < 4294967296) : 0 ≤ a * b ∧ a * b ≤ 18446744065119617025 := by
 refine ⟨Int.mul_nonneg h1 h3, ?_⟩
 have := Int.mul_le_mul (show a ≤ 4294967295 by omega) (show b ≤ 4294967295 by omega) h3 (by decide)
 omega
theorem u64_in {n : Int} (h1 : 0 ≤ n) (h2 : n < 18446744073709551616) : IntKind.u64.wrap n = n := by rw [IntKind.wrap_u64]; omega
theorem and32 {a : Int} (h1 : 0 ≤ a) (h2 : a < 18446744073709551616) : Go.bits .and .u64 a 4294967295 = a % 4294967296 := by
 obtain ⟨a, rfl⟩ := Int.eq_ofNat_of_zero_le h1
 have h := bits_and_u64_nat a 4294967295 (by omega) (by omega)
 have e : a &&& 4294967295 = a % 4294967296 := Nat.and_two_pow_sub_one_eq_mod a 32
 rw [e] at h
 exact h

theorem c_Mul64 (x y : Int) (hx : 0 ≤ x) (hx2 : x < 18446744073709551616) (hy : 0 ≤ y) (hy2 : y < 18446744073709551616) : FnV Tryz.prog 145 #[.int .u64 x, .int .u64 y] [] (.tuple #[.int .u64 (x * y / 18446744073709551616), .int .u64 (x * y % 18446744073709551616)]) := by
 refine FnC.go (m := 51) Tryz.func145 Tryz.ntmps145 rfl (Nat.le_of_ble_eq_true rfl) (fun Lf => ?_)
 have e := mul_parts x y
 have m00 := half_mul (a := x % 4294967296) (b := y % 4294967296) (by omega) (by omega) (by omega) (by omega)
 have m10 := half_mul (a := x / 4294967296) (b := y % 4294967296) (by omega) (by omega) (by omega) (by omega)
 have m01 := half_mul (a := x % 4294967296) (b := y / 4294967296) (by omega) (by omega) (by omega) (by omega)
 have m11 := half_mul (a := x / 4294967296) (b := y / 4294967296) (by omega) (by omega) (by omega) (by omega)
 refine Wr ?_
 refine Oy rfl (Yl.assign rfl) ?_
 refine Oy rfl (Yl.assign rfl) ?_
 refine OW.nil ?_
 refine Wr ?_
 refine Oy rfl (Yl.move rfl) ?_
 refine Oy rfl (Yl.bits (op := .and) rfl rfl rfl (and32 (by omega) (by omega))) ?_
 refine Oy rfl (Yl.assign rfl) ?_
 refine OW.nil ?_
 refine Wr ?_
 refine Oy rfl (Yl.move rfl) ?_
 refine Oy rfl (Yl.shr 32 4294967296 rfl rfl rfl (by decide) (by decide)) ?_
 refine Oy rfl (Yl.assign rfl) ?_
 refine OW.nil ?_
 refine Wr ?_
 refine Oy rfl (Yl.move rfl) ?_
 refine Oy rfl (Yl.bits (op := .and) rfl rfl rfl (and32 (by omega) (by omega))) ?_
 refine Oy rfl (Yl.assign rfl) ?_
 refine OW.nil ?_
 refine Wr ?_
 refine Oy rfl (Yl.move rfl) ?_
 refine Oy rfl (Yl.shr 32 4294967296 rfl rfl rfl (by decide) (by decide)) ?_
 refine Oy rfl (Yl.assign rfl) ?_
 refine OW.nil ?_
 refine Wr ?_
 refine Oy rfl (Yl.move rfl) ?_
 refine Oy rfl (Yl.move rfl) ?_
 refine Oy rfl (Yl.mulW rfl rfl (u64_in (by omega) (by omega))) ?_
 refine Oy rfl (Yl.assign rfl) ?_
 refine OW.nil ?_
 refine Wr ?_
 refine Oy rfl (Yl.move rfl) ?_
 refine Oy rfl (Yl.move rfl) ?_
 refine Oy rfl (Yl.mulW rfl rfl (u64_in (by omega) (by omega))) ?_
 refine Oy rfl (Yl.move rfl) ?_
 refine Oy rfl (Yl.shr 32 4294967296 rfl rfl rfl (by decide) (by decide)) ?_
 refine Oy rfl (Yl.addW rfl rfl (u64_in (by omega) (by omega))) ?_
 refine Oy rfl (Yl.assign rfl) ?_
 refine OW.nil ?_
 refine Wr ?_
 refine Oy rfl (Yl.move rfl) ?_
 refine Oy rfl (Yl.bits (op := .and) rfl rfl rfl (and32 (by omega) (by omega))) ?_
 refine Oy rfl (Yl.assign rfl) ?_
 refine OW.nil ?_
 refine Wr ?_
 refine Oy rfl (Yl.move rfl) ?_
 refine Oy rfl (Yl.shr 32 4294967296 rfl rfl rfl (by decide) (by decide)) ?_
 refine Oy rfl (Yl.assign rfl) ?_
 refine OW.nil ?_
 refine Wr ?_
 refine Oy rfl (Yl.move rfl) ?_
 refine Oy rfl (Yl.move rfl) ?_
 refine Oy rfl (Yl.move rfl) ?_
 refine Oy rfl (Yl.mulW rfl rfl (u64_in (by omega) (by omega))) ?_
 refine Oy rfl (Yl.addW rfl rfl (u64_in (by omega) (by omega))) ?_
 refine Oy rfl (Yl.assign rfl) ?_
 refine OW.nil ?_
 refine Wr ?_
 refine Oy rfl (Yl.move rfl) ?_
 refine Oy rfl (Yl.move rfl) ?_
 refine Oy rfl (Yl.mulW rfl rfl (u64_in (by omega) (by omega))) ?_
 refine Oy rfl (Yl.move rfl) ?_
 refine Oy rfl (Yl.addW rfl rfl (u64_in (by omega) (by omega))) ?_
 refine Oy rfl (Yl.move rfl) ?_
 refine Oy rfl (Yl.shr 32 4294967296 rfl rfl rfl (by decide) (by decide)) ?_
 refine Oy rfl (Yl.addW rfl rfl (u64_in (by omega) (by omega))) ?_
 refine Oy rfl (Yl.assign rfl) ?_
 refine OW.nil ?_
 refine Wr ?_
 refine Oy rfl (Yl.move rfl) ?_
 refine Oy rfl (Yl.move rfl) ?_
 refine Oy rfl (Yl.mulW rfl rfl rfl) ?_
 refine Oy rfl (Yl.assign rfl) ?_
 refine OW.nil ?_
 refine W.ret ?_
 refine Fin.mk (Rsl.two rfl rfl rfl) ⟨?_, rfl⟩ (by repeat constructor) (by repeat constructor)
 refine tup2u ?_ ?_
 ·omega
 ·rw [IntKind.wrap_u64]

theorem mulW_aux (a b : Int) (ha : -9223372036854775808 ≤ a) (ha2 : a ≤ 9223372036854775807) (hb : -9223372036854775808 ≤ b) (hb2 : b ≤ 9223372036854775807) :
  (a < 0 ∧ b < 0 ∧ (a % 18446744073709551616) * (b % 18446744073709551616) = a * b + 18446744073709551616 * b + 18446744073709551616 * a + 340282366920938463463374607431768211456) ∨
  (a < 0 ∧ ¬ b < 0 ∧ (a % 18446744073709551616) * (b % 18446744073709551616) = a * b + 18446744073709551616 * b) ∨
  (¬ a < 0 ∧ b < 0 ∧ (a % 18446744073709551616) * (b % 18446744073709551616) = a * b + 18446744073709551616 * a) ∨
  (¬ a < 0 ∧ ¬ b < 0 ∧ (a % 18446744073709551616) * (b % 18446744073709551616) = a * b) := by
 by_cases h1 : a < 0 <;> by_cases h2 : b < 0 <;> simp only [h1, h2, not_true, not_false_iff, true_and, false_and, or_false, false_or, and_self]
 ·rw [show a % 18446744073709551616 = a + 18446744073709551616 from by omega, show b % 18446744073709551616 = b + 18446744073709551616 from by omega]; grind
 ·rw [show a % 18446744073709551616 = a + 18446744073709551616 from by omega, show b % 18446744073709551616 = b from by omega]; grind
 ·rw [show a % 18446744073709551616 = a from by omega, show b % 18446744073709551616 = b + 18446744073709551616 from by omega]; grind
 ·rw [show a % 18446744073709551616 = a from by omega, show b % 18446744073709551616 = b from by omega]
theorem mul_bound {a b : Int} (ha : -9223372036854775808 ≤ a) (ha2 : a ≤ 9223372036854775807) (hb : -9223372036854775808 ≤ b) (hb2 : b ≤ 9223372036854775807) :
  -85070591730234615865843651857942052864 ≤ a * b ∧ a * b ≤ 85070591730234615865843651857942052864 := by
 have h : a.natAbs * b.natAbs ≤ 9223372036854775808 * 9223372036854775808 := Nat.mul_le_mul (by omega) (by omega)
 have h2 : (a * b).natAbs = a.natAbs * b.natAbs := Int.natAbs_mul a b
 omega
theorem c_Mul (a b : Int) (ha : -9223372036854775808 ≤ a) (ha2 : a ≤ 9223372036854775807) (hb : -9223372036854775808 ≤ b) (hb2 : b ≤ 9223372036854775807) : FnV Tryz.prog 95 #[.int .i64 a, .int .i64 b] [] (.agg (encW (a * b)).toArray) := by
 refine FnC.go (m := 31) Tryz.func95 Tryz.ntmps95 rfl (Nat.le_of_ble_eq_true rfl) (fun Lf => ?_)
 have e := mulW_aux a b ha ha2 hb hb2
 have e2 := mul_bound ha ha2 hb hb2
 refine Wr ?_
 refine OW.alloc (Wn.plain rfl) rfl Tryz.zeroValue85 (by constructor) (fun b1 => ?_)
 refine OW.nil ?_
 refine Wr ?_
 refine Oy rfl (Yl.move rfl) ?_
 refine Oy rfl (Yl.conv Tryz.underlying2 Tryz.underlying83 rfl rfl) ?_
 refine Oy rfl (Yl.move rfl) ?_
 refine Oy rfl (Yl.conv Tryz.underlying2 Tryz.underlying83 rfl rfl) ?_
 refine OW.callv (Wn.plain rfl) rfl Tryz.call145 rfl (c_Mul64 _ _ (by rw [IntKind.wrap_u64]; omega) (by rw [IntKind.wrap_u64]; omega) (by rw [IntKind.wrap_u64]; omega) (by rw [IntKind.wrap_u64]; omega)) (by repeat constructor) ?_
 refine Oy rfl (Yl.move rfl) ?_
 refine Oy rfl (Yl.extract rfl (by repeat constructor)) ?_
 refine Oy rfl (Yl.extract rfl (by repeat constructor)) ?_
 refine Oy rfl (Yl.assign rfl) ?_
 refine Oy rfl (Yl.assign rfl) ?_
 refine OW.nil ?_
 refine W.seq ?_
 refine Wr ?_
 refine Oy rfl (Yl.move rfl) ?_
 refine Oy rfl (Yl.lss rfl rfl) ?_
 refine OW.nil ?_
 refine W.cond rfl (fun hq1 => ?_) (fun hq1 => ?_)
 ·have hq1d := of_decide_eq_true hq1
  refine W.region ?_
  refine Oy rfl (Yl.move rfl) ?_
  refine Oy rfl (Yl.move rfl) ?_
  refine Oy rfl (Yl.conv Tryz.underlying2 Tryz.underlying83 rfl rfl) ?_
  refine Oy rfl (Yl.subW rfl rfl rfl) ?_
  refine Oy rfl (Yl.assign rfl) ?_
  refine OW.nil ?_
  refine W.seq ?_
  refine Wr ?_
  refine Oy rfl (Yl.move rfl) ?_
  refine Oy rfl (Yl.lss rfl rfl) ?_
  refine OW.nil ?_
  refine W.cond rfl (fun hq2 => ?_) (fun hq2 => ?_)
  ·have hq2d := of_decide_eq_true hq2
   refine W.region ?_
   refine Oy rfl (Yl.move rfl) ?_
   refine Oy rfl (Yl.move rfl) ?_
   refine Oy rfl (Yl.conv Tryz.underlying2 Tryz.underlying83 rfl rfl) ?_
   refine Oy rfl (Yl.subW rfl rfl rfl) ?_
   refine Oy rfl (Yl.assign rfl) ?_
   refine OW.nil ?_
   refine Wr ?_
   refine Oy rfl (Yl.move rfl) ?_
   refine Oy rfl (Yl.conv Tryz.underlying83 Tryz.underlying2 rfl rfl) ?_
   refine Oy rfl (Yl.move rfl) ?_
   refine Oy rfl (Yl.build (is := [0, 1]) (xs := [.tmp 28, .tmp 29]) st_85 rfl rfl (by repeat constructor)) ?_
   refine OW.store (Wn.plain rfl) Tryz.sizeOf85 rfl rfl (by constructor) (by repeat constructor) rfl (by repeat constructor) (by repeat constructor) ?_
   refine OW.nil ?_
   refine W.ret ?_
   refine Fin.mk (Rsl.of1 rfl (.cell ⟨Tryz.isAgg85, Tryz.sizeOf85⟩ rfl (by repeat constructor) (by repeat constructor))) ⟨?_, rfl⟩ (by repeat constructor) (by repeat constructor)
   simp only [IntKind.wrap_u64, IntKind.wrap_i64]
   refine agg_encW ?_ ?_ <;> omega
  ·have hq2d := of_decide_eq_false hq2
   refine W.skip ?_
   refine Wr ?_
   refine Oy rfl (Yl.move rfl) ?_
   refine Oy rfl (Yl.conv Tryz.underlying83 Tryz.underlying2 rfl rfl) ?_
   refine Oy rfl (Yl.move rfl) ?_
   refine Oy rfl (Yl.build (is := [0, 1]) (xs := [.tmp 28, .tmp 29]) st_85 rfl rfl (by repeat constructor)) ?_
   refine OW.store (Wn.plain rfl) Tryz.sizeOf85 rfl rfl (by constructor) (by repeat constructor) rfl (by repeat constructor) (by repeat constructor) ?_
   refine OW.nil ?_
   refine W.ret ?_
   refine Fin.mk (Rsl.of1 rfl (.cell ⟨Tryz.isAgg85, Tryz.sizeOf85⟩ rfl (by repeat constructor) (by repeat constructor))) ⟨?_, rfl⟩ (by repeat constructor) (by repeat constructor)
   simp only [IntKind.wrap_u64, IntKind.wrap_i64]
   refine agg_encW ?_ ?_ <;> omega
 ·have hq1d := of_decide_eq_false hq1
  refine W.skip ?_
  refine W.seq ?_
  refine Wr ?_
  refine Oy rfl (Yl.move rfl) ?_
  refine Oy rfl (Yl.lss rfl rfl) ?_
  refine OW.nil ?_
  refine W.cond rfl (fun hq3 => ?_) (fun hq3 => ?_)
  ·have hq3d := of_decide_eq_true hq3
   refine W.region ?_
   refine Oy rfl (Yl.move rfl) ?_
   refine Oy rfl (Yl.move rfl) ?_
   refine Oy rfl (Yl.conv Tryz.underlying2 Tryz.underlying83 rfl rfl) ?_
   refine Oy rfl (Yl.subW rfl rfl rfl) ?_
   refine Oy rfl (Yl.assign rfl) ?_
   refine OW.nil ?_
   refine Wr ?_
   refine Oy rfl (Yl.move rfl) ?_
   refine Oy rfl (Yl.conv Tryz.underlying83 Tryz.underlying2 rfl rfl) ?_
   refine Oy rfl (Yl.move rfl) ?_
   refine Oy rfl (Yl.build (is := [0, 1]) (xs := [.tmp 28, .tmp 29]) st_85 rfl rfl (by repeat constructor)) ?_
   refine OW.store (Wn.plain rfl) Tryz.sizeOf85 rfl rfl (by constructor) (by repeat constructor) rfl (by repeat constructor) (by repeat constructor) ?_
   refine OW.nil ?_
   refine W.ret ?_
   refine Fin.mk (Rsl.of1 rfl (.cell ⟨Tryz.isAgg85, Tryz.sizeOf85⟩ rfl (by repeat constructor) (by repeat constructor))) ⟨?_, rfl⟩ (by repeat constructor) (by repeat constructor)
   simp only [IntKind.wrap_u64, IntKind.wrap_i64]
   refine agg_encW ?_ ?_ <;> omega
  ·have hq3d := of_decide_eq_false hq3
   refine W.skip ?_
   refine Wr ?_
   refine Oy rfl (Yl.move rfl) ?_
   refine Oy rfl (Yl.conv Tryz.underlying83 Tryz.underlying2 rfl rfl) ?_
   refine Oy rfl (Yl.move rfl) ?_
   refine Oy rfl (Yl.build (is := [0, 1]) (xs := [.tmp 28, .tmp 29]) st_85 rfl rfl (by repeat constructor)) ?_
   refine OW.store (Wn.plain rfl) Tryz.sizeOf85 rfl rfl (by constructor) (by repeat constructor) rfl (by repeat constructor) (by repeat constructor) ?_
   refine OW.nil ?_
   refine W.ret ?_
   refine Fin.mk (Rsl.of1 rfl (.cell ⟨Tryz.isAgg85, Tryz.sizeOf85⟩ rfl (by repeat constructor) (by repeat constructor))) ⟨?_, rfl⟩ (by repeat constructor) (by repeat constructor)
   simp only [IntKind.wrap_u64, IntKind.wrap_i64]
   refine agg_encW ?_ ?_ <;> omega
theorem c_Compare (a b : Int) : FnV Tryz.prog 49 #[.agg (encW a).toArray, .agg (encW b).toArray] [] (.int .i64 (cmpI a b)) := by
 refine FnC.go (m := 29) Tryz.func49 Tryz.ntmps49 rfl (Nat.le_of_ble_eq_true rfl) (fun Lf => ?_)
 refine Wr ?_
 refine OW.box (Wn.plain rfl) rfl rfl (by constructor) (fun b1 => ?_)
 refine OW.box (Wn.plain rfl) rfl rfl (by constructor) (fun b2 => ?_)
 refine Oy rfl (Yl.assign rfl) ?_
 refine OW.nil ?_
 refine W.seq ?_
 refine W.block ?_
 refine Wr ?_
 refine Oy rfl (Yl.load ⟨Tryz.isAgg85, Tryz.sizeOf85⟩ rfl (by repeat constructor) (by repeat constructor)) ?_
 refine Oy rfl (Yl.load ⟨Tryz.isAgg85, Tryz.sizeOf85⟩ rfl (by repeat constructor) (by repeat constructor)) ?_
 refine Oy rfl (Yl.eqW rfl rfl) ?_
 refine Oy rfl (Yl.assign rfl) ?_
 refine OW.nil ?_
 refine W.cond rfl (fun hq1 => ?_) (fun hq1 => ?_)
 ·have hq1d := of_decide_eq_true hq1
  refine Wr ?_
  refine Oy rfl (Yl.assign rfl) ?_
  refine OW.nil ?_
  refine W.ret ?_
  refine Fin.mk (Rsl.one rfl rfl) ⟨?_, rfl⟩ (by repeat constructor) (by repeat constructor)
  refine intv ?_
  unfold cmpI
  (repeat' split) <;> omega
 ·have hq1d := of_decide_eq_false hq1
  refine Wr ?_
  refine Oy rfl (Yl.fieldL 0 (fa_85_0) rfl rfl) ?_
  refine Oy rfl (Yl.load1 Tryz.isAgg2 rfl (by repeat constructor) (by repeat constructor)) ?_
  refine Oy rfl (Yl.fieldL 0 (fa_85_0) rfl rfl) ?_
  refine Oy rfl (Yl.load1 Tryz.isAgg2 rfl (by repeat constructor) (by repeat constructor)) ?_
  refine Oy rfl (Yl.lss rfl rfl) ?_
  refine Oy rfl (Yl.move rfl) ?_
  refine OW.split (t := 15) rfl (fun hq2 => ?_) (fun hq2 => ?_)
  ·have hq2d := of_decide_eq_true hq2
   refine OW.not (Wn.not rfl rfl rfl hq2) rfl ?_
   refine OW.not (Wn.not rfl rfl rfl hq2) rfl ?_
   refine OW.not (Wn.not rfl rfl rfl hq2) rfl ?_
   refine OW.not (Wn.not rfl rfl rfl hq2) rfl ?_
   refine OW.not (Wn.not rfl rfl rfl hq2) rfl ?_
   refine OW.not (Wn.not rfl rfl rfl hq2) rfl ?_
   refine OW.not (Wn.nob rfl rfl rfl) rfl ?_
   refine OW.not (Wn.nob rfl rfl rfl) rfl ?_
   refine OW.not (Wn.nob rfl rfl rfl) rfl ?_
   refine OW.not (Wn.nob rfl rfl rfl) rfl ?_
   refine OW.not (Wn.nob rfl rfl rfl) rfl ?_
   refine OW.not (Wn.not rfl rfl rfl hq2) rfl ?_
   refine Oy rfl (Yl.pick_true rfl hq2 rfl) ?_
   refine Oy rfl (Yl.assign rfl) ?_
   refine OW.nil ?_
   refine W.cond_true rfl ?_
   refine Wr ?_
   refine Oy rfl (Yl.assign rfl) ?_
   refine OW.nil ?_
   refine W.ret ?_
   refine Fin.mk (Rsl.one rfl rfl) ⟨?_, rfl⟩ (by repeat constructor) (by repeat constructor)
   refine intv ?_
   unfold cmpI
   (repeat' split) <;> omega
  ·have hq2d := of_decide_eq_false hq2
   refine OW.yl (Wn.run rfl rfl rfl hq2) rfl (Yl.fieldL 0 (fa_85_0) rfl rfl) ?_
   refine OW.yl (Wn.run rfl rfl rfl hq2) rfl (Yl.load1 Tryz.isAgg2 rfl (by repeat constructor) (by repeat constructor)) ?_
   refine OW.yl (Wn.run rfl rfl rfl hq2) rfl (Yl.fieldL 0 (fa_85_0) rfl rfl) ?_
   refine OW.yl (Wn.run rfl rfl rfl hq2) rfl (Yl.load1 Tryz.isAgg2 rfl (by repeat constructor) (by repeat constructor)) ?_
   refine OW.yl (Wn.run rfl rfl rfl hq2) rfl (Yl.eql rfl rfl) ?_
   refine OW.yl (Wn.run rfl rfl rfl hq2) rfl (Yl.move rfl) ?_
   refine OW.split (t := 21) rfl (fun hq3 => ?_) (fun hq3 => ?_)
   ·have hq3d := of_decide_eq_true hq3
    refine OW.yl (Wn.run rfl rfl rfl hq3) rfl (Yl.fieldL 1 (fa_85_1) rfl rfl) ?_
    refine OW.yl (Wn.run rfl rfl rfl hq3) rfl (Yl.load1 Tryz.isAgg83 rfl (by repeat constructor) (by repeat constructor)) ?_
    refine OW.yl (Wn.run rfl rfl rfl hq3) rfl (Yl.fieldL 1 (fa_85_1) rfl rfl) ?_
    refine OW.yl (Wn.run rfl rfl rfl hq3) rfl (Yl.load1 Tryz.isAgg83 rfl (by repeat constructor) (by repeat constructor)) ?_
    refine OW.yl (Wn.run rfl rfl rfl hq3) rfl (Yl.lss rfl rfl) ?_
    refine OW.yl (Wn.run rfl rfl rfl hq2) rfl (Yl.pick_true rfl hq3 rfl) ?_
    refine Oy rfl (Yl.pick_false rfl hq2 rfl) ?_
    refine Oy rfl (Yl.assign rfl) ?_
    refine OW.nil ?_
    refine W.cond rfl (fun hq4 => ?_) (fun hq4 => ?_)
    ·have hq4d := of_decide_eq_true hq4
     refine Wr ?_
     refine Oy rfl (Yl.assign rfl) ?_
     refine OW.nil ?_
     refine W.ret ?_
     refine Fin.mk (Rsl.one rfl rfl) ⟨?_, rfl⟩ (by repeat constructor) (by repeat constructor)
     refine intv ?_
     unfold cmpI
     (repeat' split) <;> omega
    ·have hq4d := of_decide_eq_false hq4
     refine W.skip ?_
     refine Wr ?_
     refine Oy rfl (Yl.assign rfl) ?_
     refine OW.nil ?_
     refine W.ret ?_
     refine Fin.mk (Rsl.one rfl rfl) ⟨?_, rfl⟩ (by repeat constructor) (by repeat constructor)
     refine intv ?_
     unfold cmpI
     (repeat' split) <;> omega
   ·have hq3d := of_decide_eq_false hq3
    refine OW.not (Wn.not rfl rfl rfl hq3) rfl ?_
    refine OW.not (Wn.not rfl rfl rfl hq3) rfl ?_
    refine OW.not (Wn.not rfl rfl rfl hq3) rfl ?_
    refine OW.not (Wn.not rfl rfl rfl hq3) rfl ?_
    refine OW.not (Wn.not rfl rfl rfl hq3) rfl ?_
    refine OW.yl (Wn.run rfl rfl rfl hq2) rfl (Yl.pick_false rfl hq3 rfl) ?_
    refine Oy rfl (Yl.pick_false rfl hq2 rfl) ?_
    refine Oy rfl (Yl.assign rfl) ?_
    refine OW.nil ?_
    refine W.cond_false rfl ?_
    refine W.skip ?_
    refine Wr ?_
    refine Oy rfl (Yl.assign rfl) ?_
    refine OW.nil ?_
    refine W.ret ?_
    refine Fin.mk (Rsl.one rfl rfl) ⟨?_, rfl⟩ (by repeat constructor) (by repeat constructor)
    refine intv ?_
    unfold cmpI
    (repeat' split) <;> omega

theorem parts_law (x m : Int) (hx : 0 ≤ x) (hx2 : x ≤ 340282366920938463463374607431768211455) (hm : 0 < m) (hm2 : m < 18446744073709551616) :
  let x' := x / 18446744073709551616 % m * 18446744073709551616 + x % 18446744073709551616
  0 ≤ x' ∧ x' < m * 18446744073709551616 ∧ x' / 18446744073709551616 = x / 18446744073709551616 % m ∧ x' % 18446744073709551616 = x % 18446744073709551616 ∧
  x / m / 18446744073709551616 = x / 18446744073709551616 / m ∧ x / m % 18446744073709551616 = x' / m ∧ x % m = x' % m := by
 intro x'
 have h1 : 0 ≤ x / 18446744073709551616 % m := Int.emod_nonneg _ (by omega)
 have h2 : x / 18446744073709551616 % m < m := Int.emod_lt_of_pos _ hm
 have h3 : x = x' + m * (x / 18446744073709551616 / m * 18446744073709551616) := by
  have e1 := Int.mul_ediv_add_emod (x / 18446744073709551616) m
  have e2 : x = (x / 18446744073709551616) * 18446744073709551616 + x % 18446744073709551616 := by omega
  have e3 : m * (x / 18446744073709551616 / m * 18446744073709551616) = (m * (x / 18446744073709551616 / m)) * 18446744073709551616 := by rw [Int.mul_assoc]
  rw [e3]
  show x = x / 18446744073709551616 % m * 18446744073709551616 + x % 18446744073709551616 + _
  omega
 have b1 : 0 ≤ x' := by show 0 ≤ x / 18446744073709551616 % m * 18446744073709551616 + x % 18446744073709551616; omega
 have b2 : x' < m * 18446744073709551616 := by show x / 18446744073709551616 % m * 18446744073709551616 + x % 18446744073709551616 < m * 18446744073709551616; omega
 have h4 : x / m = x' / m + x / 18446744073709551616 / m * 18446744073709551616 := by
  conv => lhs; rw [h3]
  rw [Int.add_mul_ediv_left _ _ (by omega)]
 have h5 : x % m = x' % m := by
  conv => lhs; rw [h3]
  rw [Int.add_mul_emod_self_left]
 have h6 : 0 ≤ x' / m := Int.ediv_nonneg b1 (by omega)
 have h7 : x' / m < 18446744073709551616 := Int.ediv_lt_of_lt_mul hm (by rw [Int.mul_comm]; exact b2)
 refine ⟨b1, b2, ?_, ?_, ?_, ?_, h5⟩
 ·show (x / 18446744073709551616 % m * 18446744073709551616 + x % 18446744073709551616) / 18446744073709551616 = _; omega
 ·show (x / 18446744073709551616 % m * 18446744073709551616 + x % 18446744073709551616) % 18446744073709551616 = _; omega
 ·rw [h4]; omega
 ·rw [h4]; omega

theorem c_parts (x m : Int) (hx : 0 ≤ x) (hx2 : x ≤ 340282366920938463463374607431768211455) (hm : 0 < m) (hm2 : m < 18446744073709551616) : FnV Tryz.prog 147 #[.int .u64 (x / 18446744073709551616), .int .u64 (x % 18446744073709551616), .int .u64 m] [] (.tuple #[.int .u64 (x / m / 18446744073709551616), .int .u64 (x / m % 18446744073709551616), .int .u64 (x % m)]) := by
 refine FnC.go (m := 25) Tryz.func147 Tryz.ntmps147 rfl (Nat.le_of_ble_eq_true rfl) (fun Lf => ?_)
 obtain ⟨p1, p2, p3, p4, p5, p6, p7⟩ := parts_law x m hx hx2 hm hm2
 refine Wr ?_
 refine Oy rfl (Yl.assign rfl) ?_
 refine Oy rfl (Yl.assign rfl) ?_
 refine Oy rfl (Yl.assign rfl) ?_
 refine OW.nil ?_
 refine Wr ?_
 refine Oy rfl (Yl.move rfl) ?_
 refine Oy rfl (Yl.move rfl) ?_
 refine Oy rfl (Yl.rem rfl rfl (by omega) (Int.tmod_eq_emod_of_nonneg (by omega))) ?_
 refine Oy rfl (Yl.move rfl) ?_
 refine Oy rfl (Yl.move rfl) ?_
 refine OW.callv (Wn.plain rfl) rfl Tryz.call213 rfl (by have h := c_Div64 _ m p1 hm hm2 p2; rw [p3, p4] at h; exact h) (by repeat constructor) ?_
 refine Oy rfl (Yl.move rfl) ?_
 refine Oy rfl (Yl.extract rfl (by repeat constructor)) ?_
 refine Oy rfl (Yl.extract rfl (by repeat constructor)) ?_
 refine Oy rfl (Yl.assign rfl) ?_
 refine Oy rfl (Yl.assign rfl) ?_
 refine OW.nil ?_
 refine Wr ?_
 refine Oy rfl (Yl.move rfl) ?_
 refine Oy rfl (Yl.move rfl) ?_
 refine Oy rfl (Yl.quo rfl rfl (by omega) (by rw [Int.tdiv_eq_ediv_of_nonneg (by omega), IntKind.wrap_u64])) ?_
 refine Oy rfl (Yl.move rfl) ?_
 refine Oy rfl (Yl.move rfl) ?_
 refine Oy rfl (Yl.assign rfl) ?_
 refine Oy rfl (Yl.assign rfl) ?_
 refine Oy rfl (Yl.assign rfl) ?_
 refine OW.nil ?_
 refine W.ret ?_
 refine Fin.mk (Rsl.three rfl rfl rfl rfl) ⟨?_, rfl⟩ (by repeat constructor) (by repeat constructor)
 refine tup3u ?_ p6.symm p7.symm
 rw [p5]; have : 0 ≤ x / 18446744073709551616 / m := Int.ediv_nonneg (by omega) (by omega); have : x / 18446744073709551616 / m ≤ x / 18446744073709551616 := Int.ediv_le_self _ (by omega); omega

theorem div_unique {a b q r : Int} (hb : 0 < b) (h1 : r + b * q = a) (h2 : 0 ≤ r) (h3 : r < b) : a / b = q ∧ a % b = r := (Int.ediv_emod_unique hb).2 ⟨h1, h2, h3⟩
theorem div_law (a m : Int) (hm : 0 < m) :
  (a < 0 ∧ 0 < absW a % m ∧ a / m = -(absW a / m) - 1 ∧ a % m = m - absW a % m) ∨ (a < 0 ∧ absW a % m = 0 ∧ a / m = -(absW a / m) ∧ a % m = 0) ∨ (0 ≤ a ∧ a / m = absW a / m ∧ a % m = absW a % m) := by
 have e := Int.mul_ediv_add_emod (absW a) m
 have h1 := Int.emod_nonneg (absW a) (show m ≠ 0 by omega)
 have h2 := Int.emod_lt_of_pos (absW a) hm
 rcases absW_cases a with ⟨h, ha⟩ | ⟨h, ha⟩
 ·rcases Int.lt_or_eq_of_le h1 with h3 | h3
  ·have := div_unique (a := a) (b := m) (q := -(absW a / m) - 1) (r := m - absW a % m) hm (by rw [Int.mul_sub, Int.mul_neg]; omega) (by omega) (by omega)
   exact .inl ⟨h, h3, this⟩
  ·have := div_unique (a := a) (b := m) (q := -(absW a / m)) (r := 0) hm (by rw [Int.mul_neg]; omega) (by omega) (by omega)
   exact .inr (.inl ⟨h, h3.symm, this⟩)
 ·exact .inr (.inr ⟨h, by rw [ha], by rw [ha]⟩)
theorem tupW3 {X n R r : Int} (h1 : X = n) (h2 : R = r) : Value.tuple [.agg [.int .i64 (X / 18446744073709551616), .int .u64 (X % 18446744073709551616)].toArray, .int .i64 R, .int .i64 0].toArray = .tuple [.agg (encW n).toArray, .int .i64 r, .int .i64 0].toArray := by rw [h1, h2]; rfl
theorem in_div {a m : Int} (h : InW a) (hm : 0 < m) : InW (a / m) := by
 have h1 := div_law a m hm
 have h2 : 0 ≤ absW a / m := Int.ediv_nonneg (by unfold absW; split <;> omega) (by omega)
 have h3 : absW a / m ≤ absW a := Int.ediv_le_self _ (by unfold absW; split <;> omega)
 have h4 := absW_cases a
 have e := Int.mul_ediv_add_emod (absW a) m
 by_cases h5 : m = 1
 ·subst h5; simpa using h
 ·have h6 : 2 * (absW a / m) ≤ m * (absW a / m) := Int.mul_le_mul_of_nonneg_right (by omega) h2
  have h7 := Int.emod_nonneg (absW a) (show m ≠ 0 by omega)
  unfold InW at *; omega
theorem c_Div (a m : Int) (ha : InW a) (hm : 0 < m) (hm2 : m ≤ 9223372036854775807) : FnV Tryz.prog 96 #[.agg (encW a).toArray, .int .i64 m] [] (.tuple #[.agg (encW (a / m)).toArray, .int .i64 (a % m), .int .i64 0]) := by
 refine FnC.go (m := 58) Tryz.func96 Tryz.ntmps96 rfl (Nat.le_of_ble_eq_true rfl) (fun Lf => ?_)
 have hd := div_law a m hm
 have hab := absW_cases a
 have hin := in_div ha hm
 have hq0 : 0 ≤ absW a / m := Int.ediv_nonneg (by omega) (by omega)
 have hq9 : absW a / m ≤ absW a := Int.ediv_le_self _ (by omega)
 have hr0 := Int.emod_nonneg (absW a) (show m ≠ 0 by omega)
 have hr1 := Int.emod_lt_of_pos (absW a) hm
 have hW := ha
 unfold InW at hW hin
 refine Wr ?_
 refine OW.box (Wn.plain rfl) rfl rfl (by constructor) (fun b1 => ?_)
 refine OW.alloc (Wn.plain rfl) rfl Tryz.zeroValue85 (by constructor) (fun b2 => ?_)
 refine Oy rfl (Yl.assign rfl) ?_
 refine Oy rfl (Yl.assign rfl) ?_
 refine OW.nil ?_
 refine W.seq ?_
 refine Wr ?_
 refine Oy rfl (Yl.move rfl) ?_
 refine Oy rfl (Yl.lss rfl rfl) ?_
 refine OW.nil ?_
 refine W.cond rfl (fun hq1 => ?_) (fun hq1 => ?_)
 ·have hq1d := of_decide_eq_true hq1
  exfalso; omega
 ·have hq1d := of_decide_eq_false hq1
  refine W.skip ?_
  refine Wr ?_
  refine Oy rfl (Yl.load ⟨Tryz.isAgg85, Tryz.sizeOf85⟩ rfl (by repeat constructor) (by repeat constructor)) ?_
  refine OW.callv (Wn.plain rfl) rfl Tryz.call146 rfl (c_size a ha) (by repeat constructor) ?_
  refine Oy rfl (Yl.move rfl) ?_
  refine Oy rfl (Yl.extract rfl (by repeat constructor)) ?_
  refine Oy rfl (Yl.extract rfl (by repeat constructor)) ?_
  refine Oy rfl (Yl.assign rfl) ?_
  refine Oy rfl (Yl.assign rfl) ?_
  refine OW.nil ?_
  refine Wr ?_
  refine Oy rfl (Yl.move rfl) ?_
  refine Oy rfl (Yl.move rfl) ?_
  refine Oy rfl (Yl.move rfl) ?_
  refine Oy rfl (Yl.conv Tryz.underlying2 Tryz.underlying83 rfl rfl) ?_
  refine OW.callv (Wn.plain rfl) rfl Tryz.call147 rfl (by rw [IntKind.wrap_u64, show m % 18446744073709551616 = m from by omega]; exact c_parts (absW a) m (by omega) (by omega) hm (by omega)) (by repeat constructor) ?_
  refine Oy rfl (Yl.move rfl) ?_
  refine Oy rfl (Yl.extract rfl (by repeat constructor)) ?_
  refine Oy rfl (Yl.extract rfl (by repeat constructor)) ?_
  refine Oy rfl (Yl.extract rfl (by repeat constructor)) ?_
  refine Oy rfl (Yl.assign rfl) ?_
  refine Oy rfl (Yl.assign rfl) ?_
  refine Oy rfl (Yl.assign rfl) ?_
  refine OW.nil ?_
  refine Wr ?_
  refine Oy rfl (Yl.fieldL 0 (fa_85_0) rfl rfl) ?_
  refine Oy rfl (Yl.load1 Tryz.isAgg2 rfl (by repeat constructor) (by repeat constructor)) ?_
  refine Oy rfl (Yl.lss rfl rfl) ?_
  refine Oy rfl (Yl.move rfl) ?_
  refine Oy rfl (Yl.move rfl) ?_
  refine OW.callv (Wn.plain rfl) rfl Tryz.call148 rfl (c_signed (decide (a / 18446744073709551616 < 0)) (absW a / m) hq0 (by omega)) (by repeat constructor) ?_
  refine Oy rfl (Yl.move rfl) ?_
  refine Oy rfl (Yl.extract rfl (by repeat constructor)) ?_
  refine Oy rfl (Yl.extract rfl (by repeat constructor)) ?_
  refine OW.alloc (Wn.plain rfl) rfl Tryz.zeroValue85 (by constructor) (fun b3 => ?_)
  refine OW.store (Wn.plain rfl) Tryz.sizeOf85 rfl rfl (by constructor) (by repeat constructor) rfl (by repeat constructor) (by repeat constructor) ?_
  refine Oy rfl (Yl.assign rfl) ?_
  refine OW.nil ?_
  refine W.seq ?_
  refine Wr ?_
  refine Oy rfl (Yl.fieldL 0 (fa_85_0) rfl rfl) ?_
  refine Oy rfl (Yl.load1 Tryz.isAgg2 rfl (by repeat constructor) (by repeat constructor)) ?_
  refine Oy rfl (Yl.lss rfl rfl) ?_
  refine Oy rfl (Yl.move rfl) ?_
  refine OW.split (t := 41) rfl (fun hq2 => ?_) (fun hq2 => ?_)
  ·have hq2d := of_decide_eq_true hq2
   refine OW.yl (Wn.run rfl rfl rfl hq2) rfl (Yl.move rfl) ?_
   refine OW.yl (Wn.run rfl rfl rfl hq2) rfl (Yl.gtr rfl rfl) ?_
   refine Oy rfl (Yl.pick_true rfl hq2 rfl) ?_
   refine OW.nil ?_
   refine W.cond rfl (fun hq3 => ?_) (fun hq3 => ?_)
   ·have hq3d := of_decide_eq_true hq3
    refine W.seq ?_
    refine W.draw mixed ?_
    refine Al (i := 0) rfl (Wn.plain rfl) rfl (by repeat constructor) (Yl.load ⟨Tryz.isAgg85, Tryz.sizeOf85⟩ rfl .head (by repeat constructor)) ?_
    refine AW.step (i := 1) rfl (by kernel_rfl) (Wn.plain rfl) rfl (Ex.call rfl rfl rfl (FnC.tri0 Tryz.call50 (c_Of _ (by omega) (by omega))) (by repeat constructor)) (.keep (by kernel_rfl) .nil) ?_
    rintro _ _ ⟨_, ⟨rfl, rfl⟩, rfl⟩; refine ⟨by repeat constructor, ?_⟩
    refine AW.step (i := 2) rfl (by kernel_rfl) (Wn.plain rfl) rfl (Ex.call rfl rfl rfl (FnC.tri0 Tryz.call149 (c_difference (wrapW (if decide (a / 18446744073709551616 < 0) then -(absW a / m) else absW a / m)) 1 (in_wrapW _) (by unfold InW; omega))) (by repeat constructor)) (.drop (by kernel_rfl) .nil) ?_
    rintro _ _ ⟨_, ⟨rfl, rfl⟩, rfl⟩; refine ⟨by repeat constructor, ?_⟩
    refine Aq (i := 3) rfl (Wn.plain rfl) rfl (fun _ => Yl.move rfl) ?_
    refine Aq (i := 4) rfl (Wn.plain rfl) rfl (fun _ => Yl.extract rfl (by repeat constructor)) ?_
    refine Aq (i := 5) rfl (Wn.plain rfl) rfl (fun _ => Yl.extract rfl (by repeat constructor)) ?_
    refine AW.step (i := 6) rfl (by kernel_rfl) (Wn.plain rfl) rfl (Ex.store Tryz.sizeOf85 rfl rfl (by constructor) (by repeat constructor) rfl (by repeat constructor) (by repeat constructor)) .nil ?_
    rintro _ _ rfl; refine ⟨by repeat constructor, ?_⟩
    refine AW.done (by kernel_rfl) ?_
    refine W.region ?_
    refine Oy rfl (Yl.move rfl) ?_
    refine Oy rfl (Yl.conv Tryz.underlying2 Tryz.underlying83 rfl rfl) ?_
    refine Oy rfl (Yl.move rfl) ?_
    refine Oy rfl (Yl.subW rfl rfl rfl) ?_
    refine Oy rfl (Yl.assign rfl) ?_
    refine OW.nil ?_
    refine Wr ?_
    refine Oy rfl (Yl.load ⟨Tryz.isAgg85, Tryz.sizeOf85⟩ rfl (by repeat constructor) (by repeat constructor)) ?_
    refine Oy rfl (Yl.move rfl) ?_
    refine Oy rfl (Yl.conv Tryz.underlying83 Tryz.underlying2 rfl rfl) ?_
    refine OW.store (Wn.plain rfl) Tryz.sizeOf85 rfl rfl (by constructor) (by repeat constructor) rfl (by repeat constructor) (by repeat constructor) ?_
    refine Oy rfl (Yl.assign rfl) ?_
    refine Oy rfl (Yl.assign rfl) ?_
    refine OW.nil ?_
    refine W.ret ?_
    refine Fin.mk (Rsl.of3 rfl (.cell ⟨Tryz.isAgg85, Tryz.sizeOf85⟩ rfl (by repeat constructor) (by repeat constructor)) (.tmp rfl) (.tmp rfl)) ⟨?_, rfl⟩ (by repeat constructor) (by repeat constructor)
    refine tupW3 ?_ ?_
    ·simp only [decide_eq_true_eq, wrapW]; split <;> omega
    ·simp only [IntKind.wrap_u64, IntKind.wrap_i64]; omega
   ·have hq3d := of_decide_eq_false hq3
    refine W.skip ?_
    refine Wr ?_
    refine Oy rfl (Yl.load ⟨Tryz.isAgg85, Tryz.sizeOf85⟩ rfl (by repeat constructor) (by repeat constructor)) ?_
    refine Oy rfl (Yl.move rfl) ?_
    refine Oy rfl (Yl.conv Tryz.underlying83 Tryz.underlying2 rfl rfl) ?_
    refine OW.store (Wn.plain rfl) Tryz.sizeOf85 rfl rfl (by constructor) (by repeat constructor) rfl (by repeat constructor) (by repeat constructor) ?_
    refine Oy rfl (Yl.assign rfl) ?_
    refine Oy rfl (Yl.assign rfl) ?_
    refine OW.nil ?_
    refine W.ret ?_
    refine Fin.mk (Rsl.of3 rfl (.cell ⟨Tryz.isAgg85, Tryz.sizeOf85⟩ rfl (by repeat constructor) (by repeat constructor)) (.tmp rfl) (.tmp rfl)) ⟨?_, rfl⟩ (by repeat constructor) (by repeat constructor)
    refine tupW3 ?_ ?_
    ·simp only [decide_eq_true_eq, wrapW]; split <;> omega
    ·simp only [IntKind.wrap_u64, IntKind.wrap_i64]; omega
  ·have hq2d := of_decide_eq_false hq2
   refine OW.not (Wn.not rfl rfl rfl hq2) rfl ?_
   refine OW.not (Wn.not rfl rfl rfl hq2) rfl ?_
   refine Oy rfl (Yl.pick_false rfl hq2 rfl) ?_
   refine OW.nil ?_
   refine W.cond_false rfl ?_
   refine W.skip ?_
   refine Wr ?_
   refine Oy rfl (Yl.load ⟨Tryz.isAgg85, Tryz.sizeOf85⟩ rfl (by repeat constructor) (by repeat constructor)) ?_
   refine Oy rfl (Yl.move rfl) ?_
   refine Oy rfl (Yl.conv Tryz.underlying83 Tryz.underlying2 rfl rfl) ?_
   refine OW.store (Wn.plain rfl) Tryz.sizeOf85 rfl rfl (by constructor) (by repeat constructor) rfl (by repeat constructor) (by repeat constructor) ?_
   refine Oy rfl (Yl.assign rfl) ?_
   refine Oy rfl (Yl.assign rfl) ?_
   refine OW.nil ?_
   refine W.ret ?_
   refine Fin.mk (Rsl.of3 rfl (.cell ⟨Tryz.isAgg85, Tryz.sizeOf85⟩ rfl (by repeat constructor) (by repeat constructor)) (.tmp rfl) (.tmp rfl)) ⟨?_, rfl⟩ (by repeat constructor) (by repeat constructor)
   refine tupW3 ?_ ?_
   ·simp only [decide_eq_true_eq, wrapW]; split <;> omega
   ·simp only [IntKind.wrap_u64, IntKind.wrap_i64]; omega
theorem c_Int (n : Int) (h : InW n) : FnV Tryz.prog 246 #[.agg (encW n).toArray] [] (.tuple #[.int .i64 (if -9223372036854775808 ≤ n ∧ n ≤ 9223372036854775807 then n else 0), .int .i64 (if -9223372036854775808 ≤ n ∧ n ≤ 9223372036854775807 then 0 else 5)]) := by
 refine FnC.go (m := 16) Tryz.func246 Tryz.ntmps246 rfl (Nat.le_of_ble_eq_true rfl) (fun Lf => ?_)
 unfold InW at h
 refine Wr ?_
 refine OW.box (Wn.plain rfl) rfl rfl (by constructor) (fun b1 => ?_)
 refine Oy rfl (Yl.assign rfl) ?_
 refine Oy rfl (Yl.assign rfl) ?_
 refine OW.nil ?_
 refine W.seq ?_
 refine W.draw mixed ?_
 refine Aq (i := 0) rfl (Wn.plain rfl) rfl (fun _ => Yl.fieldL 1 (fa_85_1) rfl rfl) ?_
 refine Al (i := 1) rfl (Wn.plain rfl) rfl (by repeat constructor) (Yl.load1 Tryz.isAgg83 rfl .head (by repeat constructor)) ?_
 refine Aq (i := 2) rfl (Wn.plain rfl) rfl (fun _ => Yl.conv Tryz.underlying83 Tryz.underlying2 rfl rfl) ?_
 refine Al (i := 3) rfl (Wn.plain rfl) rfl (by repeat constructor) (Yl.load ⟨Tryz.isAgg85, Tryz.sizeOf85⟩ rfl .head (by repeat constructor)) ?_
 refine Aq (i := 4) rfl (Wn.plain rfl) rfl (fun _ => Yl.fieldL 1 (fa_85_1) rfl rfl) ?_
 refine Al (i := 5) rfl (Wn.plain rfl) rfl (by repeat constructor) (Yl.load1 Tryz.isAgg83 rfl .head (by repeat constructor)) ?_
 refine Aq (i := 6) rfl (Wn.plain rfl) rfl (fun _ => Yl.conv Tryz.underlying83 Tryz.underlying2 rfl rfl) ?_
 refine AW.step (i := 7) rfl (by kernel_rfl) (Wn.plain rfl) rfl (Ex.call rfl rfl rfl (FnC.tri0 Tryz.call50 (c_Of _ (by rw [IntKind.wrap_i64]; omega) (by rw [IntKind.wrap_i64]; omega))) (by repeat constructor)) (.keep (by kernel_rfl) (.keep (by kernel_rfl) (.keep (by kernel_rfl) .nil))) ?_
 rintro _ _ ⟨_, ⟨rfl, rfl⟩, rfl⟩; refine ⟨by repeat constructor, ?_⟩
 refine Aq (i := 8) rfl (Wn.plain rfl) rfl (fun _ => Yl.eqW rfl rfl) ?_
 refine AW.step (i := 9) rfl (by kernel_rfl) (Wn.plain rfl) rfl (Ex.call rfl rfl rfl (FnC.tri0 Tryz.call285 (c_toldI _ _)) (by repeat constructor)) (.keep (by kernel_rfl) (.keep (by kernel_rfl) (.keep (by kernel_rfl) .nil))) ?_
 rintro _ _ ⟨_, ⟨rfl, rfl⟩, rfl⟩; refine ⟨by repeat constructor, ?_⟩
 refine Aq (i := 10) rfl (Wn.plain rfl) rfl (fun _ => Yl.extract rfl (by repeat constructor)) ?_
 refine Aq (i := 11) rfl (Wn.plain rfl) rfl (fun _ => Yl.extract rfl (by repeat constructor)) ?_
 refine Aq (i := 12) rfl (Wn.plain rfl) rfl (fun _ => Yl.assign rfl) ?_
 refine Aq (i := 13) rfl (Wn.plain rfl) rfl (fun _ => Yl.assign rfl) ?_
 refine AW.done (by kernel_rfl) ?_
 refine W.ret ?_
 refine Fin.mk (Rsl.two rfl rfl rfl) ⟨?_, rfl⟩ (by repeat constructor) (by repeat constructor)
 refine tup2i ?_ ?_ <;> simp only [decide_eq_true_eq, IntKind.wrap_i64] <;> split <;> split <;> omega
end Go.Yb
