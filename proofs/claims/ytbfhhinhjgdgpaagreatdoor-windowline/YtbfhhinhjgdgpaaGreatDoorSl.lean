/-
  A part of the proof of windowLine_holds: see the text that holds it. No conditions of its own.
-/
import Derived.Test.YtbfhhinhjgdgpaaGreatDoorMem
namespace Go.Yb
open Go Go.RowKit

/-! ### Rows: made, laid, added to, cut -/

def RowT (P : Program) (T E sz bytes : Nat) : Prop := P.underlying T = some (.slice E) ∧ 0 < sz ∧
  (match P.info? E with | some i => Nat.beq i.size sz && Nat.beq i.bytes bytes && (match i.zero with | some z => Nat.beq z.cells.size sz | none => false) | none => false) = true
theorem RowT.out {P : Program} {T E sz bytes : Nat} (h : RowT P T E sz bytes) : ∃ i z, P.underlying T = some (.slice E) ∧ P.info? E = some i ∧ i.zero = some z ∧ i.size = sz ∧ i.bytes = bytes ∧ z.cells.size = sz ∧ 0 < sz := by
 obtain ⟨h1, h2, h3⟩ := h
 cases hi : P.info? E with
 | none => simp [hi] at h3
 | some i =>
  cases hz : i.zero with
  | none => simp [hi, hz] at h3
  | some z =>
   simp only [hi, hz, Bool.and_eq_true] at h3
   exact ⟨i, z, h1, rfl, hz, Nat.eq_of_beq_eq_true h3.1.1, Nat.eq_of_beq_eq_true h3.1.2, Nat.eq_of_beq_eq_true h3.2, h2⟩
theorem RowT.slice {P : Program} {T E sz bytes : Nat} (h : RowT P T E sz bytes) : SliceT P T E sz := by
 obtain ⟨i, z, h1, h2, _, h3, _⟩ := h.out
 exact ⟨h1, fun w => by simp [sizeOf, typeInfo, h2, h3]⟩

section
variable {P : Program} {r : Option Nat} {n : Nat} {K : Post} {Q : Exit → Post} {e : Env} {ds : List Deferred} {L L' : List Res}
variable {d : Option Tmp} {ty : TypeId} {pos : String} {af : Array Edge} {g : Option (Nat × Bool)}

theorem addr_add_add (a : Addr) (m n : Nat) : (a.add m).add n = a.add (m + n) := by
 unfold Addr.add
 by_cases hm : m = 0 <;> by_cases hn : n = 0 <;> simp [hm, hn, Nat.add_assoc]
/-- where some cells stand -/
def Src (L : List Res) (a : Option Addr) (k : Nat) (news : List Value) : Prop := ∀ κ w, St κ L w → (a = none ∧ k = 0) ∨ ∃ p, a = some p ∧ ∀ j u, news[j]? = some u → w.cell? (p.add j) = some u
theorem Src.cell {b k : Nat} {us : List Value} {T : TypeId} (hp : Pick (.cell b us T) L L') : Src L (some ⟨b, 0, none⟩) k us := fun κ w hs =>
  .inr ⟨_, rfl, fun j u hu => by rw [Addr.add_lit, cell_of_row w b _ _ _ _ (hs.cell_at hp)]; simpa using hu⟩
theorem flat_at {xs : List (List Value)} {sz : Nat} (h0 : 0 < sz) (h : ∀ x ∈ xs, x.length = sz) {j : Nat} {u : Value} (hu : xs.flatten[j]? = some u) : ∃ x, xs[j / sz]? = some x ∧ x[j % sz]? = some u := by
 induction xs generalizing j with
 | nil => simp at hu
 | cons y ys ih =>
  have hy := h y List.mem_cons_self
  simp only [List.flatten_cons] at hu
  by_cases hj : j < sz
  ·rw [List.getElem?_append_left (by omega)] at hu
   refine ⟨y, ?_, ?_⟩
   ·rw [Nat.div_eq_of_lt hj]; rfl
   ·rw [Nat.mod_eq_of_lt hj]; exact hu
  ·rw [List.getElem?_append_right (by omega), hy] at hu
   obtain ⟨x, h1, h2⟩ := ih (fun x hx => h x (List.mem_cons_of_mem _ hx)) hu
   refine ⟨x, ?_, ?_⟩
   ·rw [show j / sz = (j - sz) / sz + 1 from by rw [← Nat.add_div_right _ h0, Nat.sub_add_cancel (by omega)]]
    simpa using h1
   ·rw [← h2, ← Nat.mod_eq_sub_mod (by omega)]
theorem Src.sl {sz : Nat} {a : Option Addr} {m c : Nat} {xs : List (List Value)} (h0 : 0 < sz) (hp : Pick (.imm (Sl sz a m c xs)) L L') : Src L a m xs.flatten := fun κ w hs => by
 by_cases hm : m = 0 ∧ a = none
 ·exact .inl ⟨hm.2, hm.1⟩
 obtain ⟨p, rfl⟩ : ∃ p, a = some p := by
  cases a with
  | some p => exact ⟨p, rfl⟩
  | none => exact Sl.isSome hp (by simp at hm; omega) κ w hs
 refine .inr ⟨p, rfl, fun j u hu => ?_⟩
 have hlen : ∀ x ∈ xs, x.length = sz := fun x hx => by
  obtain ⟨i, hi⟩ := List.getElem?_of_mem hx
  exact (Sl.cells hs hp hi).1
 obtain ⟨x, h1, h2⟩ := flat_at h0 hlen hu
 have := (Sl.cells hs hp h1).2 _ _ h2
 have he : (p.add (j / sz * sz)).add (j % sz) = p.add j := by
  rw [addr_add_add, show j / sz * sz + j % sz = j from by rw [Nat.mul_comm]; exact Nat.div_add_mod j sz]
 rwa [he] at this

theorem Pick.arr_own {κ : Strm} {w : World} {v : Value} {E sz m : Nat} {xs : List Value} (hs : St κ L w) (hp : Pick (.arr v E sz m xs) L L') : w.ownsRow 0 E sz v m xs := by
 obtain ⟨_, I, _, h2, _, _⟩ := hs
 exact h2 _ (hp.perm.mem_iff.2 List.mem_cons_self)

theorem own_or_new {w w' : World} {T E ty bytes sz : Nat} {i : TypeInfo} {z v v' : Value} {m k c : Nat} {xs news : List Value} {p : Addr} (t1 : P.underlying T = some (.slice E)) (t2 : P.info? E = some i) (t3 : i.zero = some z) (t4 : i.size = sz) (t5 : i.bytes = bytes)
  (hown : w.ownsRow 0 E sz v m xs) (hl : news.length = k * sz) (hnews : ∀ j u, news[j]? = some u → w.cell? (p.add j) = some u) (h1 : ∀ u ∈ news, u.oneCell' = true) (h63 : m + k ≤ maxLen) (hb : (m + k) * bytes ≤ 140737488355328)
  (hr : (Builtin.append_ #[T, T] ty #[v, .slice (some p) k c]).run P w = .ok v' w') : v'.ownBlock = v.ownBlock ∨ ∀ j, v'.ownBlock = some j → w.heap.size ≤ j := by
 subst t4 t5
 have hsmall : m + k ≤ 9223372036854775807 := by simp only [maxLen] at h63; omega
 rcases hown.2 with ⟨rfl, rfl⟩ | ⟨g, cap, cur, rfl, hbg, hg, hnc, hcm, hcs, htake⟩
 ·by_cases hm : k = 0
  ·subst hm
   have hn : news = [] := List.eq_nil_of_length_eq_zero (by simpa using hl)
   subst hn
   have h2 : (Builtin.append_ #[T, T] ty #[.slice none 0 0, .slice (some p) 0 c]).run P w = .ok (.slice none 0 0) w := by
    simp [Builtin.append_, run_underlying t1, sizeOf, typeInfo, t2, Builtin.lenOf, Builtin.firstCells, loadCells, loadCellsFrom]
   rw [h2] at hr
   cases hr
   exact .inl rfl
  ·have h2 := run_append_nil (P := P) w T ty E i z t1 t2 t3 p k c news hl hnews (by omega) (by omega) (by simp only [Nat.zero_add] at hb; omega)
   rw [h2] at hr
   cases hr
   exact .inr fun j hj => by simp only [Value.ownBlock, Option.some.injEq] at hj; omega
 ·by_cases hroom : m + k ≤ cap
  ·have hfit : m * i.size + news.length ≤ cur.size := by rw [hl, hcs, ← Nat.add_mul]; exact Nat.mul_le_mul_right _ hroom
   have h2 := run_append_room (P := P) w T ty E i t1 t2 g m cap cur hg p k c news hl hnews h1 hroom hfit
   rw [h2] at hr
   cases hr
   exact .inl rfl
  ·have holds : ∀ j u, xs[j]? = some u → w.cell? ((⟨g, 0, none⟩ : Addr).add j) = some u := hown.cells (g := g) rfl
   have h2 := run_append_grow (P := P) w T ty E i z t1 t2 t3 ⟨g, 0, none⟩ m cap xs hown.1 holds p k c news hl hnews (by omega) (by omega) (growslice_fits (by omega) hb)
   rw [h2] at hr
   cases hr
   exact .inr fun j hj => by simp only [Value.ownBlock, Option.some.injEq] at hj; omega

theorem Ex.append {T E sz bytes : Nat} {x y : Operand} {v : Value} {m k c : Nat} {xs news : List Value} {a : Option Addr} (hT : RowT P T E sz bytes) (hx : Env.ev e x = some v) (hy : Env.ev e y = some (.slice a k c))
  (hp : Pick (.arr v E sz m xs) L L') (hsrc : Src L a k news) (hl : news.length = k * sz) (h1 : ∀ u ∈ news, u.oneCell' = true) (h63 : m + k ≤ maxLen) (hb : (m + k) * bytes ≤ 140737488355328) :
  Ex P r e L ⟨d, .call { callee := .builtin .append, args := #[x, y], argTypes := #[T, T] }, ty, pos, af, g⟩ (fun v' L1 => (∃ a' c', v' = .slice a' (m + k) c') ∧ L1 = .arr v' E sz (m + k) (xs ++ news) :: L') := fun n ds κ ac w next Q ha hs hn => by
 obtain ⟨i, z, t1, t2, t3, t4, t5, t6, t7⟩ := hT.out
 have hown := Pick.arr_own hs hp
 rcases hsrc κ w hs with ⟨rfl, rfl⟩ | ⟨p, rfl, hnews⟩
 ·have hn0 : news = [] := List.eq_nil_of_length_eq_zero (by simpa using hl)
  subst hn0
  refine ⟨fun _ _ => trivial, ?_⟩
  have hr : (Builtin.append_ #[T, T] ty #[v, .slice none 0 c]).run P w = .ok v w := by
   rcases hown.2 with ⟨rfl, rfl⟩ | ⟨g, cap, cur, rfl, _, _, hnc, _⟩
   ·simp [Builtin.append_, run_underlying t1, sizeOf, typeInfo, t2, Builtin.lenOf, Builtin.firstCells]
   ·simp [Builtin.append_, run_underlying t1, sizeOf, typeInfo, t2, Builtin.lenOf, Builtin.firstCells, hnc, storeCells]
  have hex : (execOp ac.eval ⟨d, .call { callee := .builtin .append, args := #[x, y], argTypes := #[T, T] }, ty, pos, af, g⟩).run P w = .ok (.value v) w := by
   simp [execOp, resolve, invoke, builtin, ha.eval hx, ha.eval hy, hr, Result.andThen]
  rw [Oper.semAt_eq _ _ _ (by simp), hex]
  refine hn v _ _ ⟨?_, rfl⟩ (by simpa using hp.ent κ w hs)
  rcases hown.2 with ⟨rfl, h0⟩ | ⟨g', cap, cur, rfl, _⟩
  ·exact ⟨_, _, by rw [h0]⟩
  ·exact ⟨_, _, rfl⟩
 obtain ⟨v', w', hr, h2, h3, h4⟩ := run_append_own (P := P) w 0 T ty E i z sz bytes t1 t2 t3 t4 t5 t6 t7 v m xs hown p k c news hl hnews h1 h63 hb (Nat.zero_le _)
 refine ⟨fun _ _ => trivial, ?_⟩
 have hex : (execOp ac.eval ⟨d, .call { callee := .builtin .append, args := #[x, y], argTypes := #[T, T] }, ty, pos, af, g⟩).run P w = .ok (.value v') w' := by
  simp [execOp, resolve, invoke, builtin, ha.eval hx, ha.eval hy, hr, Result.andThen]
 rw [Oper.semAt_eq _ _ _ (by simp), hex]
 refine hn v' _ _ ⟨?_, rfl⟩ ?_
 ·rcases h2.2 with ⟨rfl, h0⟩ | ⟨g', cap, cur, rfl, _⟩
  ·exact ⟨_, _, by rw [h0]⟩
  ·exact ⟨_, _, rfl⟩
 ·refine St.append (hp.ent κ w hs) h2 h3 ?_
  exact own_or_new t1 t2 t3 t4 t5 hown hl hnews h1 h63 hb hr

theorem OW.append {ops : Array Oper} {l : List Oper} {T E sz bytes : Nat} {x y : Operand} {v : Value} {m k c : Nat} {xs news : List Value} {a : Option Addr} (hw : Wn ops e ⟨d, .call { callee := .builtin .append, args := #[x, y], argTypes := #[T, T] }, ty, pos, af, g⟩ true) (hd : dstOk n d = true)
    (hT : RowT P T E sz bytes) (hx : Env.ev e x = some v) (hy : Env.ev e y = some (.slice a k c))
    (hp : Pick (.arr v E sz m xs) L L') (hsrc : Src L a k news) (hl : news.length = k * sz) (h1 : ∀ u ∈ news, u.oneCell' = true) (h63 : m + k ≤ maxLen) (hb : (m + k) * bytes ≤ 140737488355328)
    (kk : ∀ a' c', OW P r n ops l K Q (Env.put e d (.slice a' (m + k) c')) ds (.arr (.slice a' (m + k) c') E sz (m + k) (xs ++ news) :: L')) :
    OW P r n ops (⟨d, .call { callee := .builtin .append, args := #[x, y], argTypes := #[T, T] }, ty, pos, af, g⟩ :: l) K Q e ds L :=
  OW.ex hw hd (Ex.append hT hx hy hp hsrc hl h1 h63 hb) fun v' L1 ⟨⟨a', c', h1⟩, h2⟩ => by subst h1 h2; exact kk a' c'

theorem Ent.new_arr (E sz : Nat) : Ent L (.arr (.slice none 0 0) E sz 0 [] :: L) := by
 rintro κ w ⟨hs, I, h1, h2, h3, h4⟩
 refine ⟨hs, I, h1, fun r hr => ?_, ?_, fun b hb => ?_⟩
 ·rcases List.mem_cons.1 hr with rfl | hr
  ·exact World.ownsRow_nil w 0 E sz
  ·exact h2 r hr
 ·simpa [fps, Res.fp, Value.ownBlock] using h3
 ·exact h4 b (by simpa [fps, Res.fp, Value.ownBlock] using hb)

/-- a row of length 0 with room -/
theorem Ex.make0 {T E sz bytes c : Nat} {x y : Operand} {kx ky : IntKind} {j : Int} (hT : RowT P T E sz bytes) (hx : Env.ev e x = some (.int kx 0)) (hy : Env.ev e y = some (.int ky j)) (hj : j = (c : Int)) (hb : bytes * c ≤ 281474976710656) (h63 : c ≤ maxLen) :
  Ex P r e L ⟨d, .makeSlice T x y, ty, pos, af, g⟩ (fun v' L1 => ∃ a' c', v' = .slice a' 0 c' ∧ L1 = .arr v' E sz 0 [] :: L) := fun n ds κ ac w next Q ha hs hn => by
 obtain ⟨i, z, t1, t2, t3, t4, t5, t6, t7⟩ := hT.out
 subst hj
 obtain ⟨w', hr, h2, h3⟩ := run_make_own (P := P) w 0 T E i z sz t1 t2 t3 t4 kx ky c (by rw [t5]; exact hb) h63 (Nat.zero_le _)
 refine ⟨fun _ _ => trivial, ?_⟩
 have hex : (execOp ac.eval ⟨d, .makeSlice T x y, ty, pos, af, g⟩).run P w = .ok (.value (.slice (some ⟨w.heap.size, 0, none⟩) 0 c)) w' := by
  simp [execOp, ha.eval hx, ha.eval hy, hr, Result.andThen]
 rw [Oper.semAt_eq _ _ _ (by simp), hex]
 refine hn _ _ _ ⟨_, _, rfl, rfl⟩ ?_
 refine St.append (v := .slice none 0 0) (xs := []) (n := 0) (Ent.new_arr E sz κ w hs) h2 (by simpa [Value.ownBlock] using h3) (.inr fun k hk => ?_)
 simp only [Value.ownBlock, Option.some.injEq] at hk; omega
theorem OW.make0 {ops : Array Oper} {l : List Oper} {T E sz bytes : Nat} {x y : Operand} {kx ky : IntKind} {j : Int} (c : Nat) (hw : Wn ops e ⟨d, .makeSlice T x y, ty, pos, af, g⟩ true) (hd : dstOk n d = true)
    (hT : RowT P T E sz bytes) (hx : Env.ev e x = some (.int kx 0)) (hy : Env.ev e y = some (.int ky j)) (hj : j = (c : Int)) (hb : bytes * c ≤ 281474976710656) (h63 : c ≤ maxLen)
    (kk : ∀ a' c', OW P r n ops l K Q (Env.put e d (.slice a' 0 c')) ds (.arr (.slice a' 0 c') E sz 0 [] :: L)) :
    OW P r n ops (⟨d, .makeSlice T x y, ty, pos, af, g⟩ :: l) K Q e ds L :=
  OW.ex hw hd (Ex.make0 hT hx hy hj hb h63) fun v' L1 ⟨a', c', h1, h2⟩ => by subst h1; subst h2; exact kk a' c'

/-- a row that is written down -/
inductive LitI (sz : Nat) : Nat → List (Nat × Value) → List Value → Prop
  | nil {i : Nat} : LitI sz i [] []
  | cons {i : Nat} {v : Value} {us out : List Value} {rest : List (Nat × Value)} : CellsI v us → us.length = sz → LitI sz (i + 1) rest out → LitI sz i ((i, v) :: rest) (us ++ out)
theorem LitI.len {sz i : Nat} {parts : List (Nat × Value)} {out : List Value} (h : LitI sz i parts out) : out.length = parts.length * sz := by
 induction h with
 | nil => simp
 | cons _ h2 _ ih => simp [ih, h2, Nat.succ_mul, Nat.add_comm]
theorem LitI.run {sz i : Nat} {parts : List (Nat × Value)} {out : List Value} (h : LitI sz i parts out) : ∀ (pre post : List Value), pre.length = i * sz → post.length = parts.length * sz →
  Instr.fill (fun i => some (i * sz, sz)) (pre ++ post).toArray parts = some (pre ++ out).toArray := by
 induction h with
 | nil => intro pre post h1 h2; have : post = [] := List.eq_nil_of_length_eq_zero (by simpa using h2); subst this; rfl
 | @cons i v us out rest h1 h2 h3 ih =>
  intro pre post hp hq
  have hfold := fold_put (i * sz) us 0 (pre ++ post) (by simp [hp, hq, Nat.succ_mul]; omega)
  simp only [Instr.fill, h1.eq]
  have hc : ¬ (us.toArray.size ≠ sz || i * sz + us.toArray.size > (pre ++ post).toArray.size) = true := by simp [h2, hp, hq, Nat.succ_mul]
  rw [if_neg hc]
  have hlen : (us.toArray.zipIdx.foldl (fun cs x => match x with | (c, j) => cs.setIfInBounds (i * sz + j) c) (pre ++ post).toArray) = ((pre ++ us) ++ post.drop sz).toArray := by
   rw [← Array.foldl_toList]
   have h4 : us.toArray.zipIdx.toList = us.zipIdx 0 := by simp
   rw [h4]
   refine hfold.trans ?_
   congr 1
   rw [Nat.add_zero, ← hp, List.take_left, h2, List.drop_append, List.drop_eq_nil_of_le (by omega)]
   simp
  rw [hlen]
  have := ih (pre ++ us) (post.drop sz) (by simp [hp, h2, Nat.succ_mul]) (by simp [hq, Nat.succ_mul])
  rw [this]; simp
theorem Ex.lit {T E sz bytes k : Nat} {parts : Array (Nat × Operand)} {is : List Nat} {xs : List Operand} {vs out : List Value} (hT : RowT P T E sz bytes) (hpa : parts = (is.zip xs).toArray) (hx : Env.evs e xs = some vs) (hk : (is.zip vs).length = k) (hsmall : k * sz ≤ 16777216)
  (hf : LitI sz 0 (is.zip vs) out) : Ex P r e L ⟨d, .buildSlice T k parts, ty, pos, af, g⟩ (fun v L1 => ∃ b, v = .slice (some ⟨b, 0, none⟩) k k ∧ L1 = .cell b out E :: L) := fun n ds κ a w next Q ha hs hn => by
 obtain ⟨i, z, t1, t2, t3, t4, t5, t6, t7⟩ := hT.out
 refine ⟨fun _ _ => trivial, ?_⟩
 have hv : (parts.map fun (i, x) => (i, a.eval x)).toList = is.zip vs := by
  rw [hpa, ← ha.evals hx]
  simp [List.zip_map_right]
 have hfill := hf.run [] ((Array.range (k * sz)).map (z.cells[· % z.cells.size]!)).toList (by simp) (by simp [hk])
 simp only [List.nil_append] at hfill
 have hex : (execOp a.eval ⟨d, .buildSlice T k parts, ty, pos, af, g⟩).run P w = .ok (.value (.slice (some ⟨w.heap.size, 0, none⟩) k k)) (w.alloc (.cells out.toArray E)) := by
  have hno : ¬ (k * sz > 2 ^ 24) := by omega
  have hsz : (sizeOf E).run P w = .ok sz w := by simp [sizeOf, typeInfo, t2, t4]
  have hzv : (zeroValue E).run P w = .ok z w := by simp [zeroValue, typeInfo, t2, t3]
  by_cases h0 : k * sz = 0
  ·have hk0 : k = 0 := by rcases Nat.mul_eq_zero.1 h0 with h | h <;> omega
   subst hk0
   have hz : is.zip vs = [] := List.eq_nil_of_length_eq_zero hk
   have ho : out = [] := List.eq_nil_of_length_eq_zero (by simpa [hz] using hf.len)
   subst ho
   simp only [execOp, Instr.buildSlice, Sem.run_bind, Result.andThen_ok, run_underlying t1, hsz, Nat.zero_mul, show ¬ (0 > 2 ^ 24) from by omega, if_false, if_true, Sem.run_pure, hv, hz, Instr.fill]
   have he : (Array.range 0).map (fun _ => (default : Value)) = #[] := Array.eq_empty_of_size_eq_zero (by simp)
   simp [newRow, he]
  ·simp only [Array.toArray_toList] at hfill
   simp only [execOp, Instr.buildSlice, Sem.run_bind, Result.andThen_ok, run_underlying t1, hsz, hno, if_false, h0, hzv, Sem.run_pure, hv, hfill]
   simp [newRow]
 rw [Oper.semAt_eq _ _ _ (by simp), hex]
 exact hn _ _ _ ⟨_, rfl, rfl⟩ (Ent.obj_cell _ _ _ _ κ _ (hs.new _))
theorem OW.lit {ops : Array Oper} {l : List Oper} {T E sz bytes k : Nat} {parts : Array (Nat × Operand)} {is : List Nat} {xs : List Operand} {vs out : List Value} (hw : Wn ops e ⟨d, .buildSlice T k parts, ty, pos, af, g⟩ true) (hd : dstOk n d = true) (hT : RowT P T E sz bytes) (hpa : parts = (is.zip xs).toArray) (hx : Env.evs e xs = some vs) (hk : (is.zip vs).length = k) (hsmall : k * sz ≤ 16777216)
    (hf : LitI sz 0 (is.zip vs) out) (kk : ∀ b, OW P r n ops l K Q (Env.put e d (.slice (some ⟨b, 0, none⟩) k k)) ds (.cell b out E :: L)) : OW P r n ops (⟨d, .buildSlice T k parts, ty, pos, af, g⟩ :: l) K Q e ds L :=
  OW.ex hw hd (Ex.lit hT hpa hx hk hsmall hf) fun v L1 ⟨b, h1, h2⟩ => by subst h1; subst h2; exact kk b

/-! #### cuts -/
inductive LoI (e : Env) : Option Operand → Nat → Prop
  | none : LoI e none 0
  | some {x : Operand} {k : IntKind} {j : Int} {l : Nat} (hx : Env.ev e x = some (.int k j)) (hj : j = (l : Int)) : LoI e (some x) l
inductive HiI (e : Env) (n : Nat) : Option Operand → Nat → Prop
  | none : HiI e n none n
  | some {x : Operand} {k : IntKind} {j : Int} {l : Nat} (hx : Env.ev e x = some (.int k j)) (hj : j = (l : Int)) : HiI e n (some x) l
theorem run_bound (k : IntKind) (i : Int) (l y : Nat) (code : BoundsCode) (hi : i = (l : Int)) (h1 : l ≤ y) (w : World) :
  (Instr.sliceBound (.int k i) y code).run P w = .ok l w := by
 subst hi
 have : (l : Int) ≤ (y : Int) := by omega
 simp [Instr.sliceBound, asIntOf, this]
theorem Yl.cut {T E sz m c l h q : Nat} {x : Operand} {lo hi mx : Option Operand} {a : Option Addr} (hT : SliceT P T E sz) (hx : Env.ev e x = some (.slice a m c)) (hl : LoI e lo l) (hh : HiI e m hi h) (hq : HiI e c mx q) (hm : (mx.isSome && hi.isNone) = false)
  (h1 : l ≤ h) (h2 : h ≤ q) (h3 : q ≤ c) : Yl P e L ⟨d, .slice T x lo hi mx, ty, pos, af, g⟩ (.slice (if q = l then a else a.map (·.add (l * sz))) (h - l) (q - l)) :=
 Yl.of rfl fun _ _ _ ac w ha _ => by
  have hs := hT.2 w
  have hb : (Instr.sliceBounds true m c (lo.map ac.eval) (hi.map ac.eval) (mx.map ac.eval)).run P w = .ok (l, h, q) w := by
   cases hl <;> cases hh <;> cases hq <;> simp only [Option.map_some, Option.map_none, Instr.sliceBounds]
   all_goals first | (simp at hm; done) | skip
   all_goals simp only [Sem.run_bind, Sem.run_pure, Result.andThen_ok, Option.isSome_some, Option.isSome_none]
   all_goals (repeat (first | rw [ha.eval (by assumption)] | rw [run_bound _ _ _ _ _ (by assumption) (by omega)] | simp only [Result.andThen_ok, Sem.run_pure]))
  simp only [execOp, Instr.sliceAt, Instr.slice, ha.eval hx, Sem.run_bind, run_underlying hT.1, Result.andThen_ok, hb, hs, Sem.run_pure]
theorem Sl.cut {sz m c l h q : Nat} {a : Option Addr} {xs : List (List Value)} {I : Imm} (hs : Sl sz a m c xs I) (h1 : l ≤ h) (h2 : h ≤ m) (h3 : h ≤ q) (h4 : q ≤ c) : Sl sz (if q = l then a else a.map (·.add (l * sz))) (h - l) (q - l) ((xs.drop l).take (h - l)) I := by
 obtain ⟨s1, s2, s3, s4⟩ := hs
 refine ⟨by simp; omega, by omega, by omega, fun i x hix => ?_⟩
 have hlt : i < h - l := by
  rcases Nat.lt_or_ge i (h - l) with h0 | h0
  ·exact h0
  ·rw [List.getElem?_take, if_neg (by omega)] at hix; cases hix
 rw [List.getElem?_take_of_lt hlt, List.getElem?_drop] at hix
 obtain ⟨r1, p, cs, E, fr, rfl, r2, r3, r4⟩ := s4 _ _ hix
 have hne : ¬ q = l := by omega
 obtain ⟨u1, u2, u3⟩ := Addr.add_spot r2 (l * sz)
 refine ⟨r1, p.add (l * sz), cs, E, fr, by simp [hne], u1, by rw [u2]; exact r3, fun j hj => ?_⟩
 rw [u3, ← r4 j hj]
 congr 1
 rw [Nat.add_mul]; omega
theorem OW.cut {ops : Array Oper} {ll : List Oper} {T E sz m c l h q : Nat} {x : Operand} {lo hi mx : Option Operand} {a : Option Addr} {xs : List (List Value)} (hw : Wn ops e ⟨d, .slice T x lo hi mx, ty, pos, af, g⟩ true) (hd : dstOk n d = true) (hT : SliceT P T E sz) (hx : Env.ev e x = some (.slice a m c)) (hl : LoI e lo l) (hh : HiI e m hi h) (hq : HiI e c mx q) (hm : (mx.isSome && hi.isNone) = false)
    (h1 : l ≤ h) (h0 : h ≤ m) (h2 : h ≤ q) (h3 : q ≤ c) (hp : Pick (.imm (Sl sz a m c xs)) L L')
    (kk : ∀ a', OW P r n ops ll K Q (Env.put e d (.slice a' (h - l) (q - l))) ds (.imm (Sl sz a' (h - l) (q - l) ((xs.drop l).take (h - l))) :: L)) :
    OW P r n ops (⟨d, .slice T x lo hi mx, ty, pos, af, g⟩ :: ll) K Q e ds L :=
  OW.yl hw hd (Yl.cut hT hx hl hh hq hm h1 h2 h3) (OW.ent (Ent.imm (hp.perm.mem_iff.2 List.mem_cons_self) fun _ hs => hs.cut h1 h0 h2 h3) (kk _))

/-! #### arrays in blocks of our own -/
theorem Yl.indexA {T len E sz : Nat} {x y : Operand} {b off o' : Nat} {k : IntKind} {j : Int} (i : Nat) (hT : ArrayT P T len E sz) (hx : Env.ev e x = some (.pointer (some ⟨b, off, none⟩))) (hy : Env.ev e y = some (.int k j))
    (hj : j = (i : Int)) (hlt : i < len) (ho : off + i * sz = o') : Yl P e L ⟨d, .indexAddr T x y, ty, pos, af, g⟩ (.pointer (some ⟨b, o', none⟩)) :=
  Yl.of rfl fun _ _ _ _ w ha _ => by
    have h2 := hT.2 w
    simp only [execOp, ha.eval hx, ha.eval hy, Instr.indexAt, asIntOf, Sem.run_bind, Sem.run_pure, Result.andThen_ok, run_underlying hT.1, hj, Instr.sureAddr]
    have h1 : (0 : Int) ≤ (i : Int) ∧ (i : Int) < (len : Int) := by omega
    simp [h1, h2, Addr.add_lit, ho]

/-! #### elements of a row of our own -/
theorem Yl.loadO {T E sz i m : Nat} {x : Operand} {p : Addr} {c : Nat} {xs us : List Value} (hT : AggT P T sz) (hx : Env.ev e x = some (.pointer (some (p.add (i * sz)))))
    (hp : Pick (.arr (.slice (some p) m c) E sz m xs) L L') (hu : us.length = sz) (hv : ∀ j, j < sz → xs[i * sz + j]? = us[j]?) : Yl P e L ⟨d, .load T x, ty, pos, af, g⟩ (.agg us.toArray) :=
  Yl.of rfl fun _ _ _ _ w ha hs => by
    have hown := Pick.arr_own hs hp
    have hc : ∀ j u, us[j]? = some u → w.cell? ((p.add (i * sz)).add j) = some u := fun j u hj => by
      have hlt : j < sz := by rw [← hu]; exact (List.getElem?_eq_some_iff.1 hj).1
      rw [addr_add_add]
      rcases hown.2 with ⟨h0, _⟩ | ⟨g', cap, cur, h0, _⟩
      · cases h0
      · cases h0
        exact hown.cells rfl _ _ (by rw [hv j hlt, hj])
    have hr := run_loadCells_list (P := P) (w := w) (p.add (i * sz)) us hc
    rw [hu] at hr
    simp [execOp, ha.eval hx, Instr.loadAt, Instr.sureAddr, loadVar, hT.1 w, hT.2 w, hr]
theorem arr_some {v : Value} {E sz m : Nat} {xs : List Value} (hp : Pick (.arr v E sz m xs) L L') (hm : 0 < m) : ∀ κ w, St κ L w → ∃ p c, v = .slice (some p) m c := fun κ w hs => by
  have hown := Pick.arr_own hs hp
  rcases hown.2 with ⟨h0, h1⟩ | ⟨g', cap, cur, h0, _⟩
  · omega
  · exact ⟨_, _, h0⟩
end
end Go.Yb
