/-
  A part of the proof of windowLine_holds: see the text that holds it. No conditions of its own.
-/
import Derived.Test.YtbfhhinhjgdgpaaGreatDoorLoop
import Derived.Deep.Slices
import Derived.ProofKit
import Derived.Below
namespace Go.Yb
open Go Go.RowKit
/-! ### From a reading of the arguments to resources, and back -/
def I0 (w : World) : Imm := fun b => w.heap[b]?
/-- what was there -/
def oldI (w : World) : Imm → Prop := fun I => ∀ b o, w.heap[b]? = some o → I b = some o

theorem calls_of_FnV {P : Program} {f : FuncId} {args : Array Value} {L : List Res} {v : Value} {w : World} (h : FnV P f args L v) (hL : ∀ r ∈ L, ∃ p, r = .imm p ∧ ∀ I', Imm.le (I0 w) I' → p I') :
  Calls P f args w (fun e w' => e = .returned v ∧ Below w.heap.size w w') := by
 have hfp : fps (L ++ [.imm (oldI w)]) = [] := by
  rw [fps, List.flatMap_eq_nil_iff]
  intro r hr
  rcases List.mem_append.1 hr with hr | hr
  ·obtain ⟨p, rfl, _⟩ := hL r hr; rfl
  ·rw [List.mem_singleton.1 hr]; rfl
 have hst : St ⟨w.os, w.output, w.tape⟩ (L ++ [.imm (oldI w)]) w := by
  refine ⟨⟨rfl, rfl, rfl⟩, I0 w, fun b o hb => hb, fun r hr => ?_, by rw [hfp]; exact List.nodup_nil, by rw [hfp]; intro b hb; cases hb⟩
  rcases List.mem_append.1 hr with hr | hr
  ·obtain ⟨p, rfl, hp⟩ := hL r hr; exact hp
  ·rw [List.mem_singleton.1 hr]; exact fun I' hI b o hb => hI b o hb
 refine (callsIn_wide.1 (h _ _ w hst)).mono fun e w' ⟨v', L', he, ⟨hv, hL'⟩, hs⟩ => ?_
 subst hv hL'
 obtain ⟨⟨s1, s2, s3⟩, I, h1, h2, _, _⟩ := hs
 have hold : oldI w I := h2 (.imm (oldI w)) (by simp) I (fun _ _ h => h)
 have hblk : ∀ k o, w.heap[k]? = some o → w'.heap[k]? = some o := fun k o hk => h1 k o (hold k o hk)
 refine ⟨he, s1, s3, s2, ?_, fun k hk => ?_⟩
 ·by_cases h0 : w.heap.size = 0
  ·omega
  ·have := hblk (w.heap.size - 1) _ (Array.getElem?_eq_getElem (by omega))
   have := (Array.getElem?_eq_some_iff.1 this).1
   omega
 ·have e1 : w.heap[k]? = some w.heap[k] := Array.getElem?_eq_getElem hk
  rw [e1]; exact hblk k _ e1

theorem Sl.le {sz : Nat} {a : Option Addr} {m c : Nat} {xs : List (List Value)} {I I' : Imm} (h : Sl sz a m c xs I) (hI : Imm.le I I') : Sl sz a m c xs I' :=
  ⟨h.1, h.2.1, h.2.2.1, fun i x hx => by
    obtain ⟨h1, p, cs, E, fr, h2, h3, h4, h5⟩ := h.2.2.2 i x hx
    exact ⟨h1, p, cs, E, fr, h2, h3, hI _ _ h4, h5⟩⟩
theorem spot_of_cell {w : World} {a : Addr} {v : Value} (h : w.cell? a = some v) : a.spot = none ∧ ∃ cs E fr, w.heap[a.block]? = some (.cells cs E fr) ∧ cs[a.off]? = some v := by
 unfold World.cell? at h
 split at h
 ·rename_i cs E fr hb
  split at h
  ·cases h
  ·rename_i hs
   refine ⟨by simpa using hs, cs, E, fr, hb, h⟩
 ·cases h
theorem sl_of_world {w : World} {a : Addr} {len cap sz : Nat} {xs : List (List Value)} (h0 : 0 < sz) (hl : xs.length = len) (hlc : len ≤ cap) (hcm : cap ≤ maxLen)
  (h : ∀ i x, xs[i]? = some x → x.length = sz ∧ ∀ j, j < sz → w.cell? ((a.add (i * sz)).add j) = x[j]?) : Sl sz (some a) len cap xs (I0 w) := by
 refine ⟨hl, hlc, hcm, fun i x hx => ?_⟩
 obtain ⟨h1, h2⟩ := h i x hx
 have hi : i < xs.length := (List.getElem?_eq_some_iff.1 hx).1
 have hs : a.spot = none := by
  have hx0 : xs[0]? = some xs[0] := List.getElem?_eq_getElem (by omega)
  obtain ⟨g1, g2⟩ := h 0 _ hx0
  have e0 := g2 0 h0
  rw [List.getElem?_eq_getElem (by omega)] at e0
  have ea : (a.add (0 * sz)).add 0 = a := by simp [Addr.add]
  rw [ea] at e0
  exact (spot_of_cell e0).1
 have hadd : ∀ j, (a.add (i * sz)).add j = ⟨a.block, a.off + (i * sz + j), none⟩ := fun j => by
  rw [addr_add_add]
  have := Addr.add_spot hs (i * sz + j)
  cases hh : a.add (i * sz + j) with
  | mk b o s => rw [hh] at this; obtain ⟨t1, t2, t3⟩ := this; simp only at t1 t2 t3; subst t1 t2 t3; rfl
 have e0 : w.cell? ⟨a.block, a.off + (i * sz + 0), none⟩ = x[0]? := by rw [← hadd]; exact h2 0 h0
 have hx0 : x[0]? = some x[0] := List.getElem?_eq_getElem (by omega)
 rw [hx0] at e0
 obtain ⟨_, cs, E, fr, hb, _⟩ := spot_of_cell e0
 refine ⟨h1, a, cs, E, fr, rfl, hs, hb, fun j hj => ?_⟩
 have hxj : x[j]? = some x[j] := List.getElem?_eq_getElem (by omega)
 have ej : w.cell? ⟨a.block, a.off + (i * sz + j), none⟩ = x[j]? := by rw [← hadd]; exact h2 j hj
 rw [hxj] at ej ⊢
 obtain ⟨_, cs', E', fr', hb', hc'⟩ := spot_of_cell ej
 rw [hb] at hb'
 cases hb'
 exact hc'
end Go.Yb
