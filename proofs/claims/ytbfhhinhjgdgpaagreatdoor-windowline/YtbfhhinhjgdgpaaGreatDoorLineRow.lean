/-
  WindowLine of the program answers true for every row of points, every bound and every line, and its arguments read behind the call as they read before.
  Conditions: none beyond the row's own: the listed variable slide.all starts as the program's text lays it (the card ties it).
-/
import Derived.Test.YtbfhhinhjgdgpaaGreatDoorRead13
import Derived.Test.YtbfhhinhjgdgpaaGreatDoorLaw13d
import Derived.SevenTiedAt
import Derived.Test.YtbfhhinhjgdgpaaGreatDoorTie
import Derived.Test.YtbfhhinhjgdgpaaGreatDoorCards
namespace Go.Proofs.YtbfhhinhjgdgpaaGreatDoor
open Go Go.Yb Go.ChangeShapes Go.WideShapes Go.ChangeAt Go.RowKit
namespace WL
set_option maxRecDepth 100000 in
theorem open_lin {H : Type} {enc : TypeId × Value → H} {W : World} {b : Nat} {v : Value} {d : DataW H} {ps : List MemPlace} (hval : Value.okWide Tryz.prog W .any b 37 v) (hd : DataW.Trod enc Tryz.prog W 0 (fun _ => true) true 37 v d ps) : ∃ cl : Lin, v = .agg (encL cl).toArray := by
 obtain ⟨cs, rfl, _⟩ := okWide_struct Tryz.underlying37 hval
 obtain ⟨fuel, hf⟩ := hd
 have hf0 : DataW.trod enc Tryz.prog W 0 (fun _ => true) true fuel 37 cs.toList = some (d, ps) := hf
 clear hf hval
 obtain ⟨xs, n, _, _, hl, hlen, hfl⟩ := DataW.trod_struct Tryz.underlying37 hf0
 obtain ⟨c⟩ := cs
 rw [show Tryz.prog.cellsOf 37 = 4 by kernel_rfl] at hl
 obtain ⟨u0, u1, u2, u3, rfl⟩ := four_of_len (l := c) hl
 obtain ⟨y0, y1, y2, y3, rfl⟩ := four_of_len (l := xs) hlen
 have r0 := hfl 0 _ rfl
 have r1 := hfl 1 _ rfl
 have r2 := hfl 2 _ rfl
 have r3 := hfl 3 _ rfl

 obtain ⟨n0, e0, _, _⟩ := DataW.trod_int Tryz.underlying2 r0
 obtain ⟨n1, e1, _, _⟩ := DataW.trod_int Tryz.underlying2 r1
 obtain ⟨n2, e2, _, _⟩ := DataW.trod_int Tryz.underlying2 r2
 obtain ⟨n3, e3, _, _⟩ := DataW.trod_int Tryz.underlying2 r3
 simp [c2] at e0 e1 e2 e3
 subst e0 e1 e2 e3
 exact ⟨⟨n0, n1, n2, n3⟩, rfl⟩
set_option maxRecDepth 100000 in
theorem lifted (os : Os) (started : os.Started) (H : Type) (enc : TypeId × Value → H) :
  ReturnsInHanded {} Tryz.checked os 4 .any (fun w args => (Rows.windowLineSpec.pre enc Tryz.prog Tryz.f4 [] false w args ∧ laidMetH Tryz.prog [("yearbook/slide.all", Rows.laid_yearbook_slide_all)] w) ∧ sizedMet enc Tryz.prog Tryz.f4 (OpenSpec.ofChange Rows.windowLineSpec) false w args)
   (Rows.windowLineSpec.post enc Tryz.prog Tryz.f4 false true false false) := by
 refine returnsInHanded_of_change_and (C := Tryz.checked) (X := fun w _ => laidMetH Tryz.prog [("yearbook/slide.all", Rows.laid_yearbook_slide_all)] w) (fun _ _ _ hh h => h.of_heap hh) own started (by kernel_rfl) Tryz.func4
  (ChangeSpec.witness_shaped (enc := enc) (C := Tryz.checked) (os := os) (X := fun w _ => laidMetH Tryz.prog [("yearbook/slide.all", Rows.laid_yearbook_slide_all)] w) false (World.laidAll Tryz.prog os [("yearbook/slide.all", Rows.laid_yearbook_slide_all)]) #[.slice none 0 0, .int .i64 0, .agg #[.int .i64 0, .int .i64 0, .int .i64 0, .int .i64 0]] 8 (World.laidAll_os _ _ _)
   (World.shaped_of_ZipB (by kernel_rfl) (by kernel_rfl)) (by kernel_rfl) (by kernel_rfl) (by kernel_rfl)
   (by rw [MakeChecks.laidMetH_plain _ _ _ (by kernel_rfl)]; exact laidMet_laidAll _ (by kernel_rfl) (by kernel_rfl))) ?_
 intro W base args ds gs before hval0 hW hc _ hL _
 have hval : ∀ (j : Nat) t v, Tryz.f4.params[j]? = some t → args[j]? = some v → Value.okWide Tryz.prog W .any base t v := hval0
 have hW' := hW
 obtain ⟨p, q, hA0, hV, rfl, _, _⟩ := hW
 have hA : DataW.TrodAll enc Tryz.prog W 0 (fun _ => true) true Tryz.f4.params.toList args.toList ds p := hA0
 rw [Tryz.params4] at hA hval
 obtain ⟨v0, v1, v2, d0, d1, d2, p0, p1, p2, rfl, rfl, rfl, h0, h1, h2⟩ := trodAll_three hA
 obtain ⟨rfl, rfl⟩ := trodVars_none hV
 obtain ⟨a, len, cap, rfl⟩ := okWide_slice Tryz.underlying22 (hval 0 22 v0 rfl rfl)
 obtain ⟨eps, rfl, rfl, rfl, weps⟩ := open_int Tryz.underlying2 (hval 1 2 v1 rfl rfl) h1
 obtain ⟨cl, rfl⟩ := open_lin (hval 2 37 v2 rfl rfl) h2
 have k0 := h0
 have k2 := h2
 have lt2 : ∀ x ∈ p2, x.block < W.heap.size := by obtain ⟨m, hm⟩ := k2; exact DataW.trod_lt m _ _ _ hm
 have lt0 : ∀ x ∈ p0, x.block < W.heap.size := by obtain ⟨m, hm⟩ := k0; exact DataW.trod_lt m _ _ _ hm
 obtain ⟨ps, hlen, hsl⟩ : ∃ ps : List Pt, ps.length = len ∧ Sl 2 a len cap (ps.map encT) (I0 W) := by
  obtain ⟨fuel, hf⟩ := h0
  exact read_pts hf
 subst hlen
 have hg := read_all hL
 clear hA0 hval0
 have hcall := calls_of_FnV (w := W) (c_WindowLine ps a cap eps cl) (fun r hr => by
  rcases List.mem_cons.1 hr with rfl | hr
  ·exact imm_pts hsl
  ·rw [List.mem_singleton.1 hr]; exact imm_glob hg)
 refine hcall.mono fun e W' ⟨he, bel⟩ => ?_
 subst he
 exact ⟨_, rfl, _, _, _, [], _, [], hW', trodAll_mk1 (shut_bool Tryz.underlying4 _), (trodAll_mk3 (Below.trod laidOut (by kernel_rfl) (of_decide_eq_true (by kernel_rfl)) k0 bel lt0) (shut_int Tryz.underlying2 weps) (Below.trod laidOut (by kernel_rfl) (of_decide_eq_true (by kernel_rfl)) k2 bel lt2)), rfl, bel.frame _, fun h => by cases h⟩
theorem holds : Rows.WindowLineSaid :=
  OpenClaim.holds_of_wide 4 Tryz.f4 rfl rfl rfl rfl rfl rfl rfl ⟨rfl, rfl, rfl, rfl, rfl⟩ rfl rfl rfl rfl rfl (by kernel_rfl) Tryz.func4 (by kernel_rfl)
    (of_decide_eq_true (by kernel_rfl)) (by unfold Func.isWrapper; first | (rw [if_pos (by decide +kernel)]; kernel_rfl) | (rw [if_neg (by decide +kernel)]; exact ⟨rfl, rfl⟩))
    (fun os started H enc _ => lifted os started H enc)
end WL
theorem windowLine_holds : Rows.WindowLineCardSaid :=
  Claim7.holds_tied_plain_at .later [] [.data] true (true, "62ff42d52b4fa93cc13c16ab7e6309beaaea07dc7896ca36f5aeb6e8082af934") false WL.holds (fun _ h => by cases h) (by kernel_rfl) (fun _ h => by cases h) windowLine_row_tie rfl ⟨rfl, rfl⟩ (by kernel_rfl) rfl
    (fun f fn hf hfn => by
      obtain rfl : f = 4 := Option.some.inj ((show Tryz.prog.funcNamed "yearbook/yearbooklaw13.WindowLine" = some 4 by kernel_rfl).symm.trans hf) |>.symm
      obtain rfl : fn = Tryz.f4 := (Option.some.inj (Tryz.func4.symm.trans hfn)).symm
      exact ⟨by kernel_rfl, fun j t ht => by
        rw [Tryz.params4] at ht
        have hm : t ∈ [22, 2, 37] := by simpa using Array.mem_of_getElem? ht
        have hall : ([22, 2, 37].all fun u => !Tryz.prog.wantsStandIn u) = true := by kernel_rfl
        exact (show Tryz.prog.wantsStandIn t = false by simpa using List.all_eq_true.1 hall t hm)⟩)
    (by kernel_rfl)
#print axioms windowLine_holds
end Go.Proofs.YtbfhhinhjgdgpaaGreatDoor
