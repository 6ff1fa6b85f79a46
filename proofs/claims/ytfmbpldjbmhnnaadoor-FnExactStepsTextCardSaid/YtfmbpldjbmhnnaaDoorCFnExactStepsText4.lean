/- Part 4 of 4 of a proof of this sentence: The Go function loop.example/g00825/laws.FnExactStepsText returns true for every input, and each argument reads afterwards as it read before. No condition. -/
import Derived.Lib.Strings
import Derived.Lib.Bytealg
import Derived.Lib.ItoaLen
import Derived.Lib.ItoaMem
import Derived.Test.YtfmbpldjbmhnnaaDoorRows
import Derived.Test.YtfmbpldjbmhnnaaDoorCards
import Derived.Test.YtfmbpldjbmhnnaaDoorTie
import Derived.LaidMore
import Derived.LaidLaws
import Derived.Stop.LaidErr
import Derived.Stop.Joined
import Derived.SevenTiedAt
import Derived.Lib.LaidTab
import Derived.WalkKit
import Derived.ProofKit
import Derived.OpenShut
import Derived.ShutString
import Derived.ChangeOld
import Derived.Below
import Derived.SizedLaws
import Derived.Lib.SmallJoins
import Derived.Test.YtfmbpldjbmhnnaaDoorCFnExactStepsText3
/- Written by this session's program (wip/gen): a plain function with the same answers as the Go function, and the proof that the Go code comes to them. Asked: that the plain function has an answer. -/
namespace Go.Proofs.YtfmbpldjbmhnnaaDoor.My
open Go.RowKit Go.Proofs.YtfmbpldjbmhnnaaDoorW.PrintWords Go.Proofs.YtfmbpldjbmhnnaaDoorW.PrintLast
set_option linter.unusedVariables false
set_option linter.unusedSimpArgs false

/-! ### laws_FnExactStepsText: function 6 -/
def laws_FnExactStepsText.j0 : Nat → List (S53) → List (S56) → Bool → Option (Bool)
 | 0, _, _, _ => none
 | k + 1, x0, x6, x34 => if x34 = true then (some false) else ((laws_toStepS.f k x0).bind fun t391 => ((laws_eqStepS.f k x6 t391).bind fun t394 => (if t394 = true then (some true) else (some false))))
def laws_FnExactStepsText.f (k : Nat) (l0 : List (S53)) : Option (Bool) := (laws_szStepS.f k l0 1048576).bind fun t380 => (if t380 < 0 then (some true) else ((laws_toStepS.f k l0).bind fun t381 => ((spec_StepsText.f k t381).bind fun bt384 => ((laws_toStepS.f k l0).bind fun t386 => ((impl_StepsText.f k t386).bind fun bt389 => (if bt389.1.toList = bt384.1.toList then (laws_FnExactStepsText.j0 k l0 t386 (bt389.2 != bt384.2)) else (laws_FnExactStepsText.j0 k l0 t386 true)))))))
set_option maxHeartbeats 8000000 in
set_option maxRecDepth 100000 in
theorem laws_FnExactStepsText.calls (es : Bool) (k : Nat) (A0 : Option Addr) (c0 : Nat) (l0 : List (S53)) (r : Bool) (w : World) (ht : Door es w) (hr0 : Kd.C k53 w A0 l0.length l0) (hc0 : l0.length ≤ c0) (h : laws_FnExactStepsText.f k l0 = some r) :
  Calls Tryd.prog 6 #[.slice A0 l0.length c0] w fun e w' => e = .returned (.bool r) ∧ Below w.heap.size w w' := by
 have HT := Aside0.mk ht
 clear ht
 have HR0 := Aside0.mk hr0
 have HC0 := Aside0.mk hc0
 clear hr0 hc0
 have HB := Aside0.mk (Below.refl w.heap.size w)
 have H : ((laws_szStepS.f k l0 1048576).bind fun t380 => (if t380 < 0 then (some true) else ((laws_toStepS.f k l0).bind fun t381 => ((spec_StepsText.f k t381).bind fun bt384 => ((laws_toStepS.f k l0).bind fun t386 => ((impl_StepsText.f k t386).bind fun bt389 => (if bt389.1.toList = bt384.1.toList then (laws_FnExactStepsText.j0 k l0 t386 (bt389.2 != bt384.2)) else (laws_FnExactStepsText.j0 k l0 t386 true)))))))) = some r := h
 clear h
 replace H := Option.bind_eq_some_iff.mp H
 obtain ⟨t380, A20, H⟩ := H
 replace H : (if t380 < 0 then (some true) else ((laws_toStepS.f k l0).bind fun t381 => ((spec_StepsText.f k t381).bind fun bt384 => ((laws_toStepS.f k l0).bind fun t386 => ((impl_StepsText.f k t386).bind fun bt389 => (if bt389.1.toList = bt384.1.toList then (laws_FnExactStepsText.j0 k l0 t386 (bt389.2 != bt384.2)) else (laws_FnExactStepsText.j0 k l0 t386 true))))))) = some r := H
 have A2 := Aside0.mk A20
 clear A20
 by_cases c3 : t380 < 0
 ·rw [if_pos c3] at H
  have c3b0 : decide (t380 < 0) = true := decide_eq_true c3
  clear c3
  obtain rfl := Option.some.inj H
  go_enter Tryd.func6, Tryd.ntmps6
  go_wp2_with (first | ((with_reducible refine gateC (f := 17) rfl ?_); refine goesL_ (some 11) rfl rfl Tryd.func17 (by kernel_rfl) rfl #[.slice A0 l0.length c0, .int .i64 1048576] rfl zm ?_; (with_reducible refine (laws_szStepS.calls k _ _ l0 1048576 t380 _ ?side1 ?side2 A2.out).mono ?_); (case side1 => exact zq HR0.out); (case side2 => exact HC0.out); rintro e w4 ⟨rfl, hb⟩; refine ⟨_, rfl, ?_⟩; have n0_ := Aside0.mk (below_step zb hb); clear HB; have HB := n0_; clear n0_; (try clear hb); (try clear hb2); (try clear hk); (try clear hi)))
  go_ret
  exact ⟨by first | rfl | (simp [errW_none, errW_some] <;> rfl) | (simp [*, errW_none, errW_some] <;> rfl), by repeat (first | (with_reducible first | exact HB.out | apply below_alloc | apply pw_below_drewN | apply below_drew1) | exact HB.out)⟩
 ·rw [if_neg c3] at H
  have c3b0 : decide (t380 < 0) = false := decide_eq_false c3
  clear c3
  replace H := Option.bind_eq_some_iff.mp H
  obtain ⟨t381, A50, H⟩ := H
  replace H : ((spec_StepsText.f k t381).bind fun bt384 => ((laws_toStepS.f k l0).bind fun t386 => ((impl_StepsText.f k t386).bind fun bt389 => (if bt389.1.toList = bt384.1.toList then (laws_FnExactStepsText.j0 k l0 t386 (bt389.2 != bt384.2)) else (laws_FnExactStepsText.j0 k l0 t386 true))))) = some r := H
  have A5 := Aside0.mk A50
  clear A50
  replace H := Option.bind_eq_some_iff.mp H
  obtain ⟨⟨t384, t385⟩, A60, H⟩ := H
  replace H : ((laws_toStepS.f k l0).bind fun t386 => ((impl_StepsText.f k t386).bind fun bt389 => (if bt389.1.toList = t384.toList then (laws_FnExactStepsText.j0 k l0 t386 (bt389.2 != t385)) else (laws_FnExactStepsText.j0 k l0 t386 true)))) = some r := H
  have A6 := Aside0.mk A60
  clear A60
  replace H := Option.bind_eq_some_iff.mp H
  obtain ⟨t386, A70, H⟩ := H
  replace H : ((impl_StepsText.f k t386).bind fun bt389 => (if bt389.1.toList = t384.toList then (laws_FnExactStepsText.j0 k l0 t386 (bt389.2 != t385)) else (laws_FnExactStepsText.j0 k l0 t386 true))) = some r := H
  have A7 := Aside0.mk A70
  clear A70
  replace H := Option.bind_eq_some_iff.mp H
  obtain ⟨⟨t389, t390⟩, A80, H⟩ := H
  replace H : (if t389.toList = t384.toList then (laws_FnExactStepsText.j0 k l0 t386 (t390 != t385)) else (laws_FnExactStepsText.j0 k l0 t386 true)) = some r := H
  have A8 := Aside0.mk A80
  clear A80
  have HC9 := Aside0.mk H
  clear H
  go_enter Tryd.func6, Tryd.ntmps6
  go_upto_region 8 with (first | ((with_reducible refine gateC (f := 17) rfl ?_); refine goesL_ (some 11) rfl rfl Tryd.func17 (by kernel_rfl) rfl #[.slice A0 l0.length c0, .int .i64 1048576] rfl zm ?_; (with_reducible refine (laws_szStepS.calls k _ _ l0 1048576 t380 _ ?side1 ?side2 A2.out).mono ?_); (case side1 => exact zq HR0.out); (case side2 => exact HC0.out); rintro e w10 ⟨rfl, hb⟩; refine ⟨_, rfl, ?_⟩; have n0_ := Aside0.mk (below_step zb hb); clear HB; have HB := n0_; clear n0_; (try clear hb); (try clear hb2); (try clear hk); (try clear hi)) | ((with_reducible refine gateC (f := 19) rfl ?_); refine goesL_ (some 16) rfl rfl Tryd.func19 (by kernel_rfl) rfl #[.slice A0 l0.length c0] rfl zm ?_; (with_reducible refine (laws_toStepS.calls k _ _ l0 t381 _ ?side1 ?side2 A5.out).mono ?_); (case side1 => exact zq (Kd.C_below HR0.out HB.out)); (case side2 => exact HC0.out); rintro e w11 ⟨v382, rfl, ho0, hb⟩; refine ⟨_, rfl, ?_⟩; have n0_ := Aside0.mk (Kd.S_lower ho0 (below_size zb)); have n1_ := Aside0.mk (below_step zb hb); clear HB; have HO383 := n0_; have HB := n1_; clear n0_ n1_; (try clear hb); (try clear hb2); (try clear hk); (try clear hi); (try clear ho0); obtain ⟨Ao12, co12, eo12⟩ := Kd.S_slice HO383.out; subst eo12) | ((with_reducible refine gateC (f := 18) rfl ?_); refine goesL_ (some 17) rfl rfl Tryd.func18 (by kernel_rfl) rfl #[.slice Ao12 t381.length co12] rfl zm ?_; (with_reducible refine (spec_StepsText.calls k _ _ t381 t384 t385 _ ?side1 ?side2 A6.out).mono ?_); (case side1 => repeat (first | exact (Kd.S_reads' HO383.out).2.2 | (with_reducible refine Kd.C_alloc ?_ _) | (with_reducible refine Kd.C_drewN ?_ _) | (with_reducible refine Kd.C_drew ?_))); (case side2 => exact (Kd.S_reads' HO383.out).2.1); rintro e w13 ⟨rfl, hb⟩; refine ⟨_, rfl, ?_⟩; have n0_ := Aside0.mk (Kd.S_below (zs HO383.out) hb); have n1_ := Aside0.mk (below_step zb hb); clear HO383; clear HB; have HO383 := n0_; have HB := n1_; clear n0_ n1_; (try clear hb); (try clear hb2); (try clear hk); (try clear hi)) | ((with_reducible refine gateC (f := 19) rfl ?_); refine goesL_ (some 21) rfl rfl Tryd.func19 (by kernel_rfl) rfl #[.slice A0 l0.length c0] rfl zm ?_; (with_reducible refine (laws_toStepS.calls k _ _ l0 t386 _ ?side1 ?side2 A7.out).mono ?_); (case side1 => exact zq (Kd.C_below HR0.out HB.out)); (case side2 => exact HC0.out); rintro e w14 ⟨v387, rfl, ho0, hb⟩; refine ⟨_, rfl, ?_⟩; have n0_ := Aside0.mk (Kd.S_elder' (zs HO383.out) (Kd.S_base ho0) hb); have n1_ := Aside0.mk (Kd.S_lower (Kd.S_new' ho0 (Kd.S_lt (zs HO383.out))) (below_size zb)); have n2_ := Aside0.mk (below_step zb hb); clear HO383; clear HB; have HO383 := n0_; have HO388 := n1_; have HB := n2_; clear n0_ n1_ n2_; (try clear hb); (try clear hb2); (try clear hk); (try clear hi); (try clear ho0); obtain ⟨Ao15, co15, eo15⟩ := Kd.S_slice HO388.out; subst eo15) | ((with_reducible refine gateC (f := 20) rfl ?_); refine goesL_ (some 24) rfl rfl Tryd.func20 (by kernel_rfl) rfl #[.slice Ao15 t386.length co15] rfl zm ?_; (with_reducible refine (impl_StepsText.calls es k _ _ t386 t389 t390 _ ?sideT ?side1 ?side2 A8.out).mono ?_); (case sideT => exact Door.below HT.out zb); (case side1 => repeat (first | exact (Kd.S_reads' HO388.out).2.2 | (with_reducible refine Kd.C_alloc ?_ _) | (with_reducible refine Kd.C_drewN ?_ _) | (with_reducible refine Kd.C_drew ?_))); (case side2 => exact (Kd.S_reads' HO388.out).2.1); rintro e w16 ⟨rfl, hb⟩; refine ⟨_, rfl, ?_⟩; have n0_ := Aside0.mk (Kd.S_below (zs HO383.out) hb); have n1_ := Aside0.mk (Kd.S_below (zs HO388.out) hb); have n2_ := Aside0.mk (below_step zb hb); clear HO383; clear HO388; clear HB; have HO383 := n0_; have HO388 := n1_; have HB := n2_; clear n0_ n1_ n2_; (try clear hb); (try clear hb2); (try clear hk); (try clear hi)))
  (try simp only [Act.put, List.setIfInBounds_toArray, List.set_cons_zero, List.set_cons_succ])
  go_cut [34] (fun v34 wc => ∃ (kq : Nat) (x34_8 : Bool), v34 = .bool x34_8 ∧ Aside0 (laws_FnExactStepsText.j0 kq l0 t386 x34_8 = some r) ∧ Aside0 (kq ≤ k) ∧ Aside0 (Kd.S k56 56 wc w.heap.size (fun _ => True) (.slice Ao15 t386.length co15) t386) ∧ Aside0 (Below w.heap.size w wc))
  case first =>
   have H := HC9.out
   clear HC9
   by_cases c17 : t389.toList = t384.toList
   ·rw [if_pos c17] at H
    have c17b0 : (t389.toList == t384.toList) = true := beq_iff_eq.mpr c17
    have c17b1 : (t389.toList != t384.toList) = false := bne_eq_false_iff_eq.mpr c17
    clear c17
    (first | rw [c17b0] | (simp only [i64_w, i32_w]; rw [c17b0]) | skip)
    have H' := Aside0.mk H
    clear H
    go_wp2
    go_meet
    case rel => exact ⟨_, ((t390 != t385)), zf, H', ⟨by first | omega | exact Nat.le_refl _⟩, ⟨by (with_reducible repeat (first | apply Kd.S_alloc | apply Kd.S_drewN | apply Kd.S_drew)); exact Kd.S_mono HO388.out (fun _ hk => trivial)⟩, ⟨by repeat (first | (with_reducible first | exact HB.out | apply below_alloc | apply pw_below_drewN | apply below_drew1) | exact HB.out)⟩⟩
   ·rw [if_neg c17] at H
    have c17b0 : (t389.toList == t384.toList) = false := beq_eq_false_iff_ne.mpr c17
    have c17b1 : (t389.toList != t384.toList) = true := bne_iff_ne.mpr c17
    (first | rw [c17b0] | (simp only [i64_w, i32_w]; rw [c17b0]) | skip)
    have H' := Aside0.mk H
    clear H
    go_wp2
    go_meet
    case rel => exact ⟨_, (true), zf, H', ⟨by first | omega | exact Nat.le_refl _⟩, ⟨by (with_reducible repeat (first | apply Kd.S_alloc | apply Kd.S_drewN | apply Kd.S_drew)); exact Kd.S_mono HO388.out (fun _ hk => trivial)⟩, ⟨by repeat (first | (with_reducible first | exact HB.out | apply below_alloc | apply pw_below_drewN | apply below_drew1) | exact HB.out)⟩⟩
  case rest =>
   clear HC9
   try clear c1
   try clear c2
   try clear p2
   try clear c3
   try clear c3b0
   try clear c6
   try clear c17
   try clear c17b0
   try clear c17b1
   obtain ⟨kq, x34_8, rfl, HA, HJ8, HO_6, HB⟩ := hcut
   cases kq with
   | zero => exact absurd HA.out (by simp [laws_FnExactStepsText.j0])
   | succ kj8 =>
    have H := HA.out
    clear HA
    simp only [laws_FnExactStepsText.j0] at H
    by_cases c18 : x34_8 = true
    ·subst c18
     have H1 : (some false) = some r := by rw [if_pos rfl] at H; exact H
     clear H
     have H := H1
     clear H1
     obtain rfl := Option.some.inj H
     go_wp2
     go_ret
     exact ⟨by first | rfl | (simp [errW_none, errW_some] <;> rfl) | (simp [*, errW_none, errW_some] <;> rfl), by repeat (first | (with_reducible first | exact HB.out | apply below_alloc | apply pw_below_drewN | apply below_drew1) | exact HB.out)⟩
    ·replace c18 := Bool.eq_false_iff.mpr c18
     subst c18
     have H1 : ((laws_toStepS.f kj8 l0).bind fun t391 => ((laws_eqStepS.f kj8 t386 t391).bind fun t394 => (if t394 = true then (some true) else (some false)))) = some r := by rw [if_neg (show ¬ (false = true) by decide)] at H; exact H
     clear H
     have H := H1
     clear H1
     replace H := Option.bind_eq_some_iff.mp H
     obtain ⟨t391, A190, H⟩ := H
     replace H : ((laws_eqStepS.f kj8 t386 t391).bind fun t394 => (if t394 = true then (some true) else (some false))) = some r := H
     have A19 := Aside0.mk A190
     clear A190
     replace H := Option.bind_eq_some_iff.mp H
     obtain ⟨t394, A200, H⟩ := H
     replace H : (if t394 = true then (some true) else (some false)) = some r := H
     have A20 := Aside0.mk A200
     clear A200
     by_cases c21 : t394 = true
     ·subst c21
      have H1 : (some true) = some r := by rw [if_pos rfl] at H; exact H
      clear H
      have H := H1
      clear H1
      obtain rfl := Option.some.inj H
      go_wp2_with (first | ((with_reducible refine gateC (f := 19) rfl ?_); refine goesL_ (some 37) rfl rfl Tryd.func19 (by kernel_rfl) rfl #[.slice A0 l0.length c0] rfl zm ?_; (with_reducible refine (laws_toStepS.calls kj8 _ _ l0 t391 _ ?side1 ?side2 A19.out).mono ?_); (case side1 => exact zq (Kd.C_below HR0.out HB.out)); (case side2 => exact HC0.out); rintro e w22 ⟨v392, rfl, ho0, hb⟩; refine ⟨_, rfl, ?_⟩; have n0_ := Aside0.mk (Kd.S_elder' (zs HO_6.out) (Kd.S_base ho0) hb); have n1_ := Aside0.mk (Kd.S_lower (Kd.S_new' ho0 (Kd.S_lt (zs HO_6.out))) (below_size zb)); have n2_ := Aside0.mk (below_step zb hb); clear HO_6; clear HB; have HO_6 := n0_; have HO393 := n1_; have HB := n2_; clear n0_ n1_ n2_; (try clear hb); (try clear hb2); (try clear hk); (try clear hi); (try clear ho0); obtain ⟨Ao23, co23, eo23⟩ := Kd.S_slice HO393.out; subst eo23) | ((with_reducible refine gateC (f := 21) rfl ?_); refine goesL_ (some 38) rfl rfl Tryd.func21 (by kernel_rfl) rfl #[.slice Ao15 t386.length co15, .slice Ao23 t391.length co23] rfl zm ?_; (with_reducible refine (laws_eqStepS.calls kj8 _ _ t386 _ _ t391 true _ ?side1 ?side2 ?side3 ?side4 A20.out).mono ?_); (case side1 => repeat (first | exact (Kd.S_reads' HO_6.out).2.2 | (with_reducible refine Kd.C_alloc ?_ _) | (with_reducible refine Kd.C_drewN ?_ _) | (with_reducible refine Kd.C_drew ?_))); (case side2 => exact (Kd.S_reads' HO_6.out).2.1); (case side3 => repeat (first | exact (Kd.S_reads' HO393.out).2.2 | (with_reducible refine Kd.C_alloc ?_ _) | (with_reducible refine Kd.C_drewN ?_ _) | (with_reducible refine Kd.C_drew ?_))); (case side4 => exact (Kd.S_reads' HO393.out).2.1); rintro e w24 ⟨rfl, hb⟩; refine ⟨_, rfl, ?_⟩; have n0_ := Aside0.mk (Kd.S_below (zs HO_6.out) hb); have n1_ := Aside0.mk (Kd.S_below (zs HO393.out) hb); have n2_ := Aside0.mk (below_step zb hb); clear HO_6; clear HO393; clear HB; have HO_6 := n0_; have HO393 := n1_; have HB := n2_; clear n0_ n1_ n2_; (try clear hb); (try clear hb2); (try clear hk); (try clear hi)))
      go_ret
      exact ⟨by first | rfl | (simp [errW_none, errW_some] <;> rfl) | (simp [*, errW_none, errW_some] <;> rfl), by repeat (first | (with_reducible first | exact HB.out | apply below_alloc | apply pw_below_drewN | apply below_drew1) | exact HB.out)⟩
     ·replace c21 := Bool.eq_false_iff.mpr c21
      subst c21
      have H1 : (some false) = some r := by rw [if_neg (show ¬ (false = true) by decide)] at H; exact H
      clear H
      have H := H1
      clear H1
      obtain rfl := Option.some.inj H
      go_wp2_with (first | ((with_reducible refine gateC (f := 19) rfl ?_); refine goesL_ (some 37) rfl rfl Tryd.func19 (by kernel_rfl) rfl #[.slice A0 l0.length c0] rfl zm ?_; (with_reducible refine (laws_toStepS.calls kj8 _ _ l0 t391 _ ?side1 ?side2 A19.out).mono ?_); (case side1 => exact zq (Kd.C_below HR0.out HB.out)); (case side2 => exact HC0.out); rintro e w25 ⟨v392, rfl, ho0, hb⟩; refine ⟨_, rfl, ?_⟩; have n0_ := Aside0.mk (Kd.S_elder' (zs HO_6.out) (Kd.S_base ho0) hb); have n1_ := Aside0.mk (Kd.S_lower (Kd.S_new' ho0 (Kd.S_lt (zs HO_6.out))) (below_size zb)); have n2_ := Aside0.mk (below_step zb hb); clear HO_6; clear HB; have HO_6 := n0_; have HO393 := n1_; have HB := n2_; clear n0_ n1_ n2_; (try clear hb); (try clear hb2); (try clear hk); (try clear hi); (try clear ho0); obtain ⟨Ao26, co26, eo26⟩ := Kd.S_slice HO393.out; subst eo26) | ((with_reducible refine gateC (f := 21) rfl ?_); refine goesL_ (some 38) rfl rfl Tryd.func21 (by kernel_rfl) rfl #[.slice Ao15 t386.length co15, .slice Ao26 t391.length co26] rfl zm ?_; (with_reducible refine (laws_eqStepS.calls kj8 _ _ t386 _ _ t391 false _ ?side1 ?side2 ?side3 ?side4 A20.out).mono ?_); (case side1 => repeat (first | exact (Kd.S_reads' HO_6.out).2.2 | (with_reducible refine Kd.C_alloc ?_ _) | (with_reducible refine Kd.C_drewN ?_ _) | (with_reducible refine Kd.C_drew ?_))); (case side2 => exact (Kd.S_reads' HO_6.out).2.1); (case side3 => repeat (first | exact (Kd.S_reads' HO393.out).2.2 | (with_reducible refine Kd.C_alloc ?_ _) | (with_reducible refine Kd.C_drewN ?_ _) | (with_reducible refine Kd.C_drew ?_))); (case side4 => exact (Kd.S_reads' HO393.out).2.1); rintro e w27 ⟨rfl, hb⟩; refine ⟨_, rfl, ?_⟩; have n0_ := Aside0.mk (Kd.S_below (zs HO_6.out) hb); have n1_ := Aside0.mk (Kd.S_below (zs HO393.out) hb); have n2_ := Aside0.mk (below_step zb hb); clear HO_6; clear HO393; clear HB; have HO_6 := n0_; have HO393 := n1_; have HB := n2_; clear n0_ n1_ n2_; (try clear hb); (try clear hb2); (try clear hk); (try clear hi)))
      go_ret
      exact ⟨by first | rfl | (simp [errW_none, errW_some] <;> rfl) | (simp [*, errW_none, errW_some] <;> rfl), by repeat (first | (with_reducible first | exact HB.out | apply below_alloc | apply pw_below_drewN | apply below_drew1) | exact HB.out)⟩

end Go.Proofs.YtfmbpldjbmhnnaaDoor.My

/- Written by this session's program (wip/gen): the law's pure statement. -/
namespace Go.Proofs.YtfmbpldjbmhnnaaDoor.My
open Go.RowKit Go.Proofs.YtfmbpldjbmhnnaaDoorW.PrintWords Go.Proofs.YtfmbpldjbmhnnaaDoorW.PrintLast
set_option linter.unusedVariables false
set_option linter.unusedSimpArgs false

/-- What is left to prove of laws_FnExactStepsText. -/
def laws_FnExactStepsText.Pure : Prop := ∀ (l0 : List (S53)), (WL W53) l0 → ∃ k, laws_FnExactStepsText.f k l0 = some true
end Go.Proofs.YtfmbpldjbmhnnaaDoor.My

/- Plain Lean, no program in sight: what holds from some number of rounds on, whole numbers that do not wrap, lists by an index. -/
namespace Go.Proofs.YtfmbpldjbmhnnaaDoor.Pl
open Go.RowKit Go.Proofs.YtfmbpldjbmhnnaaDoorW.PrintWords Go.Proofs.YtfmbpldjbmhnnaaDoorW.PrintLast
set_option linter.unusedVariables false
set_option linter.unusedSimpArgs false

section
variable {α β : Type}
theorem ev_pos {c : Prop} [Decidable c] {g g' : Nat → Option α} {r : α} (hc : c) (h : Ev g r) : Ev (fun k => if c then g k else g' k) r :=
  Ev.congr (fun _ => if_pos hc) h
theorem ev_neg {c : Prop} [Decidable c] {g g' : Nat → Option α} {r : α} (hc : ¬ c) (h : Ev g' r) : Ev (fun k => if c then g k else g' k) r :=
  Ev.congr (fun _ => if_neg hc) h
theorem ev_ite {c : Prop} [Decidable c] {g g' : Nat → Option α} {r : α} (h : c → Ev g r) (h' : ¬ c → Ev g' r) : Ev (fun k => if c then g k else g' k) r := by
  by_cases hc : c
  · exact ev_pos hc (h hc)
  · exact ev_neg hc (h' hc)
theorem ev_some {r r' : α} (h : r = r') : Ev (fun _ => some r) r' := h ▸ Ev.now r
theorem ev_const {o : Option α} {r : α} (h : o = some r) : Ev (fun _ => o) r := ⟨0, fun _ _ => h⟩
theorem ev_to {g : Nat → Option α} {r r' : α} (h : Ev g r) (e : r = r') : Ev g r' := e ▸ h
theorem ev_bind {g : Nat → Option α} {f : Nat → α → Option β} {a : α} {r : β} (h : Ev g a) (k : Ev (fun n => f n a) r) : Ev (fun n => (g n).bind fun t => f n t) r := Ev.bind h k
end

theorem wrap64_id {x : Int} (h : -9223372036854775808 ≤ x) (h' : x ≤ 9223372036854775807) : wrap64 x = x := by
  unfold wrap64
  omega
theorem wrap_succ (i : Nat) (h : i < 9223372036854775807) : wrap64 ((i : Int) + 1) = ((i + 1 : Nat) : Int) := by
  rw [wrap64_id (by omega) (by omega)]
  omega
theorem wrap_pred (n : Nat) (h0 : 0 < n) (h : n ≤ 9223372036854775807) : wrap64 ((n : Int) - 1) = ((n - 1 : Nat) : Int) := by
  rw [wrap64_id (by omega) (by omega)]
  omega
theorem wrap_sub (n m : Nat) (h0 : m ≤ n) (h : n ≤ 9223372036854775807) : wrap64 ((n : Int) - (m : Int)) = ((n - m : Nat) : Int) := by
  rw [wrap64_id (by omega) (by omega)]
  omega
theorem wrap_add (n m : Nat) (h : n + m ≤ 9223372036854775807) : wrap64 ((n : Int) + (m : Int)) = ((n + m : Nat) : Int) := by
  rw [wrap64_id (by omega) (by omega)]
  omega

theorem rdOf_nat {α : Type} (d : α) (xs : List α) (i : Nat) : rdOf d xs (i : Int) = xs.getD i d := rfl
theorem rd_nat (xs : List Int) (i : Nat) : rd xs (i : Int) = xs.getD i 0 := rfl
theorem getD_lt {α : Type} (xs : List α) (d : α) (i : Nat) (h : i < xs.length) : xs.getD i d = xs[i] := by
  simp [List.getD_eq_getElem?_getD, List.getElem?_eq_getElem h]
theorem rdOf_lt {α : Type} (d : α) (xs : List α) (i : Nat) (h : i < xs.length) : rdOf d xs (i : Int) = xs[i] := getD_lt xs d i h
theorem ba_ext {a b : ByteArray} (h : a.toList = b.toList) : a = b := by
  rw [Lib.toList_data, Lib.toList_data] at h
  cases a with | mk a => cases b with | mk b =>
  cases a with | mk a => cases b with | mk b =>
  simp_all
theorem ba_iff {a b : ByteArray} : a.toList = b.toList ↔ a = b := ⟨ba_ext, fun h => by rw [h]⟩
theorem drop_cons {α : Type} (xs : List α) (i : Nat) (h : i < xs.length) : xs.drop i = xs[i] :: xs.drop (i + 1) := List.drop_eq_getElem_cons h
theorem bt_nat (s : ByteArray) (i : Nat) (h : i < s.size) : bt s (i : Int) = ((s.data.toList[i]'(by rw [data_length]; exact h)).toNat : Int) := by
  unfold bt
  rw [dif_pos (by simpa using h)]
  simp [ByteArray.getElem_eq_getElem_data]
theorem u8_eq {b c : UInt8} (h : (b.toNat : Int) = (c.toNat : Int)) : b = c := UInt8.toNat_inj.1 (by omega)
theorem u8_ne {b c : UInt8} (h : ¬ (b.toNat : Int) = (c.toNat : Int)) : ¬ c = b := fun e => h (by rw [e])
end Go.Proofs.YtfmbpldjbmhnnaaDoor.Pl

/- Plain Lean: what the laws' own helpers on lists of strings come to. Conditions: lengths and sizes below 2^63. -/
namespace Go.Proofs.YtfmbpldjbmhnnaaDoor.Pl
open Go.RowKit Go.Proofs.YtfmbpldjbmhnnaaDoorW.PrintWords Go.Proofs.YtfmbpldjbmhnnaaDoorW.PrintLast Go.Proofs.YtfmbpldjbmhnnaaDoor.My
set_option linter.unusedVariables false
set_option linter.unusedSimpArgs false

/-- What came in fits. -/
def FitS (l : List ByteArray) : Prop := l.length ≤ 9223372036854775807 ∧ ∀ s ∈ l, s.size ≤ 9223372036854775807
def sumS (l : List ByteArray) : Nat := (l.map ByteArray.size).sum
def szS (l : List ByteArray) : Nat := l.length + sumS l

theorem sumS_drop (l : List ByteArray) (i : Nat) (h : i < l.length) : sumS (l.drop i) = l[i].size + sumS (l.drop (i + 1)) := by
  unfold sumS
  rw [List.drop_eq_getElem_cons h, List.map_cons, List.sum_cons]

theorem sumS_mem (l : List ByteArray) (s : ByteArray) (h : s ∈ l) : s.size ≤ sumS l := by
  unfold sumS
  induction l with
  | nil => simp at h
  | cons a l ih =>
    simp only [List.map_cons, List.sum_cons]
    rcases List.mem_cons.1 h with rfl | h
    · omega
    · have := ih h
      omega

theorem fitS_of_sz {l : List ByteArray} (h : szS l ≤ 9223372036854775807) : FitS l := by
  unfold szS at h
  exact ⟨by omega, fun s hs => by have := sumS_mem l s hs; omega⟩

theorem fitS_of_wl {l : List ByteArray} (h : WL Wstr l) : FitS l := by
  unfold WL Wstr maxLen at h
  exact h

/-- What is left of so many letters and values. -/
def leftOf (a : Int) (n : Nat) (r : Int) : Prop := r < 0 ∨ (0 ≤ r ∧ r + n = a)

theorem szStringS_l0 (l : List ByteArray) (hf : FitS l) : ∀ d i (a : Int), i + d = l.length → 0 ≤ a → a ≤ 1048576 → ∃ r, Ev (fun k => laws_szStringS.l0 k l a (i : Int)) r ∧ leftOf a (sumS (l.drop i)) r := by
  intro d
  have hL := hf.1
  induction d with
  | zero =>
    intro i a hi h0 h1
    refine ⟨a, Ev.step (fun k => laws_szStringS.l0.eq_2 ..) (ev_neg (by omega) (ev_some rfl)), .inr ⟨h0, ?_⟩⟩
    rw [List.drop_of_length_le (by omega)]
    simp [sumS]
  | succ d ih =>
    intro i a hi h0 h1
    have hlt : i < l.length := by omega
    have hs := hf.2 _ (List.getElem_mem hlt)
    rw [sumS_drop l i hlt]
    by_cases h : a - (l[i].size : Int) < 0
    · refine ⟨-1, Ev.step (fun k => laws_szStringS.l0.eq_2 ..) (ev_pos (by omega) (ev_pos (by omega) (ev_pos ?_ (ev_some rfl)))), .inl (by omega)⟩
      rw [rdOf_lt _ _ _ hlt, wrap64_id (by omega) (by omega)]
      exact h
    · obtain ⟨r, hr, hl⟩ := ih (i + 1) (a - (l[i].size : Int)) (by omega) (by omega) (by omega)
      refine ⟨r, Ev.step (fun k => laws_szStringS.l0.eq_2 ..) (ev_pos (by omega) (ev_pos (by omega) (ev_neg ?_ ?_))), ?_⟩
      · rw [rdOf_lt _ _ _ hlt, wrap64_id (by omega) (by omega)]
        exact h
      · rw [rdOf_lt _ _ _ hlt, wrap64_id (by omega) (by omega), wrap_succ i (by omega)]
        exact hr
      · rcases hl with hl | hl
        · exact .inl hl
        · exact .inr (by omega)

theorem szStringS_ev (l : List ByteArray) (hf : FitS l) (a : Int) (h0 : 0 ≤ a) (h1 : a ≤ 1048576) : ∃ r, Ev (fun k => laws_szStringS.f k l a) r ∧ leftOf a (szS l) r := by
  have hL := hf.1
  simp only [laws_szStringS.f]
  rw [wrap64_id (by omega) (by omega)]
  by_cases h : a - (l.length : Int) < 0
  · exact ⟨-1, ev_pos h (ev_some rfl), .inl (by omega)⟩
  · obtain ⟨r, hr, hl⟩ := szStringS_l0 l hf l.length 0 (a - (l.length : Int)) (by omega) (by omega) (by omega)
    refine ⟨r, ev_neg h hr, ?_⟩
    rcases hl with hl | hl
    · exact .inl hl
    · rw [List.drop_zero] at hl
      exact .inr (by unfold szS; omega)

theorem toStringS_l0 (l : List ByteArray) (hL : l.length ≤ 17592186044416) : ∀ d i (o : List ByteArray), i + d = l.length → o.length = l.length → o.take i = l.take i → Ev (fun k => laws_toStringS.l0 k l o (i : Int)) l := by
  intro d
  induction d with
  | zero =>
    intro i o hi hl ht
    refine Ev.step (fun k => laws_toStringS.l0.eq_2 ..) (ev_neg (by omega) (ev_some ?_))
    rw [List.take_of_length_le (by omega), List.take_of_length_le (by omega)] at ht
    exact ht
  | succ d ih =>
    intro i o hi hl ht
    have hlt : i < l.length := by omega
    refine Ev.step (fun k => laws_toStringS.l0.eq_2 ..) (ev_pos (by omega) (ev_pos (by omega) (ev_pos (by omega) ?_)))
    rw [wrap_succ i (by omega), Int.toNat_natCast, rdOf_lt _ _ _ hlt]
    refine ih (i + 1) _ (by omega) (by rw [List.length_set]; exact hl) ?_
    rw [List.take_succ_eq_append_getElem (by rw [List.length_set]; omega), List.take_succ_eq_append_getElem hlt, List.getElem_set_self, List.take_set_of_le (Nat.le_refl i), ht]

theorem toStringS_ev (l : List ByteArray) (hL : l.length ≤ 17592186044416) : Ev (fun k => laws_toStringS.f k l) l := by
  simp only [laws_toStringS.f]
  refine ev_pos (by omega) (ev_pos (by omega) ?_)
  exact toStringS_l0 l hL l.length 0 _ (by omega) (by simp) rfl

theorem eqStringS_l0 (a b : List ByteArray) (hab : a.length = b.length) (hL : a.length ≤ 9223372036854775807) : ∀ d i, i + d = a.length → Ev (fun k => laws_eqStringS.l0 k a b (i : Int)) (decide (a.drop i = b.drop i)) := by
  intro d
  induction d with
  | zero =>
    intro i hi
    refine Ev.step (fun k => laws_eqStringS.l0.eq_2 ..) (ev_neg (by omega) (ev_some ?_))
    rw [List.drop_of_length_le (by omega), List.drop_of_length_le (by omega)]
    simp
  | succ d ih =>
    intro i hi
    have h1 : i < a.length := by omega
    have h2 : i < b.length := by omega
    refine Ev.step (fun k => laws_eqStringS.l0.eq_2 ..) (ev_pos (by omega) (ev_pos (by omega) (ev_pos (by omega) ?_)))
    rw [rdOf_lt _ _ _ h1, rdOf_lt _ _ _ h2, drop_cons a i h1, drop_cons b i h2]
    refine ev_ite (fun h => ?_) (fun h => ev_some ?_)
    · rw [wrap_succ i (by omega)]
      refine ev_to (ih (i + 1) (by omega)) ?_
      rw [ba_ext h]
      simp only [List.cons.injEq, true_and]
    · have : ¬ a[i] = b[i] := fun e => h (by rw [e])
      simp only [List.cons.injEq, this, false_and, decide_false]

theorem eqStringS_ev (a b : List ByteArray) (hL : a.length ≤ 9223372036854775807) : Ev (fun k => laws_eqStringS.f k a b) (decide (a = b)) := by
  simp only [laws_eqStringS.f]
  refine ev_ite (fun h => ?_) (fun h => ev_some ?_)
  · exact eqStringS_l0 a b (by omega) hL a.length 0 (by omega)
  · have : ¬ a = b := fun e => h (by rw [e])
    simp [this]
end Go.Proofs.YtfmbpldjbmhnnaaDoor.Pl

/- Plain Lean: what the laws' helpers on steps come to, and whether steps are the same. Conditions: lengths and sizes below 2^63. -/
namespace Go.Proofs.YtfmbpldjbmhnnaaDoor.Pl
open Go.RowKit Go.Proofs.YtfmbpldjbmhnnaaDoorW.PrintWords Go.Proofs.YtfmbpldjbmhnnaaDoorW.PrintLast Go.Proofs.YtfmbpldjbmhnnaaDoor.My
set_option linter.unusedVariables false
set_option linter.unusedSimpArgs false

abbrev LT := S53
abbrev IT := S56
def toT (x : LT) : IT := ⟨x.f0, x.f1, x.f2, x.f3, x.f4, x.f5⟩
def szOne (x : LT) : Nat := szS x.f2 + szS x.f5
def FitT (l : List LT) : Prop := l.length ≤ 9223372036854775807 ∧ ∀ x ∈ l, Wint x.f0 ∧ Wint x.f1 ∧ FitS x.f2 ∧ Wint x.f3 ∧ Wint x.f4 ∧ FitS x.f5
def szT (l : List LT) : Nat := l.length + (l.map szOne).sum

theorem fitT_of_wl {l : List LT} (h : WL W53 l) : FitT l := by
  refine ⟨h.1, fun x hx => ?_⟩
  obtain ⟨h0, h1, h2, h3, h4, h5⟩ := h.2 x hx
  exact ⟨h0, h1, fitS_of_wl h2, h3, h4, fitS_of_wl h5⟩

theorem sumT_drop (l : List LT) (i : Nat) (h : i < l.length) : ((l.drop i).map szOne).sum = szOne l[i] + ((l.drop (i + 1)).map szOne).sum := by
  rw [List.drop_eq_getElem_cons h, List.map_cons, List.sum_cons]

theorem sumT_mem (l : List LT) (x : LT) (h : x ∈ l) : szOne x ≤ szT l := by
  unfold szT
  induction l with
  | nil => simp at h
  | cons a l ih =>
    simp only [List.map_cons, List.sum_cons, List.length_cons]
    rcases List.mem_cons.1 h with rfl | h
    · omega
    · have := ih h
      omega

theorem rdLT (l : List LT) (i : Nat) (h : i < l.length) : rd_T53 l (i : Int) = l[i] := getD_lt l _ i h
theorem rdIT (l : List IT) (i : Nat) (h : i < l.length) : rd_T56 l (i : Int) = l[i] := getD_lt l _ i h

theorem szStepS_l0 (l : List LT) (hf : FitT l) : ∀ d i (a : Int), i + d = l.length → 0 ≤ a → a ≤ 1048576 → ∃ r, Ev (fun k => laws_szStepS.l0 k l a (i : Int)) r ∧ leftOf a (((l.drop i).map szOne).sum) r := by
  intro d
  have hL := hf.1
  induction d with
  | zero =>
    intro i a hi h0 h1
    refine ⟨a, Ev.step (fun k => laws_szStepS.l0.eq_2 ..) (ev_neg (by omega) (ev_some rfl)), .inr ⟨h0, ?_⟩⟩
    rw [List.drop_of_length_le (by omega)]
    simp
  | succ d ih =>
    intro i a hi h0 h1
    have hlt : i < l.length := by omega
    have hfx := hf.2 _ (List.getElem_mem hlt)
    have hone : ∃ q, Ev (fun k => laws_szStep.f k l[i].f0 l[i].f1 l[i].f2 l[i].f3 l[i].f4 l[i].f5 a) q ∧ leftOf a (szOne l[i]) q := by
      obtain ⟨q, hq, hm⟩ := szStringS_ev l[i].f2 hfx.2.2.1 a h0 h1
      simp only [laws_szStep.f]
      unfold szOne
      by_cases c : q < 0
      · exact ⟨-1, ev_bind hq (ev_pos c (ev_some rfl)), by rcases hm with hm | hm <;> unfold leftOf <;> omega⟩
      · obtain ⟨p, hp, hn⟩ := szStringS_ev l[i].f5 hfx.2.2.2.2.2 q (by omega) (by rcases hm with hm | hm <;> omega)
        by_cases c' : p < 0
        · exact ⟨-1, ev_bind hq (ev_neg c (ev_bind hp (ev_pos c' (ev_some rfl)))), by rcases hm with hm | hm <;> rcases hn with hn | hn <;> unfold leftOf <;> omega⟩
        · exact ⟨p, ev_bind hq (ev_neg c (ev_bind hp (ev_neg c' (ev_some rfl)))), by rcases hm with hm | hm <;> rcases hn with hn | hn <;> unfold leftOf <;> omega⟩
    obtain ⟨q, hq, hm⟩ := hone
    rw [sumT_drop l i hlt]
    have hz : Ev (fun k => laws_szStep.f k (rd_T53 l (i : Int)).f0 (rd_T53 l (i : Int)).f1 (rd_T53 l (i : Int)).f2 (rd_T53 l (i : Int)).f3 (rd_T53 l (i : Int)).f4 (rd_T53 l (i : Int)).f5 a) q := by
      rw [rdLT l i hlt]
      exact hq
    by_cases h : q < 0
    · exact ⟨-1, Ev.step (fun k => laws_szStepS.l0.eq_2 ..) (ev_pos (by omega) (ev_pos (by omega) (ev_bind hz (ev_pos h (ev_some rfl))))), .inl (by rcases hm with hm | hm <;> omega)⟩
    · obtain ⟨r, hr, hl⟩ := ih (i + 1) q (by omega) (by omega) (by rcases hm with hm | hm <;> omega)
      refine ⟨r, Ev.step (fun k => laws_szStepS.l0.eq_2 ..) (ev_pos (by omega) (ev_pos (by omega) (ev_bind hz (ev_neg h ?_)))), ?_⟩
      · rw [wrap_succ i (by omega)]
        exact hr
      · rcases hl with hl | hl
        · exact .inl hl
        · rcases hm with hm | hm
          · omega
          · exact .inr (by omega)

theorem szStepS_ev (l : List LT) (hf : FitT l) (a : Int) (h0 : 0 ≤ a) (h1 : a ≤ 1048576) : ∃ r, Ev (fun k => laws_szStepS.f k l a) r ∧ leftOf a (szT l) r := by
  have hL := hf.1
  simp only [laws_szStepS.f]
  rw [wrap64_id (by omega) (by omega)]
  by_cases h : a - (l.length : Int) < 0
  · exact ⟨-1, ev_pos h (ev_some rfl), .inl (by omega)⟩
  · obtain ⟨r, hr, hl⟩ := szStepS_l0 l hf l.length 0 (a - (l.length : Int)) (by omega) (by omega) (by omega)
    refine ⟨r, ev_neg h hr, ?_⟩
    rcases hl with hl | hl
    · exact .inl hl
    · rw [List.drop_zero] at hl
      exact .inr (by unfold szT; omega)

/-- Small enough to be copied. -/
def SmallT (l : List LT) : Prop := l.length ≤ 1048576 ∧ ∀ x ∈ l, x.f2.length ≤ 1048576 ∧ x.f5.length ≤ 1048576
theorem smallT {l : List LT} (h : szT l ≤ 1048576) : SmallT l := by
  refine ⟨by unfold szT at h; omega, fun x hx => ?_⟩
  have := sumT_mem l x hx
  unfold szOne szS at this
  omega

theorem toStepS_l0 (l : List LT) (hs : SmallT l) : ∀ d i (o : List IT), i + d = l.length → o.length = l.length → o.take i = (l.map toT).take i → Ev (fun k => laws_toStepS.l0 k l o (i : Int)) (l.map toT) := by
  intro d
  have hL := hs.1
  induction d with
  | zero =>
    intro i o hi hl ht
    refine Ev.step (fun k => laws_toStepS.l0.eq_2 ..) (ev_neg (by omega) (ev_some ?_))
    rw [List.take_of_length_le (by omega), List.take_of_length_le (by rw [List.length_map]; omega)] at ht
    exact ht
  | succ d ih =>
    intro i o hi hl ht
    have hlt : i < l.length := by omega
    have hx : Ev (fun k => laws_toStep.f k (rd_T53 l (i : Int)).f0 (rd_T53 l (i : Int)).f1 (rd_T53 l (i : Int)).f2 (rd_T53 l (i : Int)).f3 (rd_T53 l (i : Int)).f4 (rd_T53 l (i : Int)).f5) (l[i].f0, l[i].f1, l[i].f2, l[i].f3, l[i].f4, l[i].f5) := by
      have hs2 := hs.2 _ (List.getElem_mem hlt)
      rw [rdLT l i hlt]
      simp only [laws_toStep.f]
      exact ev_bind (toStringS_ev _ (by omega)) (ev_bind (toStringS_ev _ (by omega)) (ev_some rfl))
    refine Ev.step (fun k => laws_toStepS.l0.eq_2 ..) (ev_pos (by omega) (ev_pos (by omega) (ev_bind hx (ev_pos (by omega) ?_))))
    rw [wrap_succ i (by omega), Int.toNat_natCast]
    refine ih (i + 1) _ (by omega) (by rw [List.length_set]; exact hl) ?_
    rw [List.take_succ_eq_append_getElem (by rw [List.length_set]; omega), List.take_succ_eq_append_getElem (by rw [List.length_map]; exact hlt), List.getElem_set_self, List.take_set_of_le (Nat.le_refl i), ht, List.getElem_map]
    rfl

theorem toStepS_ev (l : List LT) (hs : SmallT l) : Ev (fun k => laws_toStepS.f k l) (l.map toT) := by
  have hL := hs.1
  simp only [laws_toStepS.f]
  refine ev_pos (by omega) (ev_pos (by omega) ?_)
  exact toStepS_l0 l hs l.length 0 _ (by omega) (by simp) rfl

theorem it_ext {x y : IT} (h0 : x.f0 = y.f0) (h1 : x.f1 = y.f1) (h2 : x.f2 = y.f2) (h3 : x.f3 = y.f3) (h4 : x.f4 = y.f4) (h5 : x.f5 = y.f5) : x = y := by
  cases x; cases y; simp_all
/-- Steps' lines fit. -/
def FitIT (l : List IT) : Prop := l.length ≤ 9223372036854775807 ∧ ∀ x ∈ l, FitS x.f2 ∧ FitS x.f5
theorem fitIT_of {l : List LT} (h : FitT l) : FitIT (l.map toT) := by
  refine ⟨by rw [List.length_map]; exact h.1, fun x hx => ?_⟩
  obtain ⟨y, hy, rfl⟩ := List.mem_map.1 hx
  obtain ⟨h0, h1, h2, h3, h4, h5⟩ := h.2 y hy
  exact ⟨h2, h5⟩
instance : DecidableEq IT := fun x y => decidable_of_iff (x.f0 = y.f0 ∧ x.f1 = y.f1 ∧ x.f2 = y.f2 ∧ x.f3 = y.f3 ∧ x.f4 = y.f4 ∧ x.f5 = y.f5) ⟨fun ⟨a, b, c, d, e, f⟩ => it_ext a b c d e f, fun h => by rw [h]; exact ⟨rfl, rfl, rfl, rfl, rfl, rfl⟩⟩
theorem eqStep_ev (x y : IT) (h : FitS x.f2 ∧ FitS x.f5) : Ev (fun k => laws_eqStep.f k x.f0 x.f1 x.f2 x.f3 x.f4 x.f5 y.f0 y.f1 y.f2 y.f3 y.f4 y.f5) (decide (x = y)) := by
  simp only [laws_eqStep.f]
  have no : ¬ x = y → Ev (fun _ => some false) (decide (x = y)) := fun hn => ev_some (by rw [decide_eq_false hn])
  refine ev_ite (fun h0 => ev_ite (fun h1 => ev_bind (eqStringS_ev _ _ h.1.1) (ev_ite (fun h2 => ev_ite (fun h3 => ev_ite (fun h4 => ev_bind (eqStringS_ev _ _ h.2.1) (ev_ite (fun h5 => ev_some ?_) (fun h5 => no ?_))) (fun h4 => no ?_)) (fun h3 => no ?_)) (fun h2 => no ?_))) (fun h1 => no ?_)) (fun h0 => no ?_)
  · rw [decide_eq_true (it_ext h0 h1 (of_decide_eq_true h2) h3 h4 (of_decide_eq_true h5))]
  · exact fun e => h5 (by rw [e]; simp)
  · exact fun e => h4 (by rw [e])
  · exact fun e => h3 (by rw [e])
  · exact fun e => h2 (by rw [e]; simp)
  · exact fun e => h1 (by rw [e])
  · exact fun e => h0 (by rw [e])

theorem eqStepS_l0 (a b : List IT) (hab : a.length = b.length) (hf : FitIT a) : ∀ d i, i + d = a.length → Ev (fun k => laws_eqStepS.l0 k a b (i : Int)) (decide (a.drop i = b.drop i)) := by
  intro d
  have hL := hf.1
  induction d with
  | zero =>
    intro i hi
    refine Ev.step (fun k => laws_eqStepS.l0.eq_2 ..) (ev_neg (by omega) (ev_some ?_))
    rw [List.drop_of_length_le (by omega), List.drop_of_length_le (by omega)]
    simp
  | succ d ih =>
    intro i hi
    have h1 : i < a.length := by omega
    have h2 : i < b.length := by omega
    refine Ev.step (fun k => laws_eqStepS.l0.eq_2 ..) (ev_pos (by omega) (ev_pos (by omega) (ev_pos (by omega) ?_)))
    simp only [rdIT _ _ h1, rdIT _ _ h2, drop_cons a i h1, drop_cons b i h2]
    refine ev_bind (eqStep_ev _ _ (hf.2 _ (List.getElem_mem h1))) (ev_ite (fun h => ?_) (fun h => ev_some ?_))
    · rw [wrap_succ i (by omega)]
      refine ev_to (ih (i + 1) (by omega)) ?_
      rw [of_decide_eq_true h]
      simp only [List.cons.injEq, true_and]
    · have : ¬ a[i] = b[i] := fun e => h (decide_eq_true e)
      simp only [List.cons.injEq, this, false_and, decide_false]

theorem eqStepS_ev (a b : List IT) (hf : FitIT a) : Ev (fun k => laws_eqStepS.f k a b) (decide (a = b)) := by
  simp only [laws_eqStepS.f]
  refine ev_ite (fun h => ?_) (fun h => ev_some ?_)
  · exact eqStepS_l0 a b (by omega) hf a.length 0 (by omega)
  · have : ¬ a = b := fun e => h (by rw [e])
    simp [this]
end Go.Proofs.YtfmbpldjbmhnnaaDoor.Pl

/- Plain Lean: whether a number lies between two. No condition. -/
namespace Go.Proofs.YtfmbpldjbmhnnaaDoor.Pl
open Go.RowKit Go.Proofs.YtfmbpldjbmhnnaaDoorW.PrintWords Go.Proofs.YtfmbpldjbmhnnaaDoorW.PrintLast Go.Proofs.YtfmbpldjbmhnnaaDoor.My
set_option linter.unusedVariables false
set_option linter.unusedSimpArgs false

def inB (n lo hi : Int) : Bool := decide (lo ≤ n) && decide (n ≤ hi)
theorem inB_iff (a b c : Int) : inB a b c = true ↔ b ≤ a ∧ a ≤ c := by
  unfold inB
  rw [Bool.and_eq_true, decide_eq_true_eq, decide_eq_true_eq]
theorem impl_in_eq (a b c : Int) : impl_in.f a b c = some (inB a b c) := by
  unfold impl_in.f inB
  by_cases h : b ≤ a
  · rw [if_pos h]; simp [h]
  · rw [if_neg (by omega)]; simp [h]
theorem spec_l1In_eq (a b c : Int) : spec_l1In.f a b c = some (inB a b c) := by
  unfold spec_l1In.f inB
  by_cases h : b ≤ a
  · rw [if_pos h]; simp [h]
  · rw [if_neg (by omega)]; simp [h]
end Go.Proofs.YtfmbpldjbmhnnaaDoor.Pl

/- Written by this session's program (wip/gen): a plain function with the same answers as the Go function, and the proof that the Go code comes to them. Asked: that the plain function has an answer. -/
namespace Go.Proofs.YtfmbpldjbmhnnaaDoor.My
open Go.RowKit Go.Proofs.YtfmbpldjbmhnnaaDoorW.PrintWords Go.Proofs.YtfmbpldjbmhnnaaDoorW.PrintLast
set_option linter.unusedVariables false
set_option linter.unusedSimpArgs false

/-! ### spec_l1Good: function 90 -/
def spec_l1Good.l0 : Nat → List ByteArray → List ByteArray → Int → Int → Option (Bool)
 | 0, _, _, _, _ => none
 | k + 1, x0, x5, x6, x7 => if x7 < x6 then (if 0 ≤ x7 then (if x7 < (x5.length : Int) then ((spec_l1Line.f k (rdOf ByteArray.empty x5 x7)).bind fun t400 => (if t400 = true then (if x7 < (wrap64 ((x0.length : Int) - 1)) then ((spec_l1Ends.f (rdOf ByteArray.empty x5 x7)).bind fun t401 => (if t401 = true then (spec_l1Good.l0 k x0 x5 x6 (wrap64 (x7 + 1))) else (some false))) else (spec_l1Good.l0 k x0 x5 x6 (wrap64 (x7 + 1)))) else (some false))) else (none)) else (none)) else (some (decide ((x0.length : Int) ≤ 40)))
def spec_l1Good.f (k : Nat) (l0 : List ByteArray) : Option (Bool) := spec_l1Good.l0 k l0 l0 (l0.length : Int) 0
set_option maxHeartbeats 8000000 in
set_option maxRecDepth 100000 in
theorem spec_l1Good.calls (k : Nat) (A0 : Option Addr) (c0 : Nat) (l0 : List ByteArray) (r : Bool) (w : World) (hr0 : Kd.C Kd.string w A0 l0.length l0) (hc0 : l0.length ≤ c0) (h : spec_l1Good.f k l0 = some r) :
  Calls Tryd.prog 90 #[.slice A0 l0.length c0] w fun e w' => e = .returned (.bool r) ∧ Drawn0 w w' := by
 have HR0 := Aside0.mk hr0
 have HC0 := Aside0.mk hc0
 clear hr0 hc0
 have H : (spec_l1Good.l0 k l0 l0 (l0.length : Int) 0) = some r := h
 clear h
 have H' := Aside0.mk H
 clear H
 go_enter Tryd.func90, Tryd.ntmps90
 go_wp2
 go_loopg [7] k (fun kq v7 w' => ∃ (x7_1 : Int), v7 = .int .i64 x7_1 ∧ Aside0 (spec_l1Good.l0 kq l0 l0 (l0.length : Int) x7_1 = some r) ∧ Aside0 (kq ≤ k) ∧ Drawn0 w w')
 case atStart => exact ⟨(0), zf, H', ⟨Nat.le_refl _⟩, by repeat (first | exact Drawn0.refl _ | apply Drawn0.step)⟩
 case round =>
  clear H'
  obtain ⟨x7_1, rfl, HA, HK1, ⟨m1, rfl⟩⟩ := hrel
  cases gk with
  | zero => exact absurd HA.out (by simp [spec_l1Good.l0])
  | succ k1 =>
   have H := HA.out
   clear HA
   simp only [spec_l1Good.l0] at H
   by_cases c2 : x7_1 < (l0.length : Int)
   ·rw [if_pos c2] at H
    have c2b0 : decide (x7_1 < (l0.length : Int)) = true := decide_eq_true c2
    clear c2
    by_cases c3 : 0 ≤ x7_1
    ·rw [if_pos c3] at H
     have c3b0 : decide (0 ≤ x7_1) = true := decide_eq_true c3
     clear c3
     by_cases c4 : x7_1 < (l0.length : Int)
     ·rw [if_pos c4] at H
      have c4b0 : decide (x7_1 < (l0.length : Int)) = true := decide_eq_true c4
      clear c4
      replace H := Option.bind_eq_some_iff.mp H
      obtain ⟨t400, A50, H⟩ := H
      replace H : (if t400 = true then (if x7_1 < (wrap64 ((l0.length : Int) - 1)) then ((spec_l1Ends.f (rdOf ByteArray.empty l0 x7_1)).bind fun t401 => (if t401 = true then (spec_l1Good.l0 k1 l0 l0 (l0.length : Int) (wrap64 (x7_1 + 1))) else (some false))) else (spec_l1Good.l0 k1 l0 l0 (l0.length : Int) (wrap64 (x7_1 + 1)))) else (some false)) = some r := H
      have A5 := Aside0.mk A50
      clear A50
      by_cases c6 : t400 = true
      ·subst c6
       have H1 : (if x7_1 < (wrap64 ((l0.length : Int) - 1)) then ((spec_l1Ends.f (rdOf ByteArray.empty l0 x7_1)).bind fun t401 => (if t401 = true then (spec_l1Good.l0 k1 l0 l0 (l0.length : Int) (wrap64 (x7_1 + 1))) else (some false))) else (spec_l1Good.l0 k1 l0 l0 (l0.length : Int) (wrap64 (x7_1 + 1)))) = some r := by rw [if_pos rfl] at H; exact H
       clear H
       have H := H1
       clear H1
       by_cases c7 : x7_1 < (wrap64 ((l0.length : Int) - 1))
       ·rw [if_pos c7] at H
        have c7b0 : decide (x7_1 < (wrap64 ((l0.length : Int) - 1))) = true := decide_eq_true c7
        clear c7
        replace H := Option.bind_eq_some_iff.mp H
        obtain ⟨t401, A80, H⟩ := H
        replace H : (if t401 = true then (spec_l1Good.l0 k1 l0 l0 (l0.length : Int) (wrap64 (x7_1 + 1))) else (some false)) = some r := H
        have A8 := Aside0.mk A80
        clear A80
        by_cases c9 : t401 = true
        ·subst c9
         have H1 : (spec_l1Good.l0 k1 l0 l0 (l0.length : Int) (wrap64 (x7_1 + 1))) = some r := by rw [if_pos rfl] at H; exact H
         clear H
         have H := H1
         clear H1
         have H' := Aside0.mk H
         clear H
         have p399 : 0 ≤ (x7_1 : Int) := oa
         have q399 : x7_1 < (l0.length : Int) := oa
         obtain ⟨ad399, e399, hx399_0⟩ := Kd.at_string HR0.out x7_1 p399 q399
         cases e399
         replace p399 := eq_true p399
         replace q399 := eq_true q399
         go_wp2_with (first | ((with_reducible refine gateC (f := 106) rfl ?_); refine goesL_ (some 13) rfl rfl Tryd.func106 (by kernel_rfl) rfl #[.string (rdOf ByteArray.empty l0 x7_1)] rfl zm ?_; (with_reducible refine (spec_l1Line.calls k1 (rdOf ByteArray.empty l0 x7_1) true _ A5.out).mono ?_); rintro e w' ⟨rfl, ⟨nd, rfl⟩⟩; refine ⟨_, rfl, ?_⟩) | (go_at_call 83; (with_reducible refine (spec_l1Ends.calls (rdOf ByteArray.empty l0 x7_1) true _ A8.out).mono ?_); rintro e w' ⟨rfl, ⟨nd, rfl⟩⟩))
         go_roundg k1
         case measure => have := HK1.out; omega
         case rel => exact ⟨(wrap64 (x7_1 + 1)), zf, H', ⟨by have := HK1.out; omega⟩, by repeat (first | exact Drawn0.refl _ | apply Drawn0.step)⟩
        ·replace c9 := Bool.eq_false_iff.mpr c9
         subst c9
         have H1 : (some false) = some r := by rw [if_neg (show ¬ (false = true) by decide)] at H; exact H
         clear H
         have H := H1
         clear H1
         obtain rfl := Option.some.inj H
         have p399 : 0 ≤ (x7_1 : Int) := oa
         have q399 : x7_1 < (l0.length : Int) := oa
         obtain ⟨ad399, e399, hx399_0⟩ := Kd.at_string HR0.out x7_1 p399 q399
         cases e399
         replace p399 := eq_true p399
         replace q399 := eq_true q399
         go_wp2_with (first | ((with_reducible refine gateC (f := 106) rfl ?_); refine goesL_ (some 13) rfl rfl Tryd.func106 (by kernel_rfl) rfl #[.string (rdOf ByteArray.empty l0 x7_1)] rfl zm ?_; (with_reducible refine (spec_l1Line.calls k1 (rdOf ByteArray.empty l0 x7_1) true _ A5.out).mono ?_); rintro e w' ⟨rfl, ⟨nd, rfl⟩⟩; refine ⟨_, rfl, ?_⟩) | (go_at_call 83; (with_reducible refine (spec_l1Ends.calls (rdOf ByteArray.empty l0 x7_1) false _ A8.out).mono ?_); rintro e w' ⟨rfl, ⟨nd, rfl⟩⟩))
         go_ret
         exact ⟨by first | rfl | (simp; done) | (simp [*]; done), by repeat (first | exact Drawn0.refl _ | apply Drawn0.step)⟩
       ·rw [if_neg c7] at H
        have c7b0 : decide (x7_1 < (wrap64 ((l0.length : Int) - 1))) = false := decide_eq_false c7
        clear c7
        have H' := Aside0.mk H
        clear H
        have p399 : 0 ≤ (x7_1 : Int) := oa
        have q399 : x7_1 < (l0.length : Int) := oa
        obtain ⟨ad399, e399, hx399_0⟩ := Kd.at_string HR0.out x7_1 p399 q399
        cases e399
        replace p399 := eq_true p399
        replace q399 := eq_true q399
        go_wp2_with (first | ((with_reducible refine gateC (f := 106) rfl ?_); refine goesL_ (some 13) rfl rfl Tryd.func106 (by kernel_rfl) rfl #[.string (rdOf ByteArray.empty l0 x7_1)] rfl zm ?_; (with_reducible refine (spec_l1Line.calls k1 (rdOf ByteArray.empty l0 x7_1) true _ A5.out).mono ?_); rintro e w' ⟨rfl, ⟨nd, rfl⟩⟩; refine ⟨_, rfl, ?_⟩))
        go_roundg k1
        case measure => have := HK1.out; omega
        case rel => exact ⟨(wrap64 (x7_1 + 1)), zf, H', ⟨by have := HK1.out; omega⟩, by repeat (first | exact Drawn0.refl _ | apply Drawn0.step)⟩
      ·replace c6 := Bool.eq_false_iff.mpr c6
       subst c6
       have H1 : (some false) = some r := by rw [if_neg (show ¬ (false = true) by decide)] at H; exact H
       clear H
       have H := H1
       clear H1
       obtain rfl := Option.some.inj H
       have p399 : 0 ≤ (x7_1 : Int) := oa
       have q399 : x7_1 < (l0.length : Int) := oa
       obtain ⟨ad399, e399, hx399_0⟩ := Kd.at_string HR0.out x7_1 p399 q399
       cases e399
       replace p399 := eq_true p399
       replace q399 := eq_true q399
       go_wp2_with (first | ((with_reducible refine gateC (f := 106) rfl ?_); refine goesL_ (some 13) rfl rfl Tryd.func106 (by kernel_rfl) rfl #[.string (rdOf ByteArray.empty l0 x7_1)] rfl zm ?_; (with_reducible refine (spec_l1Line.calls k1 (rdOf ByteArray.empty l0 x7_1) false _ A5.out).mono ?_); rintro e w' ⟨rfl, ⟨nd, rfl⟩⟩; refine ⟨_, rfl, ?_⟩))
       go_ret
       exact ⟨by first | rfl | (simp; done) | (simp [*]; done), by repeat (first | exact Drawn0.refl _ | apply Drawn0.step)⟩
     ·rw [if_neg c4] at H
      exact absurd H (by simp)
    ·rw [if_neg c3] at H
     exact absurd H (by simp)
   ·rw [if_neg c2] at H
    have c2b0 : decide (x7_1 < (l0.length : Int)) = false := decide_eq_false c2
    clear c2
    obtain rfl := Option.some.inj H
    go_wp2
    go_ret
    exact ⟨by first | rfl | (simp; done) | (simp [*]; done), by repeat (first | exact Drawn0.refl _ | apply Drawn0.step)⟩

end Go.Proofs.YtfmbpldjbmhnnaaDoor.My

/- Plain Lean: chapter 1: what a line and good lines are, for the program and the reference. Conditions: lengths and sizes below 2^63. -/
namespace Go.Proofs.YtfmbpldjbmhnnaaDoor.Pl
open Go.RowKit Go.Proofs.YtfmbpldjbmhnnaaDoorW.PrintWords Go.Proofs.YtfmbpldjbmhnnaaDoorW.PrintLast Go.Proofs.YtfmbpldjbmhnnaaDoor.My
set_option linter.unusedVariables false
set_option linter.unusedSimpArgs false

/-- A line. -/
def isLn (s : ByteArray) : Bool := !(s.data.toList.dropLast.contains 10) && inB s.size 1 30
/-- Its last byte is 10. -/
def ends (s : ByteArray) : Bool := s.data.toList.getLast? == some 10
def good (l : List ByteArray) : Bool := decide (l.length ≤ 40) && (l.all isLn && l.dropLast.all ends)

theorem toList_one (c : UInt8) : (⟨#[c]⟩ : ByteArray).toList = [c] := by rw [Lib.toList_data]
theorem size_one (c : UInt8) : (⟨#[c]⟩ : ByteArray).size = 1 := rfl
theorem bt_one (c : UInt8) : bt ⟨#[c]⟩ 0 = (c.toNat : Int) := rfl

theorem index_ev (s : ByteArray) (c : UInt8) : Ev (fun k => strings_Index.f k s ⟨#[c]⟩) (Lib.indexByte s.data.toList c) := by
  have hj : ∀ b : Bool, (b = true → Lib.indexByte s.data.toList c = 0) → Ev (fun k => stringslite_Index.j0 k s ⟨#[c]⟩ 1 b) (Lib.indexByte s.data.toList c) := by
    intro b hb
    refine Ev.step (fun k => stringslite_Index.j0.eq_2 ..) ?_
    refine ev_ite (fun h => ev_some (hb h).symm) (fun _ => ?_)
    refine ev_pos rfl (ev_pos (by rw [size_one]; decide) ?_)
    refine ev_const ?_
    rw [bt_one]
    simp [stringslite_IndexByte.f]
  have h2 : Ev (fun k => stringslite_Index.f k s ⟨#[c]⟩) (Lib.indexByte s.data.toList c) := by
    simp only [stringslite_Index.f]
    refine ev_neg (by rw [size_one]; decide) ?_
    refine hj _ (fun h => ?_)
    have e : s.data.toList = [c] := by
      have := beq_iff_eq.1 h
      rw [toList_one, Lib.toList_data] at this
      exact this.symm
    rw [e]
    simp [Lib.indexByte]
  simp only [strings_Index.f]
  exact ev_bind h2 (ev_some rfl)

theorem indexByte_nonneg (l : List UInt8) (c : UInt8) : decide (Lib.indexByte l c ≥ 0) = l.contains c := by
  induction l with
  | nil => simp [Lib.indexByte]
  | cons b l ih =>
    have hge := Lib.indexByte_ge l c
    unfold Lib.indexByte
    by_cases h : (b == c) = true
    · have : b = c := beq_iff_eq.1 h
      simp [this]
    · have hb : (b == c) = false := by simpa using h
      have hne : ¬ c = b := fun e => h (by simp [e])
      rw [List.contains_cons, ← ih]
      simp only [hb]
      by_cases h2 : Lib.indexByte l c = -1
      · simp [h2, hne]
      · have h3 : (Lib.indexByte l c == -1) = false := by simpa using h2
        simp only [h3]
        have : Lib.indexByte l c ≥ 0 := by omega
        simp [hne, this]
        omega

theorem contains_ev (s : ByteArray) (c : UInt8) : Ev (fun k => strings_Contains.f k s ⟨#[c]⟩) (s.data.toList.contains c) := by
  simp only [strings_Contains.f]
  exact ev_bind (index_ev s c) (ev_some (indexByte_nonneg _ _))

theorem extract_data (s : ByteArray) (a b : Nat) : (s.extract a b).data.toList = (s.data.toList.take b).drop a := by
  rw [ByteArray.data_extract, Array.toList_extract, List.extract_eq_take_drop, ← List.drop_take]

theorem isLine_ev (s : ByteArray) (hs : s.size ≤ 9223372036854775807) : Ev (fun k => impl_isLine.f k s) (isLn s) := by
  simp only [impl_isLine.f, impl_in_eq, Option.bind_some]
  refine ev_ite (fun h => ?_) (fun h => ev_some (by unfold isLn; simp at h; simp [h]))
  have h1 : 1 ≤ s.size ∧ s.size ≤ 30 := by
    simp [inB] at h
    omega
  rw [wrap_pred s.size (by omega) hs]
  refine ev_pos (by omega) (ev_pos (by omega) ?_)
  refine ev_bind (contains_ev _ 10) (ev_some ?_)
  rw [Int.toNat_natCast, extract_data, List.drop_zero, ← data_length, ← List.dropLast_eq_take]
  unfold isLn
  rw [h]
  simp

theorem l1Line_l0 (s : ByteArray) (hs : s.size ≤ 9223372036854775807) : ∀ d i, i + d = s.size - 1 → Ev (fun k => spec_l1Line.l0 k s (i : Int)) (!((s.data.toList.dropLast.drop i).contains 10) && inB s.size 1 30) := by
  intro d
  have hl : s.data.toList.length = s.size := data_length s
  induction d with
  | zero =>
    intro i hi
    refine Ev.step (fun k => spec_l1Line.l0.eq_2 ..) ?_
    refine ev_neg (by rw [wrap64_id (by omega) (by omega)]; omega) ?_
    refine ev_const ?_
    rw [spec_l1In_eq, List.drop_of_length_le (by rw [List.length_dropLast]; omega)]
    rfl
  | succ d ih =>
    intro i hi
    refine Ev.step (fun k => spec_l1Line.l0.eq_2 ..) ?_
    refine ev_pos (by rw [wrap64_id (by omega) (by omega)]; omega) (ev_pos (by omega) (ev_pos (by omega) ?_))
    have hd : s.data.toList.dropLast.drop i = s.data.toList[i] :: s.data.toList.dropLast.drop (i + 1) := by
      rw [List.drop_eq_getElem_cons (by rw [List.length_dropLast]; omega), List.getElem_dropLast]
    rw [hd, List.contains_cons, bt_nat s i (by omega)]
    refine ev_ite (fun h => ev_some ?_) (fun h => ?_)
    · have : s.data.toList[i] = 10 := u8_eq h
      rw [this]
      simp
    · rw [wrap_succ i (by omega)]
      refine ev_to (ih (i + 1) (by omega)) ?_
      have : ((10 : UInt8) == s.data.toList[i]) = false := by
        rw [beq_eq_false_iff_ne]
        exact u8_ne h
      rw [this, Bool.false_or]

theorem l1Line_ev (s : ByteArray) (hs : s.size ≤ 9223372036854775807) : Ev (fun k => spec_l1Line.f k s) (isLn s) := by
  simp only [spec_l1Line.f]
  exact l1Line_l0 s hs (s.size - 1) 0 (by omega)

theorem isLn_size {s : ByteArray} (h : isLn s = true) : 1 ≤ s.size ∧ s.size ≤ 30 := by
  simp [isLn, inB] at h
  omega

theorem ends_last {s : ByteArray} (h : 1 ≤ s.size) : ends s = (bt s ((s.size - 1 : Nat) : Int) == 10) := by
  have hl : s.data.toList.length = s.size := data_length s
  have hq : s.data.toList.getLast? = some (s.data.toList[s.size - 1]'(by omega)) := by
    rw [List.getLast?_eq_getElem?, List.getElem?_eq_getElem (by omega)]
    simp only [hl]
  unfold ends
  rw [bt_nat s _ (by omega), hq]
  rw [Bool.eq_iff_iff]
  simp only [beq_iff_eq, Option.some.injEq]
  constructor
  · intro e; rw [e]; rfl
  · intro e; exact u8_eq e

theorem l1Ends_eq (s : ByteArray) (h : 1 ≤ s.size) (hs : s.size ≤ 9223372036854775807) : spec_l1Ends.f s = some (ends s) := by
  unfold spec_l1Ends.f
  rw [wrap_pred s.size (by omega) hs, if_pos (by omega), if_pos (by omega), ends_last h]

theorem hasSuffix_eq (s : ByteArray) (c : UInt8) (hs : s.size ≤ 9223372036854775807) : strings_HasSuffix.f s ⟨#[c]⟩ = some (s.data.toList.getLast? == some c) := by
  have hl : s.data.toList.length = s.size := data_length s
  unfold strings_HasSuffix.f stringslite_HasSuffix.f
  rw [size_one]
  by_cases h : 1 ≤ s.size
  · rw [if_pos (by omega), show ((1 : Nat) : Int) = 1 from rfl, wrap_pred s.size (by omega) hs, if_pos (by omega), if_pos (by omega), Option.bind_some, toList_one, Lib.toList_data, Int.toNat_natCast, extract_data, ← hl, List.take_length]
    have e : s.data.toList.drop (s.data.toList.length - 1) = [s.data.toList[s.data.toList.length - 1]'(by omega)] := by
      rw [List.drop_eq_getElem_cons (by omega), List.drop_of_length_le (by omega)]
    rw [e, List.getLast?_eq_getElem?, List.getElem?_eq_getElem (by omega)]
    congr 1
    rw [Bool.eq_iff_iff]
    simp
  · rw [if_neg (by omega), Option.bind_some]
    have : s.data.toList = [] := List.eq_nil_of_length_eq_zero (by omega)
    simp [this]

theorem isEnded_eq (s : ByteArray) (hs : s.size ≤ 9223372036854775807) : impl_isEnded.f s = some (ends s) := by
  unfold impl_isEnded.f
  rw [hasSuffix_eq s 10 hs]
  rfl

theorem areLines_l0 (l : List ByteArray) (hf : FitS l) : ∀ d i, i + d = l.length → ∃ j : Int, Ev (fun k => slices_IndexFunc_string_string__impl_areLines_1.l0 k l (l.length : Int) (i : Int)) j ∧ decide (j ≥ 0) = !((l.drop i).all isLn) := by
  intro d
  induction d with
  | zero =>
    intro i hi
    refine ⟨-1, Ev.step (fun k => slices_IndexFunc_string_string__impl_areLines_1.l0.eq_2 ..) (ev_neg (by omega) (ev_some rfl)), ?_⟩
    rw [List.drop_of_length_le (by omega)]
    rfl
  | succ d ih =>
    intro i hi
    have hlt : i < l.length := by omega
    have hev : Ev (fun k => impl_areLines_1.f k (rdOf ByteArray.empty l (i : Int))) (!isLn l[i]) := by
      rw [rdOf_lt _ _ _ hlt]
      simp only [impl_areLines_1.f]
      exact ev_bind (isLine_ev _ (hf.2 _ (List.getElem_mem _))) (ev_some rfl)
    obtain ⟨j, hj, hjj⟩ := ih (i + 1) (by omega)
    rw [drop_cons l i hlt, List.all_cons]
    by_cases h : isLn l[i] = true
    · refine ⟨j, Ev.step (fun k => slices_IndexFunc_string_string__impl_areLines_1.l0.eq_2 ..) (ev_pos (by omega) (ev_pos (by omega) (ev_pos (by omega) (ev_bind hev (ev_neg (by simp [h]) ?_))))), by rw [hjj, h]; simp⟩
      rw [wrap_succ i (by have := hf.1; omega)]
      exact hj
    · refine ⟨(i : Int), Ev.step (fun k => slices_IndexFunc_string_string__impl_areLines_1.l0.eq_2 ..) (ev_pos (by omega) (ev_pos (by omega) (ev_pos (by omega) (ev_bind hev (ev_pos (by simp [h]) (ev_some rfl)))))), ?_⟩
      simp [h]

theorem areLines_ev (l : List ByteArray) (hf : FitS l) : Ev (fun k => impl_areLines.f k l) (decide (l.length ≤ 40) && l.all isLn) := by
  simp only [impl_areLines.f]
  refine ev_ite (fun h => ?_) (fun h => ev_some ?_)
  · obtain ⟨j, hj, hjj⟩ := areLines_l0 l hf l.length 0 (by omega)
    simp only [slices_ContainsFunc_string_string__impl_areLines_1.f, slices_IndexFunc_string_string__impl_areLines_1.f]
    refine ev_bind (ev_bind hj (ev_some rfl)) (ev_some ?_)
    have : l.length ≤ 40 := by omega
    rw [hjj]
    simp [this]
  · have : ¬ l.length ≤ 40 := by omega
    simp [this]

theorem goodLines_l0 (l : List ByteArray) (hf : FitS l) : ∀ d i, i + d = l.length → Ev (fun k => impl_goodLines.l0 k l l (l.length : Int) (i : Int)) ((l.dropLast.drop i).all ends) := by
  intro d
  have hL := hf.1
  induction d with
  | zero =>
    intro i hi
    refine Ev.step (fun k => impl_goodLines.l0.eq_2 ..) (ev_neg (by omega) (ev_some ?_))
    rw [List.drop_of_length_le (by rw [List.length_dropLast]; omega)]
    rfl
  | succ d ih =>
    intro i hi
    have hlt : i < l.length := by omega
    refine Ev.step (fun k => impl_goodLines.l0.eq_2 ..) (ev_pos (by omega) (ev_pos (by omega) (ev_pos (by omega) ?_)))
    rw [wrap_pred l.length (by omega) hL, rdOf_lt _ _ _ hlt, isEnded_eq _ (hf.2 _ (List.getElem_mem _)), wrap_succ i (by omega)]
    simp only [Option.bind_some]
    refine ev_ite (fun h => ?_) (fun h => ?_)
    · have hd : l.dropLast.drop i = l[i] :: l.dropLast.drop (i + 1) := by
        rw [List.drop_eq_getElem_cons (by rw [List.length_dropLast]; omega), List.getElem_dropLast]
      rw [hd, List.all_cons]
      refine ev_ite (fun h => ?_) (fun h => ev_some (by simp [h]))
      rw [h, Bool.true_and]
      exact ih (i + 1) (by omega)
    · have e1 : l.dropLast.drop i = [] := List.drop_of_length_le (by rw [List.length_dropLast]; omega)
      have e2 : l.dropLast.drop (i + 1) = [] := List.drop_of_length_le (by rw [List.length_dropLast]; omega)
      have := ih (i + 1) (by omega)
      rw [e2] at this
      rw [e1]
      exact this

theorem goodLines_ev (l : List ByteArray) (hf : FitS l) : Ev (fun k => impl_goodLines.f k l) (good l) := by
  simp only [impl_goodLines.f]
  refine ev_bind (areLines_ev l hf) (ev_ite (fun h => ?_) (fun h => ev_some ?_))
  · refine ev_to (goodLines_l0 l hf l.length 0 (by omega)) ?_
    rw [List.drop_zero]
    unfold good
    rw [← Bool.and_assoc, h, Bool.true_and]
  · unfold good
    rw [← Bool.and_assoc]
    simp at h
    simp
    intro h1 h2
    exact absurd (h h1) (by simpa using h2)

theorem l1Good_l0 (l : List ByteArray) (hf : FitS l) : ∀ d i, i + d = l.length → Ev (fun k => spec_l1Good.l0 k l l (l.length : Int) (i : Int)) ((l.drop i).all isLn && (l.dropLast.drop i).all ends && decide (l.length ≤ 40)) := by
  intro d
  have hL := hf.1
  induction d with
  | zero =>
    intro i hi
    refine Ev.step (fun k => spec_l1Good.l0.eq_2 ..) (ev_neg (by omega) (ev_some ?_))
    rw [List.drop_of_length_le (by omega), List.drop_of_length_le (by rw [List.length_dropLast]; omega)]
    simp
    omega
  | succ d ih =>
    intro i hi
    have hlt : i < l.length := by omega
    refine Ev.step (fun k => spec_l1Good.l0.eq_2 ..) (ev_pos (by omega) (ev_pos (by omega) (ev_pos (by omega) ?_)))
    simp only [rdOf_lt _ _ _ hlt]
    rw [wrap_pred l.length (by omega) hL, wrap_succ i (by omega), drop_cons l i hlt, List.all_cons]
    refine ev_bind (l1Line_ev _ (hf.2 _ (List.getElem_mem _))) (ev_ite (fun h => ?_) (fun h => ev_some (by simp [h])))
    rw [h, Bool.true_and, l1Ends_eq _ (isLn_size h).1 (hf.2 _ (List.getElem_mem _))]
    simp only [Option.bind_some]
    refine ev_ite (fun h => ?_) (fun h => ?_)
    · have hd : l.dropLast.drop i = l[i] :: l.dropLast.drop (i + 1) := by
        rw [List.drop_eq_getElem_cons (by rw [List.length_dropLast]; omega), List.getElem_dropLast]
      rw [hd, List.all_cons]
      refine ev_ite (fun h => ?_) (fun h => ev_some (by simp [h]))
      rw [h, Bool.true_and]
      exact ih (i + 1) (by omega)
    · have e1 : l.dropLast.drop i = [] := List.drop_of_length_le (by rw [List.length_dropLast]; omega)
      have e2 : l.dropLast.drop (i + 1) = [] := List.drop_of_length_le (by rw [List.length_dropLast]; omega)
      have := ih (i + 1) (by omega)
      rw [e2] at this
      rw [e1]
      exact this

theorem l1Good_ev (l : List ByteArray) (hf : FitS l) : Ev (fun k => spec_l1Good.f k l) (good l) := by
  simp only [spec_l1Good.f]
  refine ev_to (l1Good_l0 l hf l.length 0 (by omega)) ?_
  rw [List.drop_zero, List.drop_zero]
  unfold good
  rw [Bool.and_comm]
end Go.Proofs.YtfmbpldjbmhnnaaDoor.Pl

/- Plain Lean: answers where both are good lines. No condition. -/
namespace Go.Proofs.YtfmbpldjbmhnnaaDoor.Pl
open Go.RowKit Go.Proofs.YtfmbpldjbmhnnaaDoorW.PrintWords Go.Proofs.YtfmbpldjbmhnnaaDoorW.PrintLast Go.Proofs.YtfmbpldjbmhnnaaDoor.My
set_option linter.unusedVariables false
set_option linter.unusedSimpArgs false

/-- Where both are good lines. -/
def both {α : Type} (a b : List ByteArray) (z v : α) : α × Bool := if good a = true then (if good b = true then (v, true) else (z, false)) else (z, false)

theorem good_len {l : List ByteArray} (h : good l = true) : l.length ≤ 40 := by
  unfold good at h
  rw [Bool.and_eq_true] at h
  exact of_decide_eq_true h.1

theorem both_ev {α : Type} {G : Nat → List ByteArray → Option Bool} {F : Nat → Option α} {a b : List ByteArray} {z v : α} (hg : ∀ l, FitS l → Ev (fun k => G k l) (good l)) (fa : FitS a) (fb : FitS b) (hF : good a = true → good b = true → Ev F v) :
    Ev (fun k => (G k a).bind fun t => (if t = true then ((G k b).bind fun t' => (if t' = true then ((F k).bind fun x => (some (x, true))) else (some (z, false)))) else (some (z, false)))) (both a b z v) := by
  unfold both
  refine ev_bind (hg a fa) (ev_ite (fun h => ?_) (fun h => ev_some (by rw [if_neg h])))
  rw [if_pos h]
  refine ev_bind (hg b fb) (ev_ite (fun h' => ?_) (fun h' => ev_some (by rw [if_neg h'])))
  rw [if_pos h']
  exact ev_bind (hF h h') (ev_some rfl)
end Go.Proofs.YtfmbpldjbmhnnaaDoor.Pl

/- Plain Lean: whether lines are good, as chapter 5 of the reference asks. Conditions: lengths and sizes below 2^63. -/
namespace Go.Proofs.YtfmbpldjbmhnnaaDoor.Pl
open Go.RowKit Go.Proofs.YtfmbpldjbmhnnaaDoorW.PrintWords Go.Proofs.YtfmbpldjbmhnnaaDoorW.PrintLast Go.Proofs.YtfmbpldjbmhnnaaDoor.My
set_option linter.unusedVariables false
set_option linter.unusedSimpArgs false

theorem l5Lines_l0 (l : List ByteArray) (hf : FitS l) : ∀ d i, i + d = l.length → Ev (fun k => spec_l5Lines.l0 k l l (l.length : Int) (i : Int)) ((l.drop i).all isLn && (l.dropLast.drop i).all ends && decide (l.length ≤ 40)) := by
  intro d
  have hL := hf.1
  induction d with
  | zero =>
    intro i hi
    refine Ev.step (fun k => spec_l5Lines.l0.eq_2 ..) (ev_neg (by omega) (ev_some ?_))
    rw [List.drop_of_length_le (by omega), List.drop_of_length_le (by rw [List.length_dropLast]; omega)]
    simp
    omega
  | succ d ih =>
    intro i hi
    have hlt : i < l.length := by omega
    refine Ev.step (fun k => spec_l5Lines.l0.eq_2 ..) (ev_pos (by omega) (ev_pos (by omega) (ev_pos (by omega) ?_)))
    simp only [rdOf_lt _ _ _ hlt]
    rw [wrap_pred l.length (by omega) hL, wrap_succ i (by omega), drop_cons l i hlt, List.all_cons]
    refine ev_bind (l1Line_ev _ (hf.2 _ (List.getElem_mem _))) (ev_ite (fun h => ?_) (fun h => ev_some (by simp [h])))
    rw [h, Bool.true_and, l1Ends_eq _ (isLn_size h).1 (hf.2 _ (List.getElem_mem _))]
    simp only [Option.bind_some]
    refine ev_ite (fun h => ?_) (fun h => ?_)
    · have hd : l.dropLast.drop i = l[i] :: l.dropLast.drop (i + 1) := by
        rw [List.drop_eq_getElem_cons (by rw [List.length_dropLast]; omega), List.getElem_dropLast]
      rw [hd, List.all_cons]
      refine ev_ite (fun h => ?_) (fun h => ev_some (by simp [h]))
      rw [h, Bool.true_and]
      exact ih (i + 1) (by omega)
    · have e1 : l.dropLast.drop i = [] := List.drop_of_length_le (by rw [List.length_dropLast]; omega)
      have e2 : l.dropLast.drop (i + 1) = [] := List.drop_of_length_le (by rw [List.length_dropLast]; omega)
      have := ih (i + 1) (by omega)
      rw [e2] at this
      rw [e1]
      exact this

theorem l5Lines_ev (l : List ByteArray) (hf : FitS l) : Ev (fun k => spec_l5Lines.f k l) (good l) := by
  simp only [spec_l5Lines.f]
  refine ev_to (l5Lines_l0 l hf l.length 0 (by omega)) ?_
  rw [List.drop_zero, List.drop_zero]
  unfold good
  rw [Bool.and_comm]

end Go.Proofs.YtfmbpldjbmhnnaaDoor.Pl

/- Plain Lean: chapter 5: when steps are good, for the program's inner function and the reference. Conditions: lengths and sizes below 2^63. -/
namespace Go.Proofs.YtfmbpldjbmhnnaaDoor.Pl
open Go.RowKit Go.Proofs.YtfmbpldjbmhnnaaDoorW.PrintWords Go.Proofs.YtfmbpldjbmhnnaaDoorW.PrintLast Go.Proofs.YtfmbpldjbmhnnaaDoor.My
set_option linter.unusedVariables false
set_option linter.unusedSimpArgs false

/-- A side's numbers tell of its lines. -/
def tellB (f t : Int) (l : List ByteArray) : Bool := if (l.length : Int) = 0 then f == t else if f ≥ 1 then wrap64 (wrap64 (t - f) + 1) == (l.length : Int) else false
def toldB (f t : Int) (l : List ByteArray) : Bool := inB f 0 1000 && (inB t 0 1000 && (good l && tellB f t l))
theorem isTold_ev (f t : Int) (l : List ByteArray) (hf : FitS l) : Ev (fun k => impl_isTold.f k f t l) (toldB f t l) := by
  simp only [impl_isTold.f, impl_in_eq, Option.bind_some]
  unfold toldB
  have fin : ∀ b, b = false → Ev (fun k => impl_isTold.j0 k f t l true) b := fun b hb => Ev.step (fun k => impl_isTold.j0.eq_2 ..) (ev_pos rfl (ev_some hb.symm))
  refine ev_ite (fun c => ?_) (fun c => fin _ (by rw [Bool.not_eq_true] at c; rw [c]; rfl))
  rw [c, Bool.true_and]
  refine ev_ite (fun c => ?_) (fun c => fin _ (by rw [Bool.not_eq_true] at c; rw [c]; rfl))
  rw [c, Bool.true_and]
  refine ev_bind (goodLines_ev l hf) (Ev.step (fun k => impl_isTold.j0.eq_2 ..) ?_)
  cases good l with
  | false => exact ev_pos rfl (ev_some rfl)
  | true =>
    rw [Bool.true_and]
    unfold tellB
    refine ev_neg (by simp) (ev_ite (fun e => ev_some (by rw [if_pos e])) (fun e => ?_))
    rw [if_neg e]
    exact ev_ite (fun e => ev_some (by rw [if_pos e])) (fun e => ev_some (by rw [if_neg e]))
theorem l5Side_ev (f t : Int) (l : List ByteArray) (hf : FitS l) : Ev (fun k => spec_l5Side.f k f t l) (toldB f t l) := by
  simp only [spec_l5Side.f, spec_l1In_eq, Option.bind_some]
  unfold toldB
  have fin : ∀ b, b = false → Ev (fun k => spec_l5Side.j0 k f t l true) b := fun b hb => Ev.step (fun k => spec_l5Side.j0.eq_2 ..) (ev_pos rfl (ev_some hb.symm))
  refine ev_ite (fun c => ?_) (fun c => fin _ (by rw [Bool.not_eq_true] at c; rw [c]; rfl))
  rw [c, Bool.true_and]
  refine ev_ite (fun c => ?_) (fun c => fin _ (by rw [Bool.not_eq_true] at c; rw [c]; rfl))
  rw [c, Bool.true_and]
  refine ev_bind (l5Lines_ev l hf) (Ev.step (fun k => spec_l5Side.j0.eq_2 ..) ?_)
  cases good l with
  | false => exact ev_pos rfl (ev_some rfl)
  | true =>
    rw [Bool.true_and]
    unfold tellB
    refine ev_neg (by simp) (ev_ite (fun e => ev_some (by rw [if_pos e, Bool.beq_comm])) (fun e => ?_))
    rw [if_neg e]
    exact ev_ite (fun e => ev_some (by rw [if_pos e])) (fun e => ev_some (by rw [if_neg e]))
theorem told_len {f t : Int} {l : List ByteArray} (h : toldB f t l = true) : l.length ≤ 40 := by
  unfold toldB at h
  rw [Bool.and_eq_true, Bool.and_eq_true, Bool.and_eq_true] at h
  exact good_len h.2.2.1

def stepB (x : IT) : Bool := toldB x.f0 x.f1 x.f2 && (toldB x.f3 x.f4 x.f5 && decide (0 < x.f2.length + x.f5.length))
theorem badStep_ev (x : IT) (hf : FitS x.f2 ∧ FitS x.f5) : Ev (fun k => impl_goodSteps_1.f k x.f0 x.f1 x.f2 x.f3 x.f4 x.f5) (!stepB x) := by
  simp only [impl_goodSteps_1.f]
  unfold stepB
  refine ev_bind (isTold_ev _ _ _ hf.1) (ev_ite (fun c => ?_) (fun c => ev_some (by rw [Bool.not_eq_true] at c; rw [c]; rfl)))
  refine ev_bind (isTold_ev _ _ _ hf.2) (ev_ite (fun c' => ev_some ?_) (fun c' => ev_some (by rw [Bool.not_eq_true] at c'; rw [c', c]; rfl)))
  have h1 := told_len c
  have h2 := told_len c'
  rw [c, c', wrap_add _ _ (by omega), Bool.true_and, Bool.true_and]
  by_cases e : 0 < x.f2.length + x.f5.length
  · rw [decide_eq_true e]
    simp only [Bool.not_true, beq_eq_false_iff_ne, ne_eq]
    omega
  · rw [decide_eq_false e, show x.f2.length + x.f5.length = 0 from by omega]
    rfl
theorem l5Step_ev (x : IT) (hf : FitS x.f2 ∧ FitS x.f5) : Ev (fun k => spec_l5Step.f k x.f0 x.f1 x.f2 x.f3 x.f4 x.f5) (stepB x) := by
  simp only [spec_l5Step.f]
  unfold stepB
  refine ev_bind (l5Side_ev _ _ _ hf.1) (ev_ite (fun c => ?_) (fun c => ev_some (by rw [Bool.not_eq_true] at c; rw [c]; rfl)))
  refine ev_bind (l5Side_ev _ _ _ hf.2) (ev_ite (fun c' => ev_some ?_) (fun c' => ev_some (by rw [Bool.not_eq_true] at c'; rw [c', c]; rfl)))
  have h1 := told_len c
  have h2 := told_len c'
  rw [c, c', wrap_add _ _ (by omega), Bool.true_and, Bool.true_and]
  by_cases e : 0 < x.f2.length + x.f5.length
  · rw [decide_eq_true e, decide_eq_true (by omega)]
  · rw [decide_eq_false e, decide_eq_false (by omega)]
def goodT (l : List IT) : Bool := decide (l.length ≤ 20) && l.all stepB
theorem goodSteps_l0 (l : List IT) (hf : FitIT l) : ∀ d i, i + d = l.length → ∃ j : Int, Ev (fun k => slices_IndexFunc_impl_Step_impl_Step__impl_goodSteps_1.l0 k l (l.length : Int) (i : Int)) j ∧ decide (j ≥ 0) = !((l.drop i).all stepB) := by
  intro d
  induction d with
  | zero =>
    intro i hi
    refine ⟨-1, Ev.step (fun k => slices_IndexFunc_impl_Step_impl_Step__impl_goodSteps_1.l0.eq_2 ..) (ev_neg (by omega) (ev_some rfl)), ?_⟩
    rw [List.drop_of_length_le (by omega)]
    rfl
  | succ d ih =>
    intro i hi
    have hlt : i < l.length := by omega
    have hev : Ev (fun k => impl_goodSteps_1.f k (rd_T56 l (i : Int)).f0 (rd_T56 l (i : Int)).f1 (rd_T56 l (i : Int)).f2 (rd_T56 l (i : Int)).f3 (rd_T56 l (i : Int)).f4 (rd_T56 l (i : Int)).f5) (!stepB l[i]) := by
      rw [rdIT l i hlt]
      exact badStep_ev _ (hf.2 _ (List.getElem_mem hlt))
    obtain ⟨j, hj, hjj⟩ := ih (i + 1) (by omega)
    rw [List.drop_eq_getElem_cons hlt, List.all_cons]
    by_cases h : stepB l[i] = true
    · refine ⟨j, Ev.step (fun k => slices_IndexFunc_impl_Step_impl_Step__impl_goodSteps_1.l0.eq_2 ..) (ev_pos (by omega) (ev_pos (by omega) (ev_pos (by omega) (ev_bind hev (ev_neg (by simp [h]) ?_))))), by rw [hjj, h]; simp⟩
      rw [wrap_succ i (by have := hf.1; omega)]
      exact hj
    · refine ⟨(i : Int), Ev.step (fun k => slices_IndexFunc_impl_Step_impl_Step__impl_goodSteps_1.l0.eq_2 ..) (ev_pos (by omega) (ev_pos (by omega) (ev_pos (by omega) (ev_bind hev (ev_pos (by simp [h]) (ev_some rfl)))))), ?_⟩
      simp [h]

theorem goodSteps_ev (l : List IT) (hf : FitIT l) : Ev (fun k => impl_goodSteps.f k l) (goodT l) := by
  simp only [impl_goodSteps.f]
  unfold goodT
  refine ev_ite (fun h => ?_) (fun h => ev_some ?_)
  · obtain ⟨j, hj, hjj⟩ := goodSteps_l0 l hf l.length 0 (by omega)
    simp only [slices_ContainsFunc_impl_Step_impl_Step__impl_goodSteps_1.f, slices_IndexFunc_impl_Step_impl_Step__impl_goodSteps_1.f]
    refine ev_bind (ev_bind hj (ev_some rfl)) (ev_some ?_)
    have : l.length ≤ 20 := by omega
    rw [hjj]
    simp [this]
  · have : ¬ l.length ≤ 20 := by omega
    simp [this]
theorem specGoodSteps_l0 (l : List IT) (hf : FitIT l) : ∀ d i, i + d = l.length → Ev (fun k => spec_GoodSteps.l0 k l l (l.length : Int) (i : Int)) ((l.drop i).all stepB && decide (l.length ≤ 20)) := by
  intro d
  have hL := hf.1
  induction d with
  | zero =>
    intro i hi
    refine Ev.step (fun k => spec_GoodSteps.l0.eq_2 ..) (ev_neg (by omega) (ev_some ?_))
    rw [List.drop_of_length_le (by omega)]
    simp
    omega
  | succ d ih =>
    intro i hi
    have hlt : i < l.length := by omega
    refine Ev.step (fun k => spec_GoodSteps.l0.eq_2 ..) (ev_pos (by omega) (ev_pos (by omega) (ev_pos (by omega) ?_)))
    simp only [rdIT _ _ hlt]
    rw [wrap_succ i (by omega), List.drop_eq_getElem_cons hlt, List.all_cons]
    refine ev_bind (l5Step_ev _ (hf.2 _ (List.getElem_mem _))) (ev_ite (fun h => ?_) (fun h => ev_some (by simp [h])))
    rw [h, Bool.true_and]
    exact ih (i + 1) (by omega)
theorem spec_GoodSteps_ev (l : List IT) (hf : FitIT l) : Ev (fun k => spec_GoodSteps.f k l) (goodT l) := by
  simp only [spec_GoodSteps.f]
  refine ev_to (specGoodSteps_l0 l hf l.length 0 (by omega)) ?_
  unfold goodT
  rw [List.drop_zero, Bool.and_comm]
end Go.Proofs.YtfmbpldjbmhnnaaDoor.Pl

/- Plain Lean: the numeral of a whole number, the program's and the reference's. Asked: 0 or more, below 2^62. -/
namespace Go.Proofs.YtfmbpldjbmhnnaaDoor.Pl
open Go.RowKit Go.Proofs.YtfmbpldjbmhnnaaDoorW.PrintWords Go.Proofs.YtfmbpldjbmhnnaaDoorW.PrintLast Go.Proofs.YtfmbpldjbmhnnaaDoor.My
set_option linter.unusedVariables false
set_option linter.unusedSimpArgs false

def num (n : Nat) : ByteArray := ⟨(Lib.decDigits n).toArray⟩
theorem num_data (n : Nat) : (num n).data.toList = Lib.decDigits n := rfl
theorem num_size (n : Nat) (h : n < 18446744073709551616) : (num n).size ≤ 20 := by
  have h1 : (num n).size = (Lib.decDigits n).length := by rw [← data_length, num_data]
  rw [h1, Lib.decDigits_length]
  exact Lib.nDigits_le20 n h
theorem itoa_eq (n : Nat) (h : n ≤ 9223372036854775807) : strconv_Itoa_65.f (n : Int) = some (num n) := by
  unfold strconv_Itoa_65.f
  rw [if_pos (by omega), Lib.itoa_nonneg]
  rfl
theorem digit_eq (d : Nat) (h : d < 10) : strOfNums [(wrap64 (48 + (d : Int))) % 256] = ⟨#[UInt8.ofNat (48 + d)]⟩ := by
  rw [wrap64_id (by omega) (by omega)]
  have e : ((48 + (d : Int)) % 256) = ((48 + d : Nat) : Int) := by omega
  rw [e]
  unfold strOfNums
  rw [List.map_cons, List.map_nil, Int.toNat_natCast]
theorem l1Num_ev : ∀ (n : Nat), n ≤ 4611686018427387904 → Ev (fun k => spec_l1Num.f k (n : Int)) (num n) := by
  intro n
  induction n using Nat.strongRecOn with
  | _ n ih =>
    intro hn
    refine Ev.step (fun k => spec_l1Num.f.eq_2 ..) ?_
    by_cases h : n < 10
    · refine ev_pos (by omega) (ev_some ?_)
      rw [digit_eq n h]
      unfold num
      rw [Lib.decDigits_one h]
    · have e1 : wrap64 (Int.tdiv (n : Int) 10) = ((n / 10 : Nat) : Int) := by
        rw [Int.tdiv_eq_ediv_of_nonneg (by omega), wrap64_id (by omega) (by omega)]
        omega
      have e2 : Int.tmod (n : Int) 10 = ((n % 10 : Nat) : Int) := by
        rw [Int.tmod_eq_emod_of_nonneg (by omega)]
        omega
      rw [e1, e2]
      refine ev_neg (by omega) (ev_bind (ih (n / 10) (by omega) (by omega)) ?_)
      simp only [Option.bind_some]
      rw [digit_eq (n % 10) (by omega)]
      refine ev_pos ?_ (ev_some ?_)
      · have := num_size (n / 10) (by omega)
        have e3 : (⟨#[UInt8.ofNat (48 + n % 10)]⟩ : ByteArray).size = 1 := rfl
        omega
      · refine ba_ext ?_
        rw [Lib.toList_data, Lib.toList_data, num_data, Lib.decDigits.eq_def n, dif_neg h]
        simp [num, ByteArray.toList_data_append]
end Go.Proofs.YtfmbpldjbmhnnaaDoor.Pl

/- Written by this session's program (wip/gen): a plain function with the same answers as the Go function, and the proof that the Go code comes to them. Asked: that the plain function has an answer. -/
namespace Go.Proofs.YtfmbpldjbmhnnaaDoor.My
open Go.RowKit Go.Proofs.YtfmbpldjbmhnnaaDoorW.PrintWords Go.Proofs.YtfmbpldjbmhnnaaDoorW.PrintLast
set_option linter.unusedVariables false
set_option linter.unusedSimpArgs false

/-! ### impl_endOf: function 41 -/
def impl_endOf.f (a0 : Int) (a1 : Int) : Option (Int) := some (wrap64 (a0 + a1))
set_option maxHeartbeats 8000000 in
set_option maxRecDepth 100000 in
theorem impl_endOf.calls (a0 : Int) (a1 : Int) (r : Int) (w : World) (h : impl_endOf.f a0 a1 = some r) :
  Calls Tryd.prog 41 #[.int .i64 a0, .int .i64 a1] w fun e w' => e = .returned (.int .i64 r) ∧ Drawn0 w w' := by
 have H : (some (wrap64 (a0 + a1))) = some r := h
 clear h
 obtain rfl := Option.some.inj H
 go_enter Tryd.func41, Tryd.ntmps41
 go_wp2
 go_ret
 exact ⟨by first | rfl | (simp; done) | (simp [*]; done), by repeat (first | exact Drawn0.refl _ | apply Drawn0.step)⟩

end Go.Proofs.YtfmbpldjbmhnnaaDoor.My

/- Written by this session's program (wip/gen): a plain function with the same answers as the Go function, and the proof that the Go code comes to them. Asked: that the plain function has an answer. -/
namespace Go.Proofs.YtfmbpldjbmhnnaaDoor.My
open Go.RowKit Go.Proofs.YtfmbpldjbmhnnaaDoorW.PrintWords Go.Proofs.YtfmbpldjbmhnnaaDoorW.PrintLast
set_option linter.unusedVariables false
set_option linter.unusedSimpArgs false

/-! ### impl_isRange: function 38 -/
def impl_isRange.f (a0 : Int) (a1 : Int) : Option (Bool) := (impl_in.f a0 0 999).bind fun t115 => (if t115 = true then ((impl_in.f a1 0 999).bind fun t116 => (some t116)) else (some false))
set_option maxHeartbeats 8000000 in
set_option maxRecDepth 100000 in
theorem impl_isRange.calls (a0 : Int) (a1 : Int) (r : Bool) (w : World) (h : impl_isRange.f a0 a1 = some r) :
  Calls Tryd.prog 38 #[.int .i64 a0, .int .i64 a1] w fun e w' => e = .returned (.bool r) ∧ Drawn0 w w' := by
 have H : ((impl_in.f a0 0 999).bind fun t115 => (if t115 = true then ((impl_in.f a1 0 999).bind fun t116 => (some t116)) else (some false))) = some r := h
 clear h
 replace H := Option.bind_eq_some_iff.mp H
 obtain ⟨t115, A30, H⟩ := H
 replace H : (if t115 = true then ((impl_in.f a1 0 999).bind fun t116 => (some t116)) else (some false)) = some r := H
 have A3 := Aside0.mk A30
 clear A30
 by_cases c4 : t115 = true
 ·subst c4
  have H1 : ((impl_in.f a1 0 999).bind fun t116 => (some t116)) = some r := by rw [if_pos rfl] at H; exact H
  clear H
  have H := H1
  clear H1
  replace H := Option.bind_eq_some_iff.mp H
  obtain ⟨t116, A50, H⟩ := H
  replace H : (some t116) = some r := H
  have A5 := Aside0.mk A50
  clear A50
  obtain rfl := Option.some.inj H
  go_enter Tryd.func38, Tryd.ntmps38
  go_wp2_with (first | ((with_reducible refine gateC (f := 64) rfl ?_); refine goesL_ (some 6) rfl rfl Tryd.func64 (by kernel_rfl) rfl #[.int .i64 a0, .int .i64 0, .int .i64 999] rfl zm ?_; (with_reducible refine (impl_in.calls a0 0 999 true _ A3.out).mono ?_); rintro e w' ⟨rfl, ⟨nd, rfl⟩⟩; refine ⟨_, rfl, ?_⟩) | (go_at_call 64; (with_reducible refine (impl_in.calls a1 0 999 t116 _ A5.out).mono ?_); rintro e w' ⟨rfl, ⟨nd, rfl⟩⟩))
  go_ret
  exact ⟨by first | rfl | (simp; done) | (simp [*]; done), by repeat (first | exact Drawn0.refl _ | apply Drawn0.step)⟩
 ·replace c4 := Bool.eq_false_iff.mpr c4
  subst c4
  have H1 : (some false) = some r := by rw [if_neg (show ¬ (false = true) by decide)] at H; exact H
  clear H
  have H := H1
  clear H1
  obtain rfl := Option.some.inj H
  go_enter Tryd.func38, Tryd.ntmps38
  go_wp2_with (first | ((with_reducible refine gateC (f := 64) rfl ?_); refine goesL_ (some 6) rfl rfl Tryd.func64 (by kernel_rfl) rfl #[.int .i64 a0, .int .i64 0, .int .i64 999] rfl zm ?_; (with_reducible refine (impl_in.calls a0 0 999 false _ A3.out).mono ?_); rintro e w' ⟨rfl, ⟨nd, rfl⟩⟩; refine ⟨_, rfl, ?_⟩))
  go_ret
  exact ⟨by first | rfl | (simp; done) | (simp [*]; done), by repeat (first | exact Drawn0.refl _ | apply Drawn0.step)⟩

end Go.Proofs.YtfmbpldjbmhnnaaDoor.My

/- Written by this session's program (wip/gen): a plain function with the same answers as the Go function, and the proof that the Go code comes to them. Asked: that the plain function has an answer. -/
namespace Go.Proofs.YtfmbpldjbmhnnaaDoor.My
open Go.RowKit Go.Proofs.YtfmbpldjbmhnnaaDoorW.PrintWords Go.Proofs.YtfmbpldjbmhnnaaDoorW.PrintLast
set_option linter.unusedVariables false
set_option linter.unusedSimpArgs false

/-! ### impl_numberOf: function 40 -/
def impl_numberOf.f (a0 : Int) (a1 : Int) : Option (Int) := if a1 > 0 then (some (wrap64 (a0 + 1))) else (some a0)
set_option maxHeartbeats 8000000 in
set_option maxRecDepth 100000 in
theorem impl_numberOf.calls (a0 : Int) (a1 : Int) (r : Int) (w : World) (h : impl_numberOf.f a0 a1 = some r) :
  Calls Tryd.prog 40 #[.int .i64 a0, .int .i64 a1] w fun e w' => e = .returned (.int .i64 r) ∧ Drawn0 w w' := by
 have H : (if a1 > 0 then (some (wrap64 (a0 + 1))) else (some a0)) = some r := h
 clear h
 by_cases c3 : a1 > 0
 ·rw [if_pos c3] at H
  have c3b0 : decide (0 < a1) = true := decide_eq_true c3
  clear c3
  obtain rfl := Option.some.inj H
  go_enter Tryd.func40, Tryd.ntmps40
  go_wp2
  go_ret
  exact ⟨by first | rfl | (simp; done) | (simp [*]; done), by repeat (first | exact Drawn0.refl _ | apply Drawn0.step)⟩
 ·rw [if_neg c3] at H
  have c3b0 : decide (0 < a1) = false := decide_eq_false c3
  clear c3
  obtain rfl := Option.some.inj H
  go_enter Tryd.func40, Tryd.ntmps40
  go_wp2
  go_ret
  exact ⟨by first | rfl | (simp; done) | (simp [*]; done), by repeat (first | exact Drawn0.refl _ | apply Drawn0.step)⟩

end Go.Proofs.YtfmbpldjbmhnnaaDoor.My

/- Written by this session's program (wip/gen): a plain function with the same answers as the Go function, and the proof that the Go code comes to them. Asked: that the plain function has an answer. -/
namespace Go.Proofs.YtfmbpldjbmhnnaaDoor.My
open Go.RowKit Go.Proofs.YtfmbpldjbmhnnaaDoorW.PrintWords Go.Proofs.YtfmbpldjbmhnnaaDoorW.PrintLast
set_option linter.unusedVariables false
set_option linter.unusedSimpArgs false

/-! ### impl_PairText: function 12 -/
def impl_PairText.f (a0 : Int) (a1 : Int) : Option (ByteArray × Bool) := (impl_isRange.f a0 a1).bind fun t145 => (if t145 = true then ((impl_numberOf.f a0 a1).bind fun t146 => ((impl_endOf.f a0 a1).bind fun t147 => ((impl_pairOf.f t146 t147).bind fun t148 => (some (t148, true))))) else (some ((⟨#[]⟩ : ByteArray), false)))
set_option maxHeartbeats 8000000 in
set_option maxRecDepth 100000 in
theorem impl_PairText.calls (es : Bool) (a0 : Int) (a1 : Int) (r1 : ByteArray) (r2 : Bool) (w : World) (ht : Door es w) (h : impl_PairText.f a0 a1 = some (r1, r2)) :
  Calls Tryd.prog 12 #[.int .i64 a0, .int .i64 a1] w fun e w' => e = .returned (.tuple #[.string r1, .bool r2]) ∧ Below w.heap.size w w' := by
 have HT := Aside0.mk ht
 clear ht
 have HB := Aside0.mk (Below.refl w.heap.size w)
 have H : ((impl_isRange.f a0 a1).bind fun t145 => (if t145 = true then ((impl_numberOf.f a0 a1).bind fun t146 => ((impl_endOf.f a0 a1).bind fun t147 => ((impl_pairOf.f t146 t147).bind fun t148 => (some (t148, true))))) else (some ((⟨#[]⟩ : ByteArray), false)))) = some (r1, r2) := h
 clear h
 replace H := Option.bind_eq_some_iff.mp H
 obtain ⟨t145, A30, H⟩ := H
 replace H : (if t145 = true then ((impl_numberOf.f a0 a1).bind fun t146 => ((impl_endOf.f a0 a1).bind fun t147 => ((impl_pairOf.f t146 t147).bind fun t148 => (some (t148, true))))) else (some ((⟨#[]⟩ : ByteArray), false))) = some (r1, r2) := H
 have A3 := Aside0.mk A30
 clear A30
 by_cases c4 : t145 = true
 ·subst c4
  have H1 : ((impl_numberOf.f a0 a1).bind fun t146 => ((impl_endOf.f a0 a1).bind fun t147 => ((impl_pairOf.f t146 t147).bind fun t148 => (some (t148, true))))) = some (r1, r2) := by rw [if_pos rfl] at H; exact H
  clear H
  have H := H1
  clear H1
  replace H := Option.bind_eq_some_iff.mp H
  obtain ⟨t146, A50, H⟩ := H
  replace H : ((impl_endOf.f a0 a1).bind fun t147 => ((impl_pairOf.f t146 t147).bind fun t148 => (some (t148, true)))) = some (r1, r2) := H
  have A5 := Aside0.mk A50
  clear A50
  replace H := Option.bind_eq_some_iff.mp H
  obtain ⟨t147, A60, H⟩ := H
  replace H : ((impl_pairOf.f t146 t147).bind fun t148 => (some (t148, true))) = some (r1, r2) := H
  have A6 := Aside0.mk A60
  clear A60
  replace H := Option.bind_eq_some_iff.mp H
  obtain ⟨t148, A70, H⟩ := H
  replace H : (some (t148, true)) = some (r1, r2) := H
  have A7 := Aside0.mk A70
  clear A70
  simp only [Option.some.injEq, Prod.mk.injEq] at H
  obtain ⟨rfl, rfl⟩ := H
  go_enter Tryd.func12, Tryd.ntmps12
  go_wp2_with (first | ((with_reducible refine gateC (f := 38) rfl ?_); refine goesL_ (some 8) rfl rfl Tryd.func38 (by kernel_rfl) rfl #[.int .i64 a0, .int .i64 a1] rfl zm ?_; (with_reducible refine (impl_isRange.calls a0 a1 true _ A3.out).mono ?_); rintro e w' ⟨rfl, ⟨nd, rfl⟩⟩; refine ⟨_, rfl, ?_⟩) | ((with_reducible refine gateC (f := 40) rfl ?_); refine goesL_ (some 12) rfl rfl Tryd.func40 (by kernel_rfl) rfl #[.int .i64 a0, .int .i64 a1] rfl zm ?_; (with_reducible refine (impl_numberOf.calls a0 a1 t146 _ A5.out).mono ?_); rintro e w' ⟨rfl, ⟨nd, rfl⟩⟩; refine ⟨_, rfl, ?_⟩) | ((with_reducible refine gateC (f := 41) rfl ?_); refine goesL_ (some 15) rfl rfl Tryd.func41 (by kernel_rfl) rfl #[.int .i64 a0, .int .i64 a1] rfl zm ?_; (with_reducible refine (impl_endOf.calls a0 a1 t147 _ A6.out).mono ?_); rintro e w' ⟨rfl, ⟨nd, rfl⟩⟩; refine ⟨_, rfl, ?_⟩) | ((with_reducible refine gateC (f := 39) rfl ?_); refine goesL_ (some 16) rfl rfl Tryd.func39 (by kernel_rfl) rfl #[.int .i64 t146, .int .i64 t147] rfl zm ?_; (with_reducible refine (impl_pairOf.calls es t146 t147 t148 _ ?sideT A7.out).mono ?_); (case sideT => exact Door.below HT.out zb); rintro e w8 ⟨rfl, hb⟩; refine ⟨_, rfl, ?_⟩; have n0_ := Aside0.mk (below_step zb hb); clear HB; have HB := n0_; clear n0_; (try clear hb); (try clear hb2); (try clear hk); (try clear hi)))
  go_ret2
  exact ⟨by first | rfl | (simp [errW_none, errW_some] <;> rfl) | (simp [*, errW_none, errW_some] <;> rfl), by repeat (first | (with_reducible first | exact HB.out | apply below_alloc | apply pw_below_drewN | apply below_drew1) | exact HB.out)⟩
 ·replace c4 := Bool.eq_false_iff.mpr c4
  subst c4
  have H1 : (some ((⟨#[]⟩ : ByteArray), false)) = some (r1, r2) := by rw [if_neg (show ¬ (false = true) by decide)] at H; exact H
  clear H
  have H := H1
  clear H1
  simp only [Option.some.injEq, Prod.mk.injEq] at H
  obtain ⟨rfl, rfl⟩ := H
  go_enter Tryd.func12, Tryd.ntmps12
  go_wp2_with (first | ((with_reducible refine gateC (f := 38) rfl ?_); refine goesL_ (some 8) rfl rfl Tryd.func38 (by kernel_rfl) rfl #[.int .i64 a0, .int .i64 a1] rfl zm ?_; (with_reducible refine (impl_isRange.calls a0 a1 false _ A3.out).mono ?_); rintro e w' ⟨rfl, ⟨nd, rfl⟩⟩; refine ⟨_, rfl, ?_⟩))
  go_ret2
  exact ⟨by first | rfl | (simp [errW_none, errW_some] <;> rfl) | (simp [*, errW_none, errW_some] <;> rfl), by repeat (first | (with_reducible first | exact HB.out | apply below_alloc | apply pw_below_drewN | apply below_drew1) | exact HB.out)⟩

end Go.Proofs.YtfmbpldjbmhnnaaDoor.My

/- Written by this session's program (wip/gen): a plain function with the same answers as the Go function, and the proof that the Go code comes to them. Asked: that the plain function has an answer. -/
namespace Go.Proofs.YtfmbpldjbmhnnaaDoor.My
open Go.RowKit Go.Proofs.YtfmbpldjbmhnnaaDoorW.PrintWords Go.Proofs.YtfmbpldjbmhnnaaDoorW.PrintLast
set_option linter.unusedVariables false
set_option linter.unusedSimpArgs false

/-! ### spec_l4Number: function 63 -/
def spec_l4Number.f (a0 : Int) (a1 : Int) : Option (Int) := if a1 > 0 then (some (wrap64 (a0 + 1))) else (some a0)
set_option maxHeartbeats 8000000 in
set_option maxRecDepth 100000 in
theorem spec_l4Number.calls (a0 : Int) (a1 : Int) (r : Int) (w : World) (h : spec_l4Number.f a0 a1 = some r) :
  Calls Tryd.prog 63 #[.int .i64 a0, .int .i64 a1] w fun e w' => e = .returned (.int .i64 r) ∧ Drawn0 w w' := by
 have H : (if a1 > 0 then (some (wrap64 (a0 + 1))) else (some a0)) = some r := h
 clear h
 by_cases c3 : a1 > 0
 ·rw [if_pos c3] at H
  have c3b0 : decide (0 < a1) = true := decide_eq_true c3
  clear c3
  obtain rfl := Option.some.inj H
  go_enter Tryd.func63, Tryd.ntmps63
  go_wp2
  go_ret
  exact ⟨by first | rfl | (simp; done) | (simp [*]; done), by repeat (first | exact Drawn0.refl _ | apply Drawn0.step)⟩
 ·rw [if_neg c3] at H
  have c3b0 : decide (0 < a1) = false := decide_eq_false c3
  clear c3
  obtain rfl := Option.some.inj H
  go_enter Tryd.func63, Tryd.ntmps63
  go_wp2
  go_ret
  exact ⟨by first | rfl | (simp; done) | (simp [*]; done), by repeat (first | exact Drawn0.refl _ | apply Drawn0.step)⟩

end Go.Proofs.YtfmbpldjbmhnnaaDoor.My

/- Written by this session's program (wip/gen): a plain function with the same answers as the Go function, and the proof that the Go code comes to them. Asked: that the plain function has an answer. -/
namespace Go.Proofs.YtfmbpldjbmhnnaaDoor.My
open Go.RowKit Go.Proofs.YtfmbpldjbmhnnaaDoorW.PrintWords Go.Proofs.YtfmbpldjbmhnnaaDoorW.PrintLast
set_option linter.unusedVariables false
set_option linter.unusedSimpArgs false

/-! ### spec_l4Pair: function 37 -/
def spec_l4Pair.f (k : Nat) (a0 : Int) (a1 : Int) : Option (ByteArray) := (spec_l4Number.f a0 a1).bind fun t110 => ((spec_l1Num.f k t110).bind fun t111 => (if a1 > 1 then ((spec_l1Num.f k (wrap64 (a0 + a1))).bind fun t112 => (if 1 + t112.size ≤ 9223372036854775807 then (if t111.size + ((⟨#[44]⟩ : ByteArray) ++ t112).size ≤ 9223372036854775807 then (some (t111 ++ ((⟨#[44]⟩ : ByteArray) ++ t112))) else (none)) else (none))) else (some t111)))
set_option maxHeartbeats 8000000 in
set_option maxRecDepth 100000 in
theorem spec_l4Pair.calls (k : Nat) (a0 : Int) (a1 : Int) (r : ByteArray) (w : World) (h : spec_l4Pair.f k a0 a1 = some r) :
  Calls Tryd.prog 37 #[.int .i64 a0, .int .i64 a1] w fun e w' => e = .returned (.string r) ∧ Below w.heap.size w w' := by
 have HB := Aside0.mk (Below.refl w.heap.size w)
 have H : ((spec_l4Number.f a0 a1).bind fun t110 => ((spec_l1Num.f k t110).bind fun t111 => (if a1 > 1 then ((spec_l1Num.f k (wrap64 (a0 + a1))).bind fun t112 => (if 1 + t112.size ≤ 9223372036854775807 then (if t111.size + ((⟨#[44]⟩ : ByteArray) ++ t112).size ≤ 9223372036854775807 then (some (t111 ++ ((⟨#[44]⟩ : ByteArray) ++ t112))) else (none)) else (none))) else (some t111)))) = some r := h
 clear h
 replace H := Option.bind_eq_some_iff.mp H
 obtain ⟨t110, A30, H⟩ := H
 replace H : ((spec_l1Num.f k t110).bind fun t111 => (if a1 > 1 then ((spec_l1Num.f k (wrap64 (a0 + a1))).bind fun t112 => (if 1 + t112.size ≤ 9223372036854775807 then (if t111.size + ((⟨#[44]⟩ : ByteArray) ++ t112).size ≤ 9223372036854775807 then (some (t111 ++ ((⟨#[44]⟩ : ByteArray) ++ t112))) else (none)) else (none))) else (some t111))) = some r := H
 have A3 := Aside0.mk A30
 clear A30
 replace H := Option.bind_eq_some_iff.mp H
 obtain ⟨t111, A40, H⟩ := H
 replace H : (if a1 > 1 then ((spec_l1Num.f k (wrap64 (a0 + a1))).bind fun t112 => (if 1 + t112.size ≤ 9223372036854775807 then (if t111.size + ((⟨#[44]⟩ : ByteArray) ++ t112).size ≤ 9223372036854775807 then (some (t111 ++ ((⟨#[44]⟩ : ByteArray) ++ t112))) else (none)) else (none))) else (some t111)) = some r := H
 have A4 := Aside0.mk A40
 clear A40
 by_cases c5 : a1 > 1
 ·rw [if_pos c5] at H
  have c5b0 : decide (1 < a1) = true := decide_eq_true c5
  clear c5
  replace H := Option.bind_eq_some_iff.mp H
  obtain ⟨t112, A60, H⟩ := H
  replace H : (if 1 + t112.size ≤ 9223372036854775807 then (if t111.size + ((⟨#[44]⟩ : ByteArray) ++ t112).size ≤ 9223372036854775807 then (some (t111 ++ ((⟨#[44]⟩ : ByteArray) ++ t112))) else (none)) else (none)) = some r := H
  have A6 := Aside0.mk A60
  clear A60
  by_cases c7 : 1 + t112.size ≤ 9223372036854775807
  ·rw [if_pos c7] at H
   have c7b0 := eq_true c7
   have c7b1 : decide (1 + t112.size ≤ 9223372036854775807) = true := decide_eq_true c7
   try have c7b2 : (9223372036854775807 < 1 + t112.size) = False := eq_false (Nat.not_lt.2 c7)
   by_cases c8 : t111.size + ((⟨#[44]⟩ : ByteArray) ++ t112).size ≤ 9223372036854775807
   ·rw [if_pos c8] at H
    have c8b0 := eq_true c8
    have c8b1 : decide (t111.size + ((⟨#[44]⟩ : ByteArray) ++ t112).size ≤ 9223372036854775807) = true := decide_eq_true c8
    try have c8b2 : (9223372036854775807 < t111.size + ((⟨#[44]⟩ : ByteArray) ++ t112).size) = False := eq_false (Nat.not_lt.2 c8)
    try have c8b9 := c8
    try simp only [ByteArray.size_append, show (⟨#[44]⟩ : ByteArray).size = 1 from rfl] at c8b9
    try have c8b8 := eq_false (Nat.not_lt.2 c8b9)
    try replace c8b9 := eq_true c8b9
    obtain rfl := Option.some.inj H
    go_enter Tryd.func37, Tryd.ntmps37
    go_wp2_with (first | ((with_reducible refine gateC (f := 63) rfl ?_); refine goesL_ (some 8) rfl rfl Tryd.func63 (by kernel_rfl) rfl #[.int .i64 a0, .int .i64 a1] rfl zm ?_; (with_reducible refine (spec_l4Number.calls a0 a1 t110 _ A3.out).mono ?_); rintro e w' ⟨rfl, ⟨nd, rfl⟩⟩; refine ⟨_, rfl, ?_⟩) | ((with_reducible refine gateC (f := 62) rfl ?_); refine goesL_ (some 9) rfl rfl Tryd.func62 (by kernel_rfl) rfl #[.int .i64 t110] rfl zm ?_; (with_reducible refine (spec_l1Num.calls k t110 t111 _ A4.out).mono ?_); rintro e w9 ⟨rfl, hb⟩; refine ⟨_, rfl, ?_⟩; have n0_ := Aside0.mk (below_step zb hb); clear HB; have HB := n0_; clear n0_; (try clear hb); (try clear hb2); (try clear hk); (try clear hi)) | ((with_reducible refine gateC (f := 62) rfl ?_); refine goesL_ (some 16) rfl rfl Tryd.func62 (by kernel_rfl) rfl #[.int .i64 (wrap64 (a0 + a1))] rfl zm ?_; (with_reducible refine (spec_l1Num.calls k (wrap64 (a0 + a1)) t112 _ A6.out).mono ?_); rintro e w10 ⟨rfl, hb⟩; refine ⟨_, rfl, ?_⟩; have n0_ := Aside0.mk (below_step zb hb); clear HB; have HB := n0_; clear n0_; (try clear hb); (try clear hb2); (try clear hk); (try clear hi)))
    go_ret
    exact ⟨by first | rfl | (simp [errW_none, errW_some] <;> rfl) | (simp [*, errW_none, errW_some] <;> rfl), by repeat (first | (with_reducible first | exact HB.out | apply below_alloc | apply pw_below_drewN | apply below_drew1) | exact HB.out)⟩
   ·rw [if_neg c8] at H
    exact absurd H (by simp)
  ·rw [if_neg c7] at H
   exact absurd H (by simp)
 ·rw [if_neg c5] at H
  have c5b0 : decide (1 < a1) = false := decide_eq_false c5
  clear c5
  obtain rfl := Option.some.inj H
  go_enter Tryd.func37, Tryd.ntmps37
  go_wp2_with (first | ((with_reducible refine gateC (f := 63) rfl ?_); refine goesL_ (some 8) rfl rfl Tryd.func63 (by kernel_rfl) rfl #[.int .i64 a0, .int .i64 a1] rfl zm ?_; (with_reducible refine (spec_l4Number.calls a0 a1 t110 _ A3.out).mono ?_); rintro e w' ⟨rfl, ⟨nd, rfl⟩⟩; refine ⟨_, rfl, ?_⟩) | ((with_reducible refine gateC (f := 62) rfl ?_); refine goesL_ (some 9) rfl rfl Tryd.func62 (by kernel_rfl) rfl #[.int .i64 t110] rfl zm ?_; (with_reducible refine (spec_l1Num.calls k t110 t111 _ A4.out).mono ?_); rintro e w11 ⟨rfl, hb⟩; refine ⟨_, rfl, ?_⟩; have n0_ := Aside0.mk (below_step zb hb); clear HB; have HB := n0_; clear n0_; (try clear hb); (try clear hb2); (try clear hk); (try clear hi)))
  go_ret
  exact ⟨by first | rfl | (simp [errW_none, errW_some] <;> rfl) | (simp [*, errW_none, errW_some] <;> rfl), by repeat (first | (with_reducible first | exact HB.out | apply below_alloc | apply pw_below_drewN | apply below_drew1) | exact HB.out)⟩

end Go.Proofs.YtfmbpldjbmhnnaaDoor.My

/- Written by this session's program (wip/gen): a plain function with the same answers as the Go function, and the proof that the Go code comes to them. Asked: that the plain function has an answer. -/
namespace Go.Proofs.YtfmbpldjbmhnnaaDoor.My
open Go.RowKit Go.Proofs.YtfmbpldjbmhnnaaDoorW.PrintWords Go.Proofs.YtfmbpldjbmhnnaaDoorW.PrintLast
set_option linter.unusedVariables false
set_option linter.unusedSimpArgs false

/-! ### spec_l4Range: function 36 -/
def spec_l4Range.f (a0 : Int) (a1 : Int) : Option (Bool) := (spec_l1In.f a0 0 999).bind fun t101 => (if t101 = true then ((spec_l1In.f a1 0 999).bind fun t102 => (some t102)) else (some false))
set_option maxHeartbeats 8000000 in
set_option maxRecDepth 100000 in
theorem spec_l4Range.calls (a0 : Int) (a1 : Int) (r : Bool) (w : World) (h : spec_l4Range.f a0 a1 = some r) :
  Calls Tryd.prog 36 #[.int .i64 a0, .int .i64 a1] w fun e w' => e = .returned (.bool r) ∧ Drawn0 w w' := by
 have H : ((spec_l1In.f a0 0 999).bind fun t101 => (if t101 = true then ((spec_l1In.f a1 0 999).bind fun t102 => (some t102)) else (some false))) = some r := h
 clear h
 replace H := Option.bind_eq_some_iff.mp H
 obtain ⟨t101, A30, H⟩ := H
 replace H : (if t101 = true then ((spec_l1In.f a1 0 999).bind fun t102 => (some t102)) else (some false)) = some r := H
 have A3 := Aside0.mk A30
 clear A30
 by_cases c4 : t101 = true
 ·subst c4
  have H1 : ((spec_l1In.f a1 0 999).bind fun t102 => (some t102)) = some r := by rw [if_pos rfl] at H; exact H
  clear H
  have H := H1
  clear H1
  replace H := Option.bind_eq_some_iff.mp H
  obtain ⟨t102, A50, H⟩ := H
  replace H : (some t102) = some r := H
  have A5 := Aside0.mk A50
  clear A50
  obtain rfl := Option.some.inj H
  go_enter Tryd.func36, Tryd.ntmps36
  go_wp2_with (first | ((with_reducible refine gateC (f := 61) rfl ?_); refine goesL_ (some 6) rfl rfl Tryd.func61 (by kernel_rfl) rfl #[.int .i64 a0, .int .i64 0, .int .i64 999] rfl zm ?_; (with_reducible refine (spec_l1In.calls a0 0 999 true _ A3.out).mono ?_); rintro e w' ⟨rfl, ⟨nd, rfl⟩⟩; refine ⟨_, rfl, ?_⟩) | (go_at_call 61; (with_reducible refine (spec_l1In.calls a1 0 999 t102 _ A5.out).mono ?_); rintro e w' ⟨rfl, ⟨nd, rfl⟩⟩))
  go_ret
  exact ⟨by first | rfl | (simp; done) | (simp [*]; done), by repeat (first | exact Drawn0.refl _ | apply Drawn0.step)⟩
 ·replace c4 := Bool.eq_false_iff.mpr c4
  subst c4
  have H1 : (some false) = some r := by rw [if_neg (show ¬ (false = true) by decide)] at H; exact H
  clear H
  have H := H1
  clear H1
  obtain rfl := Option.some.inj H
  go_enter Tryd.func36, Tryd.ntmps36
  go_wp2_with (first | ((with_reducible refine gateC (f := 61) rfl ?_); refine goesL_ (some 6) rfl rfl Tryd.func61 (by kernel_rfl) rfl #[.int .i64 a0, .int .i64 0, .int .i64 999] rfl zm ?_; (with_reducible refine (spec_l1In.calls a0 0 999 false _ A3.out).mono ?_); rintro e w' ⟨rfl, ⟨nd, rfl⟩⟩; refine ⟨_, rfl, ?_⟩))
  go_ret
  exact ⟨by first | rfl | (simp; done) | (simp [*]; done), by repeat (first | exact Drawn0.refl _ | apply Drawn0.step)⟩

end Go.Proofs.YtfmbpldjbmhnnaaDoor.My

/- Written by this session's program (wip/gen): a plain function with the same answers as the Go function, and the proof that the Go code comes to them. Asked: that the plain function has an answer. -/
namespace Go.Proofs.YtfmbpldjbmhnnaaDoor.My
open Go.RowKit Go.Proofs.YtfmbpldjbmhnnaaDoorW.PrintWords Go.Proofs.YtfmbpldjbmhnnaaDoorW.PrintLast
set_option linter.unusedVariables false
set_option linter.unusedSimpArgs false

/-! ### spec_PairText: function 11 -/
def spec_PairText.f (k : Nat) (a0 : Int) (a1 : Int) : Option (ByteArray × Bool) := (spec_l4Range.f a0 a1).bind fun t113 => (if t113 = true then ((spec_l4Pair.f k a0 a1).bind fun t114 => (some (t114, true))) else (some ((⟨#[]⟩ : ByteArray), false)))
set_option maxHeartbeats 8000000 in
set_option maxRecDepth 100000 in
theorem spec_PairText.calls (k : Nat) (a0 : Int) (a1 : Int) (r1 : ByteArray) (r2 : Bool) (w : World) (h : spec_PairText.f k a0 a1 = some (r1, r2)) :
  Calls Tryd.prog 11 #[.int .i64 a0, .int .i64 a1] w fun e w' => e = .returned (.tuple #[.string r1, .bool r2]) ∧ Below w.heap.size w w' := by
 have HB := Aside0.mk (Below.refl w.heap.size w)
 have H : ((spec_l4Range.f a0 a1).bind fun t113 => (if t113 = true then ((spec_l4Pair.f k a0 a1).bind fun t114 => (some (t114, true))) else (some ((⟨#[]⟩ : ByteArray), false)))) = some (r1, r2) := h
 clear h
 replace H := Option.bind_eq_some_iff.mp H
 obtain ⟨t113, A30, H⟩ := H
 replace H : (if t113 = true then ((spec_l4Pair.f k a0 a1).bind fun t114 => (some (t114, true))) else (some ((⟨#[]⟩ : ByteArray), false))) = some (r1, r2) := H
 have A3 := Aside0.mk A30
 clear A30
 by_cases c4 : t113 = true
 ·subst c4
  have H1 : ((spec_l4Pair.f k a0 a1).bind fun t114 => (some (t114, true))) = some (r1, r2) := by rw [if_pos rfl] at H; exact H
  clear H
  have H := H1
  clear H1
  replace H := Option.bind_eq_some_iff.mp H
  obtain ⟨t114, A50, H⟩ := H
  replace H : (some (t114, true)) = some (r1, r2) := H
  have A5 := Aside0.mk A50
  clear A50
  simp only [Option.some.injEq, Prod.mk.injEq] at H
  obtain ⟨rfl, rfl⟩ := H
  go_enter Tryd.func11, Tryd.ntmps11
  go_wp2_with (first | ((with_reducible refine gateC (f := 36) rfl ?_); refine goesL_ (some 8) rfl rfl Tryd.func36 (by kernel_rfl) rfl #[.int .i64 a0, .int .i64 a1] rfl zm ?_; (with_reducible refine (spec_l4Range.calls a0 a1 true _ A3.out).mono ?_); rintro e w' ⟨rfl, ⟨nd, rfl⟩⟩; refine ⟨_, rfl, ?_⟩) | ((with_reducible refine gateC (f := 37) rfl ?_); refine goesL_ (some 12) rfl rfl Tryd.func37 (by kernel_rfl) rfl #[.int .i64 a0, .int .i64 a1] rfl zm ?_; (with_reducible refine (spec_l4Pair.calls k a0 a1 t114 _ A5.out).mono ?_); rintro e w6 ⟨rfl, hb⟩; refine ⟨_, rfl, ?_⟩; have n0_ := Aside0.mk (below_step zb hb); clear HB; have HB := n0_; clear n0_; (try clear hb); (try clear hb2); (try clear hk); (try clear hi)))
  go_ret2
  exact ⟨by first | rfl | (simp [errW_none, errW_some] <;> rfl) | (simp [*, errW_none, errW_some] <;> rfl), by repeat (first | (with_reducible first | exact HB.out | apply below_alloc | apply pw_below_drewN | apply below_drew1) | exact HB.out)⟩
 ·replace c4 := Bool.eq_false_iff.mpr c4
  subst c4
  have H1 : (some ((⟨#[]⟩ : ByteArray), false)) = some (r1, r2) := by rw [if_neg (show ¬ (false = true) by decide)] at H; exact H
  clear H
  have H := H1
  clear H1
  simp only [Option.some.injEq, Prod.mk.injEq] at H
  obtain ⟨rfl, rfl⟩ := H
  go_enter Tryd.func11, Tryd.ntmps11
  go_wp2_with (first | ((with_reducible refine gateC (f := 36) rfl ?_); refine goesL_ (some 8) rfl rfl Tryd.func36 (by kernel_rfl) rfl #[.int .i64 a0, .int .i64 a1] rfl zm ?_; (with_reducible refine (spec_l4Range.calls a0 a1 false _ A3.out).mono ?_); rintro e w' ⟨rfl, ⟨nd, rfl⟩⟩; refine ⟨_, rfl, ?_⟩))
  go_ret2
  exact ⟨by first | rfl | (simp [errW_none, errW_some] <;> rfl) | (simp [*, errW_none, errW_some] <;> rfl), by repeat (first | (with_reducible first | exact HB.out | apply below_alloc | apply pw_below_drewN | apply below_drew1) | exact HB.out)⟩

end Go.Proofs.YtfmbpldjbmhnnaaDoor.My

/- Plain Lean: a range's two numbers as a text. No condition. -/
namespace Go.Proofs.YtfmbpldjbmhnnaaDoor.Pl
open Go.RowKit Go.Proofs.YtfmbpldjbmhnnaaDoorW.PrintWords Go.Proofs.YtfmbpldjbmhnnaaDoorW.PrintLast Go.Proofs.YtfmbpldjbmhnnaaDoor.My
set_option linter.unusedVariables false
set_option linter.unusedSimpArgs false

def inRange (a b : Int) : Bool := inB a 0 999 && inB b 0 999
theorem l4Range_eq (a b : Int) : spec_l4Range.f a b = some (inRange a b) := by
  unfold spec_l4Range.f inRange
  rw [spec_l1In_eq, Option.bind_some, spec_l1In_eq, Option.bind_some]
  cases inB a 0 999 <;> rfl
theorem isRange_eq (a b : Int) : impl_isRange.f a b = some (inRange a b) := by
  unfold impl_isRange.f inRange
  rw [impl_in_eq, Option.bind_some, impl_in_eq, Option.bind_some]
  cases inB a 0 999 <;> rfl
theorem inRange_iff (a b : Int) : inRange a b = true ↔ (0 ≤ a ∧ a ≤ 999) ∧ (0 ≤ b ∧ b ≤ 999) := by
  unfold inRange
  rw [Bool.and_eq_true, inB_iff, inB_iff]
/-- The comma between. -/
def comma : ByteArray := ⟨#[44]⟩
def pairV (f l : Nat) : ByteArray := if f = l then num f else num f ++ comma ++ num l
def pairR (a b : Int) : ByteArray × Bool := if inRange a b = true then (pairV (if b > 0 then a + 1 else a).toNat (a + b).toNat, true) else (⟨#[]⟩, false)
theorem num_size' (n : Nat) (h : n ≤ 100000) : (num n).size ≤ 20 := num_size n (by omega)
theorem pairOf_eq (f l : Nat) (hf : f ≤ 100000) (hl : l ≤ 100000) : impl_pairOf.f (f : Int) (l : Int) = some (pairV f l) := by
  unfold impl_pairOf.f pairV
  have h1 := num_size' f hf
  have h2 := num_size' l hl
  by_cases h : f = l
  · rw [if_pos (by omega), if_pos h, itoa_eq f (by omega)]; rfl
  · rw [if_neg (by omega), if_neg h, itoa_eq f (by omega), Option.bind_some, if_pos (by omega), itoa_eq l (by omega), Option.bind_some, if_pos (by
      rw [ByteArray.size_append, show (⟨#[44]⟩ : ByteArray).size = 1 from rfl]; omega)]
    rfl
theorem impl_PairText_eq (a b : Int) : impl_PairText.f a b = some (pairR a b) := by
  unfold impl_PairText.f pairR
  rw [isRange_eq, Option.bind_some]
  by_cases h : inRange a b = true
  · rw [if_pos h, if_pos h]
    rw [inRange_iff] at h
    unfold impl_numberOf.f impl_endOf.f
    rw [wrap64_id (x := a + b) (by omega) (by omega)]
    by_cases hb : b > 0
    · rw [if_pos hb, if_pos hb, Option.bind_some, Option.bind_some, wrap64_id (by omega) (by omega)]
      have := pairOf_eq (a + 1).toNat (a + b).toNat (by omega) (by omega)
      rw [Int.toNat_of_nonneg (by omega), Int.toNat_of_nonneg (by omega)] at this
      rw [this]
      rfl
    · rw [if_neg hb, if_neg hb, Option.bind_some, Option.bind_some]
      have := pairOf_eq a.toNat (a + b).toNat (by omega) (by omega)
      rw [Int.toNat_of_nonneg (by omega), Int.toNat_of_nonneg (by omega)] at this
      rw [this]
      rfl
  · rw [if_neg h, if_neg h]
theorem spec_PairText_ev (a b : Int) : Ev (fun k => spec_PairText.f k a b) (pairR a b) := by
  simp only [spec_PairText.f]
  unfold pairR
  refine ev_bind (ev_const (l4Range_eq a b)) (ev_ite (fun h => ?_) (fun h => ev_some ?_))
  · rw [if_pos h]
    rw [inRange_iff] at h
    simp only [spec_l4Pair.f, spec_l4Number.f]
    have hs := num_size' (a + b).toNat (by omega)
    have e : wrap64 (a + b) = ((a + b).toNat : Int) := by rw [wrap64_id (by omega) (by omega)]; omega
    by_cases hb : b > 0
    · have hs2 := num_size' (a + 1).toNat (by omega)
      have e1 : wrap64 (a + 1) = ((a + 1).toNat : Int) := by rw [wrap64_id (by omega) (by omega)]; omega
      have ev : (if b > 0 then a + 1 else a) = a + 1 := if_pos hb
      rw [ev]
      refine ev_bind (ev_bind (ev_pos hb (ev_some rfl)) ?_) (ev_some rfl)
      rw [e1, e]
      refine ev_bind (l1Num_ev _ (by omega)) (ev_ite (fun h2 => ev_bind (l1Num_ev _ (by omega)) (ev_pos (by omega) (ev_pos ?_ (ev_some ?_)))) (fun h2 => ev_some ?_))
      · rw [ByteArray.size_append, show (⟨#[44]⟩ : ByteArray).size = 1 from rfl]; omega
      · unfold pairV
        rw [if_neg (by omega), ByteArray.append_assoc]
        rfl
      · unfold pairV
        rw [if_pos (by omega)]
    · have e2 : a = ((a.toNat : Nat) : Int) := by omega
      have ev : (if b > 0 then a + 1 else a) = a := if_neg hb
      rw [ev]
      refine ev_bind (ev_bind (ev_neg hb (ev_some rfl)) ?_) (ev_some rfl)
      refine ev_bind (g := fun k => spec_l1Num.f k a) (a := num a.toNat) (by have := l1Num_ev a.toNat (by omega); rw [← e2] at this; exact this) (ev_neg (by omega) (ev_some ?_))
      unfold pairV
      rw [if_pos (by omega)]
  · rw [if_neg h]
end Go.Proofs.YtfmbpldjbmhnnaaDoor.Pl

/- Plain Lean: the text of steps, the program's and the reference's. Asked: steps that fit. -/
namespace Go.Proofs.YtfmbpldjbmhnnaaDoor.Pl
open Go.RowKit Go.Proofs.YtfmbpldjbmhnnaaDoorW.PrintWords Go.Proofs.YtfmbpldjbmhnnaaDoorW.PrintLast Go.Proofs.YtfmbpldjbmhnnaaDoor.My
set_option linter.unusedVariables false
set_option linter.unusedSimpArgs false

def nl : ByteArray := ⟨#[10]⟩
def noneT : ByteArray := ⟨#[10, 92, 32, 110, 111, 110, 101, 10]⟩
def shownV (g s : ByteArray) : ByteArray := if ends s = true then g ++ s else (g ++ s) ++ noneT
def allV (g : ByteArray) : List ByteArray → ByteArray
  | [] => ⟨#[]⟩
  | s :: t => shownV g s ++ allV g t
theorem shown_size (g s : ByteArray) (h : isLn s = true) : (shownV g s).size ≤ g.size + 38 := by
  have h1 := (isLn_size h).2
  unfold shownV
  split
  · rw [ByteArray.size_append]; omega
  · rw [ByteArray.size_append, ByteArray.size_append, show noneT.size = 8 from rfl]; omega
theorem allV_size (g : ByteArray) (hg : g.size ≤ 2) : ∀ (l : List ByteArray), (∀ s ∈ l, isLn s = true) → (allV g l).size ≤ 40 * l.length
  | [], _ => by simp [allV]; rfl
  | s :: t, h => by
    have h1 := shown_size g s (h s (List.mem_cons_self ..))
    have h2 := allV_size g hg t (fun x hx => h x (List.mem_cons_of_mem _ hx))
    simp only [allV, ByteArray.size_append, List.length_cons]
    omega
theorem append_empty (a : ByteArray) : a ++ (⟨#[]⟩ : ByteArray) = a := ba_ext (by simp [Lib.toList_data])
theorem empty_append (a : ByteArray) : (⟨#[]⟩ : ByteArray) ++ a = a := ba_ext (by simp [Lib.toList_data])

theorem shown_eq (g s : ByteArray) (hg : g.size ≤ 2) (h : isLn s = true) : impl_shown.f g s = some (shownV g s) := by
  have h1 := isLn_size h
  unfold impl_shown.f shownV
  rw [isEnded_eq s (by omega), Option.bind_some]
  by_cases he : ends s = true
  · rw [if_pos he, if_pos he, if_pos (by omega)]
  · rw [if_neg he, if_neg he, if_pos (by omega), if_pos (by rw [ByteArray.size_append]; omega), if_pos (by rw [ByteArray.size_append, ByteArray.size_append, show (⟨#[10]⟩ : ByteArray).size = 1 from rfl]; omega), ByteArray.append_assoc (a := g ++ s)]
    rfl
theorem l5Shown_eq (g s : ByteArray) (hg : g.size ≤ 2) (h : isLn s = true) : spec_l5Shown.f g s = some (shownV g s) := by
  have h1 := isLn_size h
  unfold spec_l5Shown.f shownV
  rw [l1Ends_eq s (by omega) (by omega), Option.bind_some]
  by_cases he : ends s = true
  · rw [if_pos he, if_pos he, if_pos (by omega)]
  · rw [if_neg he, if_neg he, if_pos (by omega), if_pos (by rw [ByteArray.size_append]; omega)]
    rfl
theorem allShown_l0 (g : ByteArray) (hg : g.size ≤ 2) (l : List ByteArray) (hl : l.length ≤ 40) (h : ∀ s ∈ l, isLn s = true) : ∀ d i (acc : ByteArray), i + d = l.length → acc.size ≤ 40 * i →
    Ev (fun k => impl_allShown.l0 k g acc l (l.length : Int) (i : Int)) (acc ++ allV g (l.drop i)) := by
  intro d
  induction d with
  | zero =>
    intro i acc hi ha
    refine Ev.step (fun k => impl_allShown.l0.eq_2 ..) (ev_neg (by omega) (ev_some ?_))
    rw [List.drop_of_length_le (by omega)]
    simp only [allV, append_empty]
  | succ d ih =>
    intro i acc hi ha
    have hlt : i < l.length := by omega
    have hm := h _ (List.getElem_mem hlt)
    have hs := shown_size g _ hm
    refine Ev.step (fun k => impl_allShown.l0.eq_2 ..) (ev_pos (by omega) (ev_pos (by omega) (ev_pos (by omega) ?_)))
    rw [rdOf_lt _ l i hlt, wrap_succ i (by omega)]
    refine ev_bind (ev_const (shown_eq g _ hg hm)) (ev_pos (by omega) (ev_to (ih (i + 1) _ (by omega) (by rw [ByteArray.size_append]; omega)) ?_))
    rw [List.drop_eq_getElem_cons hlt]
    simp only [allV, ByteArray.append_assoc]
theorem allShown_ev (g : ByteArray) (hg : g.size ≤ 2) (l : List ByteArray) (hl : l.length ≤ 40) (h : ∀ s ∈ l, isLn s = true) : Ev (fun k => impl_allShown.f k g l) (allV g l) := by
  simp only [impl_allShown.f]
  exact ev_to (allShown_l0 g hg l hl h l.length 0 _ (by omega) (by show (0 : Nat) ≤ _; omega)) (by rw [List.drop_zero, empty_append])

def kindV (x : IT) : ByteArray := if x.f2.length = 0 then ⟨#[97]⟩ else if x.f5.length = 0 then ⟨#[100]⟩ else ⟨#[99]⟩
def midV (x : IT) : ByteArray := if x.f2.length = 0 then ⟨#[]⟩ else if x.f5.length = 0 then ⟨#[]⟩ else ⟨#[45, 45, 45, 10]⟩
def lt_ : ByteArray := ⟨#[60, 32]⟩
def gt_ : ByteArray := ⟨#[62, 32]⟩
def headV (x : IT) (kd : ByteArray) : ByteArray := ((pairV x.f0.toNat x.f1.toNat ++ kd) ++ pairV x.f3.toNat x.f4.toNat) ++ nl
def textOne (x : IT) : ByteArray := ((headV x (kindV x) ++ allV lt_ x.f2) ++ midV x) ++ allV gt_ x.f5
def textFrom : ByteArray → List IT → ByteArray
  | acc, [] => acc
  | acc, x :: t => textFrom (acc ++ textOne x) t
/-- What is asked of a step. -/
structure StepOK (x : IT) : Prop where
  a0 : 0 ≤ x.f0 ∧ x.f0 ≤ 1000
  a1 : 0 ≤ x.f1 ∧ x.f1 ≤ 1000
  a3 : 0 ≤ x.f3 ∧ x.f3 ≤ 1000
  a4 : 0 ≤ x.f4 ∧ x.f4 ≤ 1000
  l2 : x.f2.length ≤ 40
  l5 : x.f5.length ≤ 40
  i2 : ∀ s ∈ x.f2, isLn s = true
  i5 : ∀ s ∈ x.f5, isLn s = true
theorem good_ln {l : List ByteArray} (h : good l = true) : ∀ s ∈ l, isLn s = true := by
  unfold good at h
  rw [Bool.and_eq_true, Bool.and_eq_true] at h
  exact fun s hs => List.all_eq_true.1 h.2.1 s hs
theorem stepOK_of {x : IT} (h : stepB x = true) : StepOK x := by
  unfold stepB at h
  rw [Bool.and_eq_true, Bool.and_eq_true] at h
  obtain ⟨h1, h2, _⟩ := h
  have e1 := told_len h1
  have e2 := told_len h2
  unfold toldB at h1 h2
  rw [Bool.and_eq_true, Bool.and_eq_true, Bool.and_eq_true, inB_iff, inB_iff] at h1 h2
  exact ⟨h1.1, h1.2.1, h2.1, h2.2.1, e1, e2, good_ln h1.2.2.1, good_ln h2.2.2.1⟩
theorem pairV_size (a b : Nat) (ha : a ≤ 100000) (hb : b ≤ 100000) : (pairV a b).size ≤ 41 := by
  have h1 := num_size' a ha
  have h2 := num_size' b hb
  unfold pairV
  split
  · omega
  · rw [ByteArray.size_append, ByteArray.size_append, show comma.size = 1 from rfl]; omega
theorem kindV_size (x : IT) : (kindV x).size = 1 := by
  unfold kindV
  split
  · rfl
  · split <;> rfl
theorem midV_size (x : IT) : (midV x).size ≤ 4 := by
  unfold midV
  split
  · exact Nat.zero_le _
  · split
    · exact Nat.zero_le _
    · exact Nat.le_refl 4
/-- The sizes of a step's parts. -/
structure Sizes (x : IT) : Prop where
  p : (pairV x.f0.toNat x.f1.toNat).size ≤ 41
  q : (pairV x.f3.toNat x.f4.toNat).size ≤ 41
  s : (allV lt_ x.f2).size ≤ 1600
  t : (allV gt_ x.f5).size ≤ 1600
  m : (midV x).size ≤ 4
  k : (kindV x).size = 1
theorem sizes_of {x : IT} (h : StepOK x) : Sizes x := by
  have h2 := h.l2
  have h5 := h.l5
  have e1 := allV_size lt_ (Nat.le_refl 2) x.f2 h.i2
  have e2 := allV_size gt_ (Nat.le_refl 2) x.f5 h.i5
  have := h.a0; have := h.a1; have := h.a3; have := h.a4
  exact ⟨pairV_size _ _ (by omega) (by omega), pairV_size _ _ (by omega) (by omega), by omega, by omega, midV_size x, kindV_size x⟩
theorem headV_size {x : IT} (h : Sizes x) (kd : ByteArray) (hk : kd.size = 1) : (headV x kd).size ≤ 84 := by
  have := h.p; have := h.q
  unfold headV
  rw [ByteArray.size_append, ByteArray.size_append, ByteArray.size_append, show nl.size = 1 from rfl]
  omega
theorem textOne_size {x : IT} (h : Sizes x) : (textOne x).size ≤ 4000 := by
  have := headV_size h _ h.k
  have := h.s; have := h.t; have := h.m
  unfold textOne
  rw [ByteArray.size_append, ByteArray.size_append, ByteArray.size_append]
  omega
theorem pairOf_eq' {a b : Int} (ha : 0 ≤ a ∧ a ≤ 1000) (hb : 0 ≤ b ∧ b ≤ 1000) : impl_pairOf.f a b = some (pairV a.toNat b.toNat) := by
  have := pairOf_eq a.toNat b.toNat (by omega) (by omega)
  rw [Int.toNat_of_nonneg ha.1, Int.toNat_of_nonneg hb.1] at this
  exact this
theorem stepText_j0 (x : IT) (h : StepOK x) (kd md : ByteArray) (hk : kd.size = 1) (hm : md.size ≤ 4) : Ev (fun k => impl_stepText.j0 k kd md x.f0 x.f1 x.f2 x.f3 x.f4 x.f5) (((headV x kd ++ allV lt_ x.f2) ++ md) ++ allV gt_ x.f5) := by
  have z := sizes_of h
  have := z.p; have := z.q; have := z.s; have := z.t
  have e1 : (⟨#[10]⟩ : ByteArray).size = 1 := rfl
  refine Ev.step (fun k => impl_stepText.j0.eq_2 ..) ?_
  refine ev_bind (ev_const (pairOf_eq' h.a0 h.a1)) (ev_pos (by omega) ?_)
  refine ev_bind (ev_const (pairOf_eq' h.a3 h.a4)) (ev_pos (by simp only [ByteArray.size_append]; omega) (ev_pos (by simp only [ByteArray.size_append]; omega) ?_))
  refine ev_bind (allShown_ev lt_ (Nat.le_refl 2) x.f2 h.l2 h.i2) (ev_pos (by simp only [ByteArray.size_append, e1]; omega) (ev_pos (by simp only [ByteArray.size_append, e1]; omega) ?_))
  exact ev_bind (allShown_ev gt_ (Nat.le_refl 2) x.f5 h.l5 h.i5) (ev_pos (by simp only [ByteArray.size_append, e1]; omega) (ev_some rfl))
theorem stepText_ev (x : IT) (h : StepOK x) : Ev (fun k => impl_stepText.f k x.f0 x.f1 x.f2 x.f3 x.f4 x.f5) (textOne x) := by
  simp only [impl_stepText.f]
  unfold textOne kindV midV
  refine ev_ite (fun c => ?_) (fun c => ev_ite (fun c2 => ?_) (fun c2 => ?_))
  · have c' : x.f2.length = 0 := by omega
    simp only [if_pos c']
    exact stepText_j0 x h _ _ rfl (Nat.zero_le _)
  · have c' : ¬ x.f2.length = 0 := by omega
    have c2' : x.f5.length = 0 := by omega
    simp only [if_neg c', if_pos c2']
    exact stepText_j0 x h _ _ rfl (Nat.zero_le _)
  · have c' : ¬ x.f2.length = 0 := by omega
    have c2' : ¬ x.f5.length = 0 := by omega
    simp only [if_neg c', if_neg c2']
    exact stepText_j0 x h _ _ rfl (Nat.le_refl 4)
def shortV (s : ByteArray) : ByteArray × Bool := if s.size > 3000 then (⟨#[]⟩, false) else (s, true)
theorem short_eq (s : ByteArray) : impl_short.f s = some (shortV s) := by
  unfold impl_short.f shortV
  by_cases h : s.size > 3000
  · rw [if_pos (by omega), if_pos h]
  · rw [if_neg (by omega), if_neg h]
theorem stepsText_l0 (l : List IT) (hl : l.length ≤ 20) (h : ∀ x ∈ l, StepOK x) : ∀ d i (acc : ByteArray), i + d = l.length → acc.size ≤ 4000 * i →
    Ev (fun k => impl_StepsText.l0 k acc l (l.length : Int) (i : Int)) (shortV (textFrom acc (l.drop i))) := by
  intro d
  induction d with
  | zero =>
    intro i acc hi ha
    refine Ev.step (fun k => impl_StepsText.l0.eq_2 ..) (ev_neg (by omega) (ev_bind (ev_const (short_eq acc)) (ev_some ?_)))
    rw [List.drop_of_length_le (by omega)]
    rfl
  | succ d ih =>
    intro i acc hi ha
    have hlt : i < l.length := by omega
    have hx := h _ (List.getElem_mem hlt)
    have hz := textOne_size (sizes_of hx)
    refine Ev.step (fun k => impl_StepsText.l0.eq_2 ..) (ev_pos (by omega) (ev_pos (by omega) (ev_pos (by omega) ?_)))
    rw [rdIT l i hlt, wrap_succ i (by omega), List.drop_eq_getElem_cons hlt]
    exact ev_bind (stepText_ev _ hx) (ev_pos (by omega) (ih (i + 1) _ (by omega) (by rw [ByteArray.size_append]; omega)))
def stepsTextR (l : List IT) : ByteArray × Bool := if goodT l = true then shortV (textFrom ⟨#[]⟩ l) else (⟨#[]⟩, false)
theorem goodT_ok {l : List IT} (h : goodT l = true) : l.length ≤ 20 ∧ ∀ x ∈ l, StepOK x := by
  unfold goodT at h
  rw [Bool.and_eq_true, decide_eq_true_eq] at h
  exact ⟨h.1, fun x hx => stepOK_of (List.all_eq_true.1 h.2 x hx)⟩
theorem impl_StepsText_ev (l : List IT) (hf : FitIT l) : Ev (fun k => impl_StepsText.f k l) (stepsTextR l) := by
  simp only [impl_StepsText.f]
  unfold stepsTextR
  refine ev_bind (goodSteps_ev l hf) (ev_ite (fun c => ?_) (fun c => ev_some ?_))
  · rw [if_pos c]
    obtain ⟨h1, h2⟩ := goodT_ok c
    exact stepsText_l0 l h1 h2 l.length 0 _ (by omega) (by show (0 : Nat) ≤ _; omega)
  · rw [if_neg c]

theorem l5Numbers_ev {a b : Int} (ha : 0 ≤ a ∧ a ≤ 1000) (hb : 0 ≤ b ∧ b ≤ 1000) : Ev (fun k => spec_l5Numbers.f k a b) (pairV a.toNat b.toNat) := by
  simp only [spec_l5Numbers.f]
  unfold pairV
  have h1 := num_size' a.toNat (by omega)
  have h2 := num_size' b.toNat (by omega)
  have na : Ev (fun k => spec_l1Num.f k a) (num a.toNat) := by
    have := l1Num_ev a.toNat (by omega)
    rw [Int.toNat_of_nonneg ha.1] at this
    exact this
  have nb : Ev (fun k => spec_l1Num.f k b) (num b.toNat) := by
    have := l1Num_ev b.toNat (by omega)
    rw [Int.toNat_of_nonneg hb.1] at this
    exact this
  refine ev_ite (fun c => ev_bind na (ev_some ?_)) (fun c => ev_bind na (ev_pos (by omega) (ev_bind nb (ev_pos ?_ (ev_some ?_)))))
  · rw [if_pos (by omega)]
  · rw [ByteArray.size_append, show (⟨#[44]⟩ : ByteArray).size = 1 from rfl]; omega
  · rw [if_neg (by omega)]
    rfl
section
variable (L : List IT) (n i : Int) (R : ByteArray)
theorem l5_l2 (l : List ByteArray) (hl : l.length ≤ 40) (h : ∀ s ∈ l, isLn s = true) : ∀ d j (acc : ByteArray), j + d = l.length → acc.size + 40 * d ≤ 1000000 → Ev (fun k => spec_l5Text.l0 k (acc ++ allV gt_ (l.drop j)) L n (wrap64 (i + 1))) R →
    Ev (fun k => spec_l5Text.l2 k acc L n i l (l.length : Int) (j : Int)) R := by
  intro d
  induction d with
  | zero =>
    intro j acc hj ha hk
    rw [List.drop_of_length_le (by omega)] at hk
    simp only [allV, append_empty] at hk
    exact Ev.step (fun k => spec_l5Text.l2.eq_2 ..) (ev_neg (by omega) hk)
  | succ d ih =>
    intro j acc hj ha hk
    have hlt : j < l.length := by omega
    have hm := h _ (List.getElem_mem hlt)
    have hs := shown_size gt_ _ hm
    have h2 : gt_.size = 2 := rfl
    rw [List.drop_eq_getElem_cons hlt] at hk
    simp only [allV, ← ByteArray.append_assoc] at hk
    refine Ev.step (fun k => spec_l5Text.l2.eq_2 ..) (ev_pos (by omega) (ev_pos (by omega) (ev_pos (by omega) ?_)))
    rw [rdOf_lt _ l j hlt, wrap_succ j (by omega)]
    exact ev_bind (ev_const (l5Shown_eq gt_ _ (Nat.le_refl 2) hm)) (ev_pos (by omega) (ih (j + 1) _ (by omega) (by rw [ByteArray.size_append]; omega) hk))
theorem l5_l1 (x : IT) (kd : ByteArray) (h5 : x.f5.length ≤ 40) (i5 : ∀ s ∈ x.f5, isLn s = true) (l : List ByteArray) (hl : l.length ≤ 40) (h : ∀ s ∈ l, isLn s = true) : ∀ d j (acc : ByteArray), j + d = l.length → acc.size + 40 * d ≤ 900000 →
    Ev (fun k => spec_l5Text.l0 k (((acc ++ allV lt_ (l.drop j)) ++ (if kd.toList = [99] then (⟨#[45, 45, 45, 10]⟩ : ByteArray) else ⟨#[]⟩)) ++ allV gt_ x.f5) L n (wrap64 (i + 1))) R →
    Ev (fun k => spec_l5Text.l1 k acc kd L n i l (l.length : Int) (j : Int) x.f0 x.f1 x.f2 x.f3 x.f4 x.f5) R := by
  intro d
  induction d with
  | zero =>
    intro j acc hj ha hk
    rw [List.drop_of_length_le (by omega)] at hk
    simp only [allV, append_empty] at hk
    have e4 : (⟨#[45, 45, 45, 10]⟩ : ByteArray).size = 4 := rfl
    refine Ev.step (fun k => spec_l5Text.l1.eq_2 ..) (ev_neg (by omega) (ev_ite (fun c => ev_pos (by omega) ?_) (fun c => ?_)))
    · rw [if_pos c] at hk
      exact Ev.step (fun k => spec_l5Text.j3.eq_2 ..) (l5_l2 L n i R x.f5 h5 i5 x.f5.length 0 _ (by omega) (by rw [ByteArray.size_append, e4]; omega) (by rw [List.drop_zero]; exact hk))
    · rw [if_neg c, append_empty] at hk
      exact Ev.step (fun k => spec_l5Text.j3.eq_2 ..) (l5_l2 L n i R x.f5 h5 i5 x.f5.length 0 _ (by omega) (by omega) (by rw [List.drop_zero]; exact hk))
  | succ d ih =>
    intro j acc hj ha hk
    have hlt : j < l.length := by omega
    have hm := h _ (List.getElem_mem hlt)
    have hs := shown_size lt_ _ hm
    have h2 : lt_.size = 2 := rfl
    rw [List.drop_eq_getElem_cons hlt] at hk
    simp only [allV, ← ByteArray.append_assoc] at hk
    refine Ev.step (fun k => spec_l5Text.l1.eq_2 ..) (ev_pos (by omega) (ev_pos (by omega) (ev_pos (by omega) ?_)))
    rw [rdOf_lt _ l j hlt, wrap_succ j (by omega)]
    refine ev_bind (ev_const (l5Shown_eq lt_ _ (Nat.le_refl 2) hm)) (ev_pos (by omega) (ih (j + 1) _ (by omega) (by rw [ByteArray.size_append]; omega) ?_))
    exact hk
theorem l5_j1 (x : IT) (hx : StepOK x) (kd : ByteArray) (hk1 : kd.size = 1) (acc : ByteArray) (ha : acc.size ≤ 800000)
    (hk : Ev (fun k => spec_l5Text.l0 k (acc ++ (((headV x kd ++ allV lt_ x.f2) ++ (if kd.toList = [99] then (⟨#[45, 45, 45, 10]⟩ : ByteArray) else ⟨#[]⟩)) ++ allV gt_ x.f5)) L n (wrap64 (i + 1))) R) :
    Ev (fun k => spec_l5Text.j1 k acc kd L n i x.f0 x.f1 x.f2 x.f3 x.f4 x.f5) R := by
  have z := sizes_of hx
  have := z.p; have := z.q
  have e1 : (⟨#[10]⟩ : ByteArray).size = 1 := rfl
  have hh := headV_size z kd hk1
  have l2 := hx.l2
  refine Ev.step (fun k => spec_l5Text.j1.eq_2 ..) (ev_bind (l5Numbers_ev hx.a0 hx.a1) (ev_pos (by omega) (ev_bind (l5Numbers_ev hx.a3 hx.a4) (ev_pos (by simp only [ByteArray.size_append]; omega) (ev_pos (by simp only [ByteArray.size_append]; omega) (ev_pos (by simp only [ByteArray.size_append, e1]; omega) ?_))))))
  refine l5_l1 L n i R x kd hx.l5 hx.i5 x.f2 hx.l2 hx.i2 x.f2.length 0 _ (by omega) ?_ ?_
  · rw [ByteArray.size_append]
    have : (((pairV x.f0.toNat x.f1.toNat ++ kd) ++ pairV x.f3.toNat x.f4.toNat) ++ (⟨#[10]⟩ : ByteArray)).size ≤ 84 := hh
    omega
  · rw [List.drop_zero]
    simp only [← ByteArray.append_assoc] at hk
    simp only [← ByteArray.append_assoc]
    unfold headV at hk
    simp only [← ByteArray.append_assoc] at hk
    exact hk
end
theorem l5Text_l0 (l : List IT) (hl : l.length ≤ 20) (h : ∀ x ∈ l, StepOK x) : ∀ d i (acc : ByteArray), i + d = l.length → acc.size ≤ 4000 * i →
    Ev (fun k => spec_l5Text.l0 k acc l (l.length : Int) (i : Int)) (textFrom acc (l.drop i)) := by
  intro d
  induction d with
  | zero =>
    intro i acc hi ha
    refine Ev.step (fun k => spec_l5Text.l0.eq_2 ..) (ev_neg (by omega) (ev_some ?_))
    rw [List.drop_of_length_le (by omega)]
    rfl
  | succ d ih =>
    intro i acc hi ha
    have hlt : i < l.length := by omega
    have hx := h _ (List.getElem_mem hlt)
    have hz := textOne_size (sizes_of hx)
    have nx := ih (i + 1) (acc ++ textOne l[i]) (by omega) (by rw [ByteArray.size_append]; omega)
    rw [← wrap_succ i (by omega)] at nx
    rw [List.drop_eq_getElem_cons hlt]
    simp only [textFrom]
    refine Ev.step (fun k => spec_l5Text.l0.eq_2 ..) (ev_pos (by omega) (ev_pos (by omega) (ev_pos (by omega) ?_)))
    rw [rdIT l i hlt]
    unfold textOne kindV midV at nx
    unfold textOne kindV midV
    refine ev_ite (fun c => ?_) (fun c => ev_ite (fun c2 => ?_) (fun c2 => ?_))
    · have c' : l[i].f2.length = 0 := by omega
      simp only [if_pos c'] at nx ⊢
      exact l5_j1 _ _ _ _ l[i] hx ⟨#[97]⟩ rfl acc (by omega) (by rw [if_neg (by rw [Lib.toList_data]; decide)]; exact nx)
    · have c' : ¬ l[i].f2.length = 0 := by omega
      have c2' : l[i].f5.length = 0 := by omega
      simp only [if_neg c', if_pos c2'] at nx ⊢
      exact l5_j1 _ _ _ _ l[i] hx ⟨#[100]⟩ rfl acc (by omega) (by rw [if_neg (by rw [Lib.toList_data]; decide)]; exact nx)
    · have c' : ¬ l[i].f2.length = 0 := by omega
      have c2' : ¬ l[i].f5.length = 0 := by omega
      simp only [if_neg c', if_neg c2'] at nx ⊢
      exact l5_j1 _ _ _ _ l[i] hx ⟨#[99]⟩ rfl acc (by omega) (by rw [if_pos (by rw [Lib.toList_data])]; exact nx)
theorem spec_StepsText_ev (l : List IT) (hf : FitIT l) : Ev (fun k => spec_StepsText.f k l) (stepsTextR l) := by
  simp only [spec_StepsText.f]
  unfold stepsTextR
  refine ev_bind (spec_GoodSteps_ev l hf) (ev_ite (fun c => ?_) (fun c => ev_some ?_))
  · rw [if_pos c]
    obtain ⟨h1, h2⟩ := goodT_ok c
    have ht : Ev (fun k => spec_l5Text.f k l) (textFrom ⟨#[]⟩ l) := by
      simp only [spec_l5Text.f]
      exact l5Text_l0 l h1 h2 l.length 0 _ (by omega) (by show (0 : Nat) ≤ _; omega)
    unfold shortV
    refine ev_bind ht (ev_ite (fun c2 => ev_some ?_) (fun c2 => ev_bind ht (ev_some ?_)))
    · rw [if_pos (by omega)]
    · rw [if_neg (by omega)]
  · rw [if_neg c]
end Go.Proofs.YtfmbpldjbmhnnaaDoor.Pl

/- StepsText's law, in plain Lean. No condition. -/
namespace Go.Proofs.YtfmbpldjbmhnnaaDoor.Pure
open Go.RowKit Go.Proofs.YtfmbpldjbmhnnaaDoor.My Go.Proofs.YtfmbpldjbmhnnaaDoor.Pl Go.Proofs.YtfmbpldjbmhnnaaDoorW.PrintWords Go.Proofs.YtfmbpldjbmhnnaaDoorW.PrintLast
theorem FnExactStepsText : laws_FnExactStepsText.Pure := by
  intro a ha
  have fa := fitT_of_wl ha
  refine Ev.rounds (r := true) ?_
  simp only [laws_FnExactStepsText.f]
  obtain ⟨r, hr, hl⟩ := szStepS_ev a fa 1048576 (by omega) (by omega)
  refine ev_bind hr (ev_ite (fun _ => ev_some rfl) (fun h => ?_))
  have hz : szT a ≤ 1048576 ∧ 0 ≤ r ∧ r ≤ 1048576 := by rcases hl with hl | hl <;> omega
  have ta := toStepS_ev a (smallT hz.1)
  have ia := fitIT_of fa
  refine ev_bind ta (ev_bind (spec_StepsText_ev _ ia) (ev_bind ta (ev_bind (impl_StepsText_ev _ ia) (ev_pos rfl ?_))))
  refine Ev.step (fun k => laws_FnExactStepsText.j0.eq_2 ..) (ev_neg (by simp) ?_)
  exact ev_bind ta (ev_bind (eqStepS_ev _ _ ia) (ev_pos (by simp) (ev_some rfl)))
end Go.Proofs.YtfmbpldjbmhnnaaDoor.Pure

/- The Go function loop.example/g00825/laws.FnExactStepsText returns true for every input, and each argument reads afterwards as it read before. No condition. -/
namespace Go.Proofs.YtfmbpldjbmhnnaaDoor.fnExactStepsText
open Go.ChangeShapes Go.WideShapes Go.ChangeAt Go.RowKit Go.Joins Go.Proofs.YtfmbpldjbmhnnaaDoor.Opens Go.Proofs.YtfmbpldjbmhnnaaDoor.My
open Go.ChangeMaps (open_string shut_string)
set_option linter.unusedVariables false
set_option linter.unusedSimpArgs false
theorem own : ownKnob Tryd.prog.godebug = none := by kernel_rfl
theorem laidOut : laidOutB Tryd.prog = true := by kernel_rfl
/-- WHAT THE ROW's LIST GIVES THE WALK. -/
theorem door {W : World} (h : laidMetH Tryd.prog Rows.fnExactStepsTextRow.laid W) : Door false W := by
  rw [MakeChecks.laidMetH_plain _ _ _ (by kernel_rfl)] at h
  have hT : Lib.TabIs Tryd.prog W "internal/strconv.uint64pow10" .u64 Lib.pow10Tab := doorTab (h.tail.tail)
  exact ⟨hT, fun e => (by cases e), fun e => (by cases e)⟩
theorem door_met (os : Os) (args : Array Value) : laidMetH Tryd.prog Rows.fnExactStepsTextRow.laid ((World.doorLaid Tryd.prog 62 os).forCall (fun _ _ => 0) ⟨#[], args, []⟩).memory :=
  laidMetH_of_parts3 (fuel := 8) (laidMet_of_run' 8 (by kernel_rfl) (by kernel_rfl)) (by kernel_rfl) (by kernel_rfl)
set_option maxRecDepth 100000 in
theorem lifted (os : Os) (started : os.Started) (H : Type) (enc : TypeId × Value → H) :
    ReturnsInHanded {} Tryd.checked os 6 .any (fun w args => (Rows.fnExactStepsTextSpec.pre enc Tryd.prog Tryd.f6 [] false w args ∧ laidMetH Tryd.prog Rows.fnExactStepsTextRow.laid w) ∧ sizedMet enc Tryd.prog Tryd.f6 (OpenSpec.ofChange Rows.fnExactStepsTextSpec) false w args) (Rows.fnExactStepsTextSpec.post enc Tryd.prog Tryd.f6 false true false false) := by
  refine returnsInHanded_of_change_and (C := Tryd.checked) (X := fun w _ => laidMetH Tryd.prog Rows.fnExactStepsTextRow.laid w) (fun _ _ _ hh h => h.of_heap hh) own started (by kernel_rfl) Tryd.func6
    (ChangeSpec.witness_shaped (enc := enc) (C := Tryd.checked) (os := os) (X := fun w _ => laidMetH Tryd.prog Rows.fnExactStepsTextRow.laid w) false (World.doorLaid Tryd.prog 62 os) #[.slice none 0 0] 8 rfl (World.shaped_of_RefB (by kernel_rfl) (by kernel_rfl)) (by kernel_rfl) (by kernel_rfl) (by kernel_rfl) (door_met os _)) ?_
  intro W base args ds gs before hval0 hW hcnd hsz0 hL _
  have hval : ∀ (j : Nat) t v, Tryd.f6.params[j]? = some t → args[j]? = some v → Value.okWide Tryd.prog W .any base t v := hval0
  have hW' := hW
  obtain ⟨p, q, hA0, hV, rfl, hfz, hnd⟩ := hW
  have hA : DataW.TrodAll enc Tryd.prog W 0 (fun _ => true) true Tryd.f6.params.toList args.toList ds p := hA0
  rw [Tryd.params6] at hA hval
  obtain ⟨v0, vs0, d0, ds0, p0, q0, hargs, rfl, rfl, h0, r0⟩ := trodAll_cons hA
  obtain ⟨rfl, rfl, rfl⟩ := trodAll_nil r0
  obtain rfl : args = #[v0] := by cases args; simp_all
  obtain ⟨rfl, rfl⟩ := trodVars_none hV
  obtain ⟨A0, n0, c0, rfl⟩ := okWide_slice Tryd.underlying28 (hval 0 28 v0 rfl rfl)
  have k0 := h0
  have lt0 : ∀ x ∈ p0, x.block < W.heap.size := by obtain ⟨m, hm⟩ := k0; exact DataW.trod_lt m _ _ _ hm
  obtain ⟨l0, rfl, hc0, hr0, q0_⟩ := Opens.row (opens_slice Tryd.underlying28 (by kernel_rfl) opens53) h0
  clear hA0 hval0 hsz0
  obtain ⟨kr, hk⟩ := Pure.FnExactStepsText l0 q0_
  refine (laws_FnExactStepsText.calls false kr _ _ l0 true W (door hL) hr0 hc0 hk).mono fun e W' hh => ?_
  obtain ⟨rfl, hd⟩ := hh
  have bel : Below W.heap.size W W' := hd
  exact ⟨_, rfl, _, _, _, [], _, [], hW', trodAll_mk1 (shut_bool Tryd.underlying4 _), (trodAll_cons_mk (Below.trod laidOut (by kernel_rfl) (of_decide_eq_true (by kernel_rfl)) k0 bel lt0) trodAll_mk0), rfl, bel.frame _, fun h => by cases h⟩
theorem over : Rows.fnExactStepsTextRow.holds Tryd.pinned (OpenSpec.ofChange Rows.fnExactStepsTextSpec) :=
  OpenClaim.holds_of_wide 6 Tryd.f6 rfl rfl rfl rfl rfl rfl rfl ⟨rfl, rfl, rfl, rfl, rfl⟩ rfl rfl rfl rfl rfl (by kernel_rfl) Tryd.func6 (by kernel_rfl)
    (of_decide_eq_true (by kernel_rfl)) (by unfold Func.isWrapper; first | (rw [if_pos (by decide +kernel)]; kernel_rfl) | (rw [if_neg (by decide +kernel)]; exact ⟨rfl, rfl⟩))
    (fun os started H enc _ => lifted os started H enc)
theorem plain (f : FuncId) (fn : Func) (hf : Tryd.pinned.checked.prog.funcNamed "loop.example/g00825/laws.FnExactStepsText" = some f) (hfn : Tryd.pinned.checked.prog.funcs[f]? = some fn) :
    true = Tryd.pinned.checked.prog.looks [] ∧ ∀ (j : Nat) t, fn.params[j]? = some t → Tryd.pinned.checked.prog.wantsStandIn t = false := by
  obtain rfl : f = 6 := Option.some.inj ((show Tryd.prog.funcNamed "loop.example/g00825/laws.FnExactStepsText" = some 6 by kernel_rfl).symm.trans hf) |>.symm
  obtain rfl : fn = Tryd.f6 := (Option.some.inj (Tryd.func6.symm.trans hfn)).symm
  refine ⟨by kernel_rfl, fun j t ht => ?_⟩
  have hall : (Tryd.f6.params.all fun u => !Tryd.prog.wantsStandIn u) = true := by kernel_rfl
  have hm := (Array.all_eq_true_iff_forall_mem.1 hall) t (Array.mem_of_getElem? ht)
  exact (show Tryd.prog.wantsStandIn t = false by simpa using hm)
theorem proved : Rows.FnExactStepsTextCardSaid :=
  Claim7.holds_tied_plain_at .later [] _ _ _ _ over (fun _ h => by cases h) (by kernel_rfl) (fun _ h => by cases h) fnExactStepsText_row_tie rfl ⟨rfl, rfl⟩ (by kernel_rfl) rfl plain (by kernel_rfl)
#print axioms proved
end Go.Proofs.YtfmbpldjbmhnnaaDoor.fnExactStepsText
namespace Go.Proofs.YtfmbpldjbmhnnaaDoor
/-- The row, under a short name, for the claim. -/
theorem fnExactStepsText_holds : Rows.FnExactStepsTextCardSaid := fnExactStepsText.proved
end Go.Proofs.YtfmbpldjbmhnnaaDoor
