/- Part 4 of 4 of a proof of this sentence: The Go function loop.example/g00825/laws.FnExactBackHunks returns true for every input, and each argument reads afterwards as it read before. No condition. -/
import Derived.Test.YtbbkecdlapemfaaWWords
import Derived.Test.YtbbkecdlapemfaaWLast
import Derived.Lib.Strings
import Derived.Lib.Bytealg
import Derived.Test.YtbbkecdlapemfaaRows
import Derived.WalkKit
import Derived.ProofKit
import Derived.OpenShut
import Derived.ShutString
import Derived.ChangeOld
import Derived.Below
import Derived.SizedLaws
import Derived.Lib.SmallJoins
import Derived.Test.YtbbkecdlapemfaaCFnExactBackHunks3
/- Written by this session's program (wip/gen): a plain function with the same answers as the Go function, and the proof that the Go code comes to them. Asked: that the plain function has an answer. -/
namespace Go.Proofs.Ytbbkecdlapemfaa.My
open Go.RowKit Go.Proofs.YtbbkecdlapemfaaW.PrintWords Go.Proofs.YtbbkecdlapemfaaW.PrintLast Go.Proofs.YtbbkecdlapemfaaW.PrintMore
attribute [local go_sem] max2_int min2_int max_two min_two max_three min_three max_four min_four
set_option linter.unusedVariables false
set_option linter.unusedSimpArgs false

/-! ### laws_FnExactBackHunks: function 12 -/
mutual
def laws_FnExactBackHunks.j0 : Nat → List ByteArray → List (S82) → List (S83) → Bool → List ByteArray → List (S83) → List (S83) → Bool → Bool → Option (Bool)
  | 0, _, _, _, _, _, _, _, _, _ => none
  | k + 1, x0, x1, x6, x7, x8, x9, x10, x11, x53 => if x53 = true then (some false) else ((laws_toStringS.f k x0).bind fun t450 => ((laws_eqStringS.f k x8 t450).bind fun t453 => (if t453 = true then ((laws_toHunkS.f k x1).bind fun t454 => ((laws_eqHunkS.f k x9 t454).bind fun t457 => (if t457 = true then ((laws_markStringS.f k x8 1).bind fun bt458 => ((laws_markHunkS.f k x9 bt458.1).bind fun t460 => (if t460 < 0 then (laws_FnExactBackHunks.j1 k x0 x1 x6 x7 x10 true) else ((laws_eqHunkS.f k x10 x6).bind fun t461 => (if t461 = true then (laws_FnExactBackHunks.j1 k x0 x1 x6 x7 x10 (x11 != x7)) else (laws_FnExactBackHunks.j1 k x0 x1 x6 x7 x10 true)))))) else (some false)))) else (some false))))
def laws_FnExactBackHunks.j1 : Nat → List ByteArray → List (S82) → List (S83) → Bool → List (S83) → Bool → Option (Bool)
  | 0, _, _, _, _, _, _ => none
  | k + 1, x0, x1, x6, x7, x10, x82 => if x82 = true then (some false) else ((laws_markHunkS.f k x10 1).bind fun t462 => ((laws_heldHunkS.f k x10 1).bind fun t463 => (if t463 < 0 then (some false) else (if t463 = t462 then ((laws_toStringS.f k x0).bind fun t464 => ((laws_toHunkS.f k x1).bind fun t467 => ((impl_BackHunks.f k t464 t467).bind fun bt470 => ((laws_eqHunkS.f k bt470.1 x6).bind fun t474 => (if t474 = true then (laws_FnExactBackHunks.j2 k x10 t462 (bt470.2 != x7)) else (laws_FnExactBackHunks.j2 k x10 t462 true)))))) else (some false)))))
def laws_FnExactBackHunks.j2 : Nat → List (S83) → Int → Bool → Option (Bool)
  | 0, _, _, _ => none
  | k + 1, x10, x13, x110 => if x110 = true then (some false) else ((laws_heldHunkS.f k x10 1).bind fun t475 => (if t475 < 0 then (some false) else (if t475 = x13 then (some true) else (some false))))
end
def laws_FnExactBackHunks.f (k : Nat) (l0 : List ByteArray) (l1 : List (S82)) : Option (Bool) := (laws_szStringS.f k l0 1048576).bind fun t427 => (if t427 < 0 then (some true) else ((laws_szHunkS.f k l1 t427).bind fun t428 => (if t428 < 0 then (some true) else ((laws_toStringS.f k l0).bind fun t429 => ((laws_toHunkS.f k l1).bind fun t432 => ((spec_BackHunks.f k t429 t432).bind fun bt435 => ((laws_toStringS.f k l0).bind fun t439 => ((laws_toHunkS.f k l1).bind fun t442 => ((impl_BackHunks.f k t439 t442).bind fun bt445 => ((laws_eqHunkS.f k bt445.1 bt435.1).bind fun t449 => (if t449 = true then (laws_FnExactBackHunks.j0 k l0 l1 bt435.1 bt435.2 t439 t442 bt445.1 bt445.2 (bt445.2 != bt435.2)) else (laws_FnExactBackHunks.j0 k l0 l1 bt435.1 bt435.2 t439 t442 bt445.1 bt445.2 true))))))))))))
theorem laws_FnExactBackHunks.mono_l : ∀ k, (∀ y0 y1 y2 y3 y4 y5 y6 y7 y8, LeO (laws_FnExactBackHunks.j0 k y0 y1 y2 y3 y4 y5 y6 y7 y8) (laws_FnExactBackHunks.j0 (k + 1) y0 y1 y2 y3 y4 y5 y6 y7 y8)) ∧ (∀ y0 y1 y2 y3 y4 y5, LeO (laws_FnExactBackHunks.j1 k y0 y1 y2 y3 y4 y5) (laws_FnExactBackHunks.j1 (k + 1) y0 y1 y2 y3 y4 y5)) ∧ (∀ y0 y1 y2, LeO (laws_FnExactBackHunks.j2 k y0 y1 y2) (laws_FnExactBackHunks.j2 (k + 1) y0 y1 y2))
  | 0 => ⟨fun _ _ _ _ _ _ _ _ _ r h => by simp [laws_FnExactBackHunks.j0] at h, fun _ _ _ _ _ _ r h => by simp [laws_FnExactBackHunks.j1] at h, fun _ _ _ r h => by simp [laws_FnExactBackHunks.j2] at h⟩
  | k + 1 => by
    obtain ⟨ih0, ih1, ih2⟩ := laws_FnExactBackHunks.mono_l k
    refine ⟨?_, ?_, ?_⟩
    · intro y0 y1 y2 y3 y4 y5 y6 y7 y8
      unfold laws_FnExactBackHunks.j0
      repeat' first
      | (with_reducible exact ih0 _ _ _ _ _ _ _ _ _)
      | (with_reducible exact ih1 _ _ _ _ _ _)
      | (with_reducible exact ih2 _ _ _)
      | (with_reducible exact impl_BackHunks.mono _ _ _)
      | (with_reducible exact laws_eqHunkS.mono _ _ _)
      | (with_reducible exact laws_eqStringS.mono _ _ _)
      | (with_reducible exact laws_heldHunkS.mono _ _ _)
      | (with_reducible exact laws_markHunkS.mono _ _ _)
      | (with_reducible exact laws_markStringS.mono _ _ _)
      | (with_reducible exact laws_szHunkS.mono _ _ _)
      | (with_reducible exact laws_szStringS.mono _ _ _)
      | (with_reducible exact laws_toHunkS.mono _ _)
      | (with_reducible exact laws_toStringS.mono _ _)
      | (with_reducible exact spec_BackHunks.mono _ _ _)
      | (with_reducible exact LeO.refl _)
      | (with_reducible exact LeO.none _)
      | (with_reducible refine LeO.ite ?_ ?_)
      | (with_reducible refine LeO.bind ?_ (fun _ => ?_))
      | exact ih0 _ _ _ _ _ _ _ _ _
      | exact ih1 _ _ _ _ _ _
      | exact ih2 _ _ _
      | exact impl_BackHunks.mono _ _ _
      | exact laws_eqHunkS.mono _ _ _
      | exact laws_eqStringS.mono _ _ _
      | exact laws_heldHunkS.mono _ _ _
      | exact laws_markHunkS.mono _ _ _
      | exact laws_markStringS.mono _ _ _
      | exact laws_szHunkS.mono _ _ _
      | exact laws_szStringS.mono _ _ _
      | exact laws_toHunkS.mono _ _
      | exact laws_toStringS.mono _ _
      | exact spec_BackHunks.mono _ _ _
      | exact LeO.none _
      | refine LeO.ite ?_ ?_
      | refine LeO.bind ?_ (fun _ => ?_)
    · intro y0 y1 y2 y3 y4 y5
      unfold laws_FnExactBackHunks.j1
      repeat' first
      | (with_reducible exact ih0 _ _ _ _ _ _ _ _ _)
      | (with_reducible exact ih1 _ _ _ _ _ _)
      | (with_reducible exact ih2 _ _ _)
      | (with_reducible exact impl_BackHunks.mono _ _ _)
      | (with_reducible exact laws_eqHunkS.mono _ _ _)
      | (with_reducible exact laws_eqStringS.mono _ _ _)
      | (with_reducible exact laws_heldHunkS.mono _ _ _)
      | (with_reducible exact laws_markHunkS.mono _ _ _)
      | (with_reducible exact laws_markStringS.mono _ _ _)
      | (with_reducible exact laws_szHunkS.mono _ _ _)
      | (with_reducible exact laws_szStringS.mono _ _ _)
      | (with_reducible exact laws_toHunkS.mono _ _)
      | (with_reducible exact laws_toStringS.mono _ _)
      | (with_reducible exact spec_BackHunks.mono _ _ _)
      | (with_reducible exact LeO.refl _)
      | (with_reducible exact LeO.none _)
      | (with_reducible refine LeO.ite ?_ ?_)
      | (with_reducible refine LeO.bind ?_ (fun _ => ?_))
      | exact ih0 _ _ _ _ _ _ _ _ _
      | exact ih1 _ _ _ _ _ _
      | exact ih2 _ _ _
      | exact impl_BackHunks.mono _ _ _
      | exact laws_eqHunkS.mono _ _ _
      | exact laws_eqStringS.mono _ _ _
      | exact laws_heldHunkS.mono _ _ _
      | exact laws_markHunkS.mono _ _ _
      | exact laws_markStringS.mono _ _ _
      | exact laws_szHunkS.mono _ _ _
      | exact laws_szStringS.mono _ _ _
      | exact laws_toHunkS.mono _ _
      | exact laws_toStringS.mono _ _
      | exact spec_BackHunks.mono _ _ _
      | exact LeO.none _
      | refine LeO.ite ?_ ?_
      | refine LeO.bind ?_ (fun _ => ?_)
    · intro y0 y1 y2
      unfold laws_FnExactBackHunks.j2
      repeat' first
      | (with_reducible exact ih0 _ _ _ _ _ _ _ _ _)
      | (with_reducible exact ih1 _ _ _ _ _ _)
      | (with_reducible exact ih2 _ _ _)
      | (with_reducible exact impl_BackHunks.mono _ _ _)
      | (with_reducible exact laws_eqHunkS.mono _ _ _)
      | (with_reducible exact laws_eqStringS.mono _ _ _)
      | (with_reducible exact laws_heldHunkS.mono _ _ _)
      | (with_reducible exact laws_markHunkS.mono _ _ _)
      | (with_reducible exact laws_markStringS.mono _ _ _)
      | (with_reducible exact laws_szHunkS.mono _ _ _)
      | (with_reducible exact laws_szStringS.mono _ _ _)
      | (with_reducible exact laws_toHunkS.mono _ _)
      | (with_reducible exact laws_toStringS.mono _ _)
      | (with_reducible exact spec_BackHunks.mono _ _ _)
      | (with_reducible exact LeO.refl _)
      | (with_reducible exact LeO.none _)
      | (with_reducible refine LeO.ite ?_ ?_)
      | (with_reducible refine LeO.bind ?_ (fun _ => ?_))
      | exact ih0 _ _ _ _ _ _ _ _ _
      | exact ih1 _ _ _ _ _ _
      | exact ih2 _ _ _
      | exact impl_BackHunks.mono _ _ _
      | exact laws_eqHunkS.mono _ _ _
      | exact laws_eqStringS.mono _ _ _
      | exact laws_heldHunkS.mono _ _ _
      | exact laws_markHunkS.mono _ _ _
      | exact laws_markStringS.mono _ _ _
      | exact laws_szHunkS.mono _ _ _
      | exact laws_szStringS.mono _ _ _
      | exact laws_toHunkS.mono _ _
      | exact laws_toStringS.mono _ _
      | exact spec_BackHunks.mono _ _ _
      | exact LeO.none _
      | refine LeO.ite ?_ ?_
      | refine LeO.bind ?_ (fun _ => ?_)
theorem laws_FnExactBackHunks.mono : ∀ a0 a1 k, LeO (laws_FnExactBackHunks.f k a0 a1) (laws_FnExactBackHunks.f (k + 1) a0 a1) := by
  intro a0 a1 k
  obtain ⟨ih0, ih1, ih2⟩ := laws_FnExactBackHunks.mono_l k
  unfold laws_FnExactBackHunks.f
  repeat' first
      | (with_reducible exact ih0 _ _ _ _ _ _ _ _ _)
      | (with_reducible exact ih1 _ _ _ _ _ _)
      | (with_reducible exact ih2 _ _ _)
      | (with_reducible exact impl_BackHunks.mono _ _ _)
      | (with_reducible exact laws_eqHunkS.mono _ _ _)
      | (with_reducible exact laws_eqStringS.mono _ _ _)
      | (with_reducible exact laws_heldHunkS.mono _ _ _)
      | (with_reducible exact laws_markHunkS.mono _ _ _)
      | (with_reducible exact laws_markStringS.mono _ _ _)
      | (with_reducible exact laws_szHunkS.mono _ _ _)
      | (with_reducible exact laws_szStringS.mono _ _ _)
      | (with_reducible exact laws_toHunkS.mono _ _)
      | (with_reducible exact laws_toStringS.mono _ _)
      | (with_reducible exact spec_BackHunks.mono _ _ _)
      | (with_reducible exact LeO.refl _)
      | (with_reducible exact LeO.none _)
      | (with_reducible refine LeO.ite ?_ ?_)
      | (with_reducible refine LeO.bind ?_ (fun _ => ?_))
      | exact ih0 _ _ _ _ _ _ _ _ _
      | exact ih1 _ _ _ _ _ _
      | exact ih2 _ _ _
      | exact impl_BackHunks.mono _ _ _
      | exact laws_eqHunkS.mono _ _ _
      | exact laws_eqStringS.mono _ _ _
      | exact laws_heldHunkS.mono _ _ _
      | exact laws_markHunkS.mono _ _ _
      | exact laws_markStringS.mono _ _ _
      | exact laws_szHunkS.mono _ _ _
      | exact laws_szStringS.mono _ _ _
      | exact laws_toHunkS.mono _ _
      | exact laws_toStringS.mono _ _
      | exact spec_BackHunks.mono _ _ _
      | exact LeO.none _
      | refine LeO.ite ?_ ?_
      | refine LeO.bind ?_ (fun _ => ?_)
set_option maxHeartbeats 8000000 in
set_option maxRecDepth 100000 in
theorem laws_FnExactBackHunks.calls (k : Nat) (A0 : Option Addr) (c0 : Nat) (l0 : List ByteArray) (A1 : Option Addr) (c1 : Nat) (l1 : List (S82)) (r : Bool) (w : World) (hr0 : Kd.C Kd.string w A0 l0.length l0) (hc0 : l0.length ≤ c0) (hr1 : Kd.C k82 w A1 l1.length l1) (hc1 : l1.length ≤ c1) (h : laws_FnExactBackHunks.f k l0 l1 = some r) :
    Calls Try.prog 12 #[.slice A0 l0.length c0, .slice A1 l1.length c1] w fun e w' => e = .returned (.bool r) ∧ Below w.heap.size w w' := by
  have HR0 := Aside0.mk hr0
  have HC0 := Aside0.mk hc0
  clear hr0 hc0
  have HR1 := Aside0.mk hr1
  have HC1 := Aside0.mk hc1
  clear hr1 hc1
  have HB := Aside0.mk (Below.refl w.heap.size w)
  have H : ((laws_szStringS.f k l0 1048576).bind fun t427 => (if t427 < 0 then (some true) else ((laws_szHunkS.f k l1 t427).bind fun t428 => (if t428 < 0 then (some true) else ((laws_toStringS.f k l0).bind fun t429 => ((laws_toHunkS.f k l1).bind fun t432 => ((spec_BackHunks.f k t429 t432).bind fun bt435 => ((laws_toStringS.f k l0).bind fun t439 => ((laws_toHunkS.f k l1).bind fun t442 => ((impl_BackHunks.f k t439 t442).bind fun bt445 => ((laws_eqHunkS.f k bt445.1 bt435.1).bind fun t449 => (if t449 = true then (laws_FnExactBackHunks.j0 k l0 l1 bt435.1 bt435.2 t439 t442 bt445.1 bt445.2 (bt445.2 != bt435.2)) else (laws_FnExactBackHunks.j0 k l0 l1 bt435.1 bt435.2 t439 t442 bt445.1 bt445.2 true))))))))))))) = some r := h
  clear h
  replace H := Option.bind_eq_some_iff.mp H
  obtain ⟨t427, A30, H⟩ := H
  replace H : (if t427 < 0 then (some true) else ((laws_szHunkS.f k l1 t427).bind fun t428 => (if t428 < 0 then (some true) else ((laws_toStringS.f k l0).bind fun t429 => ((laws_toHunkS.f k l1).bind fun t432 => ((spec_BackHunks.f k t429 t432).bind fun bt435 => ((laws_toStringS.f k l0).bind fun t439 => ((laws_toHunkS.f k l1).bind fun t442 => ((impl_BackHunks.f k t439 t442).bind fun bt445 => ((laws_eqHunkS.f k bt445.1 bt435.1).bind fun t449 => (if t449 = true then (laws_FnExactBackHunks.j0 k l0 l1 bt435.1 bt435.2 t439 t442 bt445.1 bt445.2 (bt445.2 != bt435.2)) else (laws_FnExactBackHunks.j0 k l0 l1 bt435.1 bt435.2 t439 t442 bt445.1 bt445.2 true)))))))))))) = some r := H
  have A3 := Aside0.mk A30
  clear A30
  by_cases c4 : t427 < 0
  · rw [if_pos c4] at H
    have c4b0 : decide (t427 < 0) = true := decide_eq_true c4
    clear c4
    obtain rfl := Option.some.inj H
    go_enter Try.func12, Try.ntmps12
    go_wp2_with (first | ((with_reducible refine gate_callee (f := 20) rfl ?_); refine goesL_ (some 19) rfl rfl Try.func20 (by kernel_rfl) rfl #[.slice A0 l0.length c0, .int .i64 1048576] rfl (by (try simp only [List.map_toArray, List.map_cons, List.map_nil]); first | done | rfl | (simp only [List.length_drop, List.length_take]; rfl)) ?_; (with_reducible refine (laws_szStringS.calls k _ _ l0 1048576 t427 _ ?side1 ?side2 A3.out).mono ?_); (case side1 => repeat (first | exact HR0.out | (with_reducible refine Kd.C_alloc ?_ _) | (with_reducible refine Kd.C_drewN ?_ _) | (with_reducible refine Kd.C_drew ?_))); (case side2 => exact HC0.out); rintro e w' ⟨rfl, ⟨nd, rfl⟩⟩; refine ⟨_, rfl, ?_⟩))
    go_ret
    exact ⟨by first | rfl | (simp [errW_none, errW_some] <;> rfl) | (simp [*, errW_none, errW_some] <;> rfl), by repeat (first | (with_reducible first | exact HB.out | apply below_alloc | apply pw_below_drewN | apply below_drew1) | exact HB.out)⟩
  · rw [if_neg c4] at H
    have c4b0 : decide (t427 < 0) = false := decide_eq_false c4
    clear c4
    replace H := Option.bind_eq_some_iff.mp H
    obtain ⟨t428, A50, H⟩ := H
    replace H : (if t428 < 0 then (some true) else ((laws_toStringS.f k l0).bind fun t429 => ((laws_toHunkS.f k l1).bind fun t432 => ((spec_BackHunks.f k t429 t432).bind fun bt435 => ((laws_toStringS.f k l0).bind fun t439 => ((laws_toHunkS.f k l1).bind fun t442 => ((impl_BackHunks.f k t439 t442).bind fun bt445 => ((laws_eqHunkS.f k bt445.1 bt435.1).bind fun t449 => (if t449 = true then (laws_FnExactBackHunks.j0 k l0 l1 bt435.1 bt435.2 t439 t442 bt445.1 bt445.2 (bt445.2 != bt435.2)) else (laws_FnExactBackHunks.j0 k l0 l1 bt435.1 bt435.2 t439 t442 bt445.1 bt445.2 true)))))))))) = some r := H
    have A5 := Aside0.mk A50
    clear A50
    by_cases c6 : t428 < 0
    · rw [if_pos c6] at H
      have c6b0 : decide (t428 < 0) = true := decide_eq_true c6
      clear c6
      obtain rfl := Option.some.inj H
      go_enter Try.func12, Try.ntmps12
      go_wp2_with (first | ((with_reducible refine gate_callee (f := 20) rfl ?_); refine goesL_ (some 19) rfl rfl Try.func20 (by kernel_rfl) rfl #[.slice A0 l0.length c0, .int .i64 1048576] rfl (by (try simp only [List.map_toArray, List.map_cons, List.map_nil]); first | done | rfl | (simp only [List.length_drop, List.length_take]; rfl)) ?_; (with_reducible refine (laws_szStringS.calls k _ _ l0 1048576 t427 _ ?side1 ?side2 A3.out).mono ?_); (case side1 => repeat (first | exact HR0.out | (with_reducible refine Kd.C_alloc ?_ _) | (with_reducible refine Kd.C_drewN ?_ _) | (with_reducible refine Kd.C_drew ?_))); (case side2 => exact HC0.out); rintro e w' ⟨rfl, ⟨nd, rfl⟩⟩; refine ⟨_, rfl, ?_⟩) | ((with_reducible refine gate_callee (f := 15) rfl ?_); refine goesL_ (some 24) rfl rfl Try.func15 (by kernel_rfl) rfl #[.slice A1 l1.length c1, .int .i64 t427] rfl (by (try simp only [List.map_toArray, List.map_cons, List.map_nil]); first | done | rfl | (simp only [List.length_drop, List.length_take]; rfl)) ?_; (with_reducible refine (laws_szHunkS.calls k _ _ l1 t427 t428 _ ?side1 ?side2 A5.out).mono ?_); (case side1 => repeat (first | exact HR1.out | (with_reducible refine Kd.C_alloc ?_ _) | (with_reducible refine Kd.C_drewN ?_ _) | (with_reducible refine Kd.C_drew ?_))); (case side2 => exact HC1.out); rintro e w7 ⟨rfl, hb⟩; refine ⟨_, rfl, ?_⟩; have n0_ := Aside0.mk (below_step (by repeat (first | (with_reducible first | exact HB.out | apply below_alloc | apply pw_below_drewN | apply below_drew1) | exact HB.out)) hb); clear HB; have HB := n0_; clear n0_; (try clear hb); (try clear hb2); (try clear hk); (try clear hi)))
      go_ret
      exact ⟨by first | rfl | (simp [errW_none, errW_some] <;> rfl) | (simp [*, errW_none, errW_some] <;> rfl), by repeat (first | (with_reducible first | exact HB.out | apply below_alloc | apply pw_below_drewN | apply below_drew1) | exact HB.out)⟩
    · rw [if_neg c6] at H
      have c6b0 : decide (t428 < 0) = false := decide_eq_false c6
      clear c6
      replace H := Option.bind_eq_some_iff.mp H
      obtain ⟨t429, A80, H⟩ := H
      replace H : ((laws_toHunkS.f k l1).bind fun t432 => ((spec_BackHunks.f k t429 t432).bind fun bt435 => ((laws_toStringS.f k l0).bind fun t439 => ((laws_toHunkS.f k l1).bind fun t442 => ((impl_BackHunks.f k t439 t442).bind fun bt445 => ((laws_eqHunkS.f k bt445.1 bt435.1).bind fun t449 => (if t449 = true then (laws_FnExactBackHunks.j0 k l0 l1 bt435.1 bt435.2 t439 t442 bt445.1 bt445.2 (bt445.2 != bt435.2)) else (laws_FnExactBackHunks.j0 k l0 l1 bt435.1 bt435.2 t439 t442 bt445.1 bt445.2 true)))))))) = some r := H
      have A8 := Aside0.mk A80
      clear A80
      replace H := Option.bind_eq_some_iff.mp H
      obtain ⟨t432, A90, H⟩ := H
      replace H : ((spec_BackHunks.f k t429 t432).bind fun bt435 => ((laws_toStringS.f k l0).bind fun t439 => ((laws_toHunkS.f k l1).bind fun t442 => ((impl_BackHunks.f k t439 t442).bind fun bt445 => ((laws_eqHunkS.f k bt445.1 bt435.1).bind fun t449 => (if t449 = true then (laws_FnExactBackHunks.j0 k l0 l1 bt435.1 bt435.2 t439 t442 bt445.1 bt445.2 (bt445.2 != bt435.2)) else (laws_FnExactBackHunks.j0 k l0 l1 bt435.1 bt435.2 t439 t442 bt445.1 bt445.2 true))))))) = some r := H
      have A9 := Aside0.mk A90
      clear A90
      replace H := Option.bind_eq_some_iff.mp H
      obtain ⟨⟨t435, t436⟩, A100, H⟩ := H
      replace H : ((laws_toStringS.f k l0).bind fun t439 => ((laws_toHunkS.f k l1).bind fun t442 => ((impl_BackHunks.f k t439 t442).bind fun bt445 => ((laws_eqHunkS.f k bt445.1 t435).bind fun t449 => (if t449 = true then (laws_FnExactBackHunks.j0 k l0 l1 t435 t436 t439 t442 bt445.1 bt445.2 (bt445.2 != t436)) else (laws_FnExactBackHunks.j0 k l0 l1 t435 t436 t439 t442 bt445.1 bt445.2 true)))))) = some r := H
      have A10 := Aside0.mk A100
      clear A100
      replace H := Option.bind_eq_some_iff.mp H
      obtain ⟨t439, A110, H⟩ := H
      replace H : ((laws_toHunkS.f k l1).bind fun t442 => ((impl_BackHunks.f k t439 t442).bind fun bt445 => ((laws_eqHunkS.f k bt445.1 t435).bind fun t449 => (if t449 = true then (laws_FnExactBackHunks.j0 k l0 l1 t435 t436 t439 t442 bt445.1 bt445.2 (bt445.2 != t436)) else (laws_FnExactBackHunks.j0 k l0 l1 t435 t436 t439 t442 bt445.1 bt445.2 true))))) = some r := H
      have A11 := Aside0.mk A110
      clear A110
      replace H := Option.bind_eq_some_iff.mp H
      obtain ⟨t442, A120, H⟩ := H
      replace H : ((impl_BackHunks.f k t439 t442).bind fun bt445 => ((laws_eqHunkS.f k bt445.1 t435).bind fun t449 => (if t449 = true then (laws_FnExactBackHunks.j0 k l0 l1 t435 t436 t439 t442 bt445.1 bt445.2 (bt445.2 != t436)) else (laws_FnExactBackHunks.j0 k l0 l1 t435 t436 t439 t442 bt445.1 bt445.2 true)))) = some r := H
      have A12 := Aside0.mk A120
      clear A120
      replace H := Option.bind_eq_some_iff.mp H
      obtain ⟨⟨t445, t446⟩, A130, H⟩ := H
      replace H : ((laws_eqHunkS.f k t445 t435).bind fun t449 => (if t449 = true then (laws_FnExactBackHunks.j0 k l0 l1 t435 t436 t439 t442 t445 t446 (t446 != t436)) else (laws_FnExactBackHunks.j0 k l0 l1 t435 t436 t439 t442 t445 t446 true))) = some r := H
      have A13 := Aside0.mk A130
      clear A130
      have HC14 := Aside0.mk H
      clear H
      go_enter Try.func12, Try.ntmps12
      go_upto_region 12 with (first | ((with_reducible refine gate_callee (f := 20) rfl ?_); refine goesL_ (some 19) rfl rfl Try.func20 (by kernel_rfl) rfl #[.slice A0 l0.length c0, .int .i64 1048576] rfl (by (try simp only [List.map_toArray, List.map_cons, List.map_nil]); first | done | rfl | (simp only [List.length_drop, List.length_take]; rfl)) ?_; (with_reducible refine (laws_szStringS.calls k _ _ l0 1048576 t427 _ ?side1 ?side2 A3.out).mono ?_); (case side1 => repeat (first | exact HR0.out | (with_reducible refine Kd.C_alloc ?_ _) | (with_reducible refine Kd.C_drewN ?_ _) | (with_reducible refine Kd.C_drew ?_))); (case side2 => exact HC0.out); rintro e w' ⟨rfl, ⟨nd, rfl⟩⟩; refine ⟨_, rfl, ?_⟩) | ((with_reducible refine gate_callee (f := 15) rfl ?_); refine goesL_ (some 24) rfl rfl Try.func15 (by kernel_rfl) rfl #[.slice A1 l1.length c1, .int .i64 t427] rfl (by (try simp only [List.map_toArray, List.map_cons, List.map_nil]); first | done | rfl | (simp only [List.length_drop, List.length_take]; rfl)) ?_; (with_reducible refine (laws_szHunkS.calls k _ _ l1 t427 t428 _ ?side1 ?side2 A5.out).mono ?_); (case side1 => repeat (first | exact HR1.out | (with_reducible refine Kd.C_alloc ?_ _) | (with_reducible refine Kd.C_drewN ?_ _) | (with_reducible refine Kd.C_drew ?_))); (case side2 => exact HC1.out); rintro e w15 ⟨rfl, hb⟩; refine ⟨_, rfl, ?_⟩; have n0_ := Aside0.mk (below_step (by repeat (first | (with_reducible first | exact HB.out | apply below_alloc | apply pw_below_drewN | apply below_drew1) | exact HB.out)) hb); clear HB; have HB := n0_; clear n0_; (try clear hb); (try clear hb2); (try clear hk); (try clear hi)) | ((with_reducible refine gate_callee (f := 22) rfl ?_); refine goesL_ (some 29) rfl rfl Try.func22 (by kernel_rfl) rfl #[.slice A0 l0.length c0] rfl (by (try simp only [List.map_toArray, List.map_cons, List.map_nil]); first | done | rfl | (simp only [List.length_drop, List.length_take]; rfl)) ?_; (with_reducible refine (laws_toStringS.calls k _ _ l0 t429 _ ?side1 ?side2 A8.out).mono ?_); (case side1 => repeat (first | exact (Kd.C_below HR0.out HB.out) | (with_reducible refine Kd.C_alloc ?_ _) | (with_reducible refine Kd.C_drewN ?_ _) | (with_reducible refine Kd.C_drew ?_))); (case side2 => exact HC0.out); rintro e w16 ⟨v430, rfl, ho0, hb⟩; refine ⟨_, rfl, ?_⟩; have n0_ := Aside0.mk (Kd.R_lower ho0 (below_size (by repeat (first | (with_reducible first | exact HB.out | apply below_alloc | apply pw_below_drewN | apply below_drew1) | exact HB.out)))); have n1_ := Aside0.mk (below_step (by repeat (first | (with_reducible first | exact HB.out | apply below_alloc | apply pw_below_drewN | apply below_drew1) | exact HB.out)) hb); clear HB; have HO431 := n0_; have HB := n1_; clear n0_ n1_; (try clear hb); (try clear hb2); (try clear hk); (try clear hi); (try clear ho0)) | ((with_reducible refine gate_callee (f := 17) rfl ?_); refine goesL_ (some 31) rfl rfl Try.func17 (by kernel_rfl) rfl #[.slice A1 l1.length c1] rfl (by (try simp only [List.map_toArray, List.map_cons, List.map_nil]); first | done | rfl | (simp only [List.length_drop, List.length_take]; rfl)) ?_; (with_reducible refine (laws_toHunkS.calls k _ _ l1 t432 _ ?side1 ?side2 A9.out).mono ?_); (case side1 => repeat (first | exact (Kd.C_below HR1.out HB.out) | (with_reducible refine Kd.C_alloc ?_ _) | (with_reducible refine Kd.C_drewN ?_ _) | (with_reducible refine Kd.C_drew ?_))); (case side2 => exact HC1.out); rintro e w17 ⟨v433, rfl, ho0, hb⟩; refine ⟨_, rfl, ?_⟩; have n0_ := Aside0.mk (Kd.R_below (by (with_reducible repeat (first | apply Kd.R_alloc | apply Kd.R_drewN | apply Kd.R_drew)); exact HO431.out) hb); have n1_ := Aside0.mk (Kd.S_lower (Kd.S_new' ho0 (Kd.R_lt (by (with_reducible repeat (first | apply Kd.R_alloc | apply Kd.R_drewN | apply Kd.R_drew)); exact HO431.out))) (below_size (by repeat (first | (with_reducible first | exact HB.out | apply below_alloc | apply pw_below_drewN | apply below_drew1) | exact HB.out)))); have n2_ := Aside0.mk (below_step (by repeat (first | (with_reducible first | exact HB.out | apply below_alloc | apply pw_below_drewN | apply below_drew1) | exact HB.out)) hb); clear HO431; clear HB; have HO431 := n0_; have HO434 := n1_; have HB := n2_; clear n0_ n1_ n2_; (try clear hb); (try clear hb2); (try clear hk); (try clear hi); (try clear ho0); obtain ⟨Ao18, co18, eo18⟩ := Kd.R_slice HO431.out; subst eo18; obtain ⟨Ao19, co19, eo19⟩ := Kd.S_slice HO434.out; subst eo19) | ((with_reducible refine gate_callee (f := 58) rfl ?_); refine goesL_ (some 32) rfl rfl Try.func58 (by kernel_rfl) rfl #[.slice Ao18 t429.length co18, .slice Ao19 t432.length co19] rfl (by (try simp only [List.map_toArray, List.map_cons, List.map_nil]); first | done | rfl | (simp only [List.length_drop, List.length_take]; rfl)) ?_; (with_reducible refine (spec_BackHunks.calls k _ _ t429 _ _ t432 t435 t436 _ ?side1 ?side2 ?side3 ?side4 A10.out).mono ?_); (case side1 => repeat (first | exact (Kd.R_reads' HO431.out).2.2 | (with_reducible refine Kd.C_alloc ?_ _) | (with_reducible refine Kd.C_drewN ?_ _) | (with_reducible refine Kd.C_drew ?_))); (case side2 => exact (Kd.R_reads' HO431.out).2.1); (case side3 => repeat (first | exact (Kd.S_reads' HO434.out).2.2 | (with_reducible refine Kd.C_alloc ?_ _) | (with_reducible refine Kd.C_drewN ?_ _) | (with_reducible refine Kd.C_drew ?_))); (case side4 => exact (Kd.S_reads' HO434.out).2.1); rintro e w20 ⟨v437, rfl, ho0, hb⟩; refine ⟨_, rfl, ?_⟩; have n0_ := Aside0.mk (Kd.R_below (by (with_reducible repeat (first | apply Kd.R_alloc | apply Kd.R_drewN | apply Kd.R_drew)); exact HO431.out) hb); have n1_ := Aside0.mk (Kd.S_elder' (by (with_reducible repeat (first | apply Kd.S_alloc | apply Kd.S_drewN | apply Kd.S_drew)); exact HO434.out) (Kd.S_base ho0) hb); have n2_ := Aside0.mk (Kd.S_lower (Kd.S_new' (Kd.S_new' ho0 (Kd.R_lt (by (with_reducible repeat (first | apply Kd.R_alloc | apply Kd.R_drewN | apply Kd.R_drew)); exact HO431.out))) (Kd.S_lt (by (with_reducible repeat (first | apply Kd.S_alloc | apply Kd.S_drewN | apply Kd.S_drew)); exact HO434.out))) (below_size (by repeat (first | (with_reducible first | exact HB.out | apply below_alloc | apply pw_below_drewN | apply below_drew1) | exact HB.out)))); have n3_ := Aside0.mk (below_step (by repeat (first | (with_reducible first | exact HB.out | apply below_alloc | apply pw_below_drewN | apply below_drew1) | exact HB.out)) hb); clear HO431; clear HO434; clear HB; have HO431 := n0_; have HO434 := n1_; have HO438 := n2_; have HB := n3_; clear n0_ n1_ n2_ n3_; (try clear hb); (try clear hb2); (try clear hk); (try clear hi); (try clear ho0)) | ((with_reducible refine gate_callee (f := 22) rfl ?_); refine goesL_ (some 36) rfl rfl Try.func22 (by kernel_rfl) rfl #[.slice A0 l0.length c0] rfl (by (try simp only [List.map_toArray, List.map_cons, List.map_nil]); first | done | rfl | (simp only [List.length_drop, List.length_take]; rfl)) ?_; (with_reducible refine (laws_toStringS.calls k _ _ l0 t439 _ ?side1 ?side2 A11.out).mono ?_); (case side1 => repeat (first | exact (Kd.C_below HR0.out HB.out) | (with_reducible refine Kd.C_alloc ?_ _) | (with_reducible refine Kd.C_drewN ?_ _) | (with_reducible refine Kd.C_drew ?_))); (case side2 => exact HC0.out); rintro e w21 ⟨v440, rfl, ho0, hb⟩; refine ⟨_, rfl, ?_⟩; have n0_ := Aside0.mk (Kd.R_elder' (by (with_reducible repeat (first | apply Kd.R_alloc | apply Kd.R_drewN | apply Kd.R_drew)); exact HO431.out) (Kd.R_base ho0) hb); have n1_ := Aside0.mk (Kd.S_elder' (by (with_reducible repeat (first | apply Kd.S_alloc | apply Kd.S_drewN | apply Kd.S_drew)); exact HO434.out) (Kd.R_base ho0) hb); have n2_ := Aside0.mk (Kd.S_elder' (by (with_reducible repeat (first | apply Kd.S_alloc | apply Kd.S_drewN | apply Kd.S_drew)); exact HO438.out) (Kd.R_base ho0) hb); have n3_ := Aside0.mk (Kd.R_lower (Kd.R_new' ho0 (Kd.R_lt (by (with_reducible repeat (first | apply Kd.R_alloc | apply Kd.R_drewN | apply Kd.R_drew)); exact HO431.out))) (below_size (by repeat (first | (with_reducible first | exact HB.out | apply below_alloc | apply pw_below_drewN | apply below_drew1) | exact HB.out)))); have n4_ := Aside0.mk (below_step (by repeat (first | (with_reducible first | exact HB.out | apply below_alloc | apply pw_below_drewN | apply below_drew1) | exact HB.out)) hb); clear HO431; clear HO434; clear HO438; clear HB; have HO431 := n0_; have HO434 := n1_; have HO438 := n2_; have HO441 := n3_; have HB := n4_; clear n0_ n1_ n2_ n3_ n4_; (try clear hb); (try clear hb2); (try clear hk); (try clear hi); (try clear ho0)) | ((with_reducible refine gate_callee (f := 17) rfl ?_); refine goesL_ (some 38) rfl rfl Try.func17 (by kernel_rfl) rfl #[.slice A1 l1.length c1] rfl (by (try simp only [List.map_toArray, List.map_cons, List.map_nil]); first | done | rfl | (simp only [List.length_drop, List.length_take]; rfl)) ?_; (with_reducible refine (laws_toHunkS.calls k _ _ l1 t442 _ ?side1 ?side2 A12.out).mono ?_); (case side1 => repeat (first | exact (Kd.C_below HR1.out HB.out) | (with_reducible refine Kd.C_alloc ?_ _) | (with_reducible refine Kd.C_drewN ?_ _) | (with_reducible refine Kd.C_drew ?_))); (case side2 => exact HC1.out); rintro e w22 ⟨v443, rfl, ho0, hb⟩; refine ⟨_, rfl, ?_⟩; have n0_ := Aside0.mk (Kd.R_below (by (with_reducible repeat (first | apply Kd.R_alloc | apply Kd.R_drewN | apply Kd.R_drew)); exact HO431.out) hb); have n1_ := Aside0.mk (Kd.S_elder' (by (with_reducible repeat (first | apply Kd.S_alloc | apply Kd.S_drewN | apply Kd.S_drew)); exact HO434.out) (Kd.S_base ho0) hb); have n2_ := Aside0.mk (Kd.S_elder' (by (with_reducible repeat (first | apply Kd.S_alloc | apply Kd.S_drewN | apply Kd.S_drew)); exact HO438.out) (Kd.S_base ho0) hb); have n3_ := Aside0.mk (Kd.R_below (by (with_reducible repeat (first | apply Kd.R_alloc | apply Kd.R_drewN | apply Kd.R_drew)); exact HO441.out) hb); have n4_ := Aside0.mk (Kd.S_lower (Kd.S_new' (Kd.S_new' (Kd.S_new' (Kd.S_new' ho0 (Kd.R_lt (by (with_reducible repeat (first | apply Kd.R_alloc | apply Kd.R_drewN | apply Kd.R_drew)); exact HO431.out))) (Kd.S_lt (by (with_reducible repeat (first | apply Kd.S_alloc | apply Kd.S_drewN | apply Kd.S_drew)); exact HO434.out))) (Kd.S_lt (by (with_reducible repeat (first | apply Kd.S_alloc | apply Kd.S_drewN | apply Kd.S_drew)); exact HO438.out))) (Kd.R_lt (by (with_reducible repeat (first | apply Kd.R_alloc | apply Kd.R_drewN | apply Kd.R_drew)); exact HO441.out))) (below_size (by repeat (first | (with_reducible first | exact HB.out | apply below_alloc | apply pw_below_drewN | apply below_drew1) | exact HB.out)))); have n5_ := Aside0.mk (below_step (by repeat (first | (with_reducible first | exact HB.out | apply below_alloc | apply pw_below_drewN | apply below_drew1) | exact HB.out)) hb); clear HO431; clear HO434; clear HO438; clear HO441; clear HB; have HO431 := n0_; have HO434 := n1_; have HO438 := n2_; have HO441 := n3_; have HO444 := n4_; have HB := n5_; clear n0_ n1_ n2_ n3_ n4_ n5_; (try clear hb); (try clear hb2); (try clear hk); (try clear hi); (try clear ho0); obtain ⟨Ao23, co23, eo23⟩ := Kd.R_slice HO441.out; subst eo23; obtain ⟨Ao24, co24, eo24⟩ := Kd.S_slice HO444.out; subst eo24) | ((with_reducible refine gate_callee (f := 59) rfl ?_); refine goesL_ (some 42) rfl rfl Try.func59 (by kernel_rfl) rfl #[.slice Ao23 t439.length co23, .slice Ao24 t442.length co24] rfl (by (try simp only [List.map_toArray, List.map_cons, List.map_nil]); first | done | rfl | (simp only [List.length_drop, List.length_take]; rfl)) ?_; (with_reducible refine (impl_BackHunks.calls k _ _ t439 _ _ t442 t445 t446 _ ?side1 ?side2 ?side3 ?side4 A13.out).mono ?_); (case side1 => repeat (first | exact (Kd.R_reads' HO441.out).2.2 | (with_reducible refine Kd.C_alloc ?_ _) | (with_reducible refine Kd.C_drewN ?_ _) | (with_reducible refine Kd.C_drew ?_))); (case side2 => exact (Kd.R_reads' HO441.out).2.1); (case side3 => repeat (first | exact (Kd.S_reads' HO444.out).2.2 | (with_reducible refine Kd.C_alloc ?_ _) | (with_reducible refine Kd.C_drewN ?_ _) | (with_reducible refine Kd.C_drew ?_))); (case side4 => exact (Kd.S_reads' HO444.out).2.1); rintro e w25 ⟨v447, rfl, ho0, hb⟩; refine ⟨_, rfl, ?_⟩; have n0_ := Aside0.mk (Kd.R_below (by (with_reducible repeat (first | apply Kd.R_alloc | apply Kd.R_drewN | apply Kd.R_drew)); exact HO431.out) hb); have n1_ := Aside0.mk (Kd.S_elder' (by (with_reducible repeat (first | apply Kd.S_alloc | apply Kd.S_drewN | apply Kd.S_drew)); exact HO434.out) (Kd.S_base ho0) hb); have n2_ := Aside0.mk (Kd.S_elder' (by (with_reducible repeat (first | apply Kd.S_alloc | apply Kd.S_drewN | apply Kd.S_drew)); exact HO438.out) (Kd.S_base ho0) hb); have n3_ := Aside0.mk (Kd.R_below (by (with_reducible repeat (first | apply Kd.R_alloc | apply Kd.R_drewN | apply Kd.R_drew)); exact HO441.out) hb); have n4_ := Aside0.mk (Kd.S_elder' (by (with_reducible repeat (first | apply Kd.S_alloc | apply Kd.S_drewN | apply Kd.S_drew)); exact HO444.out) (Kd.S_base ho0) hb); have n5_ := Aside0.mk (Kd.S_lower (Kd.S_new' (Kd.S_new' (Kd.S_new' (Kd.S_new' (Kd.S_new' ho0 (Kd.R_lt (by (with_reducible repeat (first | apply Kd.R_alloc | apply Kd.R_drewN | apply Kd.R_drew)); exact HO431.out))) (Kd.S_lt (by (with_reducible repeat (first | apply Kd.S_alloc | apply Kd.S_drewN | apply Kd.S_drew)); exact HO434.out))) (Kd.S_lt (by (with_reducible repeat (first | apply Kd.S_alloc | apply Kd.S_drewN | apply Kd.S_drew)); exact HO438.out))) (Kd.R_lt (by (with_reducible repeat (first | apply Kd.R_alloc | apply Kd.R_drewN | apply Kd.R_drew)); exact HO441.out))) (Kd.S_lt (by (with_reducible repeat (first | apply Kd.S_alloc | apply Kd.S_drewN | apply Kd.S_drew)); exact HO444.out))) (below_size (by repeat (first | (with_reducible first | exact HB.out | apply below_alloc | apply pw_below_drewN | apply below_drew1) | exact HB.out)))); have n6_ := Aside0.mk (below_step (by repeat (first | (with_reducible first | exact HB.out | apply below_alloc | apply pw_below_drewN | apply below_drew1) | exact HB.out)) hb); clear HO431; clear HO434; clear HO438; clear HO441; clear HO444; clear HB; have HO431 := n0_; have HO434 := n1_; have HO438 := n2_; have HO441 := n3_; have HO444 := n4_; have HO448 := n5_; have HB := n6_; clear n0_ n1_ n2_ n3_ n4_ n5_ n6_; (try clear hb); (try clear hb2); (try clear hk); (try clear hi); (try clear ho0)))
      (try simp only [Act.put, List.setIfInBounds_toArray, List.set_cons_zero, List.set_cons_succ])
      go_cut [53] (fun v53 wc => ∃ (kq : Nat) (x53_13 : Bool), v53 = .bool x53_13 ∧ Aside0 (laws_FnExactBackHunks.j0 kq l0 l1 t435 t436 t439 t442 t445 t446 x53_13 = some r) ∧ Aside0 (kq ≤ k) ∧ Aside0 (Kd.S k83 83 wc w.heap.size (fun k_ => some k_ ≠ ((.slice Ao23 t439.length co23) : Value).ownBlock ∧ some k_ ≠ ((.slice Ao24 t442.length co24) : Value).ownBlock ∧ some k_ ≠ (v447 : Value).ownBlock) v437 t435) ∧ Aside0 (Kd.R Kd.string 9 wc w.heap.size (fun _ => True) (.slice Ao23 t439.length co23) t439) ∧ Aside0 (Kd.S k83 83 wc w.heap.size (fun k_ => some k_ ≠ (v437 : Value).ownBlock ∧ some k_ ≠ ((.slice Ao23 t439.length co23) : Value).ownBlock ∧ some k_ ≠ (v447 : Value).ownBlock) (.slice Ao24 t442.length co24) t442) ∧ Aside0 (Kd.S k83 83 wc w.heap.size (fun k_ => some k_ ≠ (v437 : Value).ownBlock ∧ some k_ ≠ ((.slice Ao23 t439.length co23) : Value).ownBlock ∧ some k_ ≠ ((.slice Ao24 t442.length co24) : Value).ownBlock) v447 t445) ∧ Aside0 (Below w.heap.size w wc))
      case first =>
        have H := HC14.out
        clear HC14
        replace H := Option.bind_eq_some_iff.mp H
        obtain ⟨t449, A260, H⟩ := H
        replace H : (if t449 = true then (laws_FnExactBackHunks.j0 k l0 l1 t435 t436 t439 t442 t445 t446 (t446 != t436)) else (laws_FnExactBackHunks.j0 k l0 l1 t435 t436 t439 t442 t445 t446 true)) = some r := H
        have A26 := Aside0.mk A260
        clear A260
        by_cases c27 : t449 = true
        · subst c27
          have H1 : (laws_FnExactBackHunks.j0 k l0 l1 t435 t436 t439 t442 t445 t446 (t446 != t436)) = some r := by rw [if_pos rfl] at H; exact H
          clear H
          have H := H1
          clear H1
          have H' := Aside0.mk H
          clear H
          obtain ⟨Ao28, co28, eo28⟩ := Kd.S_slice HO448.out
          subst eo28
          obtain ⟨Ao29, co29, eo29⟩ := Kd.S_slice HO438.out
          subst eo29
          go_wp2_with (first | ((with_reducible refine gate_callee (f := 19) rfl ?_); refine goesL_ (some 47) rfl rfl Try.func19 (by kernel_rfl) rfl #[.slice Ao28 t445.length co28, .slice Ao29 t435.length co29] rfl (by (try simp only [List.map_toArray, List.map_cons, List.map_nil]); first | done | rfl | (simp only [List.length_drop, List.length_take]; rfl)) ?_; (with_reducible refine (laws_eqHunkS.calls k _ _ t445 _ _ t435 true _ ?side1 ?side2 ?side3 ?side4 A26.out).mono ?_); (case side1 => repeat (first | exact (Kd.S_reads' HO448.out).2.2 | (with_reducible refine Kd.C_alloc ?_ _) | (with_reducible refine Kd.C_drewN ?_ _) | (with_reducible refine Kd.C_drew ?_))); (case side2 => exact (Kd.S_reads' HO448.out).2.1); (case side3 => repeat (first | exact (Kd.S_reads' HO438.out).2.2 | (with_reducible refine Kd.C_alloc ?_ _) | (with_reducible refine Kd.C_drewN ?_ _) | (with_reducible refine Kd.C_drew ?_))); (case side4 => exact (Kd.S_reads' HO438.out).2.1); rintro e w30 ⟨rfl, hb⟩; refine ⟨_, rfl, ?_⟩; have n0_ := Aside0.mk (Kd.R_below (by (with_reducible repeat (first | apply Kd.R_alloc | apply Kd.R_drewN | apply Kd.R_drew)); exact HO431.out) hb); have n1_ := Aside0.mk (Kd.S_below (by (with_reducible repeat (first | apply Kd.S_alloc | apply Kd.S_drewN | apply Kd.S_drew)); exact HO434.out) hb); have n2_ := Aside0.mk (Kd.S_below (by (with_reducible repeat (first | apply Kd.S_alloc | apply Kd.S_drewN | apply Kd.S_drew)); exact HO438.out) hb); have n3_ := Aside0.mk (Kd.R_below (by (with_reducible repeat (first | apply Kd.R_alloc | apply Kd.R_drewN | apply Kd.R_drew)); exact HO441.out) hb); have n4_ := Aside0.mk (Kd.S_below (by (with_reducible repeat (first | apply Kd.S_alloc | apply Kd.S_drewN | apply Kd.S_drew)); exact HO444.out) hb); have n5_ := Aside0.mk (Kd.S_below (by (with_reducible repeat (first | apply Kd.S_alloc | apply Kd.S_drewN | apply Kd.S_drew)); exact HO448.out) hb); have n6_ := Aside0.mk (below_step (by repeat (first | (with_reducible first | exact HB.out | apply below_alloc | apply pw_below_drewN | apply below_drew1) | exact HB.out)) hb); clear HO431; clear HO434; clear HO438; clear HO441; clear HO444; clear HO448; clear HB; have HO431 := n0_; have HO434 := n1_; have HO438 := n2_; have HO441 := n3_; have HO444 := n4_; have HO448 := n5_; have HB := n6_; clear n0_ n1_ n2_ n3_ n4_ n5_ n6_; (try clear hb); (try clear hb2); (try clear hk); (try clear hi)))
          go_meet
          case rel => exact ⟨_, ((t446 != t436)), (by first | rfl | (simp; done) | (simp [*]; done)), H', ⟨by first | omega | exact Nat.le_refl _⟩, ⟨by (with_reducible repeat (first | apply Kd.S_alloc | apply Kd.S_drewN | apply Kd.S_drew)); exact Kd.S_mono HO438.out (fun _ hk => ⟨hk.1.1.2, ⟨hk.1.2, hk.2⟩⟩)⟩, ⟨by (with_reducible repeat (first | apply Kd.R_alloc | apply Kd.R_drewN | apply Kd.R_drew)); exact Kd.R_mono HO441.out (fun _ hk => trivial)⟩, ⟨by (with_reducible repeat (first | apply Kd.S_alloc | apply Kd.S_drewN | apply Kd.S_drew)); exact Kd.S_mono HO444.out (fun _ hk => ⟨hk.1.1.2, ⟨hk.1.2, hk.2⟩⟩)⟩, ⟨by (with_reducible repeat (first | apply Kd.S_alloc | apply Kd.S_drewN | apply Kd.S_drew)); exact Kd.S_mono HO448.out (fun _ hk => ⟨hk.1.1.2, ⟨hk.1.2, hk.2⟩⟩)⟩, ⟨by repeat (first | (with_reducible first | exact HB.out | apply below_alloc | apply pw_below_drewN | apply below_drew1) | exact HB.out)⟩⟩
        · replace c27 := Bool.eq_false_iff.mpr c27
          subst c27
          have H1 : (laws_FnExactBackHunks.j0 k l0 l1 t435 t436 t439 t442 t445 t446 true) = some r := by rw [if_neg (show ¬ (false = true) by decide)] at H; exact H
          clear H
          have H := H1
          clear H1
          have H' := Aside0.mk H
          clear H
          obtain ⟨Ao31, co31, eo31⟩ := Kd.S_slice HO448.out
          subst eo31
          obtain ⟨Ao32, co32, eo32⟩ := Kd.S_slice HO438.out
          subst eo32
          go_wp2_with (first | ((with_reducible refine gate_callee (f := 19) rfl ?_); refine goesL_ (some 47) rfl rfl Try.func19 (by kernel_rfl) rfl #[.slice Ao31 t445.length co31, .slice Ao32 t435.length co32] rfl (by (try simp only [List.map_toArray, List.map_cons, List.map_nil]); first | done | rfl | (simp only [List.length_drop, List.length_take]; rfl)) ?_; (with_reducible refine (laws_eqHunkS.calls k _ _ t445 _ _ t435 false _ ?side1 ?side2 ?side3 ?side4 A26.out).mono ?_); (case side1 => repeat (first | exact (Kd.S_reads' HO448.out).2.2 | (with_reducible refine Kd.C_alloc ?_ _) | (with_reducible refine Kd.C_drewN ?_ _) | (with_reducible refine Kd.C_drew ?_))); (case side2 => exact (Kd.S_reads' HO448.out).2.1); (case side3 => repeat (first | exact (Kd.S_reads' HO438.out).2.2 | (with_reducible refine Kd.C_alloc ?_ _) | (with_reducible refine Kd.C_drewN ?_ _) | (with_reducible refine Kd.C_drew ?_))); (case side4 => exact (Kd.S_reads' HO438.out).2.1); rintro e w33 ⟨rfl, hb⟩; refine ⟨_, rfl, ?_⟩; have n0_ := Aside0.mk (Kd.R_below (by (with_reducible repeat (first | apply Kd.R_alloc | apply Kd.R_drewN | apply Kd.R_drew)); exact HO431.out) hb); have n1_ := Aside0.mk (Kd.S_below (by (with_reducible repeat (first | apply Kd.S_alloc | apply Kd.S_drewN | apply Kd.S_drew)); exact HO434.out) hb); have n2_ := Aside0.mk (Kd.S_below (by (with_reducible repeat (first | apply Kd.S_alloc | apply Kd.S_drewN | apply Kd.S_drew)); exact HO438.out) hb); have n3_ := Aside0.mk (Kd.R_below (by (with_reducible repeat (first | apply Kd.R_alloc | apply Kd.R_drewN | apply Kd.R_drew)); exact HO441.out) hb); have n4_ := Aside0.mk (Kd.S_below (by (with_reducible repeat (first | apply Kd.S_alloc | apply Kd.S_drewN | apply Kd.S_drew)); exact HO444.out) hb); have n5_ := Aside0.mk (Kd.S_below (by (with_reducible repeat (first | apply Kd.S_alloc | apply Kd.S_drewN | apply Kd.S_drew)); exact HO448.out) hb); have n6_ := Aside0.mk (below_step (by repeat (first | (with_reducible first | exact HB.out | apply below_alloc | apply pw_below_drewN | apply below_drew1) | exact HB.out)) hb); clear HO431; clear HO434; clear HO438; clear HO441; clear HO444; clear HO448; clear HB; have HO431 := n0_; have HO434 := n1_; have HO438 := n2_; have HO441 := n3_; have HO444 := n4_; have HO448 := n5_; have HB := n6_; clear n0_ n1_ n2_ n3_ n4_ n5_ n6_; (try clear hb); (try clear hb2); (try clear hk); (try clear hi)))
          go_meet
          case rel => exact ⟨_, (true), (by first | rfl | (simp; done) | (simp [*]; done)), H', ⟨by first | omega | exact Nat.le_refl _⟩, ⟨by (with_reducible repeat (first | apply Kd.S_alloc | apply Kd.S_drewN | apply Kd.S_drew)); exact Kd.S_mono HO438.out (fun _ hk => ⟨hk.1.1.2, ⟨hk.1.2, hk.2⟩⟩)⟩, ⟨by (with_reducible repeat (first | apply Kd.R_alloc | apply Kd.R_drewN | apply Kd.R_drew)); exact Kd.R_mono HO441.out (fun _ hk => trivial)⟩, ⟨by (with_reducible repeat (first | apply Kd.S_alloc | apply Kd.S_drewN | apply Kd.S_drew)); exact Kd.S_mono HO444.out (fun _ hk => ⟨hk.1.1.2, ⟨hk.1.2, hk.2⟩⟩)⟩, ⟨by (with_reducible repeat (first | apply Kd.S_alloc | apply Kd.S_drewN | apply Kd.S_drew)); exact Kd.S_mono HO448.out (fun _ hk => ⟨hk.1.1.2, ⟨hk.1.2, hk.2⟩⟩)⟩, ⟨by repeat (first | (with_reducible first | exact HB.out | apply below_alloc | apply pw_below_drewN | apply below_drew1) | exact HB.out)⟩⟩
      case rest =>
        clear HC14
        try clear c1
        try clear c2
        try clear p2
        try clear c4
        try clear c4b0
        try clear c5
        try clear c6
        try clear c6b0
        try clear c12
        try clear c15
        try clear c17
        try clear c19
        try clear c20
        try clear c22
        try clear c27
        obtain ⟨kq, x53_13, rfl, HA, HJ13, HO_6, HO_8, HO_9, HO_10, HB⟩ := hcut
        cases kq with
        | zero => exact absurd HA.out (by simp [laws_FnExactBackHunks.j0])
        | succ kj13 =>
          have H := HA.out
          clear HA
          simp only [laws_FnExactBackHunks.j0] at H
          by_cases c34 : x53_13 = true
          · subst c34
            have H1 : (some false) = some r := by rw [if_pos rfl] at H; exact H
            clear H
            have H := H1
            clear H1
            obtain rfl := Option.some.inj H
            go_wp2
            go_ret
            exact ⟨by first | rfl | (simp [errW_none, errW_some] <;> rfl) | (simp [*, errW_none, errW_some] <;> rfl), by repeat (first | (with_reducible first | exact HB.out | apply below_alloc | apply pw_below_drewN | apply below_drew1) | exact HB.out)⟩
          · replace c34 := Bool.eq_false_iff.mpr c34
            subst c34
            have H1 : ((laws_toStringS.f kj13 l0).bind fun t450 => ((laws_eqStringS.f kj13 t439 t450).bind fun t453 => (if t453 = true then ((laws_toHunkS.f kj13 l1).bind fun t454 => ((laws_eqHunkS.f kj13 t442 t454).bind fun t457 => (if t457 = true then ((laws_markStringS.f kj13 t439 1).bind fun bt458 => ((laws_markHunkS.f kj13 t442 bt458.1).bind fun t460 => (if t460 < 0 then (laws_FnExactBackHunks.j1 kj13 l0 l1 t435 t436 t445 true) else ((laws_eqHunkS.f kj13 t445 t435).bind fun t461 => (if t461 = true then (laws_FnExactBackHunks.j1 kj13 l0 l1 t435 t436 t445 (t446 != t436)) else (laws_FnExactBackHunks.j1 kj13 l0 l1 t435 t436 t445 true)))))) else (some false)))) else (some false)))) = some r := by rw [if_neg (show ¬ (false = true) by decide)] at H; exact H
            clear H
            have H := H1
            clear H1
            replace H := Option.bind_eq_some_iff.mp H
            obtain ⟨t450, A350, H⟩ := H
            replace H : ((laws_eqStringS.f kj13 t439 t450).bind fun t453 => (if t453 = true then ((laws_toHunkS.f kj13 l1).bind fun t454 => ((laws_eqHunkS.f kj13 t442 t454).bind fun t457 => (if t457 = true then ((laws_markStringS.f kj13 t439 1).bind fun bt458 => ((laws_markHunkS.f kj13 t442 bt458.1).bind fun t460 => (if t460 < 0 then (laws_FnExactBackHunks.j1 kj13 l0 l1 t435 t436 t445 true) else ((laws_eqHunkS.f kj13 t445 t435).bind fun t461 => (if t461 = true then (laws_FnExactBackHunks.j1 kj13 l0 l1 t435 t436 t445 (t446 != t436)) else (laws_FnExactBackHunks.j1 kj13 l0 l1 t435 t436 t445 true)))))) else (some false)))) else (some false))) = some r := H
            have A35 := Aside0.mk A350
            clear A350
            replace H := Option.bind_eq_some_iff.mp H
            obtain ⟨t453, A360, H⟩ := H
            replace H : (if t453 = true then ((laws_toHunkS.f kj13 l1).bind fun t454 => ((laws_eqHunkS.f kj13 t442 t454).bind fun t457 => (if t457 = true then ((laws_markStringS.f kj13 t439 1).bind fun bt458 => ((laws_markHunkS.f kj13 t442 bt458.1).bind fun t460 => (if t460 < 0 then (laws_FnExactBackHunks.j1 kj13 l0 l1 t435 t436 t445 true) else ((laws_eqHunkS.f kj13 t445 t435).bind fun t461 => (if t461 = true then (laws_FnExactBackHunks.j1 kj13 l0 l1 t435 t436 t445 (t446 != t436)) else (laws_FnExactBackHunks.j1 kj13 l0 l1 t435 t436 t445 true)))))) else (some false)))) else (some false)) = some r := H
            have A36 := Aside0.mk A360
            clear A360
            by_cases c37 : t453 = true
            · subst c37
              have H1 : ((laws_toHunkS.f kj13 l1).bind fun t454 => ((laws_eqHunkS.f kj13 t442 t454).bind fun t457 => (if t457 = true then ((laws_markStringS.f kj13 t439 1).bind fun bt458 => ((laws_markHunkS.f kj13 t442 bt458.1).bind fun t460 => (if t460 < 0 then (laws_FnExactBackHunks.j1 kj13 l0 l1 t435 t436 t445 true) else ((laws_eqHunkS.f kj13 t445 t435).bind fun t461 => (if t461 = true then (laws_FnExactBackHunks.j1 kj13 l0 l1 t435 t436 t445 (t446 != t436)) else (laws_FnExactBackHunks.j1 kj13 l0 l1 t435 t436 t445 true)))))) else (some false)))) = some r := by rw [if_pos rfl] at H; exact H
              clear H
              have H := H1
              clear H1
              replace H := Option.bind_eq_some_iff.mp H
              obtain ⟨t454, A380, H⟩ := H
              replace H : ((laws_eqHunkS.f kj13 t442 t454).bind fun t457 => (if t457 = true then ((laws_markStringS.f kj13 t439 1).bind fun bt458 => ((laws_markHunkS.f kj13 t442 bt458.1).bind fun t460 => (if t460 < 0 then (laws_FnExactBackHunks.j1 kj13 l0 l1 t435 t436 t445 true) else ((laws_eqHunkS.f kj13 t445 t435).bind fun t461 => (if t461 = true then (laws_FnExactBackHunks.j1 kj13 l0 l1 t435 t436 t445 (t446 != t436)) else (laws_FnExactBackHunks.j1 kj13 l0 l1 t435 t436 t445 true)))))) else (some false))) = some r := H
              have A38 := Aside0.mk A380
              clear A380
              replace H := Option.bind_eq_some_iff.mp H
              obtain ⟨t457, A390, H⟩ := H
              replace H : (if t457 = true then ((laws_markStringS.f kj13 t439 1).bind fun bt458 => ((laws_markHunkS.f kj13 t442 bt458.1).bind fun t460 => (if t460 < 0 then (laws_FnExactBackHunks.j1 kj13 l0 l1 t435 t436 t445 true) else ((laws_eqHunkS.f kj13 t445 t435).bind fun t461 => (if t461 = true then (laws_FnExactBackHunks.j1 kj13 l0 l1 t435 t436 t445 (t446 != t436)) else (laws_FnExactBackHunks.j1 kj13 l0 l1 t435 t436 t445 true)))))) else (some false)) = some r := H
              have A39 := Aside0.mk A390
              clear A390
              by_cases c40 : t457 = true
              · subst c40
                have H1 : ((laws_markStringS.f kj13 t439 1).bind fun bt458 => ((laws_markHunkS.f kj13 t442 bt458.1).bind fun t460 => (if t460 < 0 then (laws_FnExactBackHunks.j1 kj13 l0 l1 t435 t436 t445 true) else ((laws_eqHunkS.f kj13 t445 t435).bind fun t461 => (if t461 = true then (laws_FnExactBackHunks.j1 kj13 l0 l1 t435 t436 t445 (t446 != t436)) else (laws_FnExactBackHunks.j1 kj13 l0 l1 t435 t436 t445 true)))))) = some r := by rw [if_pos rfl] at H; exact H
                clear H
                have H := H1
                clear H1
                replace H := Option.bind_eq_some_iff.mp H
                obtain ⟨⟨t458, t459⟩, A410, H⟩ := H
                replace H : ((laws_markHunkS.f kj13 t442 t458).bind fun t460 => (if t460 < 0 then (laws_FnExactBackHunks.j1 kj13 l0 l1 t435 t436 t445 true) else ((laws_eqHunkS.f kj13 t445 t435).bind fun t461 => (if t461 = true then (laws_FnExactBackHunks.j1 kj13 l0 l1 t435 t436 t445 (t446 != t436)) else (laws_FnExactBackHunks.j1 kj13 l0 l1 t435 t436 t445 true))))) = some r := H
                have A41 := Aside0.mk A410
                clear A410
                replace H := Option.bind_eq_some_iff.mp H
                obtain ⟨t460, A420, H⟩ := H
                replace H : (if t460 < 0 then (laws_FnExactBackHunks.j1 kj13 l0 l1 t435 t436 t445 true) else ((laws_eqHunkS.f kj13 t445 t435).bind fun t461 => (if t461 = true then (laws_FnExactBackHunks.j1 kj13 l0 l1 t435 t436 t445 (t446 != t436)) else (laws_FnExactBackHunks.j1 kj13 l0 l1 t435 t436 t445 true)))) = some r := H
                have A42 := Aside0.mk A420
                clear A420
                have HC43 := Aside0.mk H
                clear H
                go_upto_region 21 with (first | ((with_reducible refine gate_callee (f := 22) rfl ?_); refine goesL_ (some 56) rfl rfl Try.func22 (by kernel_rfl) rfl #[.slice A0 l0.length c0] rfl (by (try simp only [List.map_toArray, List.map_cons, List.map_nil]); first | done | rfl | (simp only [List.length_drop, List.length_take]; rfl)) ?_; (with_reducible refine (laws_toStringS.calls kj13 _ _ l0 t450 _ ?side1 ?side2 A35.out).mono ?_); (case side1 => repeat (first | exact (Kd.C_below HR0.out HB.out) | (with_reducible refine Kd.C_alloc ?_ _) | (with_reducible refine Kd.C_drewN ?_ _) | (with_reducible refine Kd.C_drew ?_))); (case side2 => exact HC0.out); rintro e w44 ⟨v451, rfl, ho0, hb⟩; refine ⟨_, rfl, ?_⟩; have n0_ := Aside0.mk (Kd.S_elder' (by (with_reducible repeat (first | apply Kd.S_alloc | apply Kd.S_drewN | apply Kd.S_drew)); exact HO_6.out) (Kd.R_base ho0) hb); have n1_ := Aside0.mk (Kd.R_elder' (by (with_reducible repeat (first | apply Kd.R_alloc | apply Kd.R_drewN | apply Kd.R_drew)); exact HO_8.out) (Kd.R_base ho0) hb); have n2_ := Aside0.mk (Kd.S_elder' (by (with_reducible repeat (first | apply Kd.S_alloc | apply Kd.S_drewN | apply Kd.S_drew)); exact HO_9.out) (Kd.R_base ho0) hb); have n3_ := Aside0.mk (Kd.S_elder' (by (with_reducible repeat (first | apply Kd.S_alloc | apply Kd.S_drewN | apply Kd.S_drew)); exact HO_10.out) (Kd.R_base ho0) hb); have n4_ := Aside0.mk (Kd.R_lower (Kd.R_new' ho0 (Kd.R_lt (by (with_reducible repeat (first | apply Kd.R_alloc | apply Kd.R_drewN | apply Kd.R_drew)); exact HO_8.out))) (below_size (by repeat (first | (with_reducible first | exact HB.out | apply below_alloc | apply pw_below_drewN | apply below_drew1) | exact HB.out)))); have n5_ := Aside0.mk (below_step (by repeat (first | (with_reducible first | exact HB.out | apply below_alloc | apply pw_below_drewN | apply below_drew1) | exact HB.out)) hb); clear HO_6; clear HO_8; clear HO_9; clear HO_10; clear HB; have HO_6 := n0_; have HO_8 := n1_; have HO_9 := n2_; have HO_10 := n3_; have HO452 := n4_; have HB := n5_; clear n0_ n1_ n2_ n3_ n4_ n5_; (try clear hb); (try clear hb2); (try clear hk); (try clear hi); (try clear ho0); obtain ⟨Ao45, co45, eo45⟩ := Kd.R_slice HO452.out; subst eo45) | ((with_reducible refine gate_callee (f := 24) rfl ?_); refine goesL_ (some 57) rfl rfl Try.func24 (by kernel_rfl) rfl #[.slice Ao23 t439.length co23, .slice Ao45 t450.length co45] rfl (by (try simp only [List.map_toArray, List.map_cons, List.map_nil]); first | done | rfl | (simp only [List.length_drop, List.length_take]; rfl)) ?_; (with_reducible refine (laws_eqStringS.calls kj13 _ _ t439 _ _ t450 true _ ?side1 ?side2 ?side3 ?side4 A36.out).mono ?_); (case side1 => repeat (first | exact (Kd.R_reads' HO_8.out).2.2 | (with_reducible refine Kd.C_alloc ?_ _) | (with_reducible refine Kd.C_drewN ?_ _) | (with_reducible refine Kd.C_drew ?_))); (case side2 => exact (Kd.R_reads' HO_8.out).2.1); (case side3 => repeat (first | exact (Kd.R_reads' HO452.out).2.2 | (with_reducible refine Kd.C_alloc ?_ _) | (with_reducible refine Kd.C_drewN ?_ _) | (with_reducible refine Kd.C_drew ?_))); (case side4 => exact (Kd.R_reads' HO452.out).2.1); rintro e w' ⟨rfl, ⟨nd, rfl⟩⟩; refine ⟨_, rfl, ?_⟩) | ((with_reducible refine gate_callee (f := 17) rfl ?_); refine goesL_ (some 61) rfl rfl Try.func17 (by kernel_rfl) rfl #[.slice A1 l1.length c1] rfl (by (try simp only [List.map_toArray, List.map_cons, List.map_nil]); first | done | rfl | (simp only [List.length_drop, List.length_take]; rfl)) ?_; (with_reducible refine (laws_toHunkS.calls kj13 _ _ l1 t454 _ ?side1 ?side2 A38.out).mono ?_); (case side1 => repeat (first | exact (Kd.C_below HR1.out (by repeat (first | (with_reducible first | exact HB.out | apply below_alloc | apply pw_below_drewN | apply below_drew1) | exact HB.out))) | (with_reducible refine Kd.C_alloc ?_ _) | (with_reducible refine Kd.C_drewN ?_ _) | (with_reducible refine Kd.C_drew ?_))); (case side2 => exact HC1.out); rintro e w46 ⟨v455, rfl, ho0, hb⟩; refine ⟨_, rfl, ?_⟩; have n0_ := Aside0.mk (Kd.S_elder' (by (with_reducible repeat (first | apply Kd.S_alloc | apply Kd.S_drewN | apply Kd.S_drew)); exact HO_6.out) (Kd.S_base ho0) hb); have n1_ := Aside0.mk (Kd.R_below (by (with_reducible repeat (first | apply Kd.R_alloc | apply Kd.R_drewN | apply Kd.R_drew)); exact HO_8.out) hb); have n2_ := Aside0.mk (Kd.S_elder' (by (with_reducible repeat (first | apply Kd.S_alloc | apply Kd.S_drewN | apply Kd.S_drew)); exact HO_9.out) (Kd.S_base ho0) hb); have n3_ := Aside0.mk (Kd.S_elder' (by (with_reducible repeat (first | apply Kd.S_alloc | apply Kd.S_drewN | apply Kd.S_drew)); exact HO_10.out) (Kd.S_base ho0) hb); have n4_ := Aside0.mk (Kd.R_below (by (with_reducible repeat (first | apply Kd.R_alloc | apply Kd.R_drewN | apply Kd.R_drew)); exact HO452.out) hb); have n5_ := Aside0.mk (Kd.S_lower (Kd.S_new' (Kd.S_new' (Kd.S_new' (Kd.S_new' (Kd.S_new' ho0 (Kd.S_lt (by (with_reducible repeat (first | apply Kd.S_alloc | apply Kd.S_drewN | apply Kd.S_drew)); exact HO_6.out))) (Kd.R_lt (by (with_reducible repeat (first | apply Kd.R_alloc | apply Kd.R_drewN | apply Kd.R_drew)); exact HO_8.out))) (Kd.S_lt (by (with_reducible repeat (first | apply Kd.S_alloc | apply Kd.S_drewN | apply Kd.S_drew)); exact HO_9.out))) (Kd.S_lt (by (with_reducible repeat (first | apply Kd.S_alloc | apply Kd.S_drewN | apply Kd.S_drew)); exact HO_10.out))) (Kd.R_lt (by (with_reducible repeat (first | apply Kd.R_alloc | apply Kd.R_drewN | apply Kd.R_drew)); exact HO452.out))) (below_size (by repeat (first | (with_reducible first | exact HB.out | apply below_alloc | apply pw_below_drewN | apply below_drew1) | exact HB.out)))); have n6_ := Aside0.mk (below_step (by repeat (first | (with_reducible first | exact HB.out | apply below_alloc | apply pw_below_drewN | apply below_drew1) | exact HB.out)) hb); clear HO_6; clear HO_8; clear HO_9; clear HO_10; clear HO452; clear HB; have HO_6 := n0_; have HO_8 := n1_; have HO_9 := n2_; have HO_10 := n3_; have HO452 := n4_; have HO456 := n5_; have HB := n6_; clear n0_ n1_ n2_ n3_ n4_ n5_ n6_; (try clear hb); (try clear hb2); (try clear hk); (try clear hi); (try clear ho0); obtain ⟨Ao47, co47, eo47⟩ := Kd.S_slice HO456.out; subst eo47) | ((with_reducible refine gate_callee (f := 19) rfl ?_); refine goesL_ (some 62) rfl rfl Try.func19 (by kernel_rfl) rfl #[.slice Ao24 t442.length co24, .slice Ao47 t454.length co47] rfl (by (try simp only [List.map_toArray, List.map_cons, List.map_nil]); first | done | rfl | (simp only [List.length_drop, List.length_take]; rfl)) ?_; (with_reducible refine (laws_eqHunkS.calls kj13 _ _ t442 _ _ t454 true _ ?side1 ?side2 ?side3 ?side4 A39.out).mono ?_); (case side1 => repeat (first | exact (Kd.S_reads' HO_9.out).2.2 | (with_reducible refine Kd.C_alloc ?_ _) | (with_reducible refine Kd.C_drewN ?_ _) | (with_reducible refine Kd.C_drew ?_))); (case side2 => exact (Kd.S_reads' HO_9.out).2.1); (case side3 => repeat (first | exact (Kd.S_reads' HO456.out).2.2 | (with_reducible refine Kd.C_alloc ?_ _) | (with_reducible refine Kd.C_drewN ?_ _) | (with_reducible refine Kd.C_drew ?_))); (case side4 => exact (Kd.S_reads' HO456.out).2.1); rintro e w48 ⟨rfl, hb⟩; refine ⟨_, rfl, ?_⟩; have n0_ := Aside0.mk (Kd.S_below (by (with_reducible repeat (first | apply Kd.S_alloc | apply Kd.S_drewN | apply Kd.S_drew)); exact HO_6.out) hb); have n1_ := Aside0.mk (Kd.R_below (by (with_reducible repeat (first | apply Kd.R_alloc | apply Kd.R_drewN | apply Kd.R_drew)); exact HO_8.out) hb); have n2_ := Aside0.mk (Kd.S_below (by (with_reducible repeat (first | apply Kd.S_alloc | apply Kd.S_drewN | apply Kd.S_drew)); exact HO_9.out) hb); have n3_ := Aside0.mk (Kd.S_below (by (with_reducible repeat (first | apply Kd.S_alloc | apply Kd.S_drewN | apply Kd.S_drew)); exact HO_10.out) hb); have n4_ := Aside0.mk (Kd.R_below (by (with_reducible repeat (first | apply Kd.R_alloc | apply Kd.R_drewN | apply Kd.R_drew)); exact HO452.out) hb); have n5_ := Aside0.mk (Kd.S_below (by (with_reducible repeat (first | apply Kd.S_alloc | apply Kd.S_drewN | apply Kd.S_drew)); exact HO456.out) hb); have n6_ := Aside0.mk (below_step (by repeat (first | (with_reducible first | exact HB.out | apply below_alloc | apply pw_below_drewN | apply below_drew1) | exact HB.out)) hb); clear HO_6; clear HO_8; clear HO_9; clear HO_10; clear HO452; clear HO456; clear HB; have HO_6 := n0_; have HO_8 := n1_; have HO_9 := n2_; have HO_10 := n3_; have HO452 := n4_; have HO456 := n5_; have HB := n6_; clear n0_ n1_ n2_ n3_ n4_ n5_ n6_; (try clear hb); (try clear hb2); (try clear hk); (try clear hi)) | ((with_reducible refine gate_callee (f := 42) rfl ?_); refine goesL_ (some 66) rfl rfl Try.func42 (by kernel_rfl) rfl #[.slice Ao23 t439.length co23, .int .i64 1] rfl (by (try simp only [List.map_toArray, List.map_cons, List.map_nil]); first | done | rfl | (simp only [List.length_drop, List.length_take]; rfl)) ?_; (with_reducible refine (laws_markStringS.calls kj13 (fun k_ => some k_ = (.slice Ao23 t439.length co23 : Value).ownBlock) (.slice Ao23 t439.length co23) t439 1 t458 t459 w _ ?side1 ?side2 A41.out).mono ?_); (case side1 => repeat (first | (with_reducible first | exact HB.out | apply below_alloc | apply pw_below_drewN | apply below_drew1) | exact HB.out)); (case side2 => exact Kd.R_tight rfl HO_8.out); rintro e w49 ⟨rfl, hy0, hb, hkp⟩; refine ⟨_, rfl, ?_⟩; have n0_ := Aside0.mk (Kd.S_mono (ok' := fun k_ => some k_ ≠ (.slice Ao23 t439.length co23 : Value).ownBlock ∧ some k_ ≠ (.slice Ao24 t442.length co24 : Value).ownBlock ∧ some k_ ≠ (v447 : Value).ownBlock ∧ some k_ ≠ (.slice Ao45 t450.length co45 : Value).ownBlock ∧ some k_ ≠ (.slice Ao47 t454.length co47 : Value).ownBlock) (Kd.S_keptB (HO_6.out) hkp (fun k_ hk_ hs_ => (hk_.1.1.1) hs_)) (fun k_ hk_ => ⟨hk_.1.1.1.1, hk_.1.1.1.2.1, hk_.1.1.1.2.2, hk_.1.1.2, hk_.1.2⟩)); have n1_ := Aside0.mk (Kd.R_reok rfl hy0 (fun k_ e_ => HO_8.out.1 k_ e_)); have n2_ := Aside0.mk (Kd.S_mono (ok' := fun k_ => some k_ ≠ (v437 : Value).ownBlock ∧ some k_ ≠ (.slice Ao23 t439.length co23 : Value).ownBlock ∧ some k_ ≠ (v447 : Value).ownBlock ∧ some k_ ≠ (.slice Ao45 t450.length co45 : Value).ownBlock ∧ some k_ ≠ (.slice Ao47 t454.length co47 : Value).ownBlock) (Kd.S_keptB (HO_9.out) hkp (fun k_ hk_ hs_ => (hk_.1.1.2.1) hs_)) (fun k_ hk_ => ⟨hk_.1.1.1.1, hk_.1.1.1.2.1, hk_.1.1.1.2.2, hk_.1.1.2, hk_.1.2⟩)); have n3_ := Aside0.mk (Kd.S_mono (ok' := fun k_ => some k_ ≠ (v437 : Value).ownBlock ∧ some k_ ≠ (.slice Ao23 t439.length co23 : Value).ownBlock ∧ some k_ ≠ (.slice Ao24 t442.length co24 : Value).ownBlock ∧ some k_ ≠ (.slice Ao45 t450.length co45 : Value).ownBlock ∧ some k_ ≠ (.slice Ao47 t454.length co47 : Value).ownBlock) (Kd.S_keptB (HO_10.out) hkp (fun k_ hk_ hs_ => (hk_.1.1.2.1) hs_)) (fun k_ hk_ => ⟨hk_.1.1.1.1, hk_.1.1.1.2.1, hk_.1.1.1.2.2, hk_.1.1.2, hk_.1.2⟩)); have n4_ := Aside0.mk (Kd.R_mono (ok' := fun k_ => some k_ ≠ (.slice Ao23 t439.length co23 : Value).ownBlock) (Kd.R_keptB (HO452.out) hkp (fun k_ hk_ hs_ => (hk_.2) hs_)) (fun k_ hk_ => hk_.1.2)); have n5_ := Aside0.mk (Kd.S_mono (ok' := fun k_ => some k_ ≠ (v437 : Value).ownBlock ∧ some k_ ≠ (.slice Ao23 t439.length co23 : Value).ownBlock ∧ some k_ ≠ (.slice Ao24 t442.length co24 : Value).ownBlock ∧ some k_ ≠ (v447 : Value).ownBlock ∧ some k_ ≠ (.slice Ao45 t450.length co45 : Value).ownBlock) (Kd.S_keptB (HO456.out) hkp (fun k_ hk_ hs_ => (hk_.1.1.1.2) hs_)) (fun k_ hk_ => ⟨hk_.1.1.1.1.1.2, hk_.1.1.1.1.2, hk_.1.1.1.2, hk_.1.1.2, hk_.1.2⟩)); have n6_ := Aside0.mk (hb); clear HO_6; clear HO_8; clear HO_9; clear HO_10; clear HO452; clear HO456; clear HB; have HO_6 := n0_; have HO_8 := n1_; have HO_9 := n2_; have HO_10 := n3_; have HO452 := n4_; have HO456 := n5_; have HB := n6_; clear n0_ n1_ n2_ n3_ n4_ n5_ n6_; (try clear hb); (try clear hkp); (try clear hy0)) | ((with_reducible refine gate_callee (f := 43) rfl ?_); refine goesL_ (some 69) rfl rfl Try.func43 (by kernel_rfl) rfl #[.slice Ao24 t442.length co24, .int .i64 t458] rfl (by (try simp only [List.map_toArray, List.map_cons, List.map_nil]); first | done | rfl | (simp only [List.length_drop, List.length_take]; rfl)) ?_; (with_reducible refine (laws_markHunkS.calls kj13 _ _ t442 t458 t460 _ ?side1 ?side2 A42.out).mono ?_); (case side1 => repeat (first | exact (Kd.S_reads' HO_9.out).2.2 | (with_reducible refine Kd.C_alloc ?_ _) | (with_reducible refine Kd.C_drewN ?_ _) | (with_reducible refine Kd.C_drew ?_))); (case side2 => exact (Kd.S_reads' HO_9.out).2.1); rintro e w50 ⟨rfl, hb⟩; refine ⟨_, rfl, ?_⟩; have n0_ := Aside0.mk (Kd.S_below (by (with_reducible repeat (first | apply Kd.S_alloc | apply Kd.S_drewN | apply Kd.S_drew)); exact HO_6.out) hb); have n1_ := Aside0.mk (Kd.R_below (by (with_reducible repeat (first | apply Kd.R_alloc | apply Kd.R_drewN | apply Kd.R_drew)); exact HO_8.out) hb); have n2_ := Aside0.mk (Kd.S_below (by (with_reducible repeat (first | apply Kd.S_alloc | apply Kd.S_drewN | apply Kd.S_drew)); exact HO_9.out) hb); have n3_ := Aside0.mk (Kd.S_below (by (with_reducible repeat (first | apply Kd.S_alloc | apply Kd.S_drewN | apply Kd.S_drew)); exact HO_10.out) hb); have n4_ := Aside0.mk (Kd.R_below (by (with_reducible repeat (first | apply Kd.R_alloc | apply Kd.R_drewN | apply Kd.R_drew)); exact HO452.out) hb); have n5_ := Aside0.mk (Kd.S_below (by (with_reducible repeat (first | apply Kd.S_alloc | apply Kd.S_drewN | apply Kd.S_drew)); exact HO456.out) hb); have n6_ := Aside0.mk (below_step (by repeat (first | (with_reducible first | exact HB.out | apply below_alloc | apply pw_below_drewN | apply below_drew1) | exact HB.out)) hb); clear HO_6; clear HO_8; clear HO_9; clear HO_10; clear HO452; clear HO456; clear HB; have HO_6 := n0_; have HO_8 := n1_; have HO_9 := n2_; have HO_10 := n3_; have HO452 := n4_; have HO456 := n5_; have HB := n6_; clear n0_ n1_ n2_ n3_ n4_ n5_ n6_; (try clear hb); (try clear hb2); (try clear hk); (try clear hi)))
                (try simp only [Act.put, List.setIfInBounds_toArray, List.set_cons_zero, List.set_cons_succ])
                go_cut [82] (fun v82 wc => ∃ (kq : Nat) (x82_42 : Bool), v82 = .bool x82_42 ∧ Aside0 (laws_FnExactBackHunks.j1 kq l0 l1 t435 t436 t445 x82_42 = some r) ∧ Aside0 (kq ≤ kj13) ∧ Aside0 (Kd.S k83 83 wc w.heap.size (fun k_ => some k_ ≠ (v447 : Value).ownBlock) v437 t435) ∧ Aside0 (Kd.S k83 83 wc w.heap.size (fun k_ => some k_ ≠ (v437 : Value).ownBlock) v447 t445) ∧ Aside0 (Below w.heap.size w wc))
                case first =>
                  have H := HC43.out
                  clear HC43
                  by_cases c51 : t460 < 0
                  · rw [if_pos c51] at H
                    have c51b0 : decide (t460 < 0) = true := decide_eq_true c51
                    clear c51
                    (first | rw [c51b0] | (simp only [i64_w, i32_w]; rw [c51b0]) | skip)
                    have H' := Aside0.mk H
                    clear H
                    go_wp2
                    go_meet
                    case rel => exact ⟨_, (true), (by first | rfl | (simp; done) | (simp [*]; done)), H', ⟨by have := HJ13.out; first | omega | exact Nat.le_refl _⟩, ⟨by (with_reducible repeat (first | apply Kd.S_alloc | apply Kd.S_drewN | apply Kd.S_drew)); exact Kd.S_mono HO_6.out (fun _ hk => hk.2.2.1)⟩, ⟨by (with_reducible repeat (first | apply Kd.S_alloc | apply Kd.S_drewN | apply Kd.S_drew)); exact Kd.S_mono HO_10.out (fun _ hk => hk.1)⟩, ⟨by repeat (first | (with_reducible first | exact HB.out | apply below_alloc | apply pw_below_drewN | apply below_drew1) | exact HB.out)⟩⟩
                  · rw [if_neg c51] at H
                    have c51b0 : decide (t460 < 0) = false := decide_eq_false c51
                    clear c51
                    (first | rw [c51b0] | (simp only [i64_w, i32_w]; rw [c51b0]) | skip)
                    replace H := Option.bind_eq_some_iff.mp H
                    obtain ⟨t461, A520, H⟩ := H
                    replace H : (if t461 = true then (laws_FnExactBackHunks.j1 kj13 l0 l1 t435 t436 t445 (t446 != t436)) else (laws_FnExactBackHunks.j1 kj13 l0 l1 t435 t436 t445 true)) = some r := H
                    have A52 := Aside0.mk A520
                    clear A520
                    by_cases c53 : t461 = true
                    · subst c53
                      have H1 : (laws_FnExactBackHunks.j1 kj13 l0 l1 t435 t436 t445 (t446 != t436)) = some r := by rw [if_pos rfl] at H; exact H
                      clear H
                      have H := H1
                      clear H1
                      have H' := Aside0.mk H
                      clear H
                      obtain ⟨Ao54, co54, eo54⟩ := Kd.S_slice HO_10.out
                      subst eo54
                      obtain ⟨Ao55, co55, eo55⟩ := Kd.S_slice HO_6.out
                      subst eo55
                      go_wp2_with (first | (go_at_call 19; (with_reducible refine (laws_eqHunkS.calls kj13 _ _ t445 _ _ t435 true _ ?side1 ?side2 ?side3 ?side4 A52.out).mono ?_); (case side1 => repeat (first | exact (Kd.S_reads' HO_10.out).2.2 | (with_reducible refine Kd.C_alloc ?_ _) | (with_reducible refine Kd.C_drewN ?_ _) | (with_reducible refine Kd.C_drew ?_))); (case side2 => exact (Kd.S_reads' HO_10.out).2.1); (case side3 => repeat (first | exact (Kd.S_reads' HO_6.out).2.2 | (with_reducible refine Kd.C_alloc ?_ _) | (with_reducible refine Kd.C_drewN ?_ _) | (with_reducible refine Kd.C_drew ?_))); (case side4 => exact (Kd.S_reads' HO_6.out).2.1); rintro e w56 ⟨rfl, hb⟩; have n0_ := Aside0.mk (Kd.S_below (by (with_reducible repeat (first | apply Kd.S_alloc | apply Kd.S_drewN | apply Kd.S_drew)); exact HO_6.out) hb); have n1_ := Aside0.mk (Kd.R_below (by (with_reducible repeat (first | apply Kd.R_alloc | apply Kd.R_drewN | apply Kd.R_drew)); exact HO_8.out) hb); have n2_ := Aside0.mk (Kd.S_below (by (with_reducible repeat (first | apply Kd.S_alloc | apply Kd.S_drewN | apply Kd.S_drew)); exact HO_9.out) hb); have n3_ := Aside0.mk (Kd.S_below (by (with_reducible repeat (first | apply Kd.S_alloc | apply Kd.S_drewN | apply Kd.S_drew)); exact HO_10.out) hb); have n4_ := Aside0.mk (Kd.R_below (by (with_reducible repeat (first | apply Kd.R_alloc | apply Kd.R_drewN | apply Kd.R_drew)); exact HO452.out) hb); have n5_ := Aside0.mk (Kd.S_below (by (with_reducible repeat (first | apply Kd.S_alloc | apply Kd.S_drewN | apply Kd.S_drew)); exact HO456.out) hb); have n6_ := Aside0.mk (below_step (by repeat (first | (with_reducible first | exact HB.out | apply below_alloc | apply pw_below_drewN | apply below_drew1) | exact HB.out)) hb); clear HO_6; clear HO_8; clear HO_9; clear HO_10; clear HO452; clear HO456; clear HB; have HO_6 := n0_; have HO_8 := n1_; have HO_9 := n2_; have HO_10 := n3_; have HO452 := n4_; have HO456 := n5_; have HB := n6_; clear n0_ n1_ n2_ n3_ n4_ n5_ n6_; (try clear hb); (try clear hb2); (try clear hk); (try clear hi)))
                      go_meet
                      case rel => exact ⟨_, ((t446 != t436)), (by first | rfl | (simp; done) | (simp [*]; done)), H', ⟨by have := HJ13.out; first | omega | exact Nat.le_refl _⟩, ⟨by (with_reducible repeat (first | apply Kd.S_alloc | apply Kd.S_drewN | apply Kd.S_drew)); exact Kd.S_mono HO_6.out (fun _ hk => hk.2.2.1)⟩, ⟨by (with_reducible repeat (first | apply Kd.S_alloc | apply Kd.S_drewN | apply Kd.S_drew)); exact Kd.S_mono HO_10.out (fun _ hk => hk.1)⟩, ⟨by repeat (first | (with_reducible first | exact HB.out | apply below_alloc | apply pw_below_drewN | apply below_drew1) | exact HB.out)⟩⟩
                    · replace c53 := Bool.eq_false_iff.mpr c53
                      subst c53
                      have H1 : (laws_FnExactBackHunks.j1 kj13 l0 l1 t435 t436 t445 true) = some r := by rw [if_neg (show ¬ (false = true) by decide)] at H; exact H
                      clear H
                      have H := H1
                      clear H1
                      have H' := Aside0.mk H
                      clear H
                      obtain ⟨Ao57, co57, eo57⟩ := Kd.S_slice HO_10.out
                      subst eo57
                      obtain ⟨Ao58, co58, eo58⟩ := Kd.S_slice HO_6.out
                      subst eo58
                      go_wp2_with (first | (go_at_call 19; (with_reducible refine (laws_eqHunkS.calls kj13 _ _ t445 _ _ t435 false _ ?side1 ?side2 ?side3 ?side4 A52.out).mono ?_); (case side1 => repeat (first | exact (Kd.S_reads' HO_10.out).2.2 | (with_reducible refine Kd.C_alloc ?_ _) | (with_reducible refine Kd.C_drewN ?_ _) | (with_reducible refine Kd.C_drew ?_))); (case side2 => exact (Kd.S_reads' HO_10.out).2.1); (case side3 => repeat (first | exact (Kd.S_reads' HO_6.out).2.2 | (with_reducible refine Kd.C_alloc ?_ _) | (with_reducible refine Kd.C_drewN ?_ _) | (with_reducible refine Kd.C_drew ?_))); (case side4 => exact (Kd.S_reads' HO_6.out).2.1); rintro e w59 ⟨rfl, hb⟩; have n0_ := Aside0.mk (Kd.S_below (by (with_reducible repeat (first | apply Kd.S_alloc | apply Kd.S_drewN | apply Kd.S_drew)); exact HO_6.out) hb); have n1_ := Aside0.mk (Kd.R_below (by (with_reducible repeat (first | apply Kd.R_alloc | apply Kd.R_drewN | apply Kd.R_drew)); exact HO_8.out) hb); have n2_ := Aside0.mk (Kd.S_below (by (with_reducible repeat (first | apply Kd.S_alloc | apply Kd.S_drewN | apply Kd.S_drew)); exact HO_9.out) hb); have n3_ := Aside0.mk (Kd.S_below (by (with_reducible repeat (first | apply Kd.S_alloc | apply Kd.S_drewN | apply Kd.S_drew)); exact HO_10.out) hb); have n4_ := Aside0.mk (Kd.R_below (by (with_reducible repeat (first | apply Kd.R_alloc | apply Kd.R_drewN | apply Kd.R_drew)); exact HO452.out) hb); have n5_ := Aside0.mk (Kd.S_below (by (with_reducible repeat (first | apply Kd.S_alloc | apply Kd.S_drewN | apply Kd.S_drew)); exact HO456.out) hb); have n6_ := Aside0.mk (below_step (by repeat (first | (with_reducible first | exact HB.out | apply below_alloc | apply pw_below_drewN | apply below_drew1) | exact HB.out)) hb); clear HO_6; clear HO_8; clear HO_9; clear HO_10; clear HO452; clear HO456; clear HB; have HO_6 := n0_; have HO_8 := n1_; have HO_9 := n2_; have HO_10 := n3_; have HO452 := n4_; have HO456 := n5_; have HB := n6_; clear n0_ n1_ n2_ n3_ n4_ n5_ n6_; (try clear hb); (try clear hb2); (try clear hk); (try clear hi)))
                      go_meet
                      case rel => exact ⟨_, (true), (by first | rfl | (simp; done) | (simp [*]; done)), H', ⟨by have := HJ13.out; first | omega | exact Nat.le_refl _⟩, ⟨by (with_reducible repeat (first | apply Kd.S_alloc | apply Kd.S_drewN | apply Kd.S_drew)); exact Kd.S_mono HO_6.out (fun _ hk => hk.2.2.1)⟩, ⟨by (with_reducible repeat (first | apply Kd.S_alloc | apply Kd.S_drewN | apply Kd.S_drew)); exact Kd.S_mono HO_10.out (fun _ hk => hk.1)⟩, ⟨by repeat (first | (with_reducible first | exact HB.out | apply below_alloc | apply pw_below_drewN | apply below_drew1) | exact HB.out)⟩⟩
                case rest =>
                  clear HC43
                  try clear c1
                  try clear c2
                  try clear p2
                  try clear c3
                  try clear c4
                  try clear c4b0
                  try clear c5
                  try clear c6
                  try clear c6b0
                  try clear c12
                  try clear c15
                  try clear c17
                  try clear c19
                  try clear c20
                  try clear c22
                  try clear c24
                  try clear c27
                  try clear c34
                  try clear c37
                  try clear c40
                  try clear c42
                  try clear c43
                  try clear c51
                  try clear c51b0
                  try clear c53
                  try clear c58
                  try clear c59
                  try clear p2
                  obtain ⟨kq, x82_42, rfl, HA, HJ42, HO_6, HO_10, HB⟩ := hcut
                  cases kq with
                  | zero => exact absurd HA.out (by simp [laws_FnExactBackHunks.j1])
                  | succ kj42 =>
                    have H := HA.out
                    clear HA
                    simp only [laws_FnExactBackHunks.j1] at H
                    by_cases c60 : x82_42 = true
                    · subst c60
                      have H1 : (some false) = some r := by rw [if_pos rfl] at H; exact H
                      clear H
                      have H := H1
                      clear H1
                      obtain rfl := Option.some.inj H
                      go_wp2
                      go_ret
                      exact ⟨by first | rfl | (simp [errW_none, errW_some] <;> rfl) | (simp [*, errW_none, errW_some] <;> rfl), by repeat (first | (with_reducible first | exact HB.out | apply below_alloc | apply pw_below_drewN | apply below_drew1) | exact HB.out)⟩
                    · replace c60 := Bool.eq_false_iff.mpr c60
                      subst c60
                      have H1 : ((laws_markHunkS.f kj42 t445 1).bind fun t462 => ((laws_heldHunkS.f kj42 t445 1).bind fun t463 => (if t463 < 0 then (some false) else (if t463 = t462 then ((laws_toStringS.f kj42 l0).bind fun t464 => ((laws_toHunkS.f kj42 l1).bind fun t467 => ((impl_BackHunks.f kj42 t464 t467).bind fun bt470 => ((laws_eqHunkS.f kj42 bt470.1 t435).bind fun t474 => (if t474 = true then (laws_FnExactBackHunks.j2 kj42 t445 t462 (bt470.2 != t436)) else (laws_FnExactBackHunks.j2 kj42 t445 t462 true)))))) else (some false))))) = some r := by rw [if_neg (show ¬ (false = true) by decide)] at H; exact H
                      clear H
                      have H := H1
                      clear H1
                      replace H := Option.bind_eq_some_iff.mp H
                      obtain ⟨t462, A610, H⟩ := H
                      replace H : ((laws_heldHunkS.f kj42 t445 1).bind fun t463 => (if t463 < 0 then (some false) else (if t463 = t462 then ((laws_toStringS.f kj42 l0).bind fun t464 => ((laws_toHunkS.f kj42 l1).bind fun t467 => ((impl_BackHunks.f kj42 t464 t467).bind fun bt470 => ((laws_eqHunkS.f kj42 bt470.1 t435).bind fun t474 => (if t474 = true then (laws_FnExactBackHunks.j2 kj42 t445 t462 (bt470.2 != t436)) else (laws_FnExactBackHunks.j2 kj42 t445 t462 true)))))) else (some false)))) = some r := H
                      have A61 := Aside0.mk A610
                      clear A610
                      replace H := Option.bind_eq_some_iff.mp H
                      obtain ⟨t463, A620, H⟩ := H
                      replace H : (if t463 < 0 then (some false) else (if t463 = t462 then ((laws_toStringS.f kj42 l0).bind fun t464 => ((laws_toHunkS.f kj42 l1).bind fun t467 => ((impl_BackHunks.f kj42 t464 t467).bind fun bt470 => ((laws_eqHunkS.f kj42 bt470.1 t435).bind fun t474 => (if t474 = true then (laws_FnExactBackHunks.j2 kj42 t445 t462 (bt470.2 != t436)) else (laws_FnExactBackHunks.j2 kj42 t445 t462 true)))))) else (some false))) = some r := H
                      have A62 := Aside0.mk A620
                      clear A620
                      by_cases c63 : t463 < 0
                      · rw [if_pos c63] at H
                        have c63b0 : decide (t463 < 0) = true := decide_eq_true c63
                        clear c63
                        obtain rfl := Option.some.inj H
                        obtain ⟨Ao64, co64, eo64⟩ := Kd.S_slice HO_10.out
                        subst eo64
                        go_wp2_with (first | ((with_reducible refine gate_callee (f := 43) rfl ?_); refine goesL_ (some 85) rfl rfl Try.func43 (by kernel_rfl) rfl #[.slice Ao64 t445.length co64, .int .i64 1] rfl (by (try simp only [List.map_toArray, List.map_cons, List.map_nil]); first | done | rfl | (simp only [List.length_drop, List.length_take]; rfl)) ?_; (with_reducible refine (laws_markHunkS.calls kj42 _ _ t445 1 t462 _ ?side1 ?side2 A61.out).mono ?_); (case side1 => repeat (first | exact (Kd.S_reads' HO_10.out).2.2 | (with_reducible refine Kd.C_alloc ?_ _) | (with_reducible refine Kd.C_drewN ?_ _) | (with_reducible refine Kd.C_drew ?_))); (case side2 => exact (Kd.S_reads' HO_10.out).2.1); rintro e w65 ⟨rfl, hb⟩; refine ⟨_, rfl, ?_⟩; have n0_ := Aside0.mk (Kd.S_below (by (with_reducible repeat (first | apply Kd.S_alloc | apply Kd.S_drewN | apply Kd.S_drew)); exact HO_6.out) hb); have n1_ := Aside0.mk (Kd.S_below (by (with_reducible repeat (first | apply Kd.S_alloc | apply Kd.S_drewN | apply Kd.S_drew)); exact HO_10.out) hb); have n2_ := Aside0.mk (below_step (by repeat (first | (with_reducible first | exact HB.out | apply below_alloc | apply pw_below_drewN | apply below_drew1) | exact HB.out)) hb); clear HO_6; clear HO_10; clear HB; have HO_6 := n0_; have HO_10 := n1_; have HB := n2_; clear n0_ n1_ n2_; (try clear hb); (try clear hb2); (try clear hk); (try clear hi)) | ((with_reducible refine gate_callee (f := 60) rfl ?_); refine goesL_ (some 88) rfl rfl Try.func60 (by kernel_rfl) rfl #[.slice Ao64 t445.length co64, .int .i64 1] rfl (by (try simp only [List.map_toArray, List.map_cons, List.map_nil]); first | done | rfl | (simp only [List.length_drop, List.length_take]; rfl)) ?_; (with_reducible refine (laws_heldHunkS.calls kj42 _ _ t445 1 t463 _ ?side1 ?side2 A62.out).mono ?_); (case side1 => repeat (first | exact (Kd.S_reads' HO_10.out).2.2 | (with_reducible refine Kd.C_alloc ?_ _) | (with_reducible refine Kd.C_drewN ?_ _) | (with_reducible refine Kd.C_drew ?_))); (case side2 => exact (Kd.S_reads' HO_10.out).2.1); rintro e w66 ⟨rfl, hb⟩; refine ⟨_, rfl, ?_⟩; have n0_ := Aside0.mk (Kd.S_below (by (with_reducible repeat (first | apply Kd.S_alloc | apply Kd.S_drewN | apply Kd.S_drew)); exact HO_6.out) hb); have n1_ := Aside0.mk (Kd.S_below (by (with_reducible repeat (first | apply Kd.S_alloc | apply Kd.S_drewN | apply Kd.S_drew)); exact HO_10.out) hb); have n2_ := Aside0.mk (below_step (by repeat (first | (with_reducible first | exact HB.out | apply below_alloc | apply pw_below_drewN | apply below_drew1) | exact HB.out)) hb); clear HO_6; clear HO_10; clear HB; have HO_6 := n0_; have HO_10 := n1_; have HB := n2_; clear n0_ n1_ n2_; (try clear hb); (try clear hb2); (try clear hk); (try clear hi)))
                        go_ret
                        exact ⟨by first | rfl | (simp [errW_none, errW_some] <;> rfl) | (simp [*, errW_none, errW_some] <;> rfl), by repeat (first | (with_reducible first | exact HB.out | apply below_alloc | apply pw_below_drewN | apply below_drew1) | exact HB.out)⟩
                      · rw [if_neg c63] at H
                        have c63b0 : decide (t463 < 0) = false := decide_eq_false c63
                        clear c63
                        by_cases c67 : t463 = t462
                        · rw [if_pos c67] at H
                          have c67b0 : (t463 == t462) = true := beq_iff_eq.mpr c67
                          have c67b1 : (t463 != t462) = false := bne_eq_false_iff_eq.mpr c67
                          clear c67
                          replace H := Option.bind_eq_some_iff.mp H
                          obtain ⟨t464, A680, H⟩ := H
                          replace H : ((laws_toHunkS.f kj42 l1).bind fun t467 => ((impl_BackHunks.f kj42 t464 t467).bind fun bt470 => ((laws_eqHunkS.f kj42 bt470.1 t435).bind fun t474 => (if t474 = true then (laws_FnExactBackHunks.j2 kj42 t445 t462 (bt470.2 != t436)) else (laws_FnExactBackHunks.j2 kj42 t445 t462 true))))) = some r := H
                          have A68 := Aside0.mk A680
                          clear A680
                          replace H := Option.bind_eq_some_iff.mp H
                          obtain ⟨t467, A690, H⟩ := H
                          replace H : ((impl_BackHunks.f kj42 t464 t467).bind fun bt470 => ((laws_eqHunkS.f kj42 bt470.1 t435).bind fun t474 => (if t474 = true then (laws_FnExactBackHunks.j2 kj42 t445 t462 (bt470.2 != t436)) else (laws_FnExactBackHunks.j2 kj42 t445 t462 true)))) = some r := H
                          have A69 := Aside0.mk A690
                          clear A690
                          replace H := Option.bind_eq_some_iff.mp H
                          obtain ⟨⟨t470, t471⟩, A700, H⟩ := H
                          replace H : ((laws_eqHunkS.f kj42 t470 t435).bind fun t474 => (if t474 = true then (laws_FnExactBackHunks.j2 kj42 t445 t462 (t471 != t436)) else (laws_FnExactBackHunks.j2 kj42 t445 t462 true))) = some r := H
                          have A70 := Aside0.mk A700
                          clear A700
                          have HC71 := Aside0.mk H
                          clear H
                          obtain ⟨Ao72, co72, eo72⟩ := Kd.S_slice HO_10.out
                          subst eo72
                          go_upto_region 32 with (first | ((with_reducible refine gate_callee (f := 43) rfl ?_); refine goesL_ (some 85) rfl rfl Try.func43 (by kernel_rfl) rfl #[.slice Ao72 t445.length co72, .int .i64 1] rfl (by (try simp only [List.map_toArray, List.map_cons, List.map_nil]); first | done | rfl | (simp only [List.length_drop, List.length_take]; rfl)) ?_; (with_reducible refine (laws_markHunkS.calls kj42 _ _ t445 1 t462 _ ?side1 ?side2 A61.out).mono ?_); (case side1 => repeat (first | exact (Kd.S_reads' HO_10.out).2.2 | (with_reducible refine Kd.C_alloc ?_ _) | (with_reducible refine Kd.C_drewN ?_ _) | (with_reducible refine Kd.C_drew ?_))); (case side2 => exact (Kd.S_reads' HO_10.out).2.1); rintro e w73 ⟨rfl, hb⟩; refine ⟨_, rfl, ?_⟩; have n0_ := Aside0.mk (Kd.S_below (by (with_reducible repeat (first | apply Kd.S_alloc | apply Kd.S_drewN | apply Kd.S_drew)); exact HO_6.out) hb); have n1_ := Aside0.mk (Kd.S_below (by (with_reducible repeat (first | apply Kd.S_alloc | apply Kd.S_drewN | apply Kd.S_drew)); exact HO_10.out) hb); have n2_ := Aside0.mk (below_step (by repeat (first | (with_reducible first | exact HB.out | apply below_alloc | apply pw_below_drewN | apply below_drew1) | exact HB.out)) hb); clear HO_6; clear HO_10; clear HB; have HO_6 := n0_; have HO_10 := n1_; have HB := n2_; clear n0_ n1_ n2_; (try clear hb); (try clear hb2); (try clear hk); (try clear hi)) | ((with_reducible refine gate_callee (f := 60) rfl ?_); refine goesL_ (some 88) rfl rfl Try.func60 (by kernel_rfl) rfl #[.slice Ao72 t445.length co72, .int .i64 1] rfl (by (try simp only [List.map_toArray, List.map_cons, List.map_nil]); first | done | rfl | (simp only [List.length_drop, List.length_take]; rfl)) ?_; (with_reducible refine (laws_heldHunkS.calls kj42 _ _ t445 1 t463 _ ?side1 ?side2 A62.out).mono ?_); (case side1 => repeat (first | exact (Kd.S_reads' HO_10.out).2.2 | (with_reducible refine Kd.C_alloc ?_ _) | (with_reducible refine Kd.C_drewN ?_ _) | (with_reducible refine Kd.C_drew ?_))); (case side2 => exact (Kd.S_reads' HO_10.out).2.1); rintro e w74 ⟨rfl, hb⟩; refine ⟨_, rfl, ?_⟩; have n0_ := Aside0.mk (Kd.S_below (by (with_reducible repeat (first | apply Kd.S_alloc | apply Kd.S_drewN | apply Kd.S_drew)); exact HO_6.out) hb); have n1_ := Aside0.mk (Kd.S_below (by (with_reducible repeat (first | apply Kd.S_alloc | apply Kd.S_drewN | apply Kd.S_drew)); exact HO_10.out) hb); have n2_ := Aside0.mk (below_step (by repeat (first | (with_reducible first | exact HB.out | apply below_alloc | apply pw_below_drewN | apply below_drew1) | exact HB.out)) hb); clear HO_6; clear HO_10; clear HB; have HO_6 := n0_; have HO_10 := n1_; have HB := n2_; clear n0_ n1_ n2_; (try clear hb); (try clear hb2); (try clear hk); (try clear hi)) | ((with_reducible refine gate_callee (f := 22) rfl ?_); refine goesL_ (some 96) rfl rfl Try.func22 (by kernel_rfl) rfl #[.slice A0 l0.length c0] rfl (by (try simp only [List.map_toArray, List.map_cons, List.map_nil]); first | done | rfl | (simp only [List.length_drop, List.length_take]; rfl)) ?_; (with_reducible refine (laws_toStringS.calls kj42 _ _ l0 t464 _ ?side1 ?side2 A68.out).mono ?_); (case side1 => repeat (first | exact (Kd.C_below HR0.out HB.out) | (with_reducible refine Kd.C_alloc ?_ _) | (with_reducible refine Kd.C_drewN ?_ _) | (with_reducible refine Kd.C_drew ?_))); (case side2 => exact HC0.out); rintro e w75 ⟨v465, rfl, ho0, hb⟩; refine ⟨_, rfl, ?_⟩; have n0_ := Aside0.mk (Kd.S_elder' (by (with_reducible repeat (first | apply Kd.S_alloc | apply Kd.S_drewN | apply Kd.S_drew)); exact HO_6.out) (Kd.R_base ho0) hb); have n1_ := Aside0.mk (Kd.S_elder' (by (with_reducible repeat (first | apply Kd.S_alloc | apply Kd.S_drewN | apply Kd.S_drew)); exact HO_10.out) (Kd.R_base ho0) hb); have n2_ := Aside0.mk (Kd.R_lower ho0 (below_size (by repeat (first | (with_reducible first | exact HB.out | apply below_alloc | apply pw_below_drewN | apply below_drew1) | exact HB.out)))); have n3_ := Aside0.mk (below_step (by repeat (first | (with_reducible first | exact HB.out | apply below_alloc | apply pw_below_drewN | apply below_drew1) | exact HB.out)) hb); clear HO_6; clear HO_10; clear HB; have HO_6 := n0_; have HO_10 := n1_; have HO466 := n2_; have HB := n3_; clear n0_ n1_ n2_ n3_; (try clear hb); (try clear hb2); (try clear hk); (try clear hi); (try clear ho0)) | ((with_reducible refine gate_callee (f := 17) rfl ?_); refine goesL_ (some 98) rfl rfl Try.func17 (by kernel_rfl) rfl #[.slice A1 l1.length c1] rfl (by (try simp only [List.map_toArray, List.map_cons, List.map_nil]); first | done | rfl | (simp only [List.length_drop, List.length_take]; rfl)) ?_; (with_reducible refine (laws_toHunkS.calls kj42 _ _ l1 t467 _ ?side1 ?side2 A69.out).mono ?_); (case side1 => repeat (first | exact (Kd.C_below HR1.out HB.out) | (with_reducible refine Kd.C_alloc ?_ _) | (with_reducible refine Kd.C_drewN ?_ _) | (with_reducible refine Kd.C_drew ?_))); (case side2 => exact HC1.out); rintro e w76 ⟨v468, rfl, ho0, hb⟩; refine ⟨_, rfl, ?_⟩; have n0_ := Aside0.mk (Kd.S_elder' (by (with_reducible repeat (first | apply Kd.S_alloc | apply Kd.S_drewN | apply Kd.S_drew)); exact HO_6.out) (Kd.S_base ho0) hb); have n1_ := Aside0.mk (Kd.S_elder' (by (with_reducible repeat (first | apply Kd.S_alloc | apply Kd.S_drewN | apply Kd.S_drew)); exact HO_10.out) (Kd.S_base ho0) hb); have n2_ := Aside0.mk (Kd.R_below (by (with_reducible repeat (first | apply Kd.R_alloc | apply Kd.R_drewN | apply Kd.R_drew)); exact HO466.out) hb); have n3_ := Aside0.mk (Kd.S_lower (Kd.S_new' (Kd.S_new' (Kd.S_new' ho0 (Kd.S_lt (by (with_reducible repeat (first | apply Kd.S_alloc | apply Kd.S_drewN | apply Kd.S_drew)); exact HO_6.out))) (Kd.S_lt (by (with_reducible repeat (first | apply Kd.S_alloc | apply Kd.S_drewN | apply Kd.S_drew)); exact HO_10.out))) (Kd.R_lt (by (with_reducible repeat (first | apply Kd.R_alloc | apply Kd.R_drewN | apply Kd.R_drew)); exact HO466.out))) (below_size (by repeat (first | (with_reducible first | exact HB.out | apply below_alloc | apply pw_below_drewN | apply below_drew1) | exact HB.out)))); have n4_ := Aside0.mk (below_step (by repeat (first | (with_reducible first | exact HB.out | apply below_alloc | apply pw_below_drewN | apply below_drew1) | exact HB.out)) hb); clear HO_6; clear HO_10; clear HO466; clear HB; have HO_6 := n0_; have HO_10 := n1_; have HO466 := n2_; have HO469 := n3_; have HB := n4_; clear n0_ n1_ n2_ n3_ n4_; (try clear hb); (try clear hb2); (try clear hk); (try clear hi); (try clear ho0); obtain ⟨Ao77, co77, eo77⟩ := Kd.R_slice HO466.out; subst eo77; obtain ⟨Ao78, co78, eo78⟩ := Kd.S_slice HO469.out; subst eo78) | ((with_reducible refine gate_callee (f := 59) rfl ?_); refine goesL_ (some 99) rfl rfl Try.func59 (by kernel_rfl) rfl #[.slice Ao77 t464.length co77, .slice Ao78 t467.length co78] rfl (by (try simp only [List.map_toArray, List.map_cons, List.map_nil]); first | done | rfl | (simp only [List.length_drop, List.length_take]; rfl)) ?_; (with_reducible refine (impl_BackHunks.calls kj42 _ _ t464 _ _ t467 t470 t471 _ ?side1 ?side2 ?side3 ?side4 A70.out).mono ?_); (case side1 => repeat (first | exact (Kd.R_reads' HO466.out).2.2 | (with_reducible refine Kd.C_alloc ?_ _) | (with_reducible refine Kd.C_drewN ?_ _) | (with_reducible refine Kd.C_drew ?_))); (case side2 => exact (Kd.R_reads' HO466.out).2.1); (case side3 => repeat (first | exact (Kd.S_reads' HO469.out).2.2 | (with_reducible refine Kd.C_alloc ?_ _) | (with_reducible refine Kd.C_drewN ?_ _) | (with_reducible refine Kd.C_drew ?_))); (case side4 => exact (Kd.S_reads' HO469.out).2.1); rintro e w79 ⟨v472, rfl, ho0, hb⟩; refine ⟨_, rfl, ?_⟩; have n0_ := Aside0.mk (Kd.S_elder' (by (with_reducible repeat (first | apply Kd.S_alloc | apply Kd.S_drewN | apply Kd.S_drew)); exact HO_6.out) (Kd.S_base ho0) hb); have n1_ := Aside0.mk (Kd.S_elder' (by (with_reducible repeat (first | apply Kd.S_alloc | apply Kd.S_drewN | apply Kd.S_drew)); exact HO_10.out) (Kd.S_base ho0) hb); have n2_ := Aside0.mk (Kd.R_below (by (with_reducible repeat (first | apply Kd.R_alloc | apply Kd.R_drewN | apply Kd.R_drew)); exact HO466.out) hb); have n3_ := Aside0.mk (Kd.S_elder' (by (with_reducible repeat (first | apply Kd.S_alloc | apply Kd.S_drewN | apply Kd.S_drew)); exact HO469.out) (Kd.S_base ho0) hb); have n4_ := Aside0.mk (Kd.S_lower (Kd.S_new' (Kd.S_new' (Kd.S_new' (Kd.S_new' ho0 (Kd.S_lt (by (with_reducible repeat (first | apply Kd.S_alloc | apply Kd.S_drewN | apply Kd.S_drew)); exact HO_6.out))) (Kd.S_lt (by (with_reducible repeat (first | apply Kd.S_alloc | apply Kd.S_drewN | apply Kd.S_drew)); exact HO_10.out))) (Kd.R_lt (by (with_reducible repeat (first | apply Kd.R_alloc | apply Kd.R_drewN | apply Kd.R_drew)); exact HO466.out))) (Kd.S_lt (by (with_reducible repeat (first | apply Kd.S_alloc | apply Kd.S_drewN | apply Kd.S_drew)); exact HO469.out))) (below_size (by repeat (first | (with_reducible first | exact HB.out | apply below_alloc | apply pw_below_drewN | apply below_drew1) | exact HB.out)))); have n5_ := Aside0.mk (below_step (by repeat (first | (with_reducible first | exact HB.out | apply below_alloc | apply pw_below_drewN | apply below_drew1) | exact HB.out)) hb); clear HO_6; clear HO_10; clear HO466; clear HO469; clear HB; have HO_6 := n0_; have HO_10 := n1_; have HO466 := n2_; have HO469 := n3_; have HO473 := n4_; have HB := n5_; clear n0_ n1_ n2_ n3_ n4_ n5_; (try clear hb); (try clear hb2); (try clear hk); (try clear hi); (try clear ho0)))
                          (try simp only [Act.put, List.setIfInBounds_toArray, List.set_cons_zero, List.set_cons_succ])
                          go_cut [110] (fun v110 wc => ∃ (kq : Nat) (x110_70 : Bool), v110 = .bool x110_70 ∧ Aside0 (laws_FnExactBackHunks.j2 kq t445 t462 x110_70 = some r) ∧ Aside0 (kq ≤ kj42) ∧ Aside0 (Kd.S k83 83 wc w.heap.size (fun _ => True) (.slice Ao72 t445.length co72) t445) ∧ Aside0 (Below w.heap.size w wc))
                          case first =>
                            have H := HC71.out
                            clear HC71
                            replace H := Option.bind_eq_some_iff.mp H
                            obtain ⟨t474, A800, H⟩ := H
                            replace H : (if t474 = true then (laws_FnExactBackHunks.j2 kj42 t445 t462 (t471 != t436)) else (laws_FnExactBackHunks.j2 kj42 t445 t462 true)) = some r := H
                            have A80 := Aside0.mk A800
                            clear A800
                            by_cases c81 : t474 = true
                            · subst c81
                              have H1 : (laws_FnExactBackHunks.j2 kj42 t445 t462 (t471 != t436)) = some r := by rw [if_pos rfl] at H; exact H
                              clear H
                              have H := H1
                              clear H1
                              have H' := Aside0.mk H
                              clear H
                              obtain ⟨Ao82, co82, eo82⟩ := Kd.S_slice HO473.out
                              subst eo82
                              obtain ⟨Ao83, co83, eo83⟩ := Kd.S_slice HO_6.out
                              subst eo83
                              go_wp2_with (first | ((with_reducible refine gate_callee (f := 19) rfl ?_); refine goesL_ (some 104) rfl rfl Try.func19 (by kernel_rfl) rfl #[.slice Ao82 t470.length co82, .slice Ao83 t435.length co83] rfl (by (try simp only [List.map_toArray, List.map_cons, List.map_nil]); first | done | rfl | (simp only [List.length_drop, List.length_take]; rfl)) ?_; (with_reducible refine (laws_eqHunkS.calls kj42 _ _ t470 _ _ t435 true _ ?side1 ?side2 ?side3 ?side4 A80.out).mono ?_); (case side1 => repeat (first | exact (Kd.S_reads' HO473.out).2.2 | (with_reducible refine Kd.C_alloc ?_ _) | (with_reducible refine Kd.C_drewN ?_ _) | (with_reducible refine Kd.C_drew ?_))); (case side2 => exact (Kd.S_reads' HO473.out).2.1); (case side3 => repeat (first | exact (Kd.S_reads' HO_6.out).2.2 | (with_reducible refine Kd.C_alloc ?_ _) | (with_reducible refine Kd.C_drewN ?_ _) | (with_reducible refine Kd.C_drew ?_))); (case side4 => exact (Kd.S_reads' HO_6.out).2.1); rintro e w84 ⟨rfl, hb⟩; refine ⟨_, rfl, ?_⟩; have n0_ := Aside0.mk (Kd.S_below (by (with_reducible repeat (first | apply Kd.S_alloc | apply Kd.S_drewN | apply Kd.S_drew)); exact HO_6.out) hb); have n1_ := Aside0.mk (Kd.S_below (by (with_reducible repeat (first | apply Kd.S_alloc | apply Kd.S_drewN | apply Kd.S_drew)); exact HO_10.out) hb); have n2_ := Aside0.mk (Kd.R_below (by (with_reducible repeat (first | apply Kd.R_alloc | apply Kd.R_drewN | apply Kd.R_drew)); exact HO466.out) hb); have n3_ := Aside0.mk (Kd.S_below (by (with_reducible repeat (first | apply Kd.S_alloc | apply Kd.S_drewN | apply Kd.S_drew)); exact HO469.out) hb); have n4_ := Aside0.mk (Kd.S_below (by (with_reducible repeat (first | apply Kd.S_alloc | apply Kd.S_drewN | apply Kd.S_drew)); exact HO473.out) hb); have n5_ := Aside0.mk (below_step (by repeat (first | (with_reducible first | exact HB.out | apply below_alloc | apply pw_below_drewN | apply below_drew1) | exact HB.out)) hb); clear HO_6; clear HO_10; clear HO466; clear HO469; clear HO473; clear HB; have HO_6 := n0_; have HO_10 := n1_; have HO466 := n2_; have HO469 := n3_; have HO473 := n4_; have HB := n5_; clear n0_ n1_ n2_ n3_ n4_ n5_; (try clear hb); (try clear hb2); (try clear hk); (try clear hi)))
                              go_meet
                              case rel => exact ⟨_, ((t471 != t436)), (by first | rfl | (simp; done) | (simp [*]; done)), H', ⟨by have := HJ13.out; have := HJ42.out; first | omega | exact Nat.le_refl _⟩, ⟨by (with_reducible repeat (first | apply Kd.S_alloc | apply Kd.S_drewN | apply Kd.S_drew)); exact Kd.S_mono HO_10.out (fun _ hk => trivial)⟩, ⟨by repeat (first | (with_reducible first | exact HB.out | apply below_alloc | apply pw_below_drewN | apply below_drew1) | exact HB.out)⟩⟩
                            · replace c81 := Bool.eq_false_iff.mpr c81
                              subst c81
                              have H1 : (laws_FnExactBackHunks.j2 kj42 t445 t462 true) = some r := by rw [if_neg (show ¬ (false = true) by decide)] at H; exact H
                              clear H
                              have H := H1
                              clear H1
                              have H' := Aside0.mk H
                              clear H
                              obtain ⟨Ao85, co85, eo85⟩ := Kd.S_slice HO473.out
                              subst eo85
                              obtain ⟨Ao86, co86, eo86⟩ := Kd.S_slice HO_6.out
                              subst eo86
                              go_wp2_with (first | ((with_reducible refine gate_callee (f := 19) rfl ?_); refine goesL_ (some 104) rfl rfl Try.func19 (by kernel_rfl) rfl #[.slice Ao85 t470.length co85, .slice Ao86 t435.length co86] rfl (by (try simp only [List.map_toArray, List.map_cons, List.map_nil]); first | done | rfl | (simp only [List.length_drop, List.length_take]; rfl)) ?_; (with_reducible refine (laws_eqHunkS.calls kj42 _ _ t470 _ _ t435 false _ ?side1 ?side2 ?side3 ?side4 A80.out).mono ?_); (case side1 => repeat (first | exact (Kd.S_reads' HO473.out).2.2 | (with_reducible refine Kd.C_alloc ?_ _) | (with_reducible refine Kd.C_drewN ?_ _) | (with_reducible refine Kd.C_drew ?_))); (case side2 => exact (Kd.S_reads' HO473.out).2.1); (case side3 => repeat (first | exact (Kd.S_reads' HO_6.out).2.2 | (with_reducible refine Kd.C_alloc ?_ _) | (with_reducible refine Kd.C_drewN ?_ _) | (with_reducible refine Kd.C_drew ?_))); (case side4 => exact (Kd.S_reads' HO_6.out).2.1); rintro e w87 ⟨rfl, hb⟩; refine ⟨_, rfl, ?_⟩; have n0_ := Aside0.mk (Kd.S_below (by (with_reducible repeat (first | apply Kd.S_alloc | apply Kd.S_drewN | apply Kd.S_drew)); exact HO_6.out) hb); have n1_ := Aside0.mk (Kd.S_below (by (with_reducible repeat (first | apply Kd.S_alloc | apply Kd.S_drewN | apply Kd.S_drew)); exact HO_10.out) hb); have n2_ := Aside0.mk (Kd.R_below (by (with_reducible repeat (first | apply Kd.R_alloc | apply Kd.R_drewN | apply Kd.R_drew)); exact HO466.out) hb); have n3_ := Aside0.mk (Kd.S_below (by (with_reducible repeat (first | apply Kd.S_alloc | apply Kd.S_drewN | apply Kd.S_drew)); exact HO469.out) hb); have n4_ := Aside0.mk (Kd.S_below (by (with_reducible repeat (first | apply Kd.S_alloc | apply Kd.S_drewN | apply Kd.S_drew)); exact HO473.out) hb); have n5_ := Aside0.mk (below_step (by repeat (first | (with_reducible first | exact HB.out | apply below_alloc | apply pw_below_drewN | apply below_drew1) | exact HB.out)) hb); clear HO_6; clear HO_10; clear HO466; clear HO469; clear HO473; clear HB; have HO_6 := n0_; have HO_10 := n1_; have HO466 := n2_; have HO469 := n3_; have HO473 := n4_; have HB := n5_; clear n0_ n1_ n2_ n3_ n4_ n5_; (try clear hb); (try clear hb2); (try clear hk); (try clear hi)))
                              go_meet
                              case rel => exact ⟨_, (true), (by first | rfl | (simp; done) | (simp [*]; done)), H', ⟨by have := HJ13.out; have := HJ42.out; first | omega | exact Nat.le_refl _⟩, ⟨by (with_reducible repeat (first | apply Kd.S_alloc | apply Kd.S_drewN | apply Kd.S_drew)); exact Kd.S_mono HO_10.out (fun _ hk => trivial)⟩, ⟨by repeat (first | (with_reducible first | exact HB.out | apply below_alloc | apply pw_below_drewN | apply below_drew1) | exact HB.out)⟩⟩
                          case rest =>
                            clear HC71
                            try clear c1
                            try clear c2
                            try clear p2
                            try clear c3
                            try clear c4
                            try clear c4b0
                            try clear c5
                            try clear c6
                            try clear c6b0
                            try clear c8
                            try clear c12
                            try clear c15
                            try clear c17
                            try clear c19
                            try clear c20
                            try clear c22
                            try clear c24
                            try clear c27
                            try clear c34
                            try clear c37
                            try clear c40
                            try clear c42
                            try clear c43
                            try clear c51
                            try clear c51b0
                            try clear c53
                            try clear c58
                            try clear c59
                            try clear c60
                            try clear c63
                            try clear c63b0
                            try clear c67
                            try clear c67b0
                            try clear c67b1
                            try clear c81
                            try clear p2
                            obtain ⟨kq, x110_70, rfl, HA, HJ70, HO_10, HB⟩ := hcut
                            cases kq with
                            | zero => exact absurd HA.out (by simp [laws_FnExactBackHunks.j2])
                            | succ kj70 =>
                              have H := HA.out
                              clear HA
                              simp only [laws_FnExactBackHunks.j2] at H
                              by_cases c88 : x110_70 = true
                              · subst c88
                                have H1 : (some false) = some r := by rw [if_pos rfl] at H; exact H
                                clear H
                                have H := H1
                                clear H1
                                obtain rfl := Option.some.inj H
                                go_wp2
                                go_ret
                                exact ⟨by first | rfl | (simp [errW_none, errW_some] <;> rfl) | (simp [*, errW_none, errW_some] <;> rfl), by repeat (first | (with_reducible first | exact HB.out | apply below_alloc | apply pw_below_drewN | apply below_drew1) | exact HB.out)⟩
                              · replace c88 := Bool.eq_false_iff.mpr c88
                                subst c88
                                have H1 : ((laws_heldHunkS.f kj70 t445 1).bind fun t475 => (if t475 < 0 then (some false) else (if t475 = t462 then (some true) else (some false)))) = some r := by rw [if_neg (show ¬ (false = true) by decide)] at H; exact H
                                clear H
                                have H := H1
                                clear H1
                                replace H := Option.bind_eq_some_iff.mp H
                                obtain ⟨t475, A890, H⟩ := H
                                replace H : (if t475 < 0 then (some false) else (if t475 = t462 then (some true) else (some false))) = some r := H
                                have A89 := Aside0.mk A890
                                clear A890
                                by_cases c90 : t475 < 0
                                · rw [if_pos c90] at H
                                  have c90b0 : decide (t475 < 0) = true := decide_eq_true c90
                                  clear c90
                                  obtain rfl := Option.some.inj H
                                  go_wp2_with (first | ((with_reducible refine gate_callee (f := 60) rfl ?_); refine goesL_ (some 113) rfl rfl Try.func60 (by kernel_rfl) rfl #[.slice Ao72 t445.length co72, .int .i64 1] rfl (by (try simp only [List.map_toArray, List.map_cons, List.map_nil]); first | done | rfl | (simp only [List.length_drop, List.length_take]; rfl)) ?_; (with_reducible refine (laws_heldHunkS.calls kj70 _ _ t445 1 t475 _ ?side1 ?side2 A89.out).mono ?_); (case side1 => repeat (first | exact (Kd.S_reads' HO_10.out).2.2 | (with_reducible refine Kd.C_alloc ?_ _) | (with_reducible refine Kd.C_drewN ?_ _) | (with_reducible refine Kd.C_drew ?_))); (case side2 => exact (Kd.S_reads' HO_10.out).2.1); rintro e w91 ⟨rfl, hb⟩; refine ⟨_, rfl, ?_⟩; have n0_ := Aside0.mk (Kd.S_below (by (with_reducible repeat (first | apply Kd.S_alloc | apply Kd.S_drewN | apply Kd.S_drew)); exact HO_10.out) hb); have n1_ := Aside0.mk (below_step (by repeat (first | (with_reducible first | exact HB.out | apply below_alloc | apply pw_below_drewN | apply below_drew1) | exact HB.out)) hb); clear HO_10; clear HB; have HO_10 := n0_; have HB := n1_; clear n0_ n1_; (try clear hb); (try clear hb2); (try clear hk); (try clear hi)))
                                  go_ret
                                  exact ⟨by first | rfl | (simp [errW_none, errW_some] <;> rfl) | (simp [*, errW_none, errW_some] <;> rfl), by repeat (first | (with_reducible first | exact HB.out | apply below_alloc | apply pw_below_drewN | apply below_drew1) | exact HB.out)⟩
                                · rw [if_neg c90] at H
                                  have c90b0 : decide (t475 < 0) = false := decide_eq_false c90
                                  clear c90
                                  by_cases c92 : t475 = t462
                                  · rw [if_pos c92] at H
                                    have c92b0 : (t475 == t462) = true := beq_iff_eq.mpr c92
                                    have c92b1 : (t475 != t462) = false := bne_eq_false_iff_eq.mpr c92
                                    clear c92
                                    obtain rfl := Option.some.inj H
                                    go_wp2_with (first | ((with_reducible refine gate_callee (f := 60) rfl ?_); refine goesL_ (some 113) rfl rfl Try.func60 (by kernel_rfl) rfl #[.slice Ao72 t445.length co72, .int .i64 1] rfl (by (try simp only [List.map_toArray, List.map_cons, List.map_nil]); first | done | rfl | (simp only [List.length_drop, List.length_take]; rfl)) ?_; (with_reducible refine (laws_heldHunkS.calls kj70 _ _ t445 1 t475 _ ?side1 ?side2 A89.out).mono ?_); (case side1 => repeat (first | exact (Kd.S_reads' HO_10.out).2.2 | (with_reducible refine Kd.C_alloc ?_ _) | (with_reducible refine Kd.C_drewN ?_ _) | (with_reducible refine Kd.C_drew ?_))); (case side2 => exact (Kd.S_reads' HO_10.out).2.1); rintro e w93 ⟨rfl, hb⟩; refine ⟨_, rfl, ?_⟩; have n0_ := Aside0.mk (Kd.S_below (by (with_reducible repeat (first | apply Kd.S_alloc | apply Kd.S_drewN | apply Kd.S_drew)); exact HO_10.out) hb); have n1_ := Aside0.mk (below_step (by repeat (first | (with_reducible first | exact HB.out | apply below_alloc | apply pw_below_drewN | apply below_drew1) | exact HB.out)) hb); clear HO_10; clear HB; have HO_10 := n0_; have HB := n1_; clear n0_ n1_; (try clear hb); (try clear hb2); (try clear hk); (try clear hi)))
                                    go_ret
                                    exact ⟨by first | rfl | (simp [errW_none, errW_some] <;> rfl) | (simp [*, errW_none, errW_some] <;> rfl), by repeat (first | (with_reducible first | exact HB.out | apply below_alloc | apply pw_below_drewN | apply below_drew1) | exact HB.out)⟩
                                  · rw [if_neg c92] at H
                                    have c92b0 : (t475 == t462) = false := beq_eq_false_iff_ne.mpr c92
                                    have c92b1 : (t475 != t462) = true := bne_iff_ne.mpr c92
                                    obtain rfl := Option.some.inj H
                                    go_wp2_with (first | ((with_reducible refine gate_callee (f := 60) rfl ?_); refine goesL_ (some 113) rfl rfl Try.func60 (by kernel_rfl) rfl #[.slice Ao72 t445.length co72, .int .i64 1] rfl (by (try simp only [List.map_toArray, List.map_cons, List.map_nil]); first | done | rfl | (simp only [List.length_drop, List.length_take]; rfl)) ?_; (with_reducible refine (laws_heldHunkS.calls kj70 _ _ t445 1 t475 _ ?side1 ?side2 A89.out).mono ?_); (case side1 => repeat (first | exact (Kd.S_reads' HO_10.out).2.2 | (with_reducible refine Kd.C_alloc ?_ _) | (with_reducible refine Kd.C_drewN ?_ _) | (with_reducible refine Kd.C_drew ?_))); (case side2 => exact (Kd.S_reads' HO_10.out).2.1); rintro e w94 ⟨rfl, hb⟩; refine ⟨_, rfl, ?_⟩; have n0_ := Aside0.mk (Kd.S_below (by (with_reducible repeat (first | apply Kd.S_alloc | apply Kd.S_drewN | apply Kd.S_drew)); exact HO_10.out) hb); have n1_ := Aside0.mk (below_step (by repeat (first | (with_reducible first | exact HB.out | apply below_alloc | apply pw_below_drewN | apply below_drew1) | exact HB.out)) hb); clear HO_10; clear HB; have HO_10 := n0_; have HB := n1_; clear n0_ n1_; (try clear hb); (try clear hb2); (try clear hk); (try clear hi)))
                                    go_ret
                                    exact ⟨by first | rfl | (simp [errW_none, errW_some] <;> rfl) | (simp [*, errW_none, errW_some] <;> rfl), by repeat (first | (with_reducible first | exact HB.out | apply below_alloc | apply pw_below_drewN | apply below_drew1) | exact HB.out)⟩
                        · rw [if_neg c67] at H
                          have c67b0 : (t463 == t462) = false := beq_eq_false_iff_ne.mpr c67
                          have c67b1 : (t463 != t462) = true := bne_iff_ne.mpr c67
                          obtain rfl := Option.some.inj H
                          obtain ⟨Ao95, co95, eo95⟩ := Kd.S_slice HO_10.out
                          subst eo95
                          go_wp2_with (first | ((with_reducible refine gate_callee (f := 43) rfl ?_); refine goesL_ (some 85) rfl rfl Try.func43 (by kernel_rfl) rfl #[.slice Ao95 t445.length co95, .int .i64 1] rfl (by (try simp only [List.map_toArray, List.map_cons, List.map_nil]); first | done | rfl | (simp only [List.length_drop, List.length_take]; rfl)) ?_; (with_reducible refine (laws_markHunkS.calls kj42 _ _ t445 1 t462 _ ?side1 ?side2 A61.out).mono ?_); (case side1 => repeat (first | exact (Kd.S_reads' HO_10.out).2.2 | (with_reducible refine Kd.C_alloc ?_ _) | (with_reducible refine Kd.C_drewN ?_ _) | (with_reducible refine Kd.C_drew ?_))); (case side2 => exact (Kd.S_reads' HO_10.out).2.1); rintro e w96 ⟨rfl, hb⟩; refine ⟨_, rfl, ?_⟩; have n0_ := Aside0.mk (Kd.S_below (by (with_reducible repeat (first | apply Kd.S_alloc | apply Kd.S_drewN | apply Kd.S_drew)); exact HO_6.out) hb); have n1_ := Aside0.mk (Kd.S_below (by (with_reducible repeat (first | apply Kd.S_alloc | apply Kd.S_drewN | apply Kd.S_drew)); exact HO_10.out) hb); have n2_ := Aside0.mk (below_step (by repeat (first | (with_reducible first | exact HB.out | apply below_alloc | apply pw_below_drewN | apply below_drew1) | exact HB.out)) hb); clear HO_6; clear HO_10; clear HB; have HO_6 := n0_; have HO_10 := n1_; have HB := n2_; clear n0_ n1_ n2_; (try clear hb); (try clear hb2); (try clear hk); (try clear hi)) | ((with_reducible refine gate_callee (f := 60) rfl ?_); refine goesL_ (some 88) rfl rfl Try.func60 (by kernel_rfl) rfl #[.slice Ao95 t445.length co95, .int .i64 1] rfl (by (try simp only [List.map_toArray, List.map_cons, List.map_nil]); first | done | rfl | (simp only [List.length_drop, List.length_take]; rfl)) ?_; (with_reducible refine (laws_heldHunkS.calls kj42 _ _ t445 1 t463 _ ?side1 ?side2 A62.out).mono ?_); (case side1 => repeat (first | exact (Kd.S_reads' HO_10.out).2.2 | (with_reducible refine Kd.C_alloc ?_ _) | (with_reducible refine Kd.C_drewN ?_ _) | (with_reducible refine Kd.C_drew ?_))); (case side2 => exact (Kd.S_reads' HO_10.out).2.1); rintro e w97 ⟨rfl, hb⟩; refine ⟨_, rfl, ?_⟩; have n0_ := Aside0.mk (Kd.S_below (by (with_reducible repeat (first | apply Kd.S_alloc | apply Kd.S_drewN | apply Kd.S_drew)); exact HO_6.out) hb); have n1_ := Aside0.mk (Kd.S_below (by (with_reducible repeat (first | apply Kd.S_alloc | apply Kd.S_drewN | apply Kd.S_drew)); exact HO_10.out) hb); have n2_ := Aside0.mk (below_step (by repeat (first | (with_reducible first | exact HB.out | apply below_alloc | apply pw_below_drewN | apply below_drew1) | exact HB.out)) hb); clear HO_6; clear HO_10; clear HB; have HO_6 := n0_; have HO_10 := n1_; have HB := n2_; clear n0_ n1_ n2_; (try clear hb); (try clear hb2); (try clear hk); (try clear hi)))
                          go_ret
                          exact ⟨by first | rfl | (simp [errW_none, errW_some] <;> rfl) | (simp [*, errW_none, errW_some] <;> rfl), by repeat (first | (with_reducible first | exact HB.out | apply below_alloc | apply pw_below_drewN | apply below_drew1) | exact HB.out)⟩
              · replace c40 := Bool.eq_false_iff.mpr c40
                subst c40
                have H1 : (some false) = some r := by rw [if_neg (show ¬ (false = true) by decide)] at H; exact H
                clear H
                have H := H1
                clear H1
                obtain rfl := Option.some.inj H
                go_wp2_with (first | ((with_reducible refine gate_callee (f := 22) rfl ?_); refine goesL_ (some 56) rfl rfl Try.func22 (by kernel_rfl) rfl #[.slice A0 l0.length c0] rfl (by (try simp only [List.map_toArray, List.map_cons, List.map_nil]); first | done | rfl | (simp only [List.length_drop, List.length_take]; rfl)) ?_; (with_reducible refine (laws_toStringS.calls kj13 _ _ l0 t450 _ ?side1 ?side2 A35.out).mono ?_); (case side1 => repeat (first | exact (Kd.C_below HR0.out HB.out) | (with_reducible refine Kd.C_alloc ?_ _) | (with_reducible refine Kd.C_drewN ?_ _) | (with_reducible refine Kd.C_drew ?_))); (case side2 => exact HC0.out); rintro e w98 ⟨v451, rfl, ho0, hb⟩; refine ⟨_, rfl, ?_⟩; have n0_ := Aside0.mk (Kd.S_elder' (by (with_reducible repeat (first | apply Kd.S_alloc | apply Kd.S_drewN | apply Kd.S_drew)); exact HO_6.out) (Kd.R_base ho0) hb); have n1_ := Aside0.mk (Kd.R_elder' (by (with_reducible repeat (first | apply Kd.R_alloc | apply Kd.R_drewN | apply Kd.R_drew)); exact HO_8.out) (Kd.R_base ho0) hb); have n2_ := Aside0.mk (Kd.S_elder' (by (with_reducible repeat (first | apply Kd.S_alloc | apply Kd.S_drewN | apply Kd.S_drew)); exact HO_9.out) (Kd.R_base ho0) hb); have n3_ := Aside0.mk (Kd.S_elder' (by (with_reducible repeat (first | apply Kd.S_alloc | apply Kd.S_drewN | apply Kd.S_drew)); exact HO_10.out) (Kd.R_base ho0) hb); have n4_ := Aside0.mk (Kd.R_lower (Kd.R_new' ho0 (Kd.R_lt (by (with_reducible repeat (first | apply Kd.R_alloc | apply Kd.R_drewN | apply Kd.R_drew)); exact HO_8.out))) (below_size (by repeat (first | (with_reducible first | exact HB.out | apply below_alloc | apply pw_below_drewN | apply below_drew1) | exact HB.out)))); have n5_ := Aside0.mk (below_step (by repeat (first | (with_reducible first | exact HB.out | apply below_alloc | apply pw_below_drewN | apply below_drew1) | exact HB.out)) hb); clear HO_6; clear HO_8; clear HO_9; clear HO_10; clear HB; have HO_6 := n0_; have HO_8 := n1_; have HO_9 := n2_; have HO_10 := n3_; have HO452 := n4_; have HB := n5_; clear n0_ n1_ n2_ n3_ n4_ n5_; (try clear hb); (try clear hb2); (try clear hk); (try clear hi); (try clear ho0); obtain ⟨Ao99, co99, eo99⟩ := Kd.R_slice HO452.out; subst eo99) | ((with_reducible refine gate_callee (f := 24) rfl ?_); refine goesL_ (some 57) rfl rfl Try.func24 (by kernel_rfl) rfl #[.slice Ao23 t439.length co23, .slice Ao99 t450.length co99] rfl (by (try simp only [List.map_toArray, List.map_cons, List.map_nil]); first | done | rfl | (simp only [List.length_drop, List.length_take]; rfl)) ?_; (with_reducible refine (laws_eqStringS.calls kj13 _ _ t439 _ _ t450 true _ ?side1 ?side2 ?side3 ?side4 A36.out).mono ?_); (case side1 => repeat (first | exact (Kd.R_reads' HO_8.out).2.2 | (with_reducible refine Kd.C_alloc ?_ _) | (with_reducible refine Kd.C_drewN ?_ _) | (with_reducible refine Kd.C_drew ?_))); (case side2 => exact (Kd.R_reads' HO_8.out).2.1); (case side3 => repeat (first | exact (Kd.R_reads' HO452.out).2.2 | (with_reducible refine Kd.C_alloc ?_ _) | (with_reducible refine Kd.C_drewN ?_ _) | (with_reducible refine Kd.C_drew ?_))); (case side4 => exact (Kd.R_reads' HO452.out).2.1); rintro e w' ⟨rfl, ⟨nd, rfl⟩⟩; refine ⟨_, rfl, ?_⟩) | ((with_reducible refine gate_callee (f := 17) rfl ?_); refine goesL_ (some 61) rfl rfl Try.func17 (by kernel_rfl) rfl #[.slice A1 l1.length c1] rfl (by (try simp only [List.map_toArray, List.map_cons, List.map_nil]); first | done | rfl | (simp only [List.length_drop, List.length_take]; rfl)) ?_; (with_reducible refine (laws_toHunkS.calls kj13 _ _ l1 t454 _ ?side1 ?side2 A38.out).mono ?_); (case side1 => repeat (first | exact (Kd.C_below HR1.out (by repeat (first | (with_reducible first | exact HB.out | apply below_alloc | apply pw_below_drewN | apply below_drew1) | exact HB.out))) | (with_reducible refine Kd.C_alloc ?_ _) | (with_reducible refine Kd.C_drewN ?_ _) | (with_reducible refine Kd.C_drew ?_))); (case side2 => exact HC1.out); rintro e w100 ⟨v455, rfl, ho0, hb⟩; refine ⟨_, rfl, ?_⟩; have n0_ := Aside0.mk (Kd.S_elder' (by (with_reducible repeat (first | apply Kd.S_alloc | apply Kd.S_drewN | apply Kd.S_drew)); exact HO_6.out) (Kd.S_base ho0) hb); have n1_ := Aside0.mk (Kd.R_below (by (with_reducible repeat (first | apply Kd.R_alloc | apply Kd.R_drewN | apply Kd.R_drew)); exact HO_8.out) hb); have n2_ := Aside0.mk (Kd.S_elder' (by (with_reducible repeat (first | apply Kd.S_alloc | apply Kd.S_drewN | apply Kd.S_drew)); exact HO_9.out) (Kd.S_base ho0) hb); have n3_ := Aside0.mk (Kd.S_elder' (by (with_reducible repeat (first | apply Kd.S_alloc | apply Kd.S_drewN | apply Kd.S_drew)); exact HO_10.out) (Kd.S_base ho0) hb); have n4_ := Aside0.mk (Kd.R_below (by (with_reducible repeat (first | apply Kd.R_alloc | apply Kd.R_drewN | apply Kd.R_drew)); exact HO452.out) hb); have n5_ := Aside0.mk (Kd.S_lower (Kd.S_new' (Kd.S_new' (Kd.S_new' (Kd.S_new' (Kd.S_new' ho0 (Kd.S_lt (by (with_reducible repeat (first | apply Kd.S_alloc | apply Kd.S_drewN | apply Kd.S_drew)); exact HO_6.out))) (Kd.R_lt (by (with_reducible repeat (first | apply Kd.R_alloc | apply Kd.R_drewN | apply Kd.R_drew)); exact HO_8.out))) (Kd.S_lt (by (with_reducible repeat (first | apply Kd.S_alloc | apply Kd.S_drewN | apply Kd.S_drew)); exact HO_9.out))) (Kd.S_lt (by (with_reducible repeat (first | apply Kd.S_alloc | apply Kd.S_drewN | apply Kd.S_drew)); exact HO_10.out))) (Kd.R_lt (by (with_reducible repeat (first | apply Kd.R_alloc | apply Kd.R_drewN | apply Kd.R_drew)); exact HO452.out))) (below_size (by repeat (first | (with_reducible first | exact HB.out | apply below_alloc | apply pw_below_drewN | apply below_drew1) | exact HB.out)))); have n6_ := Aside0.mk (below_step (by repeat (first | (with_reducible first | exact HB.out | apply below_alloc | apply pw_below_drewN | apply below_drew1) | exact HB.out)) hb); clear HO_6; clear HO_8; clear HO_9; clear HO_10; clear HO452; clear HB; have HO_6 := n0_; have HO_8 := n1_; have HO_9 := n2_; have HO_10 := n3_; have HO452 := n4_; have HO456 := n5_; have HB := n6_; clear n0_ n1_ n2_ n3_ n4_ n5_ n6_; (try clear hb); (try clear hb2); (try clear hk); (try clear hi); (try clear ho0); obtain ⟨Ao101, co101, eo101⟩ := Kd.S_slice HO456.out; subst eo101) | ((with_reducible refine gate_callee (f := 19) rfl ?_); refine goesL_ (some 62) rfl rfl Try.func19 (by kernel_rfl) rfl #[.slice Ao24 t442.length co24, .slice Ao101 t454.length co101] rfl (by (try simp only [List.map_toArray, List.map_cons, List.map_nil]); first | done | rfl | (simp only [List.length_drop, List.length_take]; rfl)) ?_; (with_reducible refine (laws_eqHunkS.calls kj13 _ _ t442 _ _ t454 false _ ?side1 ?side2 ?side3 ?side4 A39.out).mono ?_); (case side1 => repeat (first | exact (Kd.S_reads' HO_9.out).2.2 | (with_reducible refine Kd.C_alloc ?_ _) | (with_reducible refine Kd.C_drewN ?_ _) | (with_reducible refine Kd.C_drew ?_))); (case side2 => exact (Kd.S_reads' HO_9.out).2.1); (case side3 => repeat (first | exact (Kd.S_reads' HO456.out).2.2 | (with_reducible refine Kd.C_alloc ?_ _) | (with_reducible refine Kd.C_drewN ?_ _) | (with_reducible refine Kd.C_drew ?_))); (case side4 => exact (Kd.S_reads' HO456.out).2.1); rintro e w102 ⟨rfl, hb⟩; refine ⟨_, rfl, ?_⟩; have n0_ := Aside0.mk (Kd.S_below (by (with_reducible repeat (first | apply Kd.S_alloc | apply Kd.S_drewN | apply Kd.S_drew)); exact HO_6.out) hb); have n1_ := Aside0.mk (Kd.R_below (by (with_reducible repeat (first | apply Kd.R_alloc | apply Kd.R_drewN | apply Kd.R_drew)); exact HO_8.out) hb); have n2_ := Aside0.mk (Kd.S_below (by (with_reducible repeat (first | apply Kd.S_alloc | apply Kd.S_drewN | apply Kd.S_drew)); exact HO_9.out) hb); have n3_ := Aside0.mk (Kd.S_below (by (with_reducible repeat (first | apply Kd.S_alloc | apply Kd.S_drewN | apply Kd.S_drew)); exact HO_10.out) hb); have n4_ := Aside0.mk (Kd.R_below (by (with_reducible repeat (first | apply Kd.R_alloc | apply Kd.R_drewN | apply Kd.R_drew)); exact HO452.out) hb); have n5_ := Aside0.mk (Kd.S_below (by (with_reducible repeat (first | apply Kd.S_alloc | apply Kd.S_drewN | apply Kd.S_drew)); exact HO456.out) hb); have n6_ := Aside0.mk (below_step (by repeat (first | (with_reducible first | exact HB.out | apply below_alloc | apply pw_below_drewN | apply below_drew1) | exact HB.out)) hb); clear HO_6; clear HO_8; clear HO_9; clear HO_10; clear HO452; clear HO456; clear HB; have HO_6 := n0_; have HO_8 := n1_; have HO_9 := n2_; have HO_10 := n3_; have HO452 := n4_; have HO456 := n5_; have HB := n6_; clear n0_ n1_ n2_ n3_ n4_ n5_ n6_; (try clear hb); (try clear hb2); (try clear hk); (try clear hi)))
                go_ret
                exact ⟨by first | rfl | (simp [errW_none, errW_some] <;> rfl) | (simp [*, errW_none, errW_some] <;> rfl), by repeat (first | (with_reducible first | exact HB.out | apply below_alloc | apply pw_below_drewN | apply below_drew1) | exact HB.out)⟩
            · replace c37 := Bool.eq_false_iff.mpr c37
              subst c37
              have H1 : (some false) = some r := by rw [if_neg (show ¬ (false = true) by decide)] at H; exact H
              clear H
              have H := H1
              clear H1
              obtain rfl := Option.some.inj H
              go_wp2_with (first | ((with_reducible refine gate_callee (f := 22) rfl ?_); refine goesL_ (some 56) rfl rfl Try.func22 (by kernel_rfl) rfl #[.slice A0 l0.length c0] rfl (by (try simp only [List.map_toArray, List.map_cons, List.map_nil]); first | done | rfl | (simp only [List.length_drop, List.length_take]; rfl)) ?_; (with_reducible refine (laws_toStringS.calls kj13 _ _ l0 t450 _ ?side1 ?side2 A35.out).mono ?_); (case side1 => repeat (first | exact (Kd.C_below HR0.out HB.out) | (with_reducible refine Kd.C_alloc ?_ _) | (with_reducible refine Kd.C_drewN ?_ _) | (with_reducible refine Kd.C_drew ?_))); (case side2 => exact HC0.out); rintro e w103 ⟨v451, rfl, ho0, hb⟩; refine ⟨_, rfl, ?_⟩; have n0_ := Aside0.mk (Kd.S_elder' (by (with_reducible repeat (first | apply Kd.S_alloc | apply Kd.S_drewN | apply Kd.S_drew)); exact HO_6.out) (Kd.R_base ho0) hb); have n1_ := Aside0.mk (Kd.R_elder' (by (with_reducible repeat (first | apply Kd.R_alloc | apply Kd.R_drewN | apply Kd.R_drew)); exact HO_8.out) (Kd.R_base ho0) hb); have n2_ := Aside0.mk (Kd.S_elder' (by (with_reducible repeat (first | apply Kd.S_alloc | apply Kd.S_drewN | apply Kd.S_drew)); exact HO_9.out) (Kd.R_base ho0) hb); have n3_ := Aside0.mk (Kd.S_elder' (by (with_reducible repeat (first | apply Kd.S_alloc | apply Kd.S_drewN | apply Kd.S_drew)); exact HO_10.out) (Kd.R_base ho0) hb); have n4_ := Aside0.mk (Kd.R_lower (Kd.R_new' ho0 (Kd.R_lt (by (with_reducible repeat (first | apply Kd.R_alloc | apply Kd.R_drewN | apply Kd.R_drew)); exact HO_8.out))) (below_size (by repeat (first | (with_reducible first | exact HB.out | apply below_alloc | apply pw_below_drewN | apply below_drew1) | exact HB.out)))); have n5_ := Aside0.mk (below_step (by repeat (first | (with_reducible first | exact HB.out | apply below_alloc | apply pw_below_drewN | apply below_drew1) | exact HB.out)) hb); clear HO_6; clear HO_8; clear HO_9; clear HO_10; clear HB; have HO_6 := n0_; have HO_8 := n1_; have HO_9 := n2_; have HO_10 := n3_; have HO452 := n4_; have HB := n5_; clear n0_ n1_ n2_ n3_ n4_ n5_; (try clear hb); (try clear hb2); (try clear hk); (try clear hi); (try clear ho0); obtain ⟨Ao104, co104, eo104⟩ := Kd.R_slice HO452.out; subst eo104) | ((with_reducible refine gate_callee (f := 24) rfl ?_); refine goesL_ (some 57) rfl rfl Try.func24 (by kernel_rfl) rfl #[.slice Ao23 t439.length co23, .slice Ao104 t450.length co104] rfl (by (try simp only [List.map_toArray, List.map_cons, List.map_nil]); first | done | rfl | (simp only [List.length_drop, List.length_take]; rfl)) ?_; (with_reducible refine (laws_eqStringS.calls kj13 _ _ t439 _ _ t450 false _ ?side1 ?side2 ?side3 ?side4 A36.out).mono ?_); (case side1 => repeat (first | exact (Kd.R_reads' HO_8.out).2.2 | (with_reducible refine Kd.C_alloc ?_ _) | (with_reducible refine Kd.C_drewN ?_ _) | (with_reducible refine Kd.C_drew ?_))); (case side2 => exact (Kd.R_reads' HO_8.out).2.1); (case side3 => repeat (first | exact (Kd.R_reads' HO452.out).2.2 | (with_reducible refine Kd.C_alloc ?_ _) | (with_reducible refine Kd.C_drewN ?_ _) | (with_reducible refine Kd.C_drew ?_))); (case side4 => exact (Kd.R_reads' HO452.out).2.1); rintro e w' ⟨rfl, ⟨nd, rfl⟩⟩; refine ⟨_, rfl, ?_⟩))
              go_ret
              exact ⟨by first | rfl | (simp [errW_none, errW_some] <;> rfl) | (simp [*, errW_none, errW_some] <;> rfl), by repeat (first | (with_reducible first | exact HB.out | apply below_alloc | apply pw_below_drewN | apply below_drew1) | exact HB.out)⟩

end Go.Proofs.Ytbbkecdlapemfaa.My

/- Written by this session's program (wip/gen): the law's pure statement. -/
namespace Go.Proofs.Ytbbkecdlapemfaa.My
open Go.RowKit Go.Proofs.YtbbkecdlapemfaaW.PrintWords Go.Proofs.YtbbkecdlapemfaaW.PrintLast Go.Proofs.YtbbkecdlapemfaaW.PrintMore
attribute [local go_sem] max2_int min2_int max_two min_two max_three min_three max_four min_four
set_option linter.unusedVariables false
set_option linter.unusedSimpArgs false

/-- What is left to prove of laws_FnExactBackHunks. -/
def laws_FnExactBackHunks.Pure : Prop := ∀ (l0 : List ByteArray) (l1 : List (S82)), (WL Wstr) l0 → (WL W82) l1 → ∃ k, laws_FnExactBackHunks.f k l0 l1 = some true
end Go.Proofs.Ytbbkecdlapemfaa.My

/- Plain Lean, no program in sight: what holds from some number of rounds on, whole numbers that do not wrap, lists by an index. -/
namespace Go.Proofs.Ytbbkecdlapemfaa.Pl
open Go.RowKit Go.Proofs.YtbbkecdlapemfaaW.PrintWords Go.Proofs.YtbbkecdlapemfaaW.PrintLast
set_option linter.unusedVariables false
set_option linter.unusedSimpArgs false

section
variable {α β : Type}
theorem ev_pos {c : Prop} [Decidable c] {g g' : Nat → Option α} {r : α} (hc : c) (h : Ev g r) : Ev (fun k => if c then g k else g' k) r :=
  Ev.congr (fun _ => if_pos hc) h
theorem ev_neg {c : Prop} [Decidable c] {g g' : Nat → Option α} {r : α} (hc : ¬ c) (h : Ev g' r) : Ev (fun k => if c then g k else g' k) r :=
  Ev.congr (fun _ => if_neg hc) h
theorem ev_ite {c : Prop} [Decidable c] {g g' : Nat → Option α} {r : α} (h : c → Ev g r) (h' : ¬ c → Ev g' r) : Ev (fun k => if c then g k else g' k) r := by
  by_cases hc : c
  · exact ev_pos hc (h hc)
  · exact ev_neg hc (h' hc)
theorem ev_some {r r' : α} (h : r = r') : Ev (fun _ => some r) r' := h ▸ Ev.now r
theorem ev_const {o : Option α} {r : α} (h : o = some r) : Ev (fun _ => o) r := ⟨0, fun _ _ => h⟩
theorem ev_to {g : Nat → Option α} {r r' : α} (h : Ev g r) (e : r = r') : Ev g r' := e ▸ h
theorem ev_bind {g : Nat → Option α} {f : Nat → α → Option β} {a : α} {r : β} (h : Ev g a) (k : Ev (fun n => f n a) r) : Ev (fun n => (g n).bind fun t => f n t) r := Ev.bind h k
end

theorem wrap64_id {x : Int} (h : -9223372036854775808 ≤ x) (h' : x ≤ 9223372036854775807) : wrap64 x = x := by
  unfold wrap64
  omega
theorem wrap_succ (i : Nat) (h : i < 9223372036854775807) : wrap64 ((i : Int) + 1) = ((i + 1 : Nat) : Int) := by
  rw [wrap64_id (by omega) (by omega)]
  omega
theorem wrap_pred (n : Nat) (h0 : 0 < n) (h : n ≤ 9223372036854775807) : wrap64 ((n : Int) - 1) = ((n - 1 : Nat) : Int) := by
  rw [wrap64_id (by omega) (by omega)]
  omega
theorem wrap_sub (n m : Nat) (h0 : m ≤ n) (h : n ≤ 9223372036854775807) : wrap64 ((n : Int) - (m : Int)) = ((n - m : Nat) : Int) := by
  rw [wrap64_id (by omega) (by omega)]
  omega
theorem wrap_add (n m : Nat) (h : n + m ≤ 9223372036854775807) : wrap64 ((n : Int) + (m : Int)) = ((n + m : Nat) : Int) := by
  rw [wrap64_id (by omega) (by omega)]
  omega

theorem rdOf_nat {α : Type} (d : α) (xs : List α) (i : Nat) : rdOf d xs (i : Int) = xs.getD i d := rfl
theorem rd_nat (xs : List Int) (i : Nat) : rd xs (i : Int) = xs.getD i 0 := rfl
theorem getD_lt {α : Type} (xs : List α) (d : α) (i : Nat) (h : i < xs.length) : xs.getD i d = xs[i] := by
  simp [List.getD_eq_getElem?_getD, List.getElem?_eq_getElem h]
theorem rdOf_lt {α : Type} (d : α) (xs : List α) (i : Nat) (h : i < xs.length) : rdOf d xs (i : Int) = xs[i] := getD_lt xs d i h
theorem ba_ext {a b : ByteArray} (h : a.toList = b.toList) : a = b := by
  rw [Lib.toList_data, Lib.toList_data] at h
  cases a with | mk a => cases b with | mk b =>
  cases a with | mk a => cases b with | mk b =>
  simp_all
theorem ba_iff {a b : ByteArray} : a.toList = b.toList ↔ a = b := ⟨ba_ext, fun h => by rw [h]⟩
theorem drop_cons {α : Type} (xs : List α) (i : Nat) (h : i < xs.length) : xs.drop i = xs[i] :: xs.drop (i + 1) := List.drop_eq_getElem_cons h
theorem bt_nat (s : ByteArray) (i : Nat) (h : i < s.size) : bt s (i : Int) = ((s.data.toList[i]'(by rw [data_length]; exact h)).toNat : Int) := by
  unfold bt
  rw [dif_pos (by simpa using h)]
  simp [ByteArray.getElem_eq_getElem_data]
theorem u8_eq {b c : UInt8} (h : (b.toNat : Int) = (c.toNat : Int)) : b = c := UInt8.toNat_inj.1 (by omega)
theorem u8_ne {b c : UInt8} (h : ¬ (b.toNat : Int) = (c.toNat : Int)) : ¬ c = b := fun e => h (by rw [e])
end Go.Proofs.Ytbbkecdlapemfaa.Pl

/- Plain Lean: what the laws' own helpers on lists of strings come to. Conditions: lengths and sizes below 2^63. -/
namespace Go.Proofs.Ytbbkecdlapemfaa.Pl
open Go.RowKit Go.Proofs.YtbbkecdlapemfaaW.PrintWords Go.Proofs.YtbbkecdlapemfaaW.PrintLast Go.Proofs.Ytbbkecdlapemfaa.My
set_option linter.unusedVariables false
set_option linter.unusedSimpArgs false

/-- What came in fits. -/
def FitS (l : List ByteArray) : Prop := l.length ≤ 9223372036854775807 ∧ ∀ s ∈ l, s.size ≤ 9223372036854775807
def sumS (l : List ByteArray) : Nat := (l.map ByteArray.size).sum
def szS (l : List ByteArray) : Nat := l.length + sumS l

theorem sumS_drop (l : List ByteArray) (i : Nat) (h : i < l.length) : sumS (l.drop i) = l[i].size + sumS (l.drop (i + 1)) := by
  unfold sumS
  rw [List.drop_eq_getElem_cons h, List.map_cons, List.sum_cons]

theorem sumS_mem (l : List ByteArray) (s : ByteArray) (h : s ∈ l) : s.size ≤ sumS l := by
  unfold sumS
  induction l with
  | nil => simp at h
  | cons a l ih =>
    simp only [List.map_cons, List.sum_cons]
    rcases List.mem_cons.1 h with rfl | h
    · omega
    · have := ih h
      omega

theorem fitS_of_sz {l : List ByteArray} (h : szS l ≤ 9223372036854775807) : FitS l := by
  unfold szS at h
  exact ⟨by omega, fun s hs => by have := sumS_mem l s hs; omega⟩

theorem fitS_of_wl {l : List ByteArray} (h : WL Wstr l) : FitS l := by
  unfold WL Wstr maxLen at h
  exact h

/-- What is left of so many letters and values. -/
def leftOf (a : Int) (n : Nat) (r : Int) : Prop := r < 0 ∨ (0 ≤ r ∧ r + n = a)

theorem szStringS_l0 (l : List ByteArray) (hf : FitS l) : ∀ d i (a : Int), i + d = l.length → 0 ≤ a → a ≤ 1048576 → ∃ r, Ev (fun k => laws_szStringS.l0 k l a (i : Int)) r ∧ leftOf a (sumS (l.drop i)) r := by
  intro d
  have hL := hf.1
  induction d with
  | zero =>
    intro i a hi h0 h1
    refine ⟨a, Ev.step (fun k => laws_szStringS.l0.eq_2 ..) (ev_neg (by omega) (ev_some rfl)), .inr ⟨h0, ?_⟩⟩
    rw [List.drop_of_length_le (by omega)]
    simp [sumS]
  | succ d ih =>
    intro i a hi h0 h1
    have hlt : i < l.length := by omega
    have hs := hf.2 _ (List.getElem_mem hlt)
    rw [sumS_drop l i hlt]
    by_cases h : a - (l[i].size : Int) < 0
    · refine ⟨-1, Ev.step (fun k => laws_szStringS.l0.eq_2 ..) (ev_pos (by omega) (ev_pos (by omega) (ev_pos ?_ (ev_some rfl)))), .inl (by omega)⟩
      rw [rdOf_lt _ _ _ hlt, wrap64_id (by omega) (by omega)]
      exact h
    · obtain ⟨r, hr, hl⟩ := ih (i + 1) (a - (l[i].size : Int)) (by omega) (by omega) (by omega)
      refine ⟨r, Ev.step (fun k => laws_szStringS.l0.eq_2 ..) (ev_pos (by omega) (ev_pos (by omega) (ev_neg ?_ ?_))), ?_⟩
      · rw [rdOf_lt _ _ _ hlt, wrap64_id (by omega) (by omega)]
        exact h
      · rw [rdOf_lt _ _ _ hlt, wrap64_id (by omega) (by omega), wrap_succ i (by omega)]
        exact hr
      · rcases hl with hl | hl
        · exact .inl hl
        · exact .inr (by omega)

theorem szStringS_ev (l : List ByteArray) (hf : FitS l) (a : Int) (h0 : 0 ≤ a) (h1 : a ≤ 1048576) : ∃ r, Ev (fun k => laws_szStringS.f k l a) r ∧ leftOf a (szS l) r := by
  have hL := hf.1
  simp only [laws_szStringS.f]
  rw [wrap64_id (by omega) (by omega)]
  by_cases h : a - (l.length : Int) < 0
  · exact ⟨-1, ev_pos h (ev_some rfl), .inl (by omega)⟩
  · obtain ⟨r, hr, hl⟩ := szStringS_l0 l hf l.length 0 (a - (l.length : Int)) (by omega) (by omega) (by omega)
    refine ⟨r, ev_neg h hr, ?_⟩
    rcases hl with hl | hl
    · exact .inl hl
    · rw [List.drop_zero] at hl
      exact .inr (by unfold szS; omega)

theorem toStringS_l0 (l : List ByteArray) (hL : l.length ≤ 17592186044416) : ∀ d i (o : List ByteArray), i + d = l.length → o.length = l.length → o.take i = l.take i → Ev (fun k => laws_toStringS.l0 k l o (i : Int)) l := by
  intro d
  induction d with
  | zero =>
    intro i o hi hl ht
    refine Ev.step (fun k => laws_toStringS.l0.eq_2 ..) (ev_neg (by omega) (ev_some ?_))
    rw [List.take_of_length_le (by omega), List.take_of_length_le (by omega)] at ht
    exact ht
  | succ d ih =>
    intro i o hi hl ht
    have hlt : i < l.length := by omega
    refine Ev.step (fun k => laws_toStringS.l0.eq_2 ..) (ev_pos (by omega) (ev_pos (by omega) (ev_pos (by omega) ?_)))
    rw [wrap_succ i (by omega), Int.toNat_natCast, rdOf_lt _ _ _ hlt]
    refine ih (i + 1) _ (by omega) (by rw [List.length_set]; exact hl) ?_
    rw [List.take_succ_eq_append_getElem (by rw [List.length_set]; omega), List.take_succ_eq_append_getElem hlt, List.getElem_set_self, List.take_set_of_le (Nat.le_refl i), ht]

theorem toStringS_ev (l : List ByteArray) (hL : l.length ≤ 17592186044416) : Ev (fun k => laws_toStringS.f k l) l := by
  simp only [laws_toStringS.f]
  refine ev_pos (by omega) (ev_pos (by omega) ?_)
  exact toStringS_l0 l hL l.length 0 _ (by omega) (by simp) rfl

theorem eqStringS_l0 (a b : List ByteArray) (hab : a.length = b.length) (hL : a.length ≤ 9223372036854775807) : ∀ d i, i + d = a.length → Ev (fun k => laws_eqStringS.l0 k a b (i : Int)) (decide (a.drop i = b.drop i)) := by
  intro d
  induction d with
  | zero =>
    intro i hi
    refine Ev.step (fun k => laws_eqStringS.l0.eq_2 ..) (ev_neg (by omega) (ev_some ?_))
    rw [List.drop_of_length_le (by omega), List.drop_of_length_le (by omega)]
    simp
  | succ d ih =>
    intro i hi
    have h1 : i < a.length := by omega
    have h2 : i < b.length := by omega
    refine Ev.step (fun k => laws_eqStringS.l0.eq_2 ..) (ev_pos (by omega) (ev_pos (by omega) (ev_pos (by omega) ?_)))
    rw [rdOf_lt _ _ _ h1, rdOf_lt _ _ _ h2, drop_cons a i h1, drop_cons b i h2]
    refine ev_ite (fun h => ?_) (fun h => ev_some ?_)
    · rw [wrap_succ i (by omega)]
      refine ev_to (ih (i + 1) (by omega)) ?_
      rw [ba_ext h]
      simp only [List.cons.injEq, true_and]
    · have : ¬ a[i] = b[i] := fun e => h (by rw [e])
      simp only [List.cons.injEq, this, false_and, decide_false]

theorem eqStringS_ev (a b : List ByteArray) (hL : a.length ≤ 9223372036854775807) : Ev (fun k => laws_eqStringS.f k a b) (decide (a = b)) := by
  simp only [laws_eqStringS.f]
  refine ev_ite (fun h => ?_) (fun h => ev_some ?_)
  · exact eqStringS_l0 a b (by omega) hL a.length 0 (by omega)
  · have : ¬ a = b := fun e => h (by rw [e])
    simp [this]
end Go.Proofs.Ytbbkecdlapemfaa.Pl

/- Plain Lean: the marks by which the laws see whether memory is shared. Conditions: lengths below 2^40. -/
namespace Go.Proofs.Ytbbkecdlapemfaa.Pl
open Go.RowKit Go.Proofs.YtbbkecdlapemfaaW.PrintWords Go.Proofs.YtbbkecdlapemfaaW.PrintLast Go.Proofs.Ytbbkecdlapemfaa.My
set_option linter.unusedVariables false
set_option linter.unusedSimpArgs false

theorem strOfNums_size (l : List Int) : (strOfNums l).size = l.length := by
  unfold strOfNums
  rw [← data_length]
  simp

theorem tdiv10 (n : Int) (h : 0 ≤ n) : Int.tdiv n 10 = n / 10 := by
  rw [Int.tdiv_eq_ediv_of_nonneg h]

theorem markText_l0 : ∀ (d : Nat) (n : Int) (t : ByteArray), 0 ≤ n → n.toNat ≤ d → n ≤ 4611686018427387904 → t.size + n.toNat ≤ 4611686018427387905 → ∃ r, Ev (fun k => laws_markText.l0 k n t) r := by
  intro d
  induction d with
  | zero =>
    intro n t h0 hd h1 h2
    exact ⟨_, Ev.step (fun k => laws_markText.l0.eq_2 ..) (ev_neg (by omega) (ev_pos (by omega) (ev_some rfl)))⟩
  | succ d ih =>
    intro n t h0 hd h1 h2
    by_cases h : 0 < n
    · have e : wrap64 (Int.tdiv n 10) = n / 10 := by rw [tdiv10 n h0, wrap64_id (by omega) (by omega)]
      obtain ⟨r, hr⟩ := ih (n / 10) (strOfNums [(wrap64 (48 + (Int.tmod n 10))) % 256] ++ t) (by omega) (by omega) (by omega) (by
        rw [ByteArray.size_append, strOfNums_size, List.length_singleton]
        omega)
      refine ⟨r, Ev.step (fun k => laws_markText.l0.eq_2 ..) (ev_pos h ?_)⟩
      simp only [Option.bind_some]
      refine ev_pos ?_ ?_
      · rw [strOfNums_size, List.length_singleton]
        omega
      · rw [e]
        exact hr
    · exact ⟨_, Ev.step (fun k => laws_markText.l0.eq_2 ..) (ev_neg (by omega) (ev_pos (by omega) (ev_some rfl)))⟩

theorem markText_some (n : Int) (h0 : 0 ≤ n) (h1 : n ≤ 4611686018427387904) : ∃ r, Ev (fun k => laws_markText.f k n) r := by
  simp only [laws_markText.f]
  by_cases h : n ≤ 0
  · exact ⟨_, ev_pos h (ev_some rfl)⟩
  · obtain ⟨r, hr⟩ := markText_l0 n.toNat n ⟨#[]⟩ h0 (Nat.le_refl _) h1 (by
      show (0 : Nat) + n.toNat ≤ _
      omega)
    exact ⟨r, ev_neg h hr⟩

/-- The mark of a number. -/
noncomputable def mark (n : Nat) : ByteArray := open Classical in if h : ∃ r, Ev (fun k => laws_markText.f k (n : Int)) r then h.choose else ⟨#[]⟩
theorem mark_ev (n : Nat) (h : n ≤ 4611686018427387904) : Ev (fun k => laws_markText.f k (n : Int)) (mark n) := by
  have hs := markText_some (n : Int) (by omega) (by omega)
  unfold mark
  rw [dif_pos hs]
  exact hs.choose_spec

/-- So many marks from one on. -/
noncomputable def marks (m n : Nat) : List ByteArray := (List.range n).map fun i => mark (m + i)
theorem marks_length (m n : Nat) : (marks m n).length = n := by simp [marks]
theorem marks_get (m n i : Nat) (h : i < n) : (marks m n)[i]'(by rw [marks_length]; exact h) = mark (m + i) := by simp [marks]

theorem markStringS_l0 (n m : Nat) (hn : n ≤ 1099511627776) (hm : m ≤ 1099511627776) : ∀ d i (o : List ByteArray), i + d = n → o.length = n → o.take i = (marks m n).take i →
    Ev (fun k => laws_markStringS.l0 k o ((m + i : Nat) : Int) (i : Int)) (((m + n : Nat) : Int), marks m n) := by
  intro d
  induction d with
  | zero =>
    intro i o hi hl ht
    refine Ev.step (fun k => laws_markStringS.l0.eq_2 ..) (ev_neg (by omega) (ev_some ?_))
    rw [List.take_of_length_le (by omega), List.take_of_length_le (by rw [marks_length]; omega)] at ht
    rw [ht, show i = n from by omega]
  | succ d ih =>
    intro i o hi hl ht
    refine Ev.step (fun k => laws_markStringS.l0.eq_2 ..) (ev_pos (by omega) (ev_bind (mark_ev (m + i) (by omega)) (ev_pos (by omega) ?_)))
    rw [wrap_succ i (by omega), wrap_succ (m + i) (by omega), Int.toNat_natCast]
    refine ih (i + 1) _ (by omega) (by rw [List.length_set]; exact hl) ?_
    rw [List.take_succ_eq_append_getElem (by rw [List.length_set]; omega), List.take_succ_eq_append_getElem (by rw [marks_length]; omega), List.getElem_set_self, List.take_set_of_le (Nat.le_refl i), ht, marks_get m n i (by omega)]

theorem markStringS_ev (l : List ByteArray) (m : Nat) (hn : l.length ≤ 1099511627776) (hm : m ≤ 1099511627776) : Ev (fun k => laws_markStringS.f k l (m : Int)) (((m + l.length : Nat) : Int), marks m l.length) := by
  simp only [laws_markStringS.f]
  exact markStringS_l0 l.length m hn hm l.length 0 l (by omega) rfl rfl

theorem heldStringS_l0 (n m : Nat) (hn : n ≤ 1099511627776) (hm : m ≤ 1099511627776) : ∀ d i, i + d = n → Ev (fun k => laws_heldStringS.l0 k (marks m n) ((m + i : Nat) : Int) (i : Int)) ((m + n : Nat) : Int) := by
  intro d
  induction d with
  | zero =>
    intro i hi
    refine Ev.step (fun k => laws_heldStringS.l0.eq_2 ..) (ev_neg (by rw [marks_length]; omega) (ev_some ?_))
    rw [show i = n from by omega]
  | succ d ih =>
    intro i hi
    refine Ev.step (fun k => laws_heldStringS.l0.eq_2 ..) (ev_pos (by rw [marks_length]; omega) (ev_pos (by omega) (ev_bind (mark_ev (m + i) (by omega)) (ev_pos ?_ ?_))))
    · rw [rdOf_lt _ _ _ (by rw [marks_length]; omega), marks_get m n i (by omega)]
    · rw [wrap_succ i (by omega), wrap_succ (m + i) (by omega)]
      exact ih (i + 1) (by omega)

theorem heldStringS_ev (m n : Nat) (hn : n ≤ 1099511627776) (hm : m ≤ 1099511627776) : Ev (fun k => laws_heldStringS.f k (marks m n) (m : Int)) ((m + n : Nat) : Int) := by
  simp only [laws_heldStringS.f]
  exact heldStringS_l0 n m hn hm n 0 (by omega)
end Go.Proofs.Ytbbkecdlapemfaa.Pl

/- Plain Lean: what the laws' helpers on hunks come to, and whether hunks are the same. Conditions: lengths and sizes below 2^63. -/
namespace Go.Proofs.Ytbbkecdlapemfaa.Pl
open Go.RowKit Go.Proofs.YtbbkecdlapemfaaW.PrintWords Go.Proofs.YtbbkecdlapemfaaW.PrintLast Go.Proofs.Ytbbkecdlapemfaa.My
set_option linter.unusedVariables false
set_option linter.unusedSimpArgs false

abbrev LH := S82
abbrev IH := S83
def toH (x : LH) : IH := ⟨x.f0, x.f1, x.f2⟩
def FitH (l : List LH) : Prop := l.length ≤ 9223372036854775807 ∧ ∀ x ∈ l, Wint x.f0 ∧ Wint x.f1 ∧ FitS x.f2
def szH (l : List LH) : Nat := l.length + (l.map fun x => szS x.f2).sum

theorem wint_bounds {z : Int} (h : Wint z) : -9223372036854775808 ≤ z ∧ z ≤ 9223372036854775807 := by
  have h' : (Lit.int .i64 z).wf = true := h
  simp [Lit.wf, show IntKind.i64.min = -9223372036854775808 from rfl, show IntKind.i64.max = 9223372036854775807 from rfl] at h'
  omega

theorem fitH_of_wl {l : List LH} (h : WL W82 l) : FitH l := by
  refine ⟨h.1, fun x hx => ?_⟩
  obtain ⟨h0, h1, h2⟩ := h.2 x hx
  exact ⟨h0, h1, fitS_of_wl h2⟩

theorem sumH_drop (l : List LH) (i : Nat) (h : i < l.length) : ((l.drop i).map fun x => szS x.f2).sum = szS l[i].f2 + ((l.drop (i + 1)).map fun x => szS x.f2).sum := by
  rw [List.drop_eq_getElem_cons h, List.map_cons, List.sum_cons]

theorem sumH_mem (l : List LH) (x : LH) (h : x ∈ l) : szS x.f2 ≤ szH l := by
  unfold szH
  induction l with
  | nil => simp at h
  | cons a l ih =>
    simp only [List.map_cons, List.sum_cons, List.length_cons]
    rcases List.mem_cons.1 h with rfl | h
    · omega
    · have := ih h
      omega

theorem rdLH (l : List LH) (i : Nat) (h : i < l.length) : rd_T82 l (i : Int) = l[i] := getD_lt l _ i h
theorem rdIH (l : List IH) (i : Nat) (h : i < l.length) : rd_T83 l (i : Int) = l[i] := getD_lt l _ i h

theorem szHunkS_l0 (l : List LH) (hf : FitH l) : ∀ d i (a : Int), i + d = l.length → 0 ≤ a → a ≤ 1048576 → ∃ r, Ev (fun k => laws_szHunkS.l0 k l a (i : Int)) r ∧ leftOf a (((l.drop i).map fun x => szS x.f2).sum) r := by
  intro d
  have hL := hf.1
  induction d with
  | zero =>
    intro i a hi h0 h1
    refine ⟨a, Ev.step (fun k => laws_szHunkS.l0.eq_2 ..) (ev_neg (by omega) (ev_some rfl)), .inr ⟨h0, ?_⟩⟩
    rw [List.drop_of_length_le (by omega)]
    simp
  | succ d ih =>
    intro i a hi h0 h1
    have hlt : i < l.length := by omega
    obtain ⟨q, hq, hm⟩ := szStringS_ev l[i].f2 (hf.2 _ (List.getElem_mem hlt)).2.2 a h0 h1
    rw [sumH_drop l i hlt]
    have hz : Ev (fun k => laws_szHunk.f k (rd_T82 l (i : Int)).f0 (rd_T82 l (i : Int)).f1 (rd_T82 l (i : Int)).f2 a) (if q < 0 then -1 else q) := by
      rw [rdLH l i hlt]
      simp only [laws_szHunk.f]
      refine ev_bind hq (ev_ite (fun h => ev_some (by rw [if_pos h])) (fun h => ev_some (by rw [if_neg h])))
    by_cases h : q < 0
    · rw [if_pos h] at hz
      exact ⟨-1, Ev.step (fun k => laws_szHunkS.l0.eq_2 ..) (ev_pos (by omega) (ev_pos (by omega) (ev_bind hz (ev_pos (by omega) (ev_some rfl))))), .inl (by omega)⟩
    · rw [if_neg h] at hz
      obtain ⟨r, hr, hl⟩ := ih (i + 1) q (by omega) (by omega) (by rcases hm with hm | hm <;> omega)
      refine ⟨r, Ev.step (fun k => laws_szHunkS.l0.eq_2 ..) (ev_pos (by omega) (ev_pos (by omega) (ev_bind hz (ev_neg h ?_)))), ?_⟩
      · rw [wrap_succ i (by omega)]
        exact hr
      · rcases hl with hl | hl
        · exact .inl hl
        · rcases hm with hm | hm
          · omega
          · exact .inr (by omega)

theorem szHunkS_ev (l : List LH) (hf : FitH l) (a : Int) (h0 : 0 ≤ a) (h1 : a ≤ 1048576) : ∃ r, Ev (fun k => laws_szHunkS.f k l a) r ∧ leftOf a (szH l) r := by
  have hL := hf.1
  simp only [laws_szHunkS.f]
  rw [wrap64_id (by omega) (by omega)]
  by_cases h : a - (l.length : Int) < 0
  · exact ⟨-1, ev_pos h (ev_some rfl), .inl (by omega)⟩
  · obtain ⟨r, hr, hl⟩ := szHunkS_l0 l hf l.length 0 (a - (l.length : Int)) (by omega) (by omega) (by omega)
    refine ⟨r, ev_neg h hr, ?_⟩
    rcases hl with hl | hl
    · exact .inl hl
    · rw [List.drop_zero] at hl
      exact .inr (by unfold szH; omega)

/-- Small enough to be copied. -/
def SmallH (l : List LH) : Prop := l.length ≤ 1048576 ∧ ∀ x ∈ l, x.f2.length ≤ 1048576
theorem smallH {l : List LH} (h : szH l ≤ 1048576) : SmallH l := by
  refine ⟨by unfold szH at h; omega, fun x hx => ?_⟩
  have := sumH_mem l x hx
  unfold szS at this
  omega

theorem toHunkS_l0 (l : List LH) (hs : SmallH l) : ∀ d i (o : List IH), i + d = l.length → o.length = l.length → o.take i = (l.map toH).take i → Ev (fun k => laws_toHunkS.l0 k l o (i : Int)) (l.map toH) := by
  intro d
  have hL := hs.1
  induction d with
  | zero =>
    intro i o hi hl ht
    refine Ev.step (fun k => laws_toHunkS.l0.eq_2 ..) (ev_neg (by omega) (ev_some ?_))
    rw [List.take_of_length_le (by omega), List.take_of_length_le (by rw [List.length_map]; omega)] at ht
    exact ht
  | succ d ih =>
    intro i o hi hl ht
    have hlt : i < l.length := by omega
    have hx : Ev (fun k => laws_toHunk.f k (rd_T82 l (i : Int)).f0 (rd_T82 l (i : Int)).f1 (rd_T82 l (i : Int)).f2) (l[i].f0, l[i].f1, l[i].f2) := by
      rw [rdLH l i hlt]
      simp only [laws_toHunk.f]
      exact ev_bind (toStringS_ev _ (by have := hs.2 _ (List.getElem_mem hlt); omega)) (ev_some rfl)
    refine Ev.step (fun k => laws_toHunkS.l0.eq_2 ..) (ev_pos (by omega) (ev_pos (by omega) (ev_bind hx (ev_pos (by omega) ?_))))
    rw [wrap_succ i (by omega), Int.toNat_natCast]
    refine ih (i + 1) _ (by omega) (by rw [List.length_set]; exact hl) ?_
    rw [List.take_succ_eq_append_getElem (by rw [List.length_set]; omega), List.take_succ_eq_append_getElem (by rw [List.length_map]; exact hlt), List.getElem_set_self, List.take_set_of_le (Nat.le_refl i), ht, List.getElem_map]
    rfl

theorem toHunkS_ev (l : List LH) (hs : SmallH l) : Ev (fun k => laws_toHunkS.f k l) (l.map toH) := by
  have hL := hs.1
  simp only [laws_toHunkS.f]
  refine ev_pos (by omega) (ev_pos (by omega) ?_)
  exact toHunkS_l0 l hs l.length 0 _ (by omega) (by simp) rfl

theorem ih_ext {x y : IH} (h0 : x.f0 = y.f0) (h1 : x.f1 = y.f1) (h2 : x.f2 = y.f2) : x = y := by
  cases x; cases y; simp_all

/-- Hunks that came in fit. -/
def FitI (l : List IH) : Prop := l.length ≤ 9223372036854775807 ∧ ∀ x ∈ l, (-9223372036854775808 ≤ x.f0 ∧ x.f0 ≤ 9223372036854775807) ∧ (-9223372036854775808 ≤ x.f1 ∧ x.f1 ≤ 9223372036854775807) ∧ FitS x.f2

theorem fitI_of {l : List LH} (h : FitH l) : FitI (l.map toH) := by
  refine ⟨by rw [List.length_map]; exact h.1, fun x hx => ?_⟩
  obtain ⟨y, hy, rfl⟩ := List.mem_map.1 hx
  obtain ⟨h0, h1, h2⟩ := h.2 y hy
  exact ⟨wint_bounds h0, wint_bounds h1, h2⟩

instance : DecidableEq IH := fun x y => decidable_of_iff (x.f0 = y.f0 ∧ x.f1 = y.f1 ∧ x.f2 = y.f2) ⟨fun ⟨a, b, c⟩ => ih_ext a b c, fun h => by rw [h]; exact ⟨rfl, rfl, rfl⟩⟩

theorem eqHunk_ev (x y : IH) (h : FitS x.f2) : Ev (fun k => laws_eqHunk.f k x.f0 x.f1 x.f2 y.f0 y.f1 y.f2) (decide (x = y)) := by
  simp only [laws_eqHunk.f]
  refine ev_ite (fun h0 => ev_ite (fun h1 => ev_bind (eqStringS_ev _ _ h.1) ?_) (fun h1 => ev_some ?_)) (fun h0 => ev_some ?_)
  · refine ev_ite (fun h2 => ev_some ?_) (fun h2 => ev_some ?_)
    · rw [ih_ext h0 h1 (of_decide_eq_true h2)]
      simp
    · have : ¬ x = y := fun e => h2 (by rw [e]; simp)
      simp [this]
  · have : ¬ x = y := fun e => h1 (by rw [e])
    simp [this]
  · have : ¬ x = y := fun e => h0 (by rw [e])
    simp [this]

theorem eqHunkS_l0 (a b : List IH) (hab : a.length = b.length) (hf : FitI a) : ∀ d i, i + d = a.length → Ev (fun k => laws_eqHunkS.l0 k a b (i : Int)) (decide (a.drop i = b.drop i)) := by
  intro d
  have hL := hf.1
  induction d with
  | zero =>
    intro i hi
    refine Ev.step (fun k => laws_eqHunkS.l0.eq_2 ..) (ev_neg (by omega) (ev_some ?_))
    rw [List.drop_of_length_le (by omega), List.drop_of_length_le (by omega)]
    simp
  | succ d ih =>
    intro i hi
    have h1 : i < a.length := by omega
    have h2 : i < b.length := by omega
    refine Ev.step (fun k => laws_eqHunkS.l0.eq_2 ..) (ev_pos (by omega) (ev_pos (by omega) (ev_pos (by omega) ?_)))
    simp only [rdIH _ _ h1, rdIH _ _ h2, drop_cons a i h1, drop_cons b i h2]
    refine ev_bind (eqHunk_ev _ _ (hf.2 _ (List.getElem_mem h1)).2.2) (ev_ite (fun h => ?_) (fun h => ev_some ?_))
    · rw [wrap_succ i (by omega)]
      refine ev_to (ih (i + 1) (by omega)) ?_
      rw [of_decide_eq_true h]
      simp only [List.cons.injEq, true_and]
    · have : ¬ a[i] = b[i] := fun e => h (decide_eq_true e)
      simp only [List.cons.injEq, this, false_and, decide_false]

theorem eqHunkS_ev (a b : List IH) (hf : FitI a) : Ev (fun k => laws_eqHunkS.f k a b) (decide (a = b)) := by
  simp only [laws_eqHunkS.f]
  refine ev_ite (fun h => ?_) (fun h => ev_some ?_)
  · exact eqHunkS_l0 a b (by omega) hf a.length 0 (by omega)
  · have : ¬ a = b := fun e => h (by rw [e])
    simp [this]
end Go.Proofs.Ytbbkecdlapemfaa.Pl

/- The marking of hunks: what it writes, and that it writes nothing else. Asked: that the hunks are made rows, few enough. -/
namespace Go.Proofs.Ytbbkecdlapemfaa.My
open Go.RowKit Go.Proofs.YtbbkecdlapemfaaW.PrintWords Go.Proofs.YtbbkecdlapemfaaW.PrintLast Go.Proofs.YtbbkecdlapemfaaW.PrintMore Go.Proofs.Ytbbkecdlapemfaa.Pl
set_option linter.unusedVariables false
set_option linter.unusedSimpArgs false

noncomputable def mkH (x : IH) (m : Nat) : IH := ⟨(m : Int), wrap64 ((m : Int) + 1), marks (m + 2) x.f2.length⟩
noncomputable def mkHs : List IH → Nat → List IH
  | [], _ => []
  | x :: t, m => mkH x m :: mkHs t (m + 2 + x.f2.length)
def endH : List IH → Nat → Nat
  | [], m => m
  | x :: t, m => endH t (m + 2 + x.f2.length)
theorem endH_ge : ∀ (l : List IH) (m : Nat), m ≤ endH l m
  | [], _ => Nat.le_refl _
  | x :: t, m => by have := endH_ge t (m + 2 + x.f2.length); simp only [endH]; omega
theorem mk_step {l xs : List IH} {m mm i : Nat} (h : i < xs.length) (h1 : endH (xs.drop i) mm = endH l m) (h2 : xs.take i ++ mkHs (xs.drop i) mm = mkHs l m) :
    mm + 2 + xs[i].f2.length ≤ endH l m ∧ endH ((xs.set i (mkH xs[i] mm)).drop (i + 1)) (mm + 2 + xs[i].f2.length) = endH l m ∧ (xs.set i (mkH xs[i] mm)).take (i + 1) ++ mkHs ((xs.set i (mkH xs[i] mm)).drop (i + 1)) (mm + 2 + xs[i].f2.length) = mkHs l m := by
  rw [List.drop_eq_getElem_cons h] at h1 h2
  simp only [endH, mkHs] at h1 h2
  have := endH_ge (xs.drop (i + 1)) (mm + 2 + xs[i].f2.length)
  rw [List.drop_set_of_lt (by omega), List.take_succ_eq_append_getElem (by rw [List.length_set]; exact h), List.getElem_set_self, List.take_set_of_le (Nat.le_refl i), List.append_assoc]
  exact ⟨by omega, h1, h2⟩

/-- At a round's begin. -/
def MkInv (l : List IH) (m : Nat) (xs : List IH) (x5 : Int) (mm kq : Nat) : Prop := 0 ≤ x5 ∧ x5.toNat + kq = l.length ∧ xs.length = l.length ∧ endH (xs.drop x5.toNat) mm = endH l m ∧ xs.take x5.toNat ++ mkHs (xs.drop x5.toNat) mm = mkHs l m
theorem MkInv.start (l : List IH) (m : Nat) : MkInv l m l 0 m l.length := ⟨by omega, by simp, rfl, rfl, rfl⟩
theorem wr2 (mm n E : Nat) (h : mm + 2 + n ≤ E) (hE : E ≤ 1099511627776) : wrap64 (wrap64 ((mm : Int) + 1) + 1) = ((mm + 2 : Nat) : Int) := by rw [wrap_succ mm (by omega), wrap_succ (mm + 1) (by omega)]
theorem le_a (a n E : Nat) (h : a + n ≤ E) (hE : E ≤ 1099511627776) : n ≤ 1099511627776 := by omega
theorem le_b (a n E : Nat) (h : a + n ≤ E) (hE : E ≤ 1099511627776) : a ≤ 1099511627776 := by omega
theorem MkInv.step {l xs : List IH} {m mm kq : Nat} {x5 : Int} (h : MkInv l m xs x5 mm kq) (hm : endH l m ≤ 1099511627776) (hL : l.length ≤ 1099511627776) (hi : x5 < (l.length : Int)) :
    ∃ k1, kq = k1 + 1 ∧ ∃ kk mm2, laws_markStringS.f kk (xs.getD x5.toNat z83).f2 (wrap64 (wrap64 ((mm : Int) + 1) + 1)) = some (((mm2 : Nat) : Int), marks (mm + 2) (xs.getD x5.toNat z83).f2.length) ∧ MkInv l m (xs.set x5.toNat (mkH (xs.getD x5.toNat z83) mm)) (wrap64 (x5 + 1)) mm2 k1 := by
  obtain ⟨h0, h1, h2, h3, h4⟩ := h
  have hxi : x5.toNat < xs.length := by omega
  have hgx : xs.getD x5.toNat z83 = xs[x5.toNat] := by rw [List.getD_eq_getElem?_getD, List.getElem?_eq_getElem hxi]; rfl
  obtain ⟨q1, q2, q3⟩ := mk_step hxi h3 h4
  have ew := wr2 mm _ _ q1 hm
  obtain ⟨kk, hkk⟩ := markStringS_ev xs[x5.toNat].f2 (mm + 2) (le_a _ _ _ q1 hm) (le_b _ _ _ q1 hm)
  rw [hgx, ew]
  refine ⟨kq - 1, by omega, kk, _, hkk kk (Nat.le_refl _), ?_⟩
  have e5 : wrap64 (x5 + 1) = x5 + 1 := wrap64_id (by omega) (by omega)
  have e6 : (x5 + 1).toNat = x5.toNat + 1 := by omega
  rw [e5]
  refine ⟨by omega, by omega, by rw [List.length_set]; exact h2, ?_, ?_⟩
  · rw [e6]; exact q2
  · rw [e6]; exact q3
theorem MkInv.last {l xs : List IH} {m mm kq : Nat} {x5 : Int} (h : MkInv l m xs x5 mm kq) (hi : ¬ x5 < (l.length : Int)) : mm = endH l m ∧ xs = mkHs l m := by
  obtain ⟨h0, h1, h2, h3, h4⟩ := h
  rw [List.drop_of_length_le (by omega)] at h3 h4
  rw [List.take_of_length_le (by omega)] at h4
  simp only [mkHs, endH, List.append_nil] at h3 h4
  exact ⟨h3, h4⟩
theorem MkInv.len {l xs : List IH} {m mm kq : Nat} {x5 : Int} (h : MkInv l m xs x5 mm kq) : 0 ≤ x5 ∧ xs.length = l.length := ⟨h.1, h.2.2.1⟩

set_option maxHeartbeats 8000000 in
set_option maxRecDepth 100000 in
theorem laws_markHunkS_made (P : Nat → Prop) (u : Value) (l : List IH) (m : Nat) (w0 w : World) (hm : endH l m ≤ 1099511627776) (hL : l.length ≤ 1099511627776) (hB : Below w0.heap.size w0 w) (ho : Kd.S k83 83 w w0.heap.size P u l) :
    Calls Try.prog 43 #[u, .int .i64 (m : Int)] w fun e w' => e = .returned (.int .i64 ((endH l m : Nat) : Int)) ∧ Kd.S k83 83 w' w0.heap.size P u (mkHs l m) ∧ Below w0.heap.size w0 w' ∧ Kept w w' P := by
  obtain ⟨A, c, rfl⟩ := Kd.S_slice ho
  have HM := Aside0.mk hm
  have HL := Aside0.mk hL
  have HO := Aside0.mk ho
  have HB := Aside0.mk hB
  clear hm hL ho hB
  go_enter Try.func43, Try.ntmps43
  go_wp2
  go_loopg [1, 5] l.length (fun kq v1 v5 w' => ∃ (xs : List IH) (x5 : Int) (mm : Nat), v1 = .int .i64 (mm : Int) ∧ v5 = .int .i64 x5 ∧ Aside0 (MkInv l m xs x5 mm kq) ∧ Aside0 (Kd.S k83 83 w' w0.heap.size P (.slice A l.length c) xs) ∧ Aside0 (Kept w w' P) ∧ Aside0 (Below w0.heap.size w0 w'))
  case atStart => exact ⟨l, 0, m, rfl, rfl, ⟨MkInv.start l m⟩, HO, ⟨Kept.refl _ _⟩, HB⟩
  case round =>
    clear HO HB
    obtain ⟨xs, x5, mm, rfl, rfl, HF, HO, HK, HB⟩ := hrel
    by_cases hi : x5 < (l.length : Int)
    · obtain ⟨k1, rfl, kk, mm2, hkk, hnext⟩ := HF.out.step HM.out HL.out hi
      have HN := Aside0.mk hnext
      have hlen := HF.out.len
      clear HF hnext
      have hc : decide (x5 < (l.length : Int)) = true := decide_eq_true hi
      have hp := hlen.1
      have hxp : 0 < xs.length := by omega
      obtain ⟨g, cap, eg, hgb, hgl, hgc⟩ := Kd.S_form HO.out hxp
      injection eg with ea en ec
      clear en
      subst ea
      subst ec
      obtain ⟨oki, ce, hcl, hM, hcc, hfr, hoki, hH⟩ := Kd.S_elem HO.out z83 x5 hp hi
      obtain ⟨v2, rfl, ge2⟩ := k83_openM hM
      have hx0 := hcc 0 _ rfl
      have hx1 := hcc 1 _ rfl
      have hx2 := hcc 2 _ rfl
      have hf0 := hfr 0
      have hf1 := hfr 1
      simp only [show (k83).sz = 3 from rfl, Nat.add_zero] at hx0 hx1 hx2 hf0 hf1
      have hsg := Aside0.mk (Kd.H_seg hH hp hi (seg := [.int .i64 (mm : Int), .int .i64 (wrap64 ((mm : Int) + 1))]) (j := 0) (show 2 ≤ 3 from by decide) (by intro q hq; simp only [List.mem_cons, List.not_mem_nil, or_false] at hq; rcases hq with rfl | rfl <;> rfl)).1
      have hR2 := Aside0.mk (Kd.R_far (p := ⟨g, x5.toNat * 3 + 1, none⟩) (Kd.R_far (p := ⟨g, x5.toNat * 3, none⟩) ge2 (fun k hk => (hoki k hk).2) (.int .i64 (mm : Int))) (fun k hk => (hoki k hk).2) (.int .i64 (wrap64 ((mm : Int) + 1))))
      have hPg : P g := (Kd.S_R HO.out).1 g (by simp [Value.ownBlock])
      have hK2 := Aside0.mk (Kept.setCell (Kept.setCell HK.out (p := ⟨g, x5.toNat * 3, none⟩) (.inl hPg) (.int .i64 (mm : Int))) (p := ⟨g, x5.toNat * 3 + 1, none⟩) (.inl hPg) (.int .i64 (wrap64 ((mm : Int) + 1))))
      have hB2 := Aside0.mk (show Below w0.heap.size w0 ((wr.setCell ⟨g, x5.toNat * 3, none⟩ (.int .i64 (mm : Int))).setCell ⟨g, x5.toNat * 3 + 1, none⟩ (.int .i64 (wrap64 ((mm : Int) + 1)))) from below_set (below_set HB.out hgb) hgb)
      have hOK := Aside0.mk hoki
      have HKK := Aside0.mk hkk
      clear hcl hcc hfr hH hM ge2 hoki hkk hlen hgc hPg
      replace hp := eq_true hp
      replace hi := eq_true hi
      go_wp2_with fail
      refine (laws_markStringS.calls kk oki v2 (xs.getD x5.toNat z83).f2 _ _ _ w0 _ hB2.out hR2.out HKK.out).mono ?_
      rintro e w4 ⟨rfl, hR4, hB4, hK4⟩
      have HS4 := Aside0.mk (show Kd.S k83 83 w4 w0.heap.size P (.slice (some ⟨g, 0, none⟩) l.length c) (xs.set x5.toNat (mkH (xs.getD x5.toNat z83) mm)) from
        Kd.H_back (okp := oki) (Kd.H_step hsg.out (fun k hk hn hlt => hK4.2 k hlt hn)) (k83_mkM w4 w0.heap.size oki (mkH (xs.getD x5.toNat z83) mm) (Kd.R_flat (fun h => h) hR4 (fun k hk _ => hR2.out.1 k hk))) (fun _ h => h))
      have HK4 := Aside0.mk (Kept.then_ hK2.out hK4 (fun k hk => .inl (hOK.out k hk).1))
      have HB4 := Aside0.mk hB4
      clear hR4 hB4 hK4 hsg hR2 hK2 hB2 HO HK HB hx0 hx1 hx2 hf0 hf1
      go_wp2
      go_roundg k1
      case measure => omega
      case rel => exact ⟨_, _, mm2, rfl, rfl, HN, HS4, HK4, HB4⟩
    · have hc : decide (x5 < (l.length : Int)) = false := decide_eq_false hi
      obtain ⟨rfl, rfl⟩ := HF.out.last hi
      go_wp2
      trace_state
      go_ret
      exact ⟨rfl, HO.out, HB.out, HK.out⟩
end Go.Proofs.Ytbbkecdlapemfaa.My

/- The walk through FnExactBackHunks where the helpers answer as they should. Asked: their answers. -/
namespace Go.Proofs.Ytbbkecdlapemfaa.My
open Go.RowKit Go.Proofs.YtbbkecdlapemfaaW.PrintWords Go.Proofs.YtbbkecdlapemfaaW.PrintLast Go.Proofs.YtbbkecdlapemfaaW.PrintMore Go.Proofs.Ytbbkecdlapemfaa.Pl
set_option linter.unusedVariables false
set_option linter.unusedSimpArgs false

set_option maxHeartbeats 16000000 in
set_option maxRecDepth 100000 in
theorem laws_FnExactBackHunks_true (k : Nat) (A0 : Option Addr) (c0 : Nat) (l0 : List ByteArray) (A1 : Option Addr) (c1 : Nat) (l1 : List LH) (w : World) (hr0 : Kd.C Kd.string w A0 l0.length l0) (hc0 : l0.length ≤ c0) (hr1 : Kd.C k82 w A1 l1.length l1) (hc1 : l1.length ≤ c1)
    (s0 : Int) (es0 : laws_szStringS.f k l0 1048576 = some s0) (ns0 : ¬ s0 < 0)
    (s1 : Int) (es1 : laws_szHunkS.f k l1 s0 = some s1) (ns1 : ¬ s1 < 0)
    (x0 : List ByteArray) (et0 : laws_toStringS.f k l0 = some x0) (ee0 : laws_eqStringS.f k x0 x0 = some true)
    (x1 : List IH) (et1 : laws_toHunkS.f k l1 = some x1) (ee1 : laws_eqHunkS.f k x1 x1 = some true)
    (v : List IH) (b : Bool) (esp : spec_BackHunks.f k x0 x1 = some (v, b)) (eim : impl_BackHunks.f k x0 x1 = some (v, b)) (eev : laws_eqHunkS.f k v v = some true)
    (em0 : laws_markStringS.f k x0 ((1 : Nat) : Int) = some ((((1 + x0.length) : Nat) : Int), marks 1 x0.length))
    (hm1 : (endH x1 (1 + x0.length)) ≤ 1099511627776) (hL1 : x1.length ≤ 1099511627776)
    (hmv : (endH v 1) ≤ 1099511627776) (hLv : v.length ≤ 1099511627776) (ehv : laws_heldHunkS.f k (mkHs v 1) 1 = some (((endH v 1) : Nat) : Int)) :
    Calls Try.prog 12 #[.slice A0 l0.length c0, .slice A1 l1.length c1] w fun e w' => e = .returned (.bool true) ∧ Below w.heap.size w w' := by
  have n0 : decide (s0 < 0) = false := decide_eq_false ns0
  clear ns0
  have hr0_ := Aside0.mk hr0
  clear hr0
  have hr0 := hr0_
  clear hr0_
  have hc0_ := Aside0.mk hc0
  clear hc0
  have hc0 := hc0_
  clear hc0_
  have es0_ := Aside0.mk es0
  clear es0
  have es0 := es0_
  clear es0_
  have et0_ := Aside0.mk et0
  clear et0
  have et0 := et0_
  clear et0_
  have ee0_ := Aside0.mk ee0
  clear ee0
  have ee0 := ee0_
  clear ee0_
  have em0_ := Aside0.mk em0
  clear em0
  have em0 := em0_
  clear em0_
  have n1 : decide (s1 < 0) = false := decide_eq_false ns1
  clear ns1
  have hr1_ := Aside0.mk hr1
  clear hr1
  have hr1 := hr1_
  clear hr1_
  have hc1_ := Aside0.mk hc1
  clear hc1
  have hc1 := hc1_
  clear hc1_
  have es1_ := Aside0.mk es1
  clear es1
  have es1 := es1_
  clear es1_
  have et1_ := Aside0.mk et1
  clear et1
  have et1 := et1_
  clear et1_
  have ee1_ := Aside0.mk ee1
  clear ee1
  have ee1 := ee1_
  clear ee1_
  have hm1_ := Aside0.mk hm1
  clear hm1
  have hm1 := hm1_
  clear hm1_
  have hL1_ := Aside0.mk hL1
  clear hL1
  have hL1 := hL1_
  clear hL1_
  have esp_ := Aside0.mk esp
  clear esp
  have esp := esp_
  clear esp_
  have eim_ := Aside0.mk eim
  clear eim
  have eim := eim_
  clear eim_
  have eev_ := Aside0.mk eev
  clear eev
  have eev := eev_
  clear eev_
  have ehv_ := Aside0.mk ehv
  clear ehv
  have ehv := ehv_
  clear ehv_
  have hmv_ := Aside0.mk hmv
  clear hmv
  have hmv := hmv_
  clear hmv_
  have hLv_ := Aside0.mk hLv
  clear hLv
  have hLv := hLv_
  clear hLv_
  have nm0 : decide (((((1 + x0.length) : Nat) : Int)) < 0) = false := decide_eq_false (Int.not_lt.2 (Int.natCast_nonneg _))
  have nm1 : decide (((((endH x1 (1 + x0.length)) : Nat) : Int)) < 0) = false := decide_eq_false (Int.not_lt.2 (Int.natCast_nonneg _))
  have nv : decide (((((endH v 1) : Nat) : Int)) < 0) = false := decide_eq_false (Int.not_lt.2 (Int.natCast_nonneg _))
  have HB := Aside0.mk (Below.refl w.heap.size w)
  go_enter Try.func12, Try.ntmps12
  go_wp2_with fail
  refine (laws_szStringS.calls k A0 c0 l0 1048576 s0 _ (Kd.C_below hr0.out HB.out) hc0.out es0.out).mono ?_
  rintro e w1 ⟨rfl, hb0⟩
  have hb : Below w.heap.size w w1 := by first | exact hb0 | (obtain ⟨nd_, e_⟩ := hb0; rw [e_]; exact pw_below_drewN (Below.refl _ _) nd_)
  clear hb0
  have HB_ := Aside0.mk (below_step HB.out hb)
  have Zw1 := Aside0.mk hb.size
  clear HB hb
  have HB := HB_
  clear HB_
  go_wp2_with fail
  refine (laws_szHunkS.calls k A1 c1 l1 s0 s1 _ (Kd.C_below hr1.out HB.out) hc1.out es1.out).mono ?_
  rintro e w2 ⟨rfl, hb0⟩
  have hb : Below w1.heap.size w1 w2 := by first | exact hb0 | (obtain ⟨nd_, e_⟩ := hb0; rw [e_]; exact pw_below_drewN (Below.refl _ _) nd_)
  clear hb0
  have HB_ := Aside0.mk (below_step HB.out hb)
  have Zw2 := Aside0.mk hb.size
  clear HB hb
  have HB := HB_
  clear HB_
  go_wp2_with fail
  refine (laws_toStringS.calls k A0 c0 l0 x0 _ (Kd.C_below hr0.out HB.out) hc0.out et0.out).mono ?_
  rintro e w3 ⟨vv, rfl, ho, hb⟩
  obtain ⟨AY0, cY0, rfl⟩ := Kd.R_slice ho
  have Y0 := Aside0.mk (Kd.R_mono (ok' := fun k_ => w2.heap.size ≤ k_ ∧ k_ < w3.heap.size) (Kd.R_lower (Kd.R_bound ho) HB.out.size) (fun k_ h_ => ⟨h_.2.1, h_.2.2.1⟩))
  clear ho
  have HB_ := Aside0.mk (below_step HB.out hb)
  have Zw3 := Aside0.mk hb.size
  clear HB hb
  have HB := HB_
  clear HB_
  go_wp2_with fail
  refine (laws_toHunkS.calls k A1 c1 l1 x1 _ (Kd.C_below hr1.out HB.out) hc1.out et1.out).mono ?_
  rintro e w4 ⟨vv, rfl, ho, hb⟩
  obtain ⟨AY1, cY1, rfl⟩ := Kd.S_slice ho
  have Y0_ := Aside0.mk (Kd.R_below Y0.out hb)
  clear Y0
  have Y0 := Y0_
  clear Y0_
  have Y1 := Aside0.mk (Kd.S_mono (ok' := fun k_ => w3.heap.size ≤ k_ ∧ k_ < w4.heap.size) (Kd.S_lower (Kd.S_bound ho) HB.out.size) (fun k_ h_ => ⟨h_.2.1, h_.2.2.1⟩))
  clear ho
  have HB_ := Aside0.mk (below_step HB.out hb)
  have Zw4 := Aside0.mk hb.size
  clear HB hb
  have HB := HB_
  clear HB_
  go_wp2_with fail
  refine (spec_BackHunks.calls k AY0 cY0 x0 AY1 cY1 x1 v b _ (Kd.R_reads' Y0.out).2.2 (Kd.R_reads' Y0.out).2.1 (Kd.S_reads' Y1.out).2.2 (Kd.S_reads' Y1.out).2.1 esp.out).mono ?_
  rintro e w5 ⟨vv, rfl, ho, hb⟩
  obtain ⟨AVW, cVW, rfl⟩ := Kd.S_slice ho
  have Y0_ := Aside0.mk (Kd.R_below Y0.out hb)
  clear Y0
  have Y0 := Y0_
  clear Y0_
  have Y1_ := Aside0.mk (Kd.S_below Y1.out hb)
  clear Y1
  have Y1 := Y1_
  clear Y1_
  have VW := Aside0.mk (Kd.S_mono (ok' := fun k_ => w4.heap.size ≤ k_ ∧ k_ < w5.heap.size) (Kd.S_lower (Kd.S_bound ho) HB.out.size) (fun k_ h_ => ⟨h_.2.1, h_.2.2.1⟩))
  clear ho
  have HB_ := Aside0.mk (below_step HB.out hb)
  have Zw5 := Aside0.mk hb.size
  clear HB hb
  have HB := HB_
  clear HB_
  clear Y0
  clear Y1
  go_wp2_with fail
  refine (laws_toStringS.calls k A0 c0 l0 x0 _ (Kd.C_below hr0.out HB.out) hc0.out et0.out).mono ?_
  rintro e w6 ⟨vv, rfl, ho, hb⟩
  obtain ⟨AX0, cX0, rfl⟩ := Kd.R_slice ho
  have VW_ := Aside0.mk (Kd.S_below VW.out hb)
  clear VW
  have VW := VW_
  clear VW_
  have X0 := Aside0.mk (Kd.R_mono (ok' := fun k_ => w5.heap.size ≤ k_ ∧ k_ < w6.heap.size) (Kd.R_lower (Kd.R_bound ho) HB.out.size) (fun k_ h_ => ⟨h_.2.1, h_.2.2.1⟩))
  clear ho
  have HB_ := Aside0.mk (below_step HB.out hb)
  have Zw6 := Aside0.mk hb.size
  clear HB hb
  have HB := HB_
  clear HB_
  go_wp2_with fail
  refine (laws_toHunkS.calls k A1 c1 l1 x1 _ (Kd.C_below hr1.out HB.out) hc1.out et1.out).mono ?_
  rintro e w7 ⟨vv, rfl, ho, hb⟩
  obtain ⟨AX1, cX1, rfl⟩ := Kd.S_slice ho
  have VW_ := Aside0.mk (Kd.S_below VW.out hb)
  clear VW
  have VW := VW_
  clear VW_
  have X0_ := Aside0.mk (Kd.R_below X0.out hb)
  clear X0
  have X0 := X0_
  clear X0_
  have X1 := Aside0.mk (Kd.S_mono (ok' := fun k_ => w6.heap.size ≤ k_ ∧ k_ < w7.heap.size) (Kd.S_lower (Kd.S_bound ho) HB.out.size) (fun k_ h_ => ⟨h_.2.1, h_.2.2.1⟩))
  clear ho
  have HB_ := Aside0.mk (below_step HB.out hb)
  have Zw7 := Aside0.mk hb.size
  clear HB hb
  have HB := HB_
  clear HB_
  go_wp2_with fail
  refine (impl_BackHunks.calls k AX0 cX0 x0 AX1 cX1 x1 v b _ (Kd.R_reads' X0.out).2.2 (Kd.R_reads' X0.out).2.1 (Kd.S_reads' X1.out).2.2 (Kd.S_reads' X1.out).2.1 eim.out).mono ?_
  rintro e w8 ⟨vv, rfl, ho, hb⟩
  obtain ⟨AVG, cVG, rfl⟩ := Kd.S_slice ho
  have VW_ := Aside0.mk (Kd.S_below VW.out hb)
  clear VW
  have VW := VW_
  clear VW_
  have X0_ := Aside0.mk (Kd.R_below X0.out hb)
  clear X0
  have X0 := X0_
  clear X0_
  have X1_ := Aside0.mk (Kd.S_below X1.out hb)
  clear X1
  have X1 := X1_
  clear X1_
  have VG := Aside0.mk (Kd.S_mono (ok' := fun k_ => w7.heap.size ≤ k_ ∧ k_ < w8.heap.size) (Kd.S_lower (Kd.S_bound ho) HB.out.size) (fun k_ h_ => ⟨h_.2.1, h_.2.2.1⟩))
  clear ho
  have HB_ := Aside0.mk (below_step HB.out hb)
  have Zw8 := Aside0.mk hb.size
  clear HB hb
  have HB := HB_
  clear HB_
  go_wp2_with fail
  refine (laws_eqHunkS.calls k AVG cVG v AVW cVW v true _ (Kd.S_reads' VG.out).2.2 (Kd.S_reads' VG.out).2.1 (Kd.S_reads' VW.out).2.2 (Kd.S_reads' VW.out).2.1 eev.out).mono ?_
  rintro e w9 ⟨rfl, hb0⟩
  have hb : Below w8.heap.size w8 w9 := by first | exact hb0 | (obtain ⟨nd_, e_⟩ := hb0; rw [e_]; exact pw_below_drewN (Below.refl _ _) nd_)
  clear hb0
  have VW_ := Aside0.mk (Kd.S_below VW.out hb)
  clear VW
  have VW := VW_
  clear VW_
  have X0_ := Aside0.mk (Kd.R_below X0.out hb)
  clear X0
  have X0 := X0_
  clear X0_
  have X1_ := Aside0.mk (Kd.S_below X1.out hb)
  clear X1
  have X1 := X1_
  clear X1_
  have VG_ := Aside0.mk (Kd.S_below VG.out hb)
  clear VG
  have VG := VG_
  clear VG_
  have HB_ := Aside0.mk (below_step HB.out hb)
  have Zw9 := Aside0.mk hb.size
  clear HB hb
  have HB := HB_
  clear HB_
  go_wp2_with fail
  refine (laws_toStringS.calls k A0 c0 l0 x0 _ (Kd.C_below hr0.out HB.out) hc0.out et0.out).mono ?_
  rintro e w10 ⟨vv, rfl, ho, hb⟩
  obtain ⟨AQ0, cQ0, rfl⟩ := Kd.R_slice ho
  have VW_ := Aside0.mk (Kd.S_below VW.out hb)
  clear VW
  have VW := VW_
  clear VW_
  have X0_ := Aside0.mk (Kd.R_below X0.out hb)
  clear X0
  have X0 := X0_
  clear X0_
  have X1_ := Aside0.mk (Kd.S_below X1.out hb)
  clear X1
  have X1 := X1_
  clear X1_
  have VG_ := Aside0.mk (Kd.S_below VG.out hb)
  clear VG
  have VG := VG_
  clear VG_
  have Q0 := Aside0.mk (Kd.R_mono (ok' := fun k_ => w9.heap.size ≤ k_ ∧ k_ < w10.heap.size) (Kd.R_lower (Kd.R_bound ho) HB.out.size) (fun k_ h_ => ⟨h_.2.1, h_.2.2.1⟩))
  clear ho
  have HB_ := Aside0.mk (below_step HB.out hb)
  have Zw10 := Aside0.mk hb.size
  clear HB hb
  have HB := HB_
  clear HB_
  go_wp2_with fail
  refine (laws_eqStringS.calls k AX0 cX0 x0 AQ0 cQ0 x0 true _ (Kd.R_reads' X0.out).2.2 (Kd.R_reads' X0.out).2.1 (Kd.R_reads' Q0.out).2.2 (Kd.R_reads' Q0.out).2.1 ee0.out).mono ?_
  rintro e w11 ⟨rfl, hb0⟩
  have hb : Below w10.heap.size w10 w11 := by first | exact hb0 | (obtain ⟨nd_, e_⟩ := hb0; rw [e_]; exact pw_below_drewN (Below.refl _ _) nd_)
  clear hb0
  have VW_ := Aside0.mk (Kd.S_below VW.out hb)
  clear VW
  have VW := VW_
  clear VW_
  have X0_ := Aside0.mk (Kd.R_below X0.out hb)
  clear X0
  have X0 := X0_
  clear X0_
  have X1_ := Aside0.mk (Kd.S_below X1.out hb)
  clear X1
  have X1 := X1_
  clear X1_
  have VG_ := Aside0.mk (Kd.S_below VG.out hb)
  clear VG
  have VG := VG_
  clear VG_
  have Q0_ := Aside0.mk (Kd.R_below Q0.out hb)
  clear Q0
  have Q0 := Q0_
  clear Q0_
  have HB_ := Aside0.mk (below_step HB.out hb)
  have Zw11 := Aside0.mk hb.size
  clear HB hb
  have HB := HB_
  clear HB_
  clear Q0
  go_wp2_with fail
  refine (laws_toHunkS.calls k A1 c1 l1 x1 _ (Kd.C_below hr1.out HB.out) hc1.out et1.out).mono ?_
  rintro e w12 ⟨vv, rfl, ho, hb⟩
  obtain ⟨AQ1, cQ1, rfl⟩ := Kd.S_slice ho
  have VW_ := Aside0.mk (Kd.S_below VW.out hb)
  clear VW
  have VW := VW_
  clear VW_
  have X0_ := Aside0.mk (Kd.R_below X0.out hb)
  clear X0
  have X0 := X0_
  clear X0_
  have X1_ := Aside0.mk (Kd.S_below X1.out hb)
  clear X1
  have X1 := X1_
  clear X1_
  have VG_ := Aside0.mk (Kd.S_below VG.out hb)
  clear VG
  have VG := VG_
  clear VG_
  have Q1 := Aside0.mk (Kd.S_mono (ok' := fun k_ => w11.heap.size ≤ k_ ∧ k_ < w12.heap.size) (Kd.S_lower (Kd.S_bound ho) HB.out.size) (fun k_ h_ => ⟨h_.2.1, h_.2.2.1⟩))
  clear ho
  have HB_ := Aside0.mk (below_step HB.out hb)
  have Zw12 := Aside0.mk hb.size
  clear HB hb
  have HB := HB_
  clear HB_
  go_wp2_with fail
  refine (laws_eqHunkS.calls k AX1 cX1 x1 AQ1 cQ1 x1 true _ (Kd.S_reads' X1.out).2.2 (Kd.S_reads' X1.out).2.1 (Kd.S_reads' Q1.out).2.2 (Kd.S_reads' Q1.out).2.1 ee1.out).mono ?_
  rintro e w13 ⟨rfl, hb0⟩
  have hb : Below w12.heap.size w12 w13 := by first | exact hb0 | (obtain ⟨nd_, e_⟩ := hb0; rw [e_]; exact pw_below_drewN (Below.refl _ _) nd_)
  clear hb0
  have VW_ := Aside0.mk (Kd.S_below VW.out hb)
  clear VW
  have VW := VW_
  clear VW_
  have X0_ := Aside0.mk (Kd.R_below X0.out hb)
  clear X0
  have X0 := X0_
  clear X0_
  have X1_ := Aside0.mk (Kd.S_below X1.out hb)
  clear X1
  have X1 := X1_
  clear X1_
  have VG_ := Aside0.mk (Kd.S_below VG.out hb)
  clear VG
  have VG := VG_
  clear VG_
  have Q1_ := Aside0.mk (Kd.S_below Q1.out hb)
  clear Q1
  have Q1 := Q1_
  clear Q1_
  have HB_ := Aside0.mk (below_step HB.out hb)
  have Zw13 := Aside0.mk hb.size
  clear HB hb
  have HB := HB_
  clear HB_
  clear Q1
  go_wp2_with fail
  refine (laws_markStringS.calls k (fun k_ => w5.heap.size ≤ k_ ∧ k_ < w6.heap.size) _ x0 _ _ _ w _ HB.out X0.out em0.out).mono ?_
  rintro e w14 ⟨rfl, hR, hb, hk⟩
  have VW_ := Aside0.mk (Kd.S_kept VW.out hk (fun k_ h1_ h2_ => Nat.lt_irrefl k_ (Nat.lt_of_lt_of_le h1_.2 (Nat.le_trans (Nat.le_refl _) h2_.1))))
  clear VW
  have VW := VW_
  clear VW_
  have X1_ := Aside0.mk (Kd.S_kept X1.out hk (fun k_ h1_ h2_ => Nat.lt_irrefl k_ (Nat.lt_of_lt_of_le h2_.2 (Nat.le_trans (Nat.le_refl _) h1_.1))))
  clear X1
  have X1 := X1_
  clear X1_
  have VG_ := Aside0.mk (Kd.S_kept VG.out hk (fun k_ h1_ h2_ => Nat.lt_irrefl k_ (Nat.lt_of_lt_of_le h2_.2 (Nat.le_trans (Nat.le_trans (Nat.le_refl _) Zw7.out) h1_.1))))
  clear VG
  have VG := VG_
  clear VG_
  clear X0 hR
  have Zw14 := Aside0.mk hk.1
  clear hk HB
  have HB := Aside0.mk hb
  clear hb
  go_wp2_with fail
  refine (laws_markHunkS_made (fun k_ => w6.heap.size ≤ k_ ∧ k_ < w7.heap.size) _ x1 (1 + x0.length) w _ hm1.out hL1.out HB.out X1.out).mono ?_
  rintro e w15 ⟨rfl, hR, hb, hk⟩
  have VW_ := Aside0.mk (Kd.S_kept VW.out hk (fun k_ h1_ h2_ => Nat.lt_irrefl k_ (Nat.lt_of_lt_of_le h1_.2 (Nat.le_trans (Nat.le_trans (Nat.le_refl _) Zw6.out) h2_.1))))
  clear VW
  have VW := VW_
  clear VW_
  have VG_ := Aside0.mk (Kd.S_kept VG.out hk (fun k_ h1_ h2_ => Nat.lt_irrefl k_ (Nat.lt_of_lt_of_le h2_.2 (Nat.le_trans (Nat.le_refl _) h1_.1))))
  clear VG
  have VG := VG_
  clear VG_
  clear X1 hR
  have Zw15 := Aside0.mk hk.1
  clear hk HB
  have HB := Aside0.mk hb
  clear hb
  go_wp2_with fail
  refine (laws_eqHunkS.calls k AVG cVG v AVW cVW v true _ (Kd.S_reads' VG.out).2.2 (Kd.S_reads' VG.out).2.1 (Kd.S_reads' VW.out).2.2 (Kd.S_reads' VW.out).2.1 eev.out).mono ?_
  rintro e w16 ⟨rfl, hb0⟩
  have hb : Below w15.heap.size w15 w16 := by first | exact hb0 | (obtain ⟨nd_, e_⟩ := hb0; rw [e_]; exact pw_below_drewN (Below.refl _ _) nd_)
  clear hb0
  have VW_ := Aside0.mk (Kd.S_below VW.out hb)
  clear VW
  have VW := VW_
  clear VW_
  have VG_ := Aside0.mk (Kd.S_below VG.out hb)
  clear VG
  have VG := VG_
  clear VG_
  have HB_ := Aside0.mk (below_step HB.out hb)
  have Zw16 := Aside0.mk hb.size
  clear HB hb
  have HB := HB_
  clear HB_
  go_wp2_with fail
  refine (laws_markHunkS_made (fun k_ => w7.heap.size ≤ k_ ∧ k_ < w8.heap.size) _ v 1 w _ hmv.out hLv.out HB.out VG.out).mono ?_
  rintro e w17 ⟨rfl, hR, hb, hk⟩
  have VW_ := Aside0.mk (Kd.S_kept VW.out hk (fun k_ h1_ h2_ => Nat.lt_irrefl k_ (Nat.lt_of_lt_of_le h1_.2 (Nat.le_trans (Nat.le_trans (Nat.le_trans (Nat.le_refl _) Zw6.out) Zw7.out) h2_.1))))
  clear VW
  have VW := VW_
  clear VW_
  have VG_ := Aside0.mk hR
  clear VG hR
  have VG := VG_
  clear VG_
  have Zw17 := Aside0.mk hk.1
  clear hk HB
  have HB := Aside0.mk hb
  clear hb
  go_wp2_with fail
  have eLen := (Kd.S_reads' VG.out).1
  refine calls_of_args (args' := #[.slice AVG ((mkHs v 1) : List IH).length cVG, .int .i64 1]) (by rw [← eLen]) ?_
  refine (laws_heldHunkS.calls k AVG cVG (mkHs v 1) 1 _ _ (Kd.S_reads' VG.out).2.2 (by rw [← eLen]; exact (Kd.S_reads' VG.out).2.1) ehv.out).mono ?_
  rintro e w18 ⟨rfl, hb0⟩
  clear eLen
  have hb : Below w17.heap.size w17 w18 := by first | exact hb0 | (obtain ⟨nd_, e_⟩ := hb0; rw [e_]; exact pw_below_drewN (Below.refl _ _) nd_)
  clear hb0
  have VW_ := Aside0.mk (Kd.S_below VW.out hb)
  clear VW
  have VW := VW_
  clear VW_
  have VG_ := Aside0.mk (Kd.S_below VG.out hb)
  clear VG
  have VG := VG_
  clear VG_
  have HB_ := Aside0.mk (below_step HB.out hb)
  have Zw18 := Aside0.mk hb.size
  clear HB hb
  have HB := HB_
  clear HB_
  go_wp2_with fail
  refine (laws_toStringS.calls k A0 c0 l0 x0 _ (Kd.C_below hr0.out HB.out) hc0.out et0.out).mono ?_
  rintro e w19 ⟨vv, rfl, ho, hb⟩
  obtain ⟨AY0, cY0, rfl⟩ := Kd.R_slice ho
  have VW_ := Aside0.mk (Kd.S_below VW.out hb)
  clear VW
  have VW := VW_
  clear VW_
  have VG_ := Aside0.mk (Kd.S_below VG.out hb)
  clear VG
  have VG := VG_
  clear VG_
  have Y0 := Aside0.mk (Kd.R_mono (ok' := fun k_ => w18.heap.size ≤ k_ ∧ k_ < w19.heap.size) (Kd.R_lower (Kd.R_bound ho) HB.out.size) (fun k_ h_ => ⟨h_.2.1, h_.2.2.1⟩))
  clear ho
  have HB_ := Aside0.mk (below_step HB.out hb)
  have Zw19 := Aside0.mk hb.size
  clear HB hb
  have HB := HB_
  clear HB_
  go_wp2_with fail
  refine (laws_toHunkS.calls k A1 c1 l1 x1 _ (Kd.C_below hr1.out HB.out) hc1.out et1.out).mono ?_
  rintro e w20 ⟨vv, rfl, ho, hb⟩
  obtain ⟨AY1, cY1, rfl⟩ := Kd.S_slice ho
  have VW_ := Aside0.mk (Kd.S_below VW.out hb)
  clear VW
  have VW := VW_
  clear VW_
  have VG_ := Aside0.mk (Kd.S_below VG.out hb)
  clear VG
  have VG := VG_
  clear VG_
  have Y0_ := Aside0.mk (Kd.R_below Y0.out hb)
  clear Y0
  have Y0 := Y0_
  clear Y0_
  have Y1 := Aside0.mk (Kd.S_mono (ok' := fun k_ => w19.heap.size ≤ k_ ∧ k_ < w20.heap.size) (Kd.S_lower (Kd.S_bound ho) HB.out.size) (fun k_ h_ => ⟨h_.2.1, h_.2.2.1⟩))
  clear ho
  have HB_ := Aside0.mk (below_step HB.out hb)
  have Zw20 := Aside0.mk hb.size
  clear HB hb
  have HB := HB_
  clear HB_
  go_wp2_with fail
  refine (impl_BackHunks.calls k AY0 cY0 x0 AY1 cY1 x1 v b _ (Kd.R_reads' Y0.out).2.2 (Kd.R_reads' Y0.out).2.1 (Kd.S_reads' Y1.out).2.2 (Kd.S_reads' Y1.out).2.1 eim.out).mono ?_
  rintro e w21 ⟨vv, rfl, ho, hb⟩
  obtain ⟨AVH, cVH, rfl⟩ := Kd.S_slice ho
  have VW_ := Aside0.mk (Kd.S_below VW.out hb)
  clear VW
  have VW := VW_
  clear VW_
  have VG_ := Aside0.mk (Kd.S_below VG.out hb)
  clear VG
  have VG := VG_
  clear VG_
  have Y0_ := Aside0.mk (Kd.R_below Y0.out hb)
  clear Y0
  have Y0 := Y0_
  clear Y0_
  have Y1_ := Aside0.mk (Kd.S_below Y1.out hb)
  clear Y1
  have Y1 := Y1_
  clear Y1_
  have VH := Aside0.mk (Kd.S_mono (ok' := fun k_ => w20.heap.size ≤ k_ ∧ k_ < w21.heap.size) (Kd.S_lower (Kd.S_bound ho) HB.out.size) (fun k_ h_ => ⟨h_.2.1, h_.2.2.1⟩))
  clear ho
  have HB_ := Aside0.mk (below_step HB.out hb)
  have Zw21 := Aside0.mk hb.size
  clear HB hb
  have HB := HB_
  clear HB_
  clear Y0
  clear Y1
  go_wp2_with fail
  refine (laws_eqHunkS.calls k AVH cVH v AVW cVW v true _ (Kd.S_reads' VH.out).2.2 (Kd.S_reads' VH.out).2.1 (Kd.S_reads' VW.out).2.2 (Kd.S_reads' VW.out).2.1 eev.out).mono ?_
  rintro e w22 ⟨rfl, hb0⟩
  have hb : Below w21.heap.size w21 w22 := by first | exact hb0 | (obtain ⟨nd_, e_⟩ := hb0; rw [e_]; exact pw_below_drewN (Below.refl _ _) nd_)
  clear hb0
  have VW_ := Aside0.mk (Kd.S_below VW.out hb)
  clear VW
  have VW := VW_
  clear VW_
  have VG_ := Aside0.mk (Kd.S_below VG.out hb)
  clear VG
  have VG := VG_
  clear VG_
  have VH_ := Aside0.mk (Kd.S_below VH.out hb)
  clear VH
  have VH := VH_
  clear VH_
  have HB_ := Aside0.mk (below_step HB.out hb)
  have Zw22 := Aside0.mk hb.size
  clear HB hb
  have HB := HB_
  clear HB_
  clear VH VW
  go_wp2_with fail
  have eLen := (Kd.S_reads' VG.out).1
  refine calls_of_args (args' := #[.slice AVG ((mkHs v 1) : List IH).length cVG, .int .i64 1]) (by rw [← eLen]) ?_
  refine (laws_heldHunkS.calls k AVG cVG (mkHs v 1) 1 _ _ (Kd.S_reads' VG.out).2.2 (by rw [← eLen]; exact (Kd.S_reads' VG.out).2.1) ehv.out).mono ?_
  rintro e w23 ⟨rfl, hb0⟩
  clear eLen
  have hb : Below w22.heap.size w22 w23 := by first | exact hb0 | (obtain ⟨nd_, e_⟩ := hb0; rw [e_]; exact pw_below_drewN (Below.refl _ _) nd_)
  clear hb0
  have VG_ := Aside0.mk (Kd.S_below VG.out hb)
  clear VG
  have VG := VG_
  clear VG_
  have HB_ := Aside0.mk (below_step HB.out hb)
  have Zw23 := Aside0.mk hb.size
  clear HB hb
  have HB := HB_
  clear HB_
  go_wp2
  go_ret
  exact ⟨rfl, HB.out⟩
end Go.Proofs.Ytbbkecdlapemfaa.My

/- Plain Lean: whether a number lies between two. No condition. -/
namespace Go.Proofs.Ytbbkecdlapemfaa.Pl
open Go.RowKit Go.Proofs.YtbbkecdlapemfaaW.PrintWords Go.Proofs.YtbbkecdlapemfaaW.PrintLast Go.Proofs.Ytbbkecdlapemfaa.My
set_option linter.unusedVariables false
set_option linter.unusedSimpArgs false

def inB (n lo hi : Int) : Bool := decide (lo ≤ n) && decide (n ≤ hi)
theorem impl_in_eq (a b c : Int) : impl_in.f a b c = some (inB a b c) := by
  unfold impl_in.f inB
  by_cases h : b ≤ a
  · rw [if_pos h]; simp [h]
  · rw [if_neg (by omega)]; simp [h]
theorem spec_l1In_eq (a b c : Int) : spec_l1In.f a b c = some (inB a b c) := by
  unfold spec_l1In.f inB
  by_cases h : b ≤ a
  · rw [if_pos h]; simp [h]
  · rw [if_neg (by omega)]; simp [h]
end Go.Proofs.Ytbbkecdlapemfaa.Pl

/- Plain Lean: chapter 1: what a line and good lines are, for the program and the reference. Conditions: lengths and sizes below 2^63. -/
namespace Go.Proofs.Ytbbkecdlapemfaa.Pl
open Go.RowKit Go.Proofs.YtbbkecdlapemfaaW.PrintWords Go.Proofs.YtbbkecdlapemfaaW.PrintLast Go.Proofs.Ytbbkecdlapemfaa.My
set_option linter.unusedVariables false
set_option linter.unusedSimpArgs false

/-- A line. -/
def isLn (s : ByteArray) : Bool := !(s.data.toList.dropLast.contains 10) && inB s.size 1 30
/-- Its last byte is 10. -/
def ends (s : ByteArray) : Bool := s.data.toList.getLast? == some 10
def good (l : List ByteArray) : Bool := decide (l.length ≤ 40) && (l.all isLn && l.dropLast.all ends)

theorem toList_one (c : UInt8) : (⟨#[c]⟩ : ByteArray).toList = [c] := by rw [Lib.toList_data]
theorem size_one (c : UInt8) : (⟨#[c]⟩ : ByteArray).size = 1 := rfl
theorem bt_one (c : UInt8) : bt ⟨#[c]⟩ 0 = (c.toNat : Int) := rfl

theorem index_ev (s : ByteArray) (c : UInt8) : Ev (fun k => strings_Index.f k s ⟨#[c]⟩) (Lib.indexByte s.data.toList c) := by
  have hj : ∀ b : Bool, (b = true → Lib.indexByte s.data.toList c = 0) → Ev (fun k => stringslite_Index.j0 k s ⟨#[c]⟩ 1 b) (Lib.indexByte s.data.toList c) := by
    intro b hb
    refine Ev.step (fun k => stringslite_Index.j0.eq_2 ..) ?_
    refine ev_ite (fun h => ev_some (hb h).symm) (fun _ => ?_)
    refine ev_pos rfl (ev_pos (by rw [size_one]; decide) ?_)
    refine ev_const ?_
    rw [bt_one]
    simp [stringslite_IndexByte.f]
  have h2 : Ev (fun k => stringslite_Index.f k s ⟨#[c]⟩) (Lib.indexByte s.data.toList c) := by
    simp only [stringslite_Index.f]
    refine ev_neg (by rw [size_one]; decide) ?_
    refine hj _ (fun h => ?_)
    have e : s.data.toList = [c] := by
      have := beq_iff_eq.1 h
      rw [toList_one, Lib.toList_data] at this
      exact this.symm
    rw [e]
    simp [Lib.indexByte]
  simp only [strings_Index.f]
  exact ev_bind h2 (ev_some rfl)

theorem indexByte_nonneg (l : List UInt8) (c : UInt8) : decide (Lib.indexByte l c ≥ 0) = l.contains c := by
  induction l with
  | nil => simp [Lib.indexByte]
  | cons b l ih =>
    have hge := Lib.indexByte_ge l c
    unfold Lib.indexByte
    by_cases h : (b == c) = true
    · have : b = c := beq_iff_eq.1 h
      simp [this]
    · have hb : (b == c) = false := by simpa using h
      have hne : ¬ c = b := fun e => h (by simp [e])
      rw [List.contains_cons, ← ih]
      simp only [hb]
      by_cases h2 : Lib.indexByte l c = -1
      · simp [h2, hne]
      · have h3 : (Lib.indexByte l c == -1) = false := by simpa using h2
        simp only [h3]
        have : Lib.indexByte l c ≥ 0 := by omega
        simp [hne, this]
        omega

theorem contains_ev (s : ByteArray) (c : UInt8) : Ev (fun k => strings_Contains.f k s ⟨#[c]⟩) (s.data.toList.contains c) := by
  simp only [strings_Contains.f]
  exact ev_bind (index_ev s c) (ev_some (indexByte_nonneg _ _))

theorem extract_data (s : ByteArray) (a b : Nat) : (s.extract a b).data.toList = (s.data.toList.take b).drop a := by
  rw [ByteArray.data_extract, Array.toList_extract, List.extract_eq_take_drop, ← List.drop_take]

theorem isLine_ev (s : ByteArray) (hs : s.size ≤ 9223372036854775807) : Ev (fun k => impl_isLine.f k s) (isLn s) := by
  simp only [impl_isLine.f, impl_in_eq, Option.bind_some]
  refine ev_ite (fun h => ?_) (fun h => ev_some (by unfold isLn; simp at h; simp [h]))
  have h1 : 1 ≤ s.size ∧ s.size ≤ 30 := by
    simp [inB] at h
    omega
  rw [wrap_pred s.size (by omega) hs]
  refine ev_pos (by omega) (ev_pos (by omega) ?_)
  refine ev_bind (contains_ev _ 10) (ev_some ?_)
  rw [Int.toNat_natCast, extract_data, List.drop_zero, ← data_length, ← List.dropLast_eq_take]
  unfold isLn
  rw [h]
  simp

theorem l1Line_l0 (s : ByteArray) (hs : s.size ≤ 9223372036854775807) : ∀ d i, i + d = s.size - 1 → Ev (fun k => spec_l1Line.l0 k s (i : Int)) (!((s.data.toList.dropLast.drop i).contains 10) && inB s.size 1 30) := by
  intro d
  have hl : s.data.toList.length = s.size := data_length s
  induction d with
  | zero =>
    intro i hi
    refine Ev.step (fun k => spec_l1Line.l0.eq_2 ..) ?_
    refine ev_neg (by rw [wrap64_id (by omega) (by omega)]; omega) ?_
    refine ev_const ?_
    rw [spec_l1In_eq, List.drop_of_length_le (by rw [List.length_dropLast]; omega)]
    rfl
  | succ d ih =>
    intro i hi
    refine Ev.step (fun k => spec_l1Line.l0.eq_2 ..) ?_
    refine ev_pos (by rw [wrap64_id (by omega) (by omega)]; omega) (ev_pos (by omega) (ev_pos (by omega) ?_))
    have hd : s.data.toList.dropLast.drop i = s.data.toList[i] :: s.data.toList.dropLast.drop (i + 1) := by
      rw [List.drop_eq_getElem_cons (by rw [List.length_dropLast]; omega), List.getElem_dropLast]
    rw [hd, List.contains_cons, bt_nat s i (by omega)]
    refine ev_ite (fun h => ev_some ?_) (fun h => ?_)
    · have : s.data.toList[i] = 10 := u8_eq h
      rw [this]
      simp
    · rw [wrap_succ i (by omega)]
      refine ev_to (ih (i + 1) (by omega)) ?_
      have : ((10 : UInt8) == s.data.toList[i]) = false := by
        rw [beq_eq_false_iff_ne]
        exact u8_ne h
      rw [this, Bool.false_or]

theorem l1Line_ev (s : ByteArray) (hs : s.size ≤ 9223372036854775807) : Ev (fun k => spec_l1Line.f k s) (isLn s) := by
  simp only [spec_l1Line.f]
  exact l1Line_l0 s hs (s.size - 1) 0 (by omega)

theorem isLn_size {s : ByteArray} (h : isLn s = true) : 1 ≤ s.size ∧ s.size ≤ 30 := by
  simp [isLn, inB] at h
  omega

theorem ends_last {s : ByteArray} (h : 1 ≤ s.size) : ends s = (bt s ((s.size - 1 : Nat) : Int) == 10) := by
  have hl : s.data.toList.length = s.size := data_length s
  have hq : s.data.toList.getLast? = some (s.data.toList[s.size - 1]'(by omega)) := by
    rw [List.getLast?_eq_getElem?, List.getElem?_eq_getElem (by omega)]
    simp only [hl]
  unfold ends
  rw [bt_nat s _ (by omega), hq]
  rw [Bool.eq_iff_iff]
  simp only [beq_iff_eq, Option.some.injEq]
  constructor
  · intro e; rw [e]; rfl
  · intro e; exact u8_eq e

theorem l1Ends_eq (s : ByteArray) (h : 1 ≤ s.size) (hs : s.size ≤ 9223372036854775807) : spec_l1Ends.f s = some (ends s) := by
  unfold spec_l1Ends.f
  rw [wrap_pred s.size (by omega) hs, if_pos (by omega), if_pos (by omega), ends_last h]

theorem hasSuffix_eq (s : ByteArray) (c : UInt8) (hs : s.size ≤ 9223372036854775807) : strings_HasSuffix.f s ⟨#[c]⟩ = some (s.data.toList.getLast? == some c) := by
  have hl : s.data.toList.length = s.size := data_length s
  unfold strings_HasSuffix.f stringslite_HasSuffix.f
  rw [size_one]
  by_cases h : 1 ≤ s.size
  · rw [if_pos (by omega), show ((1 : Nat) : Int) = 1 from rfl, wrap_pred s.size (by omega) hs, if_pos (by omega), if_pos (by omega), Option.bind_some, toList_one, Lib.toList_data, Int.toNat_natCast, extract_data, ← hl, List.take_length]
    have e : s.data.toList.drop (s.data.toList.length - 1) = [s.data.toList[s.data.toList.length - 1]'(by omega)] := by
      rw [List.drop_eq_getElem_cons (by omega), List.drop_of_length_le (by omega)]
    rw [e, List.getLast?_eq_getElem?, List.getElem?_eq_getElem (by omega)]
    congr 1
    rw [Bool.eq_iff_iff]
    simp
  · rw [if_neg (by omega), Option.bind_some]
    have : s.data.toList = [] := List.eq_nil_of_length_eq_zero (by omega)
    simp [this]

theorem isEnded_eq (s : ByteArray) (hs : s.size ≤ 9223372036854775807) : impl_isEnded.f s = some (ends s) := by
  unfold impl_isEnded.f
  rw [hasSuffix_eq s 10 hs]
  rfl

theorem areLines_l0 (l : List ByteArray) (hf : FitS l) : ∀ d i, i + d = l.length → ∃ j : Int, Ev (fun k => slices_IndexFunc_string_string__impl_areLines_1.l0 k l (l.length : Int) (i : Int)) j ∧ decide (j ≥ 0) = !((l.drop i).all isLn) := by
  intro d
  induction d with
  | zero =>
    intro i hi
    refine ⟨-1, Ev.step (fun k => slices_IndexFunc_string_string__impl_areLines_1.l0.eq_2 ..) (ev_neg (by omega) (ev_some rfl)), ?_⟩
    rw [List.drop_of_length_le (by omega)]
    rfl
  | succ d ih =>
    intro i hi
    have hlt : i < l.length := by omega
    have hev : Ev (fun k => impl_areLines_1.f k (rdOf ByteArray.empty l (i : Int))) (!isLn l[i]) := by
      rw [rdOf_lt _ _ _ hlt]
      simp only [impl_areLines_1.f]
      exact ev_bind (isLine_ev _ (hf.2 _ (List.getElem_mem _))) (ev_some rfl)
    obtain ⟨j, hj, hjj⟩ := ih (i + 1) (by omega)
    rw [drop_cons l i hlt, List.all_cons]
    by_cases h : isLn l[i] = true
    · refine ⟨j, Ev.step (fun k => slices_IndexFunc_string_string__impl_areLines_1.l0.eq_2 ..) (ev_pos (by omega) (ev_pos (by omega) (ev_pos (by omega) (ev_bind hev (ev_neg (by simp [h]) ?_))))), by rw [hjj, h]; simp⟩
      rw [wrap_succ i (by have := hf.1; omega)]
      exact hj
    · refine ⟨(i : Int), Ev.step (fun k => slices_IndexFunc_string_string__impl_areLines_1.l0.eq_2 ..) (ev_pos (by omega) (ev_pos (by omega) (ev_pos (by omega) (ev_bind hev (ev_pos (by simp [h]) (ev_some rfl)))))), ?_⟩
      simp [h]

theorem areLines_ev (l : List ByteArray) (hf : FitS l) : Ev (fun k => impl_areLines.f k l) (decide (l.length ≤ 40) && l.all isLn) := by
  simp only [impl_areLines.f]
  refine ev_ite (fun h => ?_) (fun h => ev_some ?_)
  · obtain ⟨j, hj, hjj⟩ := areLines_l0 l hf l.length 0 (by omega)
    simp only [slices_ContainsFunc_string_string__impl_areLines_1.f, slices_IndexFunc_string_string__impl_areLines_1.f]
    refine ev_bind (ev_bind hj (ev_some rfl)) (ev_some ?_)
    have : l.length ≤ 40 := by omega
    rw [hjj]
    simp [this]
  · have : ¬ l.length ≤ 40 := by omega
    simp [this]

theorem goodLines_l0 (l : List ByteArray) (hf : FitS l) : ∀ d i, i + d = l.length → Ev (fun k => impl_goodLines.l0 k l l (l.length : Int) (i : Int)) ((l.dropLast.drop i).all ends) := by
  intro d
  have hL := hf.1
  induction d with
  | zero =>
    intro i hi
    refine Ev.step (fun k => impl_goodLines.l0.eq_2 ..) (ev_neg (by omega) (ev_some ?_))
    rw [List.drop_of_length_le (by rw [List.length_dropLast]; omega)]
    rfl
  | succ d ih =>
    intro i hi
    have hlt : i < l.length := by omega
    refine Ev.step (fun k => impl_goodLines.l0.eq_2 ..) (ev_pos (by omega) (ev_pos (by omega) (ev_pos (by omega) ?_)))
    rw [wrap_pred l.length (by omega) hL, rdOf_lt _ _ _ hlt, isEnded_eq _ (hf.2 _ (List.getElem_mem _)), wrap_succ i (by omega)]
    simp only [Option.bind_some]
    refine ev_ite (fun h => ?_) (fun h => ?_)
    · have hd : l.dropLast.drop i = l[i] :: l.dropLast.drop (i + 1) := by
        rw [List.drop_eq_getElem_cons (by rw [List.length_dropLast]; omega), List.getElem_dropLast]
      rw [hd, List.all_cons]
      refine ev_ite (fun h => ?_) (fun h => ev_some (by simp [h]))
      rw [h, Bool.true_and]
      exact ih (i + 1) (by omega)
    · have e1 : l.dropLast.drop i = [] := List.drop_of_length_le (by rw [List.length_dropLast]; omega)
      have e2 : l.dropLast.drop (i + 1) = [] := List.drop_of_length_le (by rw [List.length_dropLast]; omega)
      have := ih (i + 1) (by omega)
      rw [e2] at this
      rw [e1]
      exact this

theorem goodLines_ev (l : List ByteArray) (hf : FitS l) : Ev (fun k => impl_goodLines.f k l) (good l) := by
  simp only [impl_goodLines.f]
  refine ev_bind (areLines_ev l hf) (ev_ite (fun h => ?_) (fun h => ev_some ?_))
  · refine ev_to (goodLines_l0 l hf l.length 0 (by omega)) ?_
    rw [List.drop_zero]
    unfold good
    rw [← Bool.and_assoc, h, Bool.true_and]
  · unfold good
    rw [← Bool.and_assoc]
    simp at h
    simp
    intro h1 h2
    exact absurd (h h1) (by simpa using h2)

theorem l1Good_l0 (l : List ByteArray) (hf : FitS l) : ∀ d i, i + d = l.length → Ev (fun k => spec_l1Good.l0 k l l (l.length : Int) (i : Int)) ((l.drop i).all isLn && (l.dropLast.drop i).all ends && decide (l.length ≤ 40)) := by
  intro d
  have hL := hf.1
  induction d with
  | zero =>
    intro i hi
    refine Ev.step (fun k => spec_l1Good.l0.eq_2 ..) (ev_neg (by omega) (ev_some ?_))
    rw [List.drop_of_length_le (by omega), List.drop_of_length_le (by rw [List.length_dropLast]; omega)]
    simp
    omega
  | succ d ih =>
    intro i hi
    have hlt : i < l.length := by omega
    refine Ev.step (fun k => spec_l1Good.l0.eq_2 ..) (ev_pos (by omega) (ev_pos (by omega) (ev_pos (by omega) ?_)))
    simp only [rdOf_lt _ _ _ hlt]
    rw [wrap_pred l.length (by omega) hL, wrap_succ i (by omega), drop_cons l i hlt, List.all_cons]
    refine ev_bind (l1Line_ev _ (hf.2 _ (List.getElem_mem _))) (ev_ite (fun h => ?_) (fun h => ev_some (by simp [h])))
    rw [h, Bool.true_and, l1Ends_eq _ (isLn_size h).1 (hf.2 _ (List.getElem_mem _))]
    simp only [Option.bind_some]
    refine ev_ite (fun h => ?_) (fun h => ?_)
    · have hd : l.dropLast.drop i = l[i] :: l.dropLast.drop (i + 1) := by
        rw [List.drop_eq_getElem_cons (by rw [List.length_dropLast]; omega), List.getElem_dropLast]
      rw [hd, List.all_cons]
      refine ev_ite (fun h => ?_) (fun h => ev_some (by simp [h]))
      rw [h, Bool.true_and]
      exact ih (i + 1) (by omega)
    · have e1 : l.dropLast.drop i = [] := List.drop_of_length_le (by rw [List.length_dropLast]; omega)
      have e2 : l.dropLast.drop (i + 1) = [] := List.drop_of_length_le (by rw [List.length_dropLast]; omega)
      have := ih (i + 1) (by omega)
      rw [e2] at this
      rw [e1]
      exact this

theorem l1Good_ev (l : List ByteArray) (hf : FitS l) : Ev (fun k => spec_l1Good.f k l) (good l) := by
  simp only [spec_l1Good.f]
  refine ev_to (l1Good_l0 l hf l.length 0 (by omega)) ?_
  rw [List.drop_zero, List.drop_zero]
  unfold good
  rw [Bool.and_comm]
end Go.Proofs.Ytbbkecdlapemfaa.Pl

/- Plain Lean: chapter 2: when hunks are good, for the program and the reference. Conditions: lengths and sizes below 2^63. -/
namespace Go.Proofs.Ytbbkecdlapemfaa.Pl
open Go.RowKit Go.Proofs.YtbbkecdlapemfaaW.PrintWords Go.Proofs.YtbbkecdlapemfaaW.PrintLast Go.Proofs.Ytbbkecdlapemfaa.My
set_option linter.unusedVariables false
set_option linter.unusedSimpArgs false

/-- What one hunk must be, the last one having ended at p. -/
def hNum (n p : Int) (x : IH) : Prop := 0 ≤ x.f0 ∧ 0 ≤ x.f1 ∧ x.f0 + x.f1 ≤ n ∧ ¬ (x.f1 = 0 ∧ x.f2.length = 0) ∧ x.f2.length ≤ 40 ∧ p < x.f0
instance (n p : Int) (x : IH) : Decidable (hNum n p x) := by unfold hNum; infer_instance
def hOK (n p : Int) (x : IH) : Bool := decide (hNum n p x) && x.f2.all isLn
/-- Each starts past the last one's end. -/
def chain (n : Int) : Int → List IH → Bool
  | _, [] => true
  | p, x :: t => hOK n p x && chain n (x.f0 + x.f1) t
def goodH (n : Int) (h : List IH) : Bool := inB n 0 40 && (decide (h.length ≤ 20) && chain n (-1) h)

/-- Where the last one before place i ended. -/
def before (n : Int) (h : List IH) (i : Nat) (p : Int) : Prop := (i = 0 ∧ p = -1) ∨ ∃ (j : Nat) (hj : j < h.length), i = j + 1 ∧ p = h[j].f0 + h[j].f1 ∧ 0 ≤ h[j].f0 ∧ 0 ≤ h[j].f1 ∧ p ≤ n

theorem chain_cons (n p : Int) (h : List IH) (i : Nat) (hi : i < h.length) : chain n p (h.drop i) = (hOK n p h[i] && chain n (h[i].f0 + h[i].f1) (h.drop (i + 1))) := by
  rw [List.drop_eq_getElem_cons hi]
  rfl

theorem inB_iff (a b c : Int) : inB a b c = true ↔ b ≤ a ∧ a ≤ c := by
  unfold inB
  rw [Bool.and_eq_true, decide_eq_true_eq, decide_eq_true_eq]

theorem goodHunks_l0 (n : Int) (h : List IH) (hf : FitI h) (h0 : 0 ≤ n) (h1 : n ≤ 40) : ∀ d i p, i + d = h.length → before n h i p → Ev (fun k => impl_goodHunks.l0 k n h h (h.length : Int) (i : Int)) (chain n p (h.drop i)) := by
  intro d
  have hL := hf.1
  induction d with
  | zero =>
    intro i p hi hp
    refine Ev.step (fun k => impl_goodHunks.l0.eq_2 ..) (ev_neg (by omega) (ev_some ?_))
    rw [List.drop_of_length_le (by omega)]
    rfl
  | succ d ih =>
    intro i p hi hp
    have hlt : i < h.length := by omega
    obtain ⟨b0, b1, b2⟩ := hf.2 _ (List.getElem_mem hlt)
    refine Ev.step (fun k => impl_goodHunks.l0.eq_2 ..) ?_
    simp only [rdIH h i hlt, impl_in_eq, Option.bind_some, chain_cons n p h i hlt]
    generalize hx : h[i] = x at *
    have bad : ¬ (hNum n (-1) x ∧ x.f2.all isLn = true) → Ev (fun k => impl_goodHunks.j2 k n h (i : Int) h (h.length : Int) (i : Int) true x.f0 x.f1 x.f2) (hOK n p x && chain n (x.f0 + x.f1) (h.drop (i + 1))) := by
      intro hb
      refine Ev.step (fun k => impl_goodHunks.j2.eq_2 ..) (ev_pos rfl (ev_some ?_))
      have : hOK n p x = false := by
        rw [Bool.eq_false_iff]
        intro ht
        unfold hOK at ht
        rw [Bool.and_eq_true, decide_eq_true_eq] at ht
        obtain ⟨⟨q0, q1, q2, q3, q4, q5⟩, q6⟩ := ht
        exact hb ⟨⟨q0, q1, q2, q3, q4, by omega⟩, q6⟩
      rw [this]
      rfl
    have ok : hNum n (-1) x → x.f2.all isLn = true → Ev (fun k => impl_goodHunks.j2 k n h (i : Int) h (h.length : Int) (i : Int) false x.f0 x.f1 x.f2) (hOK n p x && chain n (x.f0 + x.f1) (h.drop (i + 1))) := by
      intro hb hl
      obtain ⟨q0, q1, q2, q3, q4, q5⟩ := hb
      have nx : before n h (i + 1) (x.f0 + x.f1) := .inr ⟨i, hlt, rfl, by rw [hx], by rw [hx]; exact q0, by rw [hx]; exact q1, q2⟩
      have go : p < x.f0 → Ev (fun k => impl_goodHunks.l0 k n h h (h.length : Int) (wrap64 ((i : Int) + 1))) (hOK n p x && chain n (x.f0 + x.f1) (h.drop (i + 1))) := by
        intro hp
        rw [wrap_succ i (by omega)]
        refine ev_to (ih (i + 1) _ (by omega) nx) ?_
        have : hOK n p x = true := by
          unfold hOK
          rw [Bool.and_eq_true, decide_eq_true_eq]
          exact ⟨⟨q0, q1, q2, q3, q4, hp⟩, hl⟩
        rw [this, Bool.true_and]
      refine Ev.step (fun k => impl_goodHunks.j2.eq_2 ..) (ev_neg (by simp) (ev_ite (fun hi0 => ?_) (fun hi0 => go ?_)))
      · rcases hp with ⟨e, _⟩ | ⟨j, hj, rfl, rfl, r0, r1, r2⟩
        · omega
        · have ew : wrap64 (((j + 1 : Nat) : Int) - 1) = (j : Int) := by rw [wrap64_id (by omega) (by omega)]; omega
          simp only [ew, rdIH h j hj]
          rw [wrap64_id (by omega) (by omega)]
          refine ev_pos (by omega) (ev_pos (by omega) (ev_ite (fun hc => ev_some ?_) (fun hc => go (by omega))))
          have : hOK n (h[j].f0 + h[j].f1) x = false := by
            rw [Bool.eq_false_iff]
            intro ht
            unfold hOK at ht
            rw [Bool.and_eq_true, decide_eq_true_eq] at ht
            have := ht.1.2.2.2.2.2
            omega
          rw [this]
          rfl
      · rcases hp with ⟨_, e⟩ | ⟨j, hj, e, _⟩ <;> omega
    refine ev_pos (by omega) (ev_pos (by omega) (ev_pos (by omega) (ev_ite (fun c0 => ?_) (fun c0 => bad (fun hb => c0 ?_)))))
    · rw [inB_iff] at c0
      rw [wrap64_id (by omega) (by omega)]
      refine ev_ite (fun c1 => ?_) (fun c1 => bad (fun hb => c1 ?_))
      · rw [inB_iff] at c1
        refine ev_bind (areLines_ev x.f2 b2) (ev_ite (fun c2 => ?_) (fun c2 => bad (fun hb => c2 ?_)))
        · rw [Bool.and_eq_true, decide_eq_true_eq] at c2
          refine ev_ite (fun c3 => ?_) (fun c3 => ok ⟨c0.1, c1.1, by omega, fun e => c3 e.1, c2.1, by omega⟩ c2.2)
          by_cases c4 : x.f2.length = 0
          · rw [show (((x.f2.length : Int) == 0) = true) from by rw [c4]; rfl]
            exact bad (fun hb => hb.1.2.2.2.1 ⟨c3, c4⟩)
          · rw [show (((x.f2.length : Int) == 0) = false) from by rw [beq_eq_false_iff_ne]; omega]
            exact ok ⟨c0.1, c1.1, by omega, fun e => c4 e.2, c2.1, by omega⟩ c2.2
        · rw [Bool.and_eq_true, decide_eq_true_eq]
          exact ⟨hb.1.2.2.2.2.1, hb.2⟩
      · rw [inB_iff]
        obtain ⟨⟨q0, q1, q2, q3, q4, q5⟩, q6⟩ := hb
        omega
    · rw [inB_iff]
      obtain ⟨⟨q0, q1, q2, q3, q4, q5⟩, q6⟩ := hb
      omega

theorem goodHunks_ev (n : Int) (h : List IH) (hf : FitI h) : Ev (fun k => impl_goodHunks.f k n h) (goodH n h) := by
  simp only [impl_goodHunks.f, impl_in_eq, Option.bind_some]
  unfold goodH
  refine ev_ite (fun c => ?_) (fun c => ?_)
  · rw [c, Bool.true_and]
    rw [inB_iff] at c
    refine Ev.step (fun k => impl_goodHunks.j0.eq_2 ..) (ev_ite (fun e => ev_some ?_) (fun e => ?_))
    · rw [decide_eq_true_eq] at e
      rw [decide_eq_false (by omega), Bool.false_and]
    · rw [decide_eq_true_eq] at e
      rw [decide_eq_true (by omega), Bool.true_and]
      exact goodHunks_l0 n h hf c.1 c.2 h.length 0 (-1) (by omega) (.inl ⟨rfl, rfl⟩)
  · refine Ev.step (fun k => impl_goodHunks.j0.eq_2 ..) (ev_pos rfl (ev_some ?_))
    rw [Bool.not_eq_true] at c
    rw [c, Bool.false_and]
end Go.Proofs.Ytbbkecdlapemfaa.Pl

/- Plain Lean: chapter 2: when hunks are good for the reference: as for the program. Conditions: lengths and sizes below 2^63. -/
namespace Go.Proofs.Ytbbkecdlapemfaa.Pl
open Go.RowKit Go.Proofs.YtbbkecdlapemfaaW.PrintWords Go.Proofs.YtbbkecdlapemfaaW.PrintLast Go.Proofs.Ytbbkecdlapemfaa.My
set_option linter.unusedVariables false
set_option linter.unusedSimpArgs false

theorem wrap_zero (a : Int) (m : Nat) (h0 : 0 ≤ a) (h1 : a ≤ 9223372036854775807) (h2 : m ≤ 9223372036854775807) : wrap64 (a + (m : Int)) = 0 ↔ a = 0 ∧ m = 0 := by
  unfold wrap64
  omega

theorem l2Hunks_l0 (n : Int) (h : List IH) (hf : FitI h) (hn0 : -9223372036854775808 ≤ n) (hn : n ≤ 9223372036854775807) : ∀ d i p, i + d = h.length → before n h i p → Ev (fun k => spec_l2Hunks.l0 k n h h (h.length : Int) (i : Int)) (chain n p (h.drop i) && (decide (h.length ≤ 20) && inB n 0 40)) := by
  intro d
  have hL := hf.1
  induction d with
  | zero =>
    intro i p hi hp
    refine Ev.step (fun k => spec_l2Hunks.l0.eq_2 ..) (ev_neg (by omega) ?_)
    rw [List.drop_of_length_le (by omega)]
    simp only [spec_l1In_eq, Option.bind_some]
    refine ev_ite (fun c => ev_some ?_) (fun c => ev_some ?_)
    · rw [decide_eq_true (by omega)]
      rfl
    · rw [decide_eq_false (by omega)]
      rfl
  | succ d ih =>
    intro i p hi hp
    have hlt : i < h.length := by omega
    obtain ⟨b0, b1, b2⟩ := hf.2 _ (List.getElem_mem hlt)
    refine Ev.step (fun k => spec_l2Hunks.l0.eq_2 ..) ?_
    simp only [rdIH h i hlt, chain_cons n p h i hlt]
    generalize hx : h[i] = x at *
    have no : ¬ (hNum n p x ∧ x.f2.all isLn = true) → hOK n p x = false := by
      intro hb
      rw [Bool.eq_false_iff]
      intro ht
      unfold hOK at ht
      rw [Bool.and_eq_true, decide_eq_true_eq] at ht
      exact hb ht
    have bad : ¬ hNum n p x → Ev (fun k => spec_l2Hunks.j1 k n h h (h.length : Int) (i : Int) true x.f0 x.f1 x.f2) (hOK n p x && chain n (x.f0 + x.f1) (h.drop (i + 1)) && (decide (h.length ≤ 20) && inB n 0 40)) := by
      intro hb
      refine Ev.step (fun k => spec_l2Hunks.j1.eq_2 ..) (ev_pos rfl (ev_some ?_))
      rw [no (fun c => hb c.1)]
      rfl
    have ok : hNum n p x → Ev (fun k => spec_l2Hunks.j1 k n h h (h.length : Int) (i : Int) false x.f0 x.f1 x.f2) (hOK n p x && chain n (x.f0 + x.f1) (h.drop (i + 1)) && (decide (h.length ≤ 20) && inB n 0 40)) := by
      intro hb
      have nx : before n h (i + 1) (x.f0 + x.f1) := .inr ⟨i, hlt, rfl, by rw [hx], by rw [hx]; exact hb.1, by rw [hx]; exact hb.2.1, hb.2.2.1⟩
      have lp : ∀ e r, r + e = x.f2.length → Ev (fun k => spec_l2Hunks.l1 k n h h (h.length : Int) (i : Int) x.f2 (x.f2.length : Int) (r : Int)) (((x.f2.drop r).all isLn && chain n (x.f0 + x.f1) (h.drop (i + 1))) && (decide (h.length ≤ 20) && inB n 0 40)) := by
        intro e
        have hT := b2.1
        induction e with
        | zero =>
          intro r hr
          refine Ev.step (fun k => spec_l2Hunks.l1.eq_2 ..) (ev_neg (by omega) ?_)
          rw [List.drop_of_length_le (l := x.f2) (by omega), wrap_succ i (by omega), List.all_nil, Bool.true_and]
          exact ih (i + 1) _ (by omega) nx
        | succ e ihe =>
          intro r hr
          have hrt : r < x.f2.length := by omega
          refine Ev.step (fun k => spec_l2Hunks.l1.eq_2 ..) (ev_pos (by omega) (ev_pos (by omega) (ev_pos (by omega) ?_)))
          rw [rdOf_lt _ _ _ hrt, drop_cons x.f2 r hrt, List.all_cons]
          refine ev_bind (l1Line_ev _ (b2.2 _ (List.getElem_mem hrt))) (ev_ite (fun c => ?_) (fun c => ev_some ?_))
          · rw [wrap_succ r (by omega), c, Bool.true_and]
            exact ihe (r + 1) (by omega)
          · rw [Bool.not_eq_true] at c
            rw [c]
            rfl
      refine Ev.step (fun k => spec_l2Hunks.j1.eq_2 ..) (ev_neg (by simp) (ev_to (lp x.f2.length 0 (by omega)) ?_))
      unfold hOK
      rw [decide_eq_true hb, Bool.true_and, List.drop_zero]
    refine ev_pos (by omega) (ev_pos (by omega) (ev_pos (by omega) (ev_ite (fun c => bad (fun hb => ?_)) (fun c0 => ev_ite (fun c => bad (fun hb => ?_)) (fun c1 => ev_ite (fun c => bad (fun hb => ?_)) (fun c2 => ?_))))))
    · have := hb.1
      omega
    · have := hb.2.1
      omega
    · obtain ⟨q0, q1, q2, q3, q4, q5⟩ := hb
      omega
    rw [wrap64_id (x := n - x.f1) (by omega) (by omega)]
    refine ev_ite (fun c => bad (fun hb => ?_)) (fun c3 => ev_ite (fun c => bad (fun hb => ?_)) (fun c4 => ev_ite (fun c => bad (fun hb => ?_)) (fun c5 => ?_)))
    · have := hb.2.2.1
      omega
    · rw [wrap_zero _ _ (by omega) (by omega) b2.1] at c
      exact hb.2.2.2.1 c
    · have := hb.2.2.2.2.1
      omega
    rw [wrap_zero _ _ (by omega) (by omega) b2.1] at c4
    rcases hp with ⟨rfl, rfl⟩ | ⟨j, hj, rfl, rfl, r0, r1, r2⟩
    · refine ev_neg (by omega) (ok ⟨by omega, by omega, by omega, c4, by omega, by omega⟩)
    · have ew : wrap64 (((j + 1 : Nat) : Int) - 1) = (j : Int) := by rw [wrap64_id (by omega) (by omega)]; omega
      simp only [ew, rdIH h j hj]
      rw [wrap64_id (x := h[j].f0 + h[j].f1) (by omega) (by omega)]
      refine ev_pos (by omega) (ev_pos (by omega) (ev_pos (by omega) ?_))
      by_cases c : x.f0 ≤ h[j].f0 + h[j].f1
      · rw [decide_eq_true c]
        refine bad (fun hb => ?_)
        have := hb.2.2.2.2.2
        omega
      · rw [decide_eq_false c]
        exact ok ⟨by omega, by omega, by omega, c4, by omega, by omega⟩

theorem l2Hunks_ev (n : Int) (h : List IH) (hf : FitI h) (hn0 : -9223372036854775808 ≤ n) (hn : n ≤ 9223372036854775807) : Ev (fun k => spec_l2Hunks.f k n h) (goodH n h) := by
  simp only [spec_l2Hunks.f]
  refine ev_to (l2Hunks_l0 n h hf hn0 hn h.length 0 (-1) (by omega) (.inl ⟨rfl, rfl⟩)) ?_
  unfold goodH
  rw [List.drop_zero]
  cases inB n 0 40 <;> cases chain n (-1) h <;> cases decide (h.length ≤ 20) <;> rfl
end Go.Proofs.Ytbbkecdlapemfaa.Pl

/- Plain Lean: chapter 2: good hunks' numbers are small. No condition. -/
namespace Go.Proofs.Ytbbkecdlapemfaa.Pl
open Go.RowKit Go.Proofs.YtbbkecdlapemfaaW.PrintWords Go.Proofs.YtbbkecdlapemfaaW.PrintLast Go.Proofs.Ytbbkecdlapemfaa.My
set_option linter.unusedVariables false
set_option linter.unusedSimpArgs false

/-- All numbers small. -/
def near (h : List IH) : Prop := ∀ x ∈ h, 0 ≤ x.f0 ∧ x.f0 ≤ 40 ∧ 0 ≤ x.f1 ∧ x.f1 ≤ 40 ∧ x.f2.length ≤ 40

theorem near_of_chain {n : Int} (hn : n ≤ 40) : ∀ (h : List IH) (p : Int), chain n p h = true → near h := by
  intro h
  induction h with
  | nil => intro p _ x hx; simp at hx
  | cons y t ih =>
    intro p hc x hx
    simp only [chain, Bool.and_eq_true, hOK, decide_eq_true_eq] at hc
    rcases List.mem_cons.1 hx with rfl | hx
    · obtain ⟨⟨⟨q0, q1, q2, q3, q4, q5⟩, _⟩, _⟩ := hc
      omega
    · exact ih _ hc.2 x hx
theorem near_of_good {n : Int} {h : List IH} (g : goodH n h = true) : near h ∧ h.length ≤ 20 ∧ 0 ≤ n ∧ n ≤ 40 := by
  unfold goodH at g
  rw [Bool.and_eq_true, Bool.and_eq_true, inB_iff, decide_eq_true_eq] at g
  exact ⟨near_of_chain g.1.2 h _ g.2.2, g.2.1, g.1.1, g.1.2⟩

end Go.Proofs.Ytbbkecdlapemfaa.Pl

/- Plain Lean: answers where both are good lines. No condition. -/
namespace Go.Proofs.Ytbbkecdlapemfaa.Pl
open Go.RowKit Go.Proofs.YtbbkecdlapemfaaW.PrintWords Go.Proofs.YtbbkecdlapemfaaW.PrintLast Go.Proofs.Ytbbkecdlapemfaa.My
set_option linter.unusedVariables false
set_option linter.unusedSimpArgs false

/-- Where both are good lines. -/
def both {α : Type} (a b : List ByteArray) (z v : α) : α × Bool := if good a = true then (if good b = true then (v, true) else (z, false)) else (z, false)

theorem good_len {l : List ByteArray} (h : good l = true) : l.length ≤ 40 := by
  unfold good at h
  rw [Bool.and_eq_true] at h
  exact of_decide_eq_true h.1

theorem both_ev {α : Type} {G : Nat → List ByteArray → Option Bool} {F : Nat → Option α} {a b : List ByteArray} {z v : α} (hg : ∀ l, FitS l → Ev (fun k => G k l) (good l)) (fa : FitS a) (fb : FitS b) (hF : good a = true → good b = true → Ev F v) :
    Ev (fun k => (G k a).bind fun t => (if t = true then ((G k b).bind fun t' => (if t' = true then ((F k).bind fun x => (some (x, true))) else (some (z, false)))) else (some (z, false)))) (both a b z v) := by
  unfold both
  refine ev_bind (hg a fa) (ev_ite (fun h => ?_) (fun h => ev_some (by rw [if_neg h])))
  rw [if_pos h]
  refine ev_bind (hg b fb) (ev_ite (fun h' => ?_) (fun h' => ev_some (by rw [if_neg h'])))
  rw [if_pos h']
  exact ev_bind (hF h h') (ev_some rfl)
end Go.Proofs.Ytbbkecdlapemfaa.Pl

/- Plain Lean: chapter 2: hunks carried out, for the program and the reference. Conditions: lengths and sizes below 2^62. -/
namespace Go.Proofs.Ytbbkecdlapemfaa.Pl
open Go.RowKit Go.Proofs.YtbbkecdlapemfaaW.PrintWords Go.Proofs.YtbbkecdlapemfaaW.PrintLast Go.Proofs.Ytbbkecdlapemfaa.My
set_option linter.unusedVariables false
set_option linter.unusedSimpArgs false

/-- What is left of the lines from p on, the hunks carried out. -/
def patchFrom (a : List ByteArray) : Nat → List IH → List ByteArray
  | p, [] => a.drop p
  | p, x :: t => (a.take x.f0.toNat).drop p ++ (x.f2 ++ patchFrom a (x.f0 + x.f1).toNat t)
theorem patchFrom_mem (a : List ByteArray) (s : ByteArray) : ∀ (h : List IH) (p : Nat), s ∈ patchFrom a p h → s ∈ a ∨ ∃ x ∈ h, s ∈ x.f2 := by
  intro h
  induction h with
  | nil => intro p hs; exact .inl (List.mem_of_mem_drop hs)
  | cons y t ih =>
    intro p hs
    simp only [patchFrom, List.mem_append] at hs
    rcases hs with hs | hs | hs
    · exact .inl (List.mem_of_mem_take (List.mem_of_mem_drop hs))
    · exact .inr ⟨y, List.mem_cons_self .., hs⟩
    · rcases ih _ hs with hs | ⟨x, hx, hs⟩
      · exact .inl hs
      · exact .inr ⟨x, List.mem_cons_of_mem _ hx, hs⟩
theorem patchFrom_len (a : List ByteArray) (ha : a.length ≤ 40) : ∀ (h : List IH) (p : Nat), near h → (patchFrom a p h).length ≤ 40 + 80 * h.length := by
  intro h
  induction h with
  | nil => intro p _; simp only [patchFrom, List.length_drop, List.length_nil]; omega
  | cons y t ih =>
    intro p hn
    have h1 := ih (y.f0 + y.f1).toNat (fun x hx => hn x (List.mem_cons_of_mem _ hx))
    have h2 := hn y (List.mem_cons_self ..)
    simp only [patchFrom, List.length_append, List.length_drop, List.length_take, List.length_cons]
    omega
theorem patchFrom_fit {a : List ByteArray} {h : List IH} (fa : FitS a) (fh : FitI h) (ha : a.length ≤ 40) (hn : near h) (hl : h.length ≤ 20) (p : Nat) : FitS (patchFrom a p h) := by
  have := patchFrom_len a ha h p hn
  refine ⟨by omega, fun s hs => ?_⟩
  rcases patchFrom_mem a s h p hs with hs | ⟨x, hx, hs⟩
  · exact fa.2 s hs
  · exact (fh.2 x hx).2.2.2 s hs

theorem patched_l0 (a : List ByteArray) (h : List IH) (hn : a.length ≤ 40) (hl : h.length ≤ 20) : ∀ d i (q : Int) (p : Nat) (acc : List ByteArray), i + d = h.length → chain a.length q (h.drop i) = true → (p : Int) ≤ q + 1 → p ≤ a.length → acc.length ≤ 40 * i + p →
    Ev (fun k => impl_patched.l0 k a acc (p : Int) h (h.length : Int) (i : Int)) (acc ++ patchFrom a p (h.drop i)) := by
  intro d
  induction d with
  | zero =>
    intro i q p acc hi hc hpq hp hacc
    refine Ev.step (fun k => impl_patched.l0.eq_2 ..) (ev_neg (by omega) (ev_pos (by omega) (ev_pos (by omega) (ev_pos ?_ (ev_some ?_)))))
    · rw [List.length_drop]
      omega
    · rw [List.drop_of_length_le (l := h) (by omega), Int.toNat_natCast]
      rfl
  | succ d ih =>
    intro i q p acc hi hc hpq hp hacc
    have hlt : i < h.length := by omega
    rw [List.drop_eq_getElem_cons hlt] at hc
    rw [List.drop_eq_getElem_cons hlt]
    simp only [chain, Bool.and_eq_true, hOK, decide_eq_true_eq] at hc
    obtain ⟨⟨⟨q0, q1, q2, q3, q4, q5⟩, _⟩, hc'⟩ := hc
    refine Ev.step (fun k => impl_patched.l0.eq_2 ..) ?_
    simp only [rdIH h i hlt, Option.bind_some]
    have e1 : wrap64 (h[i].f0 + h[i].f1) = (((h[i].f0 + h[i].f1).toNat : Nat) : Int) := by rw [wrap64_id (by omega) (by omega)]; omega
    rw [e1, wrap_succ i (by omega), Int.toNat_natCast]
    have e2 : ((a.take h[i].f0.toNat).drop p).length = h[i].f0.toNat - p := by rw [List.length_drop, List.length_take]; omega
    refine ev_pos (by omega) (ev_pos (by omega) (ev_pos (by omega) (ev_pos (by omega) (ev_pos (by omega) (ev_pos (by omega) (ev_pos (by rw [e2]; omega) (ev_pos (by rw [List.length_append, e2]; omega) ?_)))))))
    refine ev_to (ih (i + 1) _ _ _ (by omega) hc' (by omega) (by omega) (by rw [List.length_append, List.length_append, e2]; omega)) ?_
    simp only [patchFrom, List.append_assoc]

theorem l2Patch_l0 (a : List ByteArray) (h : List IH) (hn : a.length ≤ 40) (hl : h.length ≤ 20) : ∀ d i (q : Int) (p : Nat) (acc : List ByteArray), i + d = h.length → chain a.length q (h.drop i) = true → (p : Int) ≤ q + 1 → p ≤ a.length → acc.length ≤ 40 * i + p →
    Ev (fun k => spec_l2Patch.l0 k a acc (p : Int) h (h.length : Int) (i : Int)) (acc ++ patchFrom a p (h.drop i)) := by
  intro d
  induction d with
  | zero =>
    intro i q p acc hi hc hpq hp hacc
    refine Ev.step (fun k => spec_l2Patch.l0.eq_2 ..) (ev_neg (by omega) (ev_pos (by omega) (ev_pos (by omega) (ev_pos ?_ (ev_some ?_)))))
    · rw [List.length_drop]
      omega
    · rw [List.drop_of_length_le (l := h) (by omega), Int.toNat_natCast]
      rfl
  | succ d ih =>
    intro i q p acc hi hc hpq hp hacc
    have hlt : i < h.length := by omega
    rw [List.drop_eq_getElem_cons hlt] at hc
    rw [List.drop_eq_getElem_cons hlt]
    simp only [chain, Bool.and_eq_true, hOK, decide_eq_true_eq] at hc
    obtain ⟨⟨⟨q0, q1, q2, q3, q4, q5⟩, _⟩, hc'⟩ := hc
    refine Ev.step (fun k => spec_l2Patch.l0.eq_2 ..) ?_
    simp only [rdIH h i hlt, Option.bind_some]
    have e1 : wrap64 (h[i].f0 + h[i].f1) = (((h[i].f0 + h[i].f1).toNat : Nat) : Int) := by rw [wrap64_id (by omega) (by omega)]; omega
    rw [e1, wrap_succ i (by omega), Int.toNat_natCast]
    have e2 : ((a.take h[i].f0.toNat).drop p).length = h[i].f0.toNat - p := by rw [List.length_drop, List.length_take]; omega
    refine ev_pos (by omega) (ev_pos (by omega) (ev_pos (by omega) (ev_pos (by omega) (ev_pos (by omega) (ev_pos (by omega) (ev_pos (by rw [e2]; omega) (ev_pos (by rw [List.length_append, e2]; omega) ?_)))))))
    refine ev_to (ih (i + 1) _ _ _ (by omega) hc' (by omega) (by omega) (by rw [List.length_append, List.length_append, e2]; omega)) ?_
    simp only [patchFrom, List.append_assoc]

def asked (a : List ByteArray) (h : List IH) : Bool := good a && goodH a.length h
def patchH (a : List ByteArray) (h : List IH) : List ByteArray := patchFrom a 0 h
def patchR (a : List ByteArray) (h : List IH) : List ByteArray × Bool := if asked a h = true ∧ good (patchH a h) = true then (patchH a h, true) else ([], false)
theorem asked_of {a : List ByteArray} {h : List IH} (c : asked a h = true) : a.length ≤ 40 ∧ h.length ≤ 20 ∧ near h ∧ chain a.length (-1) h = true := by
  unfold asked at c
  rw [Bool.and_eq_true] at c
  obtain ⟨g1, g2, g3, g4⟩ := near_of_good c.2
  have := c.2
  unfold goodH at this
  rw [Bool.and_eq_true, Bool.and_eq_true] at this
  exact ⟨good_len c.1, g2, g1, this.2.2⟩
theorem patched_ev {a : List ByteArray} {h : List IH} (c : asked a h = true) : Ev (fun k => impl_patched.f k a h) (patchH a h) := by
  obtain ⟨c1, c2, c3, c4⟩ := asked_of c
  simp only [impl_patched.f]
  exact patched_l0 a h c1 c2 h.length 0 (-1) 0 [] (by omega) c4 (by omega) (by omega) (Nat.zero_le _)
theorem l2Patch_ev {a : List ByteArray} {h : List IH} (c : asked a h = true) : Ev (fun k => spec_l2Patch.f k a h) (patchH a h) := by
  obtain ⟨c1, c2, c3, c4⟩ := asked_of c
  simp only [spec_l2Patch.f]
  exact l2Patch_l0 a h c1 c2 h.length 0 (-1) 0 [] (by omega) c4 (by omega) (by omega) (Nat.zero_le _)
theorem l2Asked_ev (a : List ByteArray) (h : List IH) (fa : FitS a) (fh : FitI h) : Ev (fun k => spec_l2Asked.f k a h) (asked a h) := by
  simp only [spec_l2Asked.f]
  unfold asked
  have hL := fa.1
  refine ev_bind (l1Good_ev a fa) (ev_ite (fun c => ?_) (fun c => ev_some ?_))
  · rw [c, Bool.true_and]
    exact ev_bind (l2Hunks_ev _ h fh (by omega) (by omega)) (ev_some rfl)
  · rw [Bool.not_eq_true] at c
    rw [c, Bool.false_and]
theorem patchR_small (a : List ByteArray) (h : List IH) : (patchR a h).1.length ≤ 40 := by
  unfold patchR
  split
  · rename_i c
    exact good_len c.2
  · exact Nat.zero_le _
theorem impl_Patch_ev (a : List ByteArray) (h : List IH) (fa : FitS a) (fh : FitI h) : Ev (fun k => impl_Patch.f k a h) (patchR a h) := by
  simp only [impl_Patch.f]
  unfold patchR
  have fin : asked a h = false → Ev (fun k => impl_Patch.j0 k a h true) (if asked a h = true ∧ good (patchH a h) = true then (patchH a h, true) else (([] : List ByteArray), false)) := by
    intro c
    rw [if_neg (fun e => by rw [c] at e; cases e.1)]
    exact Ev.step (fun k => impl_Patch.j0.eq_2 ..) (ev_pos rfl (ev_some rfl))
  refine ev_bind (goodLines_ev a fa) (ev_ite (fun c => ?_) (fun c => ?_))
  · refine ev_bind (goodHunks_ev _ h fh) ?_
    cases g : goodH a.length h with
    | false =>
      refine fin ?_
      unfold asked
      rw [g, Bool.and_false]
    | true =>
      have ca : asked a h = true := by unfold asked; rw [c, g]; rfl
      obtain ⟨c1, c2, c3, c4⟩ := asked_of ca
      refine Ev.step (fun k => impl_Patch.j0.eq_2 ..) (ev_neg (by simp) (ev_bind (patched_ev ca) (ev_bind (goodLines_ev _ (patchFrom_fit fa fh c1 c3 c2 0)) (ev_ite (fun c5 => ev_some ?_) (fun c5 => ev_some ?_)))))
      · rw [if_pos ⟨ca, c5⟩]
      · rw [if_neg (fun e => c5 e.2)]
  · refine fin ?_
    unfold asked
    rw [Bool.not_eq_true] at c
    rw [c, Bool.false_and]
theorem spec_Patch_ev (a : List ByteArray) (h : List IH) (fa : FitS a) (fh : FitI h) : Ev (fun k => spec_Patch.f k a h) (patchR a h) := by
  simp only [spec_Patch.f]
  unfold patchR
  refine ev_bind (l2Asked_ev a h fa fh) (ev_ite (fun ca => ?_) (fun ca => ev_some ?_))
  · obtain ⟨c1, c2, c3, c4⟩ := asked_of ca
    refine ev_bind (l2Patch_ev ca) (ev_bind (l1Good_ev _ (patchFrom_fit fa fh c1 c3 c2 0)) (ev_ite (fun c5 => ev_some ?_) (fun c5 => ev_some ?_)))
    · rw [if_pos (show asked a h = true ∧ good (patchH a h) = true from ⟨ca, c5⟩)]
    · rw [if_neg (show ¬ (asked a h = true ∧ good (patchH a h) = true) from fun e => c5 e.2)]
  · rw [if_neg (show ¬ (asked a h = true ∧ good (patchH a h) = true) from fun e => ca e.1)]
end Go.Proofs.Ytbbkecdlapemfaa.Pl

/- Written by this session's program (wip/gen): a plain function with the same answers as the Go function, and the proof that the Go code comes to them. Asked: that the plain function has an answer. -/
namespace Go.Proofs.Ytbbkecdlapemfaa.My
open Go.RowKit Go.Proofs.YtbbkecdlapemfaaW.PrintWords Go.Proofs.YtbbkecdlapemfaaW.PrintLast Go.Proofs.YtbbkecdlapemfaaW.PrintMore
attribute [local go_sem] max2_int min2_int max_two min_two max_three min_three max_four min_four
set_option linter.unusedVariables false
set_option linter.unusedSimpArgs false

/-! ### impl_PartOf: function 29 -/
def impl_PartOf.f (k : Nat) (l0 : List ByteArray) (a1 : Int) (a2 : Int) : Option (List ByteArray × Bool) := (impl_goodLines.f k l0).bind fun t1102 => (if t1102 = true then ((impl_in.f a2 0 (l0.length : Int)).bind fun t1103 => (if t1103 = true then ((impl_in.f a1 0 a2).bind fun t1104 => (if t1104 = true then (if 0 ≤ a1 then (if a1 ≤ a2 then (if a2 ≤ (l0.length : Int) then ((slices_Clone_string_string.f ((l0.take (a2 : Int).toNat).drop (a1 : Int).toNat)).bind fun t1106 => (some (t1106, true))) else (none)) else (none)) else (none)) else (some (([] : List ByteArray), false)))) else (some (([] : List ByteArray), false)))) else (some (([] : List ByteArray), false)))
theorem impl_PartOf.mono : ∀ a0 a1 a2 k, LeO (impl_PartOf.f k a0 a1 a2) (impl_PartOf.f (k + 1) a0 a1 a2) := by
  intro a0 a1 a2 k
  unfold impl_PartOf.f
  repeat' first
      | (with_reducible exact impl_goodLines.mono _ _)
      | (with_reducible exact LeO.refl _)
      | (with_reducible exact LeO.none _)
      | (with_reducible refine LeO.ite ?_ ?_)
      | (with_reducible refine LeO.bind ?_ (fun _ => ?_))
      | exact impl_goodLines.mono _ _
      | exact LeO.none _
      | refine LeO.ite ?_ ?_
      | refine LeO.bind ?_ (fun _ => ?_)
set_option maxHeartbeats 8000000 in
set_option maxRecDepth 100000 in
theorem impl_PartOf.calls (k : Nat) (A0 : Option Addr) (c0 : Nat) (l0 : List ByteArray) (a1 : Int) (a2 : Int) (r1 : List ByteArray) (r2 : Bool) (w : World) (hr0 : Kd.C Kd.string w A0 l0.length l0) (hc0 : l0.length ≤ c0) (h : impl_PartOf.f k l0 a1 a2 = some (r1, r2)) :
    Calls Try.prog 29 #[.slice A0 l0.length c0, .int .i64 a1, .int .i64 a2] w fun e w' => ∃ v0_ : Value, e = .returned (.tuple #[v0_, .bool r2]) ∧ Kd.R Kd.string 9 w' w.heap.size (fun _ => True) v0_ r1 ∧ Below w.heap.size w w' := by
  have HR0 := Aside0.mk hr0
  have HC0 := Aside0.mk hc0
  clear hr0 hc0
  have HB := Aside0.mk (Below.refl w.heap.size w)
  have H : ((impl_goodLines.f k l0).bind fun t1102 => (if t1102 = true then ((impl_in.f a2 0 (l0.length : Int)).bind fun t1103 => (if t1103 = true then ((impl_in.f a1 0 a2).bind fun t1104 => (if t1104 = true then (if 0 ≤ a1 then (if a1 ≤ a2 then (if a2 ≤ (l0.length : Int) then ((slices_Clone_string_string.f ((l0.take (a2 : Int).toNat).drop (a1 : Int).toNat)).bind fun t1106 => (some (t1106, true))) else (none)) else (none)) else (none)) else (some (([] : List ByteArray), false)))) else (some (([] : List ByteArray), false)))) else (some (([] : List ByteArray), false)))) = some (r1, r2) := h
  clear h
  replace H := Option.bind_eq_some_iff.mp H
  obtain ⟨t1102, A40, H⟩ := H
  replace H : (if t1102 = true then ((impl_in.f a2 0 (l0.length : Int)).bind fun t1103 => (if t1103 = true then ((impl_in.f a1 0 a2).bind fun t1104 => (if t1104 = true then (if 0 ≤ a1 then (if a1 ≤ a2 then (if a2 ≤ (l0.length : Int) then ((slices_Clone_string_string.f ((l0.take (a2 : Int).toNat).drop (a1 : Int).toNat)).bind fun t1106 => (some (t1106, true))) else (none)) else (none)) else (none)) else (some (([] : List ByteArray), false)))) else (some (([] : List ByteArray), false)))) else (some (([] : List ByteArray), false))) = some (r1, r2) := H
  have A4 := Aside0.mk A40
  clear A40
  by_cases c5 : t1102 = true
  · subst c5
    have H1 : ((impl_in.f a2 0 (l0.length : Int)).bind fun t1103 => (if t1103 = true then ((impl_in.f a1 0 a2).bind fun t1104 => (if t1104 = true then (if 0 ≤ a1 then (if a1 ≤ a2 then (if a2 ≤ (l0.length : Int) then ((slices_Clone_string_string.f ((l0.take (a2 : Int).toNat).drop (a1 : Int).toNat)).bind fun t1106 => (some (t1106, true))) else (none)) else (none)) else (none)) else (some (([] : List ByteArray), false)))) else (some (([] : List ByteArray), false)))) = some (r1, r2) := by rw [if_pos rfl] at H; exact H
    clear H
    have H := H1
    clear H1
    replace H := Option.bind_eq_some_iff.mp H
    obtain ⟨t1103, A60, H⟩ := H
    replace H : (if t1103 = true then ((impl_in.f a1 0 a2).bind fun t1104 => (if t1104 = true then (if 0 ≤ a1 then (if a1 ≤ a2 then (if a2 ≤ (l0.length : Int) then ((slices_Clone_string_string.f ((l0.take (a2 : Int).toNat).drop (a1 : Int).toNat)).bind fun t1106 => (some (t1106, true))) else (none)) else (none)) else (none)) else (some (([] : List ByteArray), false)))) else (some (([] : List ByteArray), false))) = some (r1, r2) := H
    have A6 := Aside0.mk A60
    clear A60
    by_cases c7 : t1103 = true
    · subst c7
      have H1 : ((impl_in.f a1 0 a2).bind fun t1104 => (if t1104 = true then (if 0 ≤ a1 then (if a1 ≤ a2 then (if a2 ≤ (l0.length : Int) then ((slices_Clone_string_string.f ((l0.take (a2 : Int).toNat).drop (a1 : Int).toNat)).bind fun t1106 => (some (t1106, true))) else (none)) else (none)) else (none)) else (some (([] : List ByteArray), false)))) = some (r1, r2) := by rw [if_pos rfl] at H; exact H
      clear H
      have H := H1
      clear H1
      replace H := Option.bind_eq_some_iff.mp H
      obtain ⟨t1104, A80, H⟩ := H
      replace H : (if t1104 = true then (if 0 ≤ a1 then (if a1 ≤ a2 then (if a2 ≤ (l0.length : Int) then ((slices_Clone_string_string.f ((l0.take (a2 : Int).toNat).drop (a1 : Int).toNat)).bind fun t1106 => (some (t1106, true))) else (none)) else (none)) else (none)) else (some (([] : List ByteArray), false))) = some (r1, r2) := H
      have A8 := Aside0.mk A80
      clear A80
      by_cases c9 : t1104 = true
      · subst c9
        have H1 : (if 0 ≤ a1 then (if a1 ≤ a2 then (if a2 ≤ (l0.length : Int) then ((slices_Clone_string_string.f ((l0.take (a2 : Int).toNat).drop (a1 : Int).toNat)).bind fun t1106 => (some (t1106, true))) else (none)) else (none)) else (none)) = some (r1, r2) := by rw [if_pos rfl] at H; exact H
        clear H
        have H := H1
        clear H1
        by_cases c10 : 0 ≤ a1
        · rw [if_pos c10] at H
          have c10b0 := eq_true c10
          have c10b1 : decide (0 ≤ a1) = true := decide_eq_true c10
          clear c10
          by_cases c11 : a1 ≤ a2
          · rw [if_pos c11] at H
            have c11b0 := eq_true c11
            have c11b1 : decide (a1 ≤ a2) = true := decide_eq_true c11
            clear c11
            by_cases c12 : a2 ≤ (l0.length : Int)
            · rw [if_pos c12] at H
              have c12b0 := eq_true c12
              have c12b1 : decide (a2 ≤ (l0.length : Int)) = true := decide_eq_true c12
              clear c12
              replace H := Option.bind_eq_some_iff.mp H
              obtain ⟨t1106, A130, H⟩ := H
              replace H : (some (t1106, true)) = some (r1, r2) := H
              have A13 := Aside0.mk A130
              clear A130
              simp only [Option.some.injEq, Prod.mk.injEq] at H
              obtain ⟨rfl, rfl⟩ := H
              go_enter Try.func29, Try.ntmps29
              go_wp2_with (first | ((with_reducible refine gate_callee (f := 80) rfl ?_); refine goesL_ (some 9) rfl rfl Try.func80 (by kernel_rfl) rfl #[.slice A0 l0.length c0] rfl (by (try simp only [List.map_toArray, List.map_cons, List.map_nil]); first | done | rfl | (simp only [List.length_drop, List.length_take]; rfl)) ?_; (with_reducible refine (impl_goodLines.calls k _ _ l0 true _ ?side1 ?side2 A4.out).mono ?_); (case side1 => repeat (first | exact HR0.out | (with_reducible refine Kd.C_alloc ?_ _) | (with_reducible refine Kd.C_drewN ?_ _) | (with_reducible refine Kd.C_drew ?_))); (case side2 => exact HC0.out); rintro e w' ⟨rfl, ⟨nd, rfl⟩⟩; refine ⟨_, rfl, ?_⟩) | (go_at_call 77; (with_reducible refine (impl_in.calls a2 0 (l0.length : Int) true _ A6.out).mono ?_); rintro e w' ⟨rfl, ⟨nd, rfl⟩⟩) | (go_at_call 77; (with_reducible refine (impl_in.calls a1 0 a2 true _ A8.out).mono ?_); rintro e w' ⟨rfl, ⟨nd, rfl⟩⟩; obtain ⟨i014, hi014, _, hsz14, _⟩ := info_parts info9; obtain ⟨A14, hcut14, hA14, hC14⟩ := print_mid_of (P := Try.prog) Value.string (⟨#[]⟩ : ByteArray) 29 9 .i64 .i64 Try.underlying29 hi014 hsz14 A0 c0 l0 a1 a2 (of_decide_eq_true (by first | (with_reducible assumption) | assumption)) (by first | omega | exact of_decide_eq_true (by first | (with_reducible assumption) | assumption)) (of_decide_eq_true (by first | (with_reducible assumption) | assumption)) HC0.out; have HR1105 := Aside0.mk (Kd.C_of_reads (h1 := fun _ => rfl) (hA14 _ (Kd.reads_of_C HR0.out))); have HC1105 := Aside0.mk hC14; clear hA14 hC14 hi014 hsz14) | ((with_reducible refine gate_callee (f := 81) rfl ?_); refine goesL_ (some 28) rfl rfl Try.func81 (by kernel_rfl) rfl #[.slice A14 ((l0.take (a2 : Int).toNat).drop (a1 : Int).toNat).length (c0 - a1.toNat)] rfl (by (try simp only [List.map_toArray, List.map_cons, List.map_nil]); first | done | (rw [show ((l0.take (a2 : Int).toNat).drop (a1 : Int).toNat).length = (a2.toNat - a1.toNat) from (by rw [List.length_drop, List.length_take]; have h_ : (a2 : Int) ≤ (l0.length : Int) := of_decide_eq_true (by first | (with_reducible assumption) | assumption); omega)] <;> rfl) | rfl | (simp only [List.length_drop, List.length_take]; rfl)) ?_; (with_reducible refine (slices_Clone_string_string.calls _ _ ((l0.take (a2 : Int).toNat).drop (a1 : Int).toNat) t1106 _ ?side1 ?side2 A13.out).mono ?_); (case side1 => repeat (first | exact HR1105.out | (with_reducible refine Kd.C_alloc ?_ _) | (with_reducible refine Kd.C_drewN ?_ _) | (with_reducible refine Kd.C_drew ?_))); (case side2 => exact HC1105.out); rintro e w15 ⟨v1107, rfl, ho0, hb⟩; refine ⟨_, rfl, ?_⟩; have n0_ := Aside0.mk (Kd.R_lower ho0 (below_size (by repeat (first | (with_reducible first | exact HB.out | apply below_alloc | apply pw_below_drewN | apply below_drew1) | exact HB.out)))); have n1_ := Aside0.mk (below_step (by repeat (first | (with_reducible first | exact HB.out | apply below_alloc | apply pw_below_drewN | apply below_drew1) | exact HB.out)) hb); clear HB; have HO1108 := n0_; have HB := n1_; clear n0_ n1_; (try clear hb); (try clear hb2); (try clear hk); (try clear hi); (try clear ho0)))
              go_ret2
              exact ⟨_, by first | rfl | (simp [errW_none, errW_some] <;> rfl) | (simp [*, errW_none, errW_some] <;> rfl), by (with_reducible repeat (first | apply Kd.R_alloc | apply Kd.R_drewN | apply Kd.R_drew)); exact HO1108.out, by repeat (first | (with_reducible first | exact HB.out | apply below_alloc | apply pw_below_drewN | apply below_drew1) | exact HB.out)⟩
            · rw [if_neg c12] at H
              exact absurd H (by simp)
          · rw [if_neg c11] at H
            exact absurd H (by simp)
        · rw [if_neg c10] at H
          exact absurd H (by simp)
      · replace c9 := Bool.eq_false_iff.mpr c9
        subst c9
        have H1 : (some (([] : List ByteArray), false)) = some (r1, r2) := by rw [if_neg (show ¬ (false = true) by decide)] at H; exact H
        clear H
        have H := H1
        clear H1
        simp only [Option.some.injEq, Prod.mk.injEq] at H
        obtain ⟨rfl, rfl⟩ := H
        go_enter Try.func29, Try.ntmps29
        go_wp2_with (first | ((with_reducible refine gate_callee (f := 80) rfl ?_); refine goesL_ (some 9) rfl rfl Try.func80 (by kernel_rfl) rfl #[.slice A0 l0.length c0] rfl (by (try simp only [List.map_toArray, List.map_cons, List.map_nil]); first | done | rfl | (simp only [List.length_drop, List.length_take]; rfl)) ?_; (with_reducible refine (impl_goodLines.calls k _ _ l0 true _ ?side1 ?side2 A4.out).mono ?_); (case side1 => repeat (first | exact HR0.out | (with_reducible refine Kd.C_alloc ?_ _) | (with_reducible refine Kd.C_drewN ?_ _) | (with_reducible refine Kd.C_drew ?_))); (case side2 => exact HC0.out); rintro e w' ⟨rfl, ⟨nd, rfl⟩⟩; refine ⟨_, rfl, ?_⟩) | (go_at_call 77; (with_reducible refine (impl_in.calls a2 0 (l0.length : Int) true _ A6.out).mono ?_); rintro e w' ⟨rfl, ⟨nd, rfl⟩⟩) | (go_at_call 77; (with_reducible refine (impl_in.calls a1 0 a2 false _ A8.out).mono ?_); rintro e w' ⟨rfl, ⟨nd, rfl⟩⟩))
        go_ret2
        exact ⟨_, by first | rfl | (simp [errW_none, errW_some] <;> rfl) | (simp [*, errW_none, errW_some] <;> rfl), by first | exact Kd.R_nil _ _ _ _ _ | exact Kd.N_nil _ _ _ _ _ | exact Kd.V_nil _ _ _ _ _ | exact Kd.Q_nil _ _ _ _ _ | exact Kd.S_nil _ _ _ _ _, by repeat (first | (with_reducible first | exact HB.out | apply below_alloc | apply pw_below_drewN | apply below_drew1) | exact HB.out)⟩
    · replace c7 := Bool.eq_false_iff.mpr c7
      subst c7
      have H1 : (some (([] : List ByteArray), false)) = some (r1, r2) := by rw [if_neg (show ¬ (false = true) by decide)] at H; exact H
      clear H
      have H := H1
      clear H1
      simp only [Option.some.injEq, Prod.mk.injEq] at H
      obtain ⟨rfl, rfl⟩ := H
      go_enter Try.func29, Try.ntmps29
      go_wp2_with (first | ((with_reducible refine gate_callee (f := 80) rfl ?_); refine goesL_ (some 9) rfl rfl Try.func80 (by kernel_rfl) rfl #[.slice A0 l0.length c0] rfl (by (try simp only [List.map_toArray, List.map_cons, List.map_nil]); first | done | rfl | (simp only [List.length_drop, List.length_take]; rfl)) ?_; (with_reducible refine (impl_goodLines.calls k _ _ l0 true _ ?side1 ?side2 A4.out).mono ?_); (case side1 => repeat (first | exact HR0.out | (with_reducible refine Kd.C_alloc ?_ _) | (with_reducible refine Kd.C_drewN ?_ _) | (with_reducible refine Kd.C_drew ?_))); (case side2 => exact HC0.out); rintro e w' ⟨rfl, ⟨nd, rfl⟩⟩; refine ⟨_, rfl, ?_⟩) | (go_at_call 77; (with_reducible refine (impl_in.calls a2 0 (l0.length : Int) false _ A6.out).mono ?_); rintro e w' ⟨rfl, ⟨nd, rfl⟩⟩))
      go_ret2
      exact ⟨_, by first | rfl | (simp [errW_none, errW_some] <;> rfl) | (simp [*, errW_none, errW_some] <;> rfl), by first | exact Kd.R_nil _ _ _ _ _ | exact Kd.N_nil _ _ _ _ _ | exact Kd.V_nil _ _ _ _ _ | exact Kd.Q_nil _ _ _ _ _ | exact Kd.S_nil _ _ _ _ _, by repeat (first | (with_reducible first | exact HB.out | apply below_alloc | apply pw_below_drewN | apply below_drew1) | exact HB.out)⟩
  · replace c5 := Bool.eq_false_iff.mpr c5
    subst c5
    have H1 : (some (([] : List ByteArray), false)) = some (r1, r2) := by rw [if_neg (show ¬ (false = true) by decide)] at H; exact H
    clear H
    have H := H1
    clear H1
    simp only [Option.some.injEq, Prod.mk.injEq] at H
    obtain ⟨rfl, rfl⟩ := H
    go_enter Try.func29, Try.ntmps29
    go_wp2_with (first | ((with_reducible refine gate_callee (f := 80) rfl ?_); refine goesL_ (some 9) rfl rfl Try.func80 (by kernel_rfl) rfl #[.slice A0 l0.length c0] rfl (by (try simp only [List.map_toArray, List.map_cons, List.map_nil]); first | done | rfl | (simp only [List.length_drop, List.length_take]; rfl)) ?_; (with_reducible refine (impl_goodLines.calls k _ _ l0 false _ ?side1 ?side2 A4.out).mono ?_); (case side1 => repeat (first | exact HR0.out | (with_reducible refine Kd.C_alloc ?_ _) | (with_reducible refine Kd.C_drewN ?_ _) | (with_reducible refine Kd.C_drew ?_))); (case side2 => exact HC0.out); rintro e w' ⟨rfl, ⟨nd, rfl⟩⟩; refine ⟨_, rfl, ?_⟩))
    go_ret2
    exact ⟨_, by first | rfl | (simp [errW_none, errW_some] <;> rfl) | (simp [*, errW_none, errW_some] <;> rfl), by first | exact Kd.R_nil _ _ _ _ _ | exact Kd.N_nil _ _ _ _ _ | exact Kd.V_nil _ _ _ _ _ | exact Kd.Q_nil _ _ _ _ _ | exact Kd.S_nil _ _ _ _ _, by repeat (first | (with_reducible first | exact HB.out | apply below_alloc | apply pw_below_drewN | apply below_drew1) | exact HB.out)⟩

end Go.Proofs.Ytbbkecdlapemfaa.My

/- Written by this session's program (wip/gen): a plain function with the same answers as the Go function, and the proof that the Go code comes to them. Asked: that the plain function has an answer. -/
namespace Go.Proofs.Ytbbkecdlapemfaa.My
open Go.RowKit Go.Proofs.YtbbkecdlapemfaaW.PrintWords Go.Proofs.YtbbkecdlapemfaaW.PrintLast Go.Proofs.YtbbkecdlapemfaaW.PrintMore
attribute [local go_sem] max2_int min2_int max_two min_two max_three min_three max_four min_four
set_option linter.unusedVariables false
set_option linter.unusedSimpArgs false

/-! ### spec_PartOf: function 30 -/
def spec_PartOf.f (k : Nat) (l0 : List ByteArray) (a1 : Int) (a2 : Int) : Option (List ByteArray × Bool) := (spec_l1Good.f k l0).bind fun t1109 => (if t1109 = true then ((spec_l1In.f a1 0 a2).bind fun t1110 => (if t1110 = true then (if a2 > (l0.length : Int) then (some (([] : List ByteArray), false)) else (if 0 ≤ a1 then (if a1 ≤ a2 then (if a2 ≤ (l0.length : Int) then ((spec_l1OwnT.f ((l0.take (a2 : Int).toNat).drop (a1 : Int).toNat)).bind fun t1112 => (some (t1112, true))) else (none)) else (none)) else (none))) else (some (([] : List ByteArray), false)))) else (some (([] : List ByteArray), false)))
theorem spec_PartOf.mono : ∀ a0 a1 a2 k, LeO (spec_PartOf.f k a0 a1 a2) (spec_PartOf.f (k + 1) a0 a1 a2) := by
  intro a0 a1 a2 k
  unfold spec_PartOf.f
  repeat' first
      | (with_reducible exact spec_l1Good.mono _ _)
      | (with_reducible exact LeO.refl _)
      | (with_reducible exact LeO.none _)
      | (with_reducible refine LeO.ite ?_ ?_)
      | (with_reducible refine LeO.bind ?_ (fun _ => ?_))
      | exact spec_l1Good.mono _ _
      | exact LeO.none _
      | refine LeO.ite ?_ ?_
      | refine LeO.bind ?_ (fun _ => ?_)
set_option maxHeartbeats 8000000 in
set_option maxRecDepth 100000 in
theorem spec_PartOf.calls (k : Nat) (A0 : Option Addr) (c0 : Nat) (l0 : List ByteArray) (a1 : Int) (a2 : Int) (r1 : List ByteArray) (r2 : Bool) (w : World) (hr0 : Kd.C Kd.string w A0 l0.length l0) (hc0 : l0.length ≤ c0) (h : spec_PartOf.f k l0 a1 a2 = some (r1, r2)) :
    Calls Try.prog 30 #[.slice A0 l0.length c0, .int .i64 a1, .int .i64 a2] w fun e w' => ∃ v0_ : Value, e = .returned (.tuple #[v0_, .bool r2]) ∧ Kd.R Kd.string 9 w' w.heap.size (fun _ => True) v0_ r1 ∧ Below w.heap.size w w' := by
  have HR0 := Aside0.mk hr0
  have HC0 := Aside0.mk hc0
  clear hr0 hc0
  have HB := Aside0.mk (Below.refl w.heap.size w)
  have H : ((spec_l1Good.f k l0).bind fun t1109 => (if t1109 = true then ((spec_l1In.f a1 0 a2).bind fun t1110 => (if t1110 = true then (if a2 > (l0.length : Int) then (some (([] : List ByteArray), false)) else (if 0 ≤ a1 then (if a1 ≤ a2 then (if a2 ≤ (l0.length : Int) then ((spec_l1OwnT.f ((l0.take (a2 : Int).toNat).drop (a1 : Int).toNat)).bind fun t1112 => (some (t1112, true))) else (none)) else (none)) else (none))) else (some (([] : List ByteArray), false)))) else (some (([] : List ByteArray), false)))) = some (r1, r2) := h
  clear h
  replace H := Option.bind_eq_some_iff.mp H
  obtain ⟨t1109, A40, H⟩ := H
  replace H : (if t1109 = true then ((spec_l1In.f a1 0 a2).bind fun t1110 => (if t1110 = true then (if a2 > (l0.length : Int) then (some (([] : List ByteArray), false)) else (if 0 ≤ a1 then (if a1 ≤ a2 then (if a2 ≤ (l0.length : Int) then ((spec_l1OwnT.f ((l0.take (a2 : Int).toNat).drop (a1 : Int).toNat)).bind fun t1112 => (some (t1112, true))) else (none)) else (none)) else (none))) else (some (([] : List ByteArray), false)))) else (some (([] : List ByteArray), false))) = some (r1, r2) := H
  have A4 := Aside0.mk A40
  clear A40
  by_cases c5 : t1109 = true
  · subst c5
    have H1 : ((spec_l1In.f a1 0 a2).bind fun t1110 => (if t1110 = true then (if a2 > (l0.length : Int) then (some (([] : List ByteArray), false)) else (if 0 ≤ a1 then (if a1 ≤ a2 then (if a2 ≤ (l0.length : Int) then ((spec_l1OwnT.f ((l0.take (a2 : Int).toNat).drop (a1 : Int).toNat)).bind fun t1112 => (some (t1112, true))) else (none)) else (none)) else (none))) else (some (([] : List ByteArray), false)))) = some (r1, r2) := by rw [if_pos rfl] at H; exact H
    clear H
    have H := H1
    clear H1
    replace H := Option.bind_eq_some_iff.mp H
    obtain ⟨t1110, A60, H⟩ := H
    replace H : (if t1110 = true then (if a2 > (l0.length : Int) then (some (([] : List ByteArray), false)) else (if 0 ≤ a1 then (if a1 ≤ a2 then (if a2 ≤ (l0.length : Int) then ((spec_l1OwnT.f ((l0.take (a2 : Int).toNat).drop (a1 : Int).toNat)).bind fun t1112 => (some (t1112, true))) else (none)) else (none)) else (none))) else (some (([] : List ByteArray), false))) = some (r1, r2) := H
    have A6 := Aside0.mk A60
    clear A60
    by_cases c7 : t1110 = true
    · subst c7
      have H1 : (if a2 > (l0.length : Int) then (some (([] : List ByteArray), false)) else (if 0 ≤ a1 then (if a1 ≤ a2 then (if a2 ≤ (l0.length : Int) then ((spec_l1OwnT.f ((l0.take (a2 : Int).toNat).drop (a1 : Int).toNat)).bind fun t1112 => (some (t1112, true))) else (none)) else (none)) else (none))) = some (r1, r2) := by rw [if_pos rfl] at H; exact H
      clear H
      have H := H1
      clear H1
      by_cases c8 : a2 > (l0.length : Int)
      · rw [if_pos c8] at H
        have c8b0 : decide ((l0.length : Int) < a2) = true := decide_eq_true c8
        clear c8
        simp only [Option.some.injEq, Prod.mk.injEq] at H
        obtain ⟨rfl, rfl⟩ := H
        go_enter Try.func30, Try.ntmps30
        go_wp2_with (first | ((with_reducible refine gate_callee (f := 72) rfl ?_); refine goesL_ (some 9) rfl rfl Try.func72 (by kernel_rfl) rfl #[.slice A0 l0.length c0] rfl (by (try simp only [List.map_toArray, List.map_cons, List.map_nil]); first | done | rfl | (simp only [List.length_drop, List.length_take]; rfl)) ?_; (with_reducible refine (spec_l1Good.calls k _ _ l0 true _ ?side1 ?side2 A4.out).mono ?_); (case side1 => repeat (first | exact HR0.out | (with_reducible refine Kd.C_alloc ?_ _) | (with_reducible refine Kd.C_drewN ?_ _) | (with_reducible refine Kd.C_drew ?_))); (case side2 => exact HC0.out); rintro e w' ⟨rfl, ⟨nd, rfl⟩⟩; refine ⟨_, rfl, ?_⟩) | (go_at_call 75; (with_reducible refine (spec_l1In.calls a1 0 a2 true _ A6.out).mono ?_); rintro e w' ⟨rfl, ⟨nd, rfl⟩⟩))
        go_ret2
        exact ⟨_, by first | rfl | (simp [errW_none, errW_some] <;> rfl) | (simp [*, errW_none, errW_some] <;> rfl), by first | exact Kd.R_nil _ _ _ _ _ | exact Kd.N_nil _ _ _ _ _ | exact Kd.V_nil _ _ _ _ _ | exact Kd.Q_nil _ _ _ _ _ | exact Kd.S_nil _ _ _ _ _, by repeat (first | (with_reducible first | exact HB.out | apply below_alloc | apply pw_below_drewN | apply below_drew1) | exact HB.out)⟩
      · rw [if_neg c8] at H
        have c8b0 : decide ((l0.length : Int) < a2) = false := decide_eq_false c8
        clear c8
        by_cases c9 : 0 ≤ a1
        · rw [if_pos c9] at H
          have c9b0 := eq_true c9
          have c9b1 : decide (0 ≤ a1) = true := decide_eq_true c9
          clear c9
          by_cases c10 : a1 ≤ a2
          · rw [if_pos c10] at H
            have c10b0 := eq_true c10
            have c10b1 : decide (a1 ≤ a2) = true := decide_eq_true c10
            clear c10
            by_cases c11 : a2 ≤ (l0.length : Int)
            · rw [if_pos c11] at H
              have c11b0 := eq_true c11
              have c11b1 : decide (a2 ≤ (l0.length : Int)) = true := decide_eq_true c11
              clear c11
              replace H := Option.bind_eq_some_iff.mp H
              obtain ⟨t1112, A120, H⟩ := H
              replace H : (some (t1112, true)) = some (r1, r2) := H
              have A12 := Aside0.mk A120
              clear A120
              simp only [Option.some.injEq, Prod.mk.injEq] at H
              obtain ⟨rfl, rfl⟩ := H
              go_enter Try.func30, Try.ntmps30
              go_wp2_with (first | ((with_reducible refine gate_callee (f := 72) rfl ?_); refine goesL_ (some 9) rfl rfl Try.func72 (by kernel_rfl) rfl #[.slice A0 l0.length c0] rfl (by (try simp only [List.map_toArray, List.map_cons, List.map_nil]); first | done | rfl | (simp only [List.length_drop, List.length_take]; rfl)) ?_; (with_reducible refine (spec_l1Good.calls k _ _ l0 true _ ?side1 ?side2 A4.out).mono ?_); (case side1 => repeat (first | exact HR0.out | (with_reducible refine Kd.C_alloc ?_ _) | (with_reducible refine Kd.C_drewN ?_ _) | (with_reducible refine Kd.C_drew ?_))); (case side2 => exact HC0.out); rintro e w' ⟨rfl, ⟨nd, rfl⟩⟩; refine ⟨_, rfl, ?_⟩) | (go_at_call 75; (with_reducible refine (spec_l1In.calls a1 0 a2 true _ A6.out).mono ?_); rintro e w' ⟨rfl, ⟨nd, rfl⟩⟩; obtain ⟨i013, hi013, _, hsz13, _⟩ := info_parts info9; obtain ⟨A13, hcut13, hA13, hC13⟩ := print_mid_of (P := Try.prog) Value.string (⟨#[]⟩ : ByteArray) 29 9 .i64 .i64 Try.underlying29 hi013 hsz13 A0 c0 l0 a1 a2 (of_decide_eq_true (by first | (with_reducible assumption) | assumption)) (by first | omega | exact of_decide_eq_true (by first | (with_reducible assumption) | assumption)) (of_decide_eq_true (by first | (with_reducible assumption) | assumption)) HC0.out; have HR1111 := Aside0.mk (Kd.C_of_reads (h1 := fun _ => rfl) (hA13 _ (Kd.reads_of_C HR0.out))); have HC1111 := Aside0.mk hC13; clear hA13 hC13 hi013 hsz13) | ((with_reducible refine gate_callee (f := 82) rfl ?_); refine goesL_ (some 27) rfl rfl Try.func82 (by kernel_rfl) rfl #[.slice A13 ((l0.take (a2 : Int).toNat).drop (a1 : Int).toNat).length (c0 - a1.toNat)] rfl (by (try simp only [List.map_toArray, List.map_cons, List.map_nil]); first | done | (rw [show ((l0.take (a2 : Int).toNat).drop (a1 : Int).toNat).length = (a2.toNat - a1.toNat) from (by rw [List.length_drop, List.length_take]; have h_ : (a2 : Int) ≤ (l0.length : Int) := of_decide_eq_true (by first | (with_reducible assumption) | assumption); omega)] <;> rfl) | rfl | (simp only [List.length_drop, List.length_take]; rfl)) ?_; (with_reducible refine (spec_l1OwnT.calls _ _ ((l0.take (a2 : Int).toNat).drop (a1 : Int).toNat) t1112 _ ?side1 ?side2 A12.out).mono ?_); (case side1 => repeat (first | exact HR1111.out | (with_reducible refine Kd.C_alloc ?_ _) | (with_reducible refine Kd.C_drewN ?_ _) | (with_reducible refine Kd.C_drew ?_))); (case side2 => exact HC1111.out); rintro e w14 ⟨v1113, rfl, ho0, hb⟩; refine ⟨_, rfl, ?_⟩; have n0_ := Aside0.mk (Kd.R_lower ho0 (below_size (by repeat (first | (with_reducible first | exact HB.out | apply below_alloc | apply pw_below_drewN | apply below_drew1) | exact HB.out)))); have n1_ := Aside0.mk (below_step (by repeat (first | (with_reducible first | exact HB.out | apply below_alloc | apply pw_below_drewN | apply below_drew1) | exact HB.out)) hb); clear HB; have HO1114 := n0_; have HB := n1_; clear n0_ n1_; (try clear hb); (try clear hb2); (try clear hk); (try clear hi); (try clear ho0)))
              go_ret2
              exact ⟨_, by first | rfl | (simp [errW_none, errW_some] <;> rfl) | (simp [*, errW_none, errW_some] <;> rfl), by (with_reducible repeat (first | apply Kd.R_alloc | apply Kd.R_drewN | apply Kd.R_drew)); exact HO1114.out, by repeat (first | (with_reducible first | exact HB.out | apply below_alloc | apply pw_below_drewN | apply below_drew1) | exact HB.out)⟩
            · rw [if_neg c11] at H
              exact absurd H (by simp)
          · rw [if_neg c10] at H
            exact absurd H (by simp)
        · rw [if_neg c9] at H
          exact absurd H (by simp)
    · replace c7 := Bool.eq_false_iff.mpr c7
      subst c7
      have H1 : (some (([] : List ByteArray), false)) = some (r1, r2) := by rw [if_neg (show ¬ (false = true) by decide)] at H; exact H
      clear H
      have H := H1
      clear H1
      simp only [Option.some.injEq, Prod.mk.injEq] at H
      obtain ⟨rfl, rfl⟩ := H
      go_enter Try.func30, Try.ntmps30
      go_wp2_with (first | ((with_reducible refine gate_callee (f := 72) rfl ?_); refine goesL_ (some 9) rfl rfl Try.func72 (by kernel_rfl) rfl #[.slice A0 l0.length c0] rfl (by (try simp only [List.map_toArray, List.map_cons, List.map_nil]); first | done | rfl | (simp only [List.length_drop, List.length_take]; rfl)) ?_; (with_reducible refine (spec_l1Good.calls k _ _ l0 true _ ?side1 ?side2 A4.out).mono ?_); (case side1 => repeat (first | exact HR0.out | (with_reducible refine Kd.C_alloc ?_ _) | (with_reducible refine Kd.C_drewN ?_ _) | (with_reducible refine Kd.C_drew ?_))); (case side2 => exact HC0.out); rintro e w' ⟨rfl, ⟨nd, rfl⟩⟩; refine ⟨_, rfl, ?_⟩) | (go_at_call 75; (with_reducible refine (spec_l1In.calls a1 0 a2 false _ A6.out).mono ?_); rintro e w' ⟨rfl, ⟨nd, rfl⟩⟩))
      go_ret2
      exact ⟨_, by first | rfl | (simp [errW_none, errW_some] <;> rfl) | (simp [*, errW_none, errW_some] <;> rfl), by first | exact Kd.R_nil _ _ _ _ _ | exact Kd.N_nil _ _ _ _ _ | exact Kd.V_nil _ _ _ _ _ | exact Kd.Q_nil _ _ _ _ _ | exact Kd.S_nil _ _ _ _ _, by repeat (first | (with_reducible first | exact HB.out | apply below_alloc | apply pw_below_drewN | apply below_drew1) | exact HB.out)⟩
  · replace c5 := Bool.eq_false_iff.mpr c5
    subst c5
    have H1 : (some (([] : List ByteArray), false)) = some (r1, r2) := by rw [if_neg (show ¬ (false = true) by decide)] at H; exact H
    clear H
    have H := H1
    clear H1
    simp only [Option.some.injEq, Prod.mk.injEq] at H
    obtain ⟨rfl, rfl⟩ := H
    go_enter Try.func30, Try.ntmps30
    go_wp2_with (first | ((with_reducible refine gate_callee (f := 72) rfl ?_); refine goesL_ (some 9) rfl rfl Try.func72 (by kernel_rfl) rfl #[.slice A0 l0.length c0] rfl (by (try simp only [List.map_toArray, List.map_cons, List.map_nil]); first | done | rfl | (simp only [List.length_drop, List.length_take]; rfl)) ?_; (with_reducible refine (spec_l1Good.calls k _ _ l0 false _ ?side1 ?side2 A4.out).mono ?_); (case side1 => repeat (first | exact HR0.out | (with_reducible refine Kd.C_alloc ?_ _) | (with_reducible refine Kd.C_drewN ?_ _) | (with_reducible refine Kd.C_drew ?_))); (case side2 => exact HC0.out); rintro e w' ⟨rfl, ⟨nd, rfl⟩⟩; refine ⟨_, rfl, ?_⟩))
    go_ret2
    exact ⟨_, by first | rfl | (simp [errW_none, errW_some] <;> rfl) | (simp [*, errW_none, errW_some] <;> rfl), by first | exact Kd.R_nil _ _ _ _ _ | exact Kd.N_nil _ _ _ _ _ | exact Kd.V_nil _ _ _ _ _ | exact Kd.Q_nil _ _ _ _ _ | exact Kd.S_nil _ _ _ _ _, by repeat (first | (with_reducible first | exact HB.out | apply below_alloc | apply pw_below_drewN | apply below_drew1) | exact HB.out)⟩

end Go.Proofs.Ytbbkecdlapemfaa.My

/- Plain Lean: a part of lines, the program's and the reference's. Conditions: lengths and sizes below 2^43. -/
namespace Go.Proofs.Ytbbkecdlapemfaa.Pl
open Go.RowKit Go.Proofs.YtbbkecdlapemfaaW.PrintWords Go.Proofs.YtbbkecdlapemfaaW.PrintLast Go.Proofs.Ytbbkecdlapemfaa.My
set_option linter.unusedVariables false
set_option linter.unusedSimpArgs false

theorem cloneT_eq (l : List ByteArray) (h : l.length < 8796093022208) : slices_Clone_string_string.f l = some l := by
  unfold slices_Clone_string_string.f
  simp [h]
theorem ownT_eq (l : List ByteArray) (h : l.length < 8796093022208) : spec_l1OwnT.f l = some l := by
  unfold spec_l1OwnT.f
  simp [h]
def PartOf' (l : List ByteArray) (a b : Int) : List ByteArray × Bool :=
  if good l = true then (if 0 ≤ a ∧ a ≤ b ∧ b ≤ (l.length : Int) then ((l.take b.toNat).drop a.toNat, true) else ([], false)) else ([], false)

theorem impl_PartOf_ev (l : List ByteArray) (a b : Int) (hf : FitS l) (hL : l.length < 8796093022208) : Ev (fun k => impl_PartOf.f k l a b) (PartOf' l a b) := by
  simp only [impl_PartOf.f, impl_in_eq, Option.bind_some, PartOf']
  refine ev_bind (goodLines_ev l hf) (ev_ite (fun h => ?_) (fun h => ev_some (by rw [if_neg h])))
  rw [if_pos h]
  refine ev_ite (fun h1 => ev_ite (fun h2 => ?_) (fun h2 => ev_some ?_)) (fun h1 => ev_some ?_)
  · simp only [inB, Bool.and_eq_true, decide_eq_true_eq] at h1 h2
    have hc : 0 ≤ a ∧ a ≤ b ∧ b ≤ (l.length : Int) := ⟨by omega, by omega, by omega⟩
    refine ev_pos hc.1 (ev_pos hc.2.1 (ev_pos hc.2.2 ?_))
    rw [cloneT_eq _ (by rw [List.length_drop, List.length_take]; omega)]
    exact ev_some (by rw [if_pos hc])
  · simp only [inB, Bool.and_eq_true, decide_eq_true_eq] at h1 h2
    rw [if_neg (by omega)]
  · simp only [inB, Bool.and_eq_true, decide_eq_true_eq] at h1
    rw [if_neg (by omega)]

theorem spec_PartOf_ev (l : List ByteArray) (a b : Int) (hf : FitS l) (hL : l.length < 8796093022208) : Ev (fun k => spec_PartOf.f k l a b) (PartOf' l a b) := by
  simp only [spec_PartOf.f, spec_l1In_eq, Option.bind_some, PartOf']
  refine ev_bind (l1Good_ev l hf) (ev_ite (fun h => ?_) (fun h => ev_some (by rw [if_neg h])))
  rw [if_pos h]
  refine ev_ite (fun h1 => ev_ite (fun h2 => ev_some ?_) (fun h2 => ?_)) (fun h1 => ev_some ?_)
  · rw [if_neg (by omega)]
  · simp only [inB, Bool.and_eq_true, decide_eq_true_eq] at h1
    have hc : 0 ≤ a ∧ a ≤ b ∧ b ≤ (l.length : Int) := ⟨by omega, by omega, by omega⟩
    refine ev_pos hc.1 (ev_pos hc.2.1 (ev_pos hc.2.2 ?_))
    rw [ownT_eq _ (by rw [List.length_drop, List.length_take]; omega)]
    exact ev_some (by rw [if_pos hc])
  · simp only [inB, Bool.and_eq_true, decide_eq_true_eq] at h1
    rw [if_neg (by omega)]
end Go.Proofs.Ytbbkecdlapemfaa.Pl

/- Plain Lean: chapter 2: the hunks that lead back, for the program and the reference. Conditions: lengths and sizes below 2^62. -/
namespace Go.Proofs.Ytbbkecdlapemfaa.Pl
open Go.RowKit Go.Proofs.YtbbkecdlapemfaaW.PrintWords Go.Proofs.YtbbkecdlapemfaaW.PrintLast Go.Proofs.Ytbbkecdlapemfaa.My
set_option linter.unusedVariables false
set_option linter.unusedSimpArgs false

/-- The hunks that lead back, the text ahead having moved by s. -/
def backFrom (a : List ByteArray) : Int → List IH → List IH
  | _, [] => []
  | s, x :: t => ⟨x.f0 + s, (x.f2.length : Int), (a.take (x.f0 + x.f1).toNat).drop x.f0.toNat⟩ :: backFrom a (s + ((x.f2.length : Int) - x.f1)) t
theorem backFrom_len (a : List ByteArray) : ∀ (h : List IH) (s : Int), (backFrom a s h).length = h.length
  | [], _ => rfl
  | x :: t, s => by simp only [backFrom, List.length_cons, backFrom_len a t]
theorem backFrom_mem (a : List ByteArray) : ∀ (h : List IH) (s : Int) (y : IH), y ∈ backFrom a s h → y.f2.length ≤ a.length ∧ (∀ z ∈ y.f2, z ∈ a)
  | [], _, y, hy => by simp [backFrom] at hy
  | x :: t, s, y, hy => by
    simp only [backFrom, List.mem_cons] at hy
    rcases hy with rfl | hy
    · exact ⟨by rw [List.length_drop, List.length_take]; omega, fun z hz => List.mem_of_mem_take (List.mem_of_mem_drop hz)⟩
    · exact backFrom_mem a t _ y hy

theorem back_l0 (a : List ByteArray) (h : List IH) (hn : a.length ≤ 40) (hl : h.length ≤ 20) : ∀ d i (q s : Int) (acc : List IH), i + d = h.length → chain a.length q (h.drop i) = true → -40 * (i : Int) ≤ s → s ≤ 40 * (i : Int) → acc.length ≤ i →
    Ev (fun k => impl_BackHunks.l0 k a acc s h (h.length : Int) (i : Int)) ((acc ++ backFrom a s (h.drop i), true)) := by
  intro d
  induction d with
  | zero =>
    intro i q s acc hi hc h1 h2 hacc
    refine Ev.step (fun k => impl_BackHunks.l0.eq_2 ..) (ev_neg (by omega) (ev_some ?_))
    rw [List.drop_of_length_le (l := h) (by omega)]
    simp only [backFrom, List.append_nil]
  | succ d ih =>
    intro i q s acc hi hc h1 h2 hacc
    have hlt : i < h.length := by omega
    rw [List.drop_eq_getElem_cons hlt] at hc
    rw [List.drop_eq_getElem_cons hlt]
    simp only [chain, Bool.and_eq_true, hOK, decide_eq_true_eq] at hc
    obtain ⟨⟨⟨q0, q1, q2, q3, q4, q5⟩, _⟩, hc'⟩ := hc
    refine Ev.step (fun k => impl_BackHunks.l0.eq_2 ..) ?_
    simp only [rdIH h i hlt]
    rw [wrap64_id (x := h[i].f0 + h[i].f1) (by omega) (by omega), wrap64_id (x := h[i].f0 + s) (by omega) (by omega), wrap64_id (x := (h[i].f2.length : Int) - h[i].f1) (by omega) (by omega), wrap64_id (x := s + ((h[i].f2.length : Int) - h[i].f1)) (by omega) (by omega), wrap_succ i (by omega)]
    have e2 : ((a.take (h[i].f0 + h[i].f1).toNat).drop h[i].f0.toNat).length < 8796093022208 := by rw [List.length_drop, List.length_take]; omega
    rw [cloneT_eq _ e2]
    simp only [Option.bind_some]
    refine ev_pos (by omega) (ev_pos (by omega) (ev_pos (by omega) (ev_pos (by omega) (ev_pos (by omega) (ev_pos (by omega) (ev_pos (by omega) ?_))))))
    refine ev_to (ih (i + 1) _ _ _ (by omega) hc' (by omega) (by omega) (by rw [List.length_append, List.length_singleton]; omega)) ?_
    simp only [backFrom, List.append_assoc, List.singleton_append]

theorem l2Back_l0 (a : List ByteArray) (h : List IH) (hn : a.length ≤ 40) (hl : h.length ≤ 20) : ∀ d i (q s : Int) (acc : List IH), i + d = h.length → chain a.length q (h.drop i) = true → -40 * (i : Int) ≤ s → s ≤ 40 * (i : Int) → acc.length ≤ i →
    Ev (fun k => spec_l2Back.l0 k a acc s h (h.length : Int) (i : Int)) (acc ++ backFrom a s (h.drop i)) := by
  intro d
  induction d with
  | zero =>
    intro i q s acc hi hc h1 h2 hacc
    refine Ev.step (fun k => spec_l2Back.l0.eq_2 ..) (ev_neg (by omega) (ev_some ?_))
    rw [List.drop_of_length_le (l := h) (by omega)]
    simp only [backFrom, List.append_nil]
  | succ d ih =>
    intro i q s acc hi hc h1 h2 hacc
    have hlt : i < h.length := by omega
    rw [List.drop_eq_getElem_cons hlt] at hc
    rw [List.drop_eq_getElem_cons hlt]
    simp only [chain, Bool.and_eq_true, hOK, decide_eq_true_eq] at hc
    obtain ⟨⟨⟨q0, q1, q2, q3, q4, q5⟩, _⟩, hc'⟩ := hc
    refine Ev.step (fun k => spec_l2Back.l0.eq_2 ..) ?_
    simp only [rdIH h i hlt]
    rw [wrap64_id (x := h[i].f0 + h[i].f1) (by omega) (by omega), wrap64_id (x := h[i].f0 + s) (by omega) (by omega), wrap64_id (x := (h[i].f2.length : Int) - h[i].f1) (by omega) (by omega), wrap64_id (x := s + ((h[i].f2.length : Int) - h[i].f1)) (by omega) (by omega), wrap_succ i (by omega)]
    have e2 : ((a.take (h[i].f0 + h[i].f1).toNat).drop h[i].f0.toNat).length < 8796093022208 := by rw [List.length_drop, List.length_take]; omega
    rw [ownT_eq _ e2]
    simp only [Option.bind_some]
    refine ev_pos (by omega) (ev_pos (by omega) (ev_pos (by omega) (ev_pos (by omega) (ev_pos (by omega) (ev_pos (by omega) (ev_pos (by omega) ?_))))))
    refine ev_to (ih (i + 1) _ _ _ (by omega) hc' (by omega) (by omega) (by rw [List.length_append, List.length_singleton]; omega)) ?_
    simp only [backFrom, List.append_assoc, List.singleton_append]

def backR (a : List ByteArray) (h : List IH) : List IH × Bool := if (patchR a h).2 = true then (backFrom a 0 h, true) else ([], false)
theorem patchR_asked {a : List ByteArray} {h : List IH} (c : (patchR a h).2 = true) : asked a h = true := by
  unfold patchR at c
  split at c
  · rename_i e
    exact e.1
  · cases c
theorem impl_BackHunks_ev (a : List ByteArray) (h : List IH) (fa : FitS a) (fh : FitI h) : Ev (fun k => impl_BackHunks.f k a h) (backR a h) := by
  simp only [impl_BackHunks.f]
  unfold backR
  refine ev_bind (impl_Patch_ev a h fa fh) (ev_ite (fun c => ?_) (fun c => ev_some ?_))
  · rw [if_pos c]
    obtain ⟨c1, c2, c3, c4⟩ := asked_of (patchR_asked c)
    exact back_l0 a h c1 c2 h.length 0 (-1) 0 [] (by omega) c4 (by omega) (by omega) (Nat.zero_le _)
  · rw [if_neg c]
theorem spec_BackHunks_ev (a : List ByteArray) (h : List IH) (fa : FitS a) (fh : FitI h) : Ev (fun k => spec_BackHunks.f k a h) (backR a h) := by
  simp only [spec_BackHunks.f]
  unfold backR
  refine ev_bind (spec_Patch_ev a h fa fh) (ev_ite (fun c => ?_) (fun c => ev_some ?_))
  · obtain ⟨c1, c2, c3, c4⟩ := asked_of (patchR_asked c)
    have e : Ev (fun k => spec_l2Back.f k a h) (backFrom a 0 h) := by
      simp only [spec_l2Back.f]
      exact l2Back_l0 a h c1 c2 h.length 0 (-1) 0 [] (by omega) c4 (by omega) (by omega) (Nat.zero_le _)
    refine ev_bind e (ev_some ?_)
    rw [if_pos c]
  · rw [if_neg c]
theorem backR_small (a : List ByteArray) (h : List IH) : (backR a h).1.length ≤ 20 ∧ ∀ x ∈ (backR a h).1, 0 ≤ x.f2.length ∧ x.f2.length ≤ 100 := by
  unfold backR
  split
  · rename_i c
    obtain ⟨c1, c2, c3, c4⟩ := asked_of (patchR_asked c)
    refine ⟨by rw [backFrom_len]; exact c2, fun x hx => ⟨Nat.zero_le _, ?_⟩⟩
    have := (backFrom_mem a h 0 x hx).1
    omega
  · exact ⟨Nat.zero_le _, fun x hx => by simp at hx⟩
theorem backR_fit (a : List ByteArray) (h : List IH) (fa : FitS a) (fh : FitI h) : ∀ x ∈ (backR a h).1, FitS x.f2 := by
  unfold backR
  split
  · intro x hx
    have h1 := backFrom_mem a h 0 x hx
    exact ⟨Nat.le_trans h1.1 fa.1, fun z hz => fa.2 z (h1.2 z hz)⟩
  · intro x hx
    simp at hx
end Go.Proofs.Ytbbkecdlapemfaa.Pl

/- Plain Lean: how far marks of hunks go, and that they are told again. Conditions: at most 2^40 marks. -/
namespace Go.Proofs.Ytbbkecdlapemfaa.Pl
open Go.RowKit Go.Proofs.YtbbkecdlapemfaaW.PrintWords Go.Proofs.YtbbkecdlapemfaaW.PrintLast Go.Proofs.Ytbbkecdlapemfaa.My
set_option linter.unusedVariables false
set_option linter.unusedSimpArgs false

theorem endH_szH : ∀ (h : List LH) (m : Nat), endH (h.map toH) m ≤ m + 2 * szH h
  | [], m => by simp [endH]
  | x :: t, m => by
    have := endH_szH t (m + 2 + x.f2.length)
    simp only [szH, szS, List.map_cons, List.sum_cons, List.length_cons, endH, toH] at this ⊢
    omega
theorem endH_le : ∀ (v : List IH) (B m : Nat), (∀ x ∈ v, x.f2.length ≤ B) → endH v m ≤ m + (2 + B) * v.length
  | [], B, m, _ => by simp [endH]
  | x :: t, B, m, h => by
    have h1 := endH_le t B (m + 2 + x.f2.length) (fun y hy => h y (List.mem_cons_of_mem _ hy))
    have h2 := h x (List.mem_cons_self ..)
    simp only [List.length_cons, endH, Nat.mul_add] at h1 ⊢
    omega
end Go.Proofs.Ytbbkecdlapemfaa.Pl

/- Plain Lean: whether hunks are the same, of which no number is asked. Conditions: lengths and sizes below 2^63. -/
namespace Go.Proofs.Ytbbkecdlapemfaa.Pl
open Go.RowKit Go.Proofs.YtbbkecdlapemfaaW.PrintWords Go.Proofs.YtbbkecdlapemfaaW.PrintLast Go.Proofs.Ytbbkecdlapemfaa.My
set_option linter.unusedVariables false
set_option linter.unusedSimpArgs false

theorem eqHunkS_l0' (a b : List IH) (hab : a.length = b.length) (hL : a.length ≤ 9223372036854775807) (hf : ∀ x ∈ a, FitS x.f2) : ∀ d i, i + d = a.length → Ev (fun k => laws_eqHunkS.l0 k a b (i : Int)) (decide (a.drop i = b.drop i)) := by
  intro d
  induction d with
  | zero =>
    intro i hi
    refine Ev.step (fun k => laws_eqHunkS.l0.eq_2 ..) (ev_neg (by omega) (ev_some ?_))
    rw [List.drop_of_length_le (by omega), List.drop_of_length_le (by omega)]
    simp
  | succ d ih =>
    intro i hi
    have h1 : i < a.length := by omega
    have h2 : i < b.length := by omega
    refine Ev.step (fun k => laws_eqHunkS.l0.eq_2 ..) (ev_pos (by omega) (ev_pos (by omega) (ev_pos (by omega) ?_)))
    simp only [rdIH _ _ h1, rdIH _ _ h2, drop_cons a i h1, drop_cons b i h2]
    refine ev_bind (eqHunk_ev _ _ (hf _ (List.getElem_mem h1))) (ev_ite (fun h => ?_) (fun h => ev_some ?_))
    · rw [wrap_succ i (by omega)]
      refine ev_to (ih (i + 1) (by omega)) ?_
      rw [of_decide_eq_true h]
      simp only [List.cons.injEq, true_and]
    · have : ¬ a[i] = b[i] := fun e => h (decide_eq_true e)
      simp only [List.cons.injEq, this, false_and, decide_false]

theorem eqHunkS_ev' (a b : List IH) (hL : a.length ≤ 9223372036854775807) (hf : ∀ x ∈ a, FitS x.f2) : Ev (fun k => laws_eqHunkS.f k a b) (decide (a = b)) := by
  simp only [laws_eqHunkS.f]
  refine ev_ite (fun h => ?_) (fun h => ev_some ?_)
  · exact eqHunkS_l0' a b (by omega) hL hf a.length 0 (by omega)
  · have : ¬ a = b := fun e => h (by rw [e])
    simp [this]
end Go.Proofs.Ytbbkecdlapemfaa.Pl

/- Plain Lean: marks of hunks are told again. Conditions: at most 2^40 marks. -/
namespace Go.Proofs.Ytbbkecdlapemfaa.Pl
open Go.RowKit Go.Proofs.YtbbkecdlapemfaaW.PrintWords Go.Proofs.YtbbkecdlapemfaaW.PrintLast Go.Proofs.Ytbbkecdlapemfaa.My
set_option linter.unusedVariables false
set_option linter.unusedSimpArgs false

theorem heldHunkS_l0 (L : List IH) (E : Nat) (hE : E ≤ 1099511627776) (hL : L.length ≤ 1099511627776) : ∀ (vs : List IH) (i mm : Nat), L.drop i = mkHs vs mm → i + vs.length = L.length → endH vs mm = E → Ev (fun k => laws_heldHunkS.l0 k L (mm : Int) (i : Int)) (E : Int) := by
  intro vs
  induction vs with
  | nil =>
    intro i mm _ hi he
    refine Ev.step (fun k => laws_heldHunkS.l0.eq_2 ..) (ev_neg (by simp only [List.length_nil] at hi; omega) (ev_some ?_))
    rw [← he]
    rfl
  | cons x t ih =>
    intro i mm hd hi he
    simp only [List.length_cons] at hi
    have hlt : i < L.length := by omega
    rw [List.drop_eq_getElem_cons hlt] at hd
    simp only [mkHs, List.cons.injEq] at hd
    simp only [endH] at he
    have hge := endH_ge t (mm + 2 + x.f2.length)
    rw [he] at hge
    have hrd : rd_T83 L (i : Int) = mkH x mm := (rdIH L i hlt).trans hd.1
    refine Ev.step (fun k => laws_heldHunkS.l0.eq_2 ..) ?_
    simp only [hrd, mkH]
    rw [wr2 mm x.f2.length E hge hE, wrap_succ i (by omega)]
    exact ev_pos (by omega) (ev_pos (by omega) (ev_pos trivial (ev_pos trivial (ev_bind (heldStringS_ev (mm + 2) x.f2.length (le_a _ _ _ hge hE) (le_b _ _ _ hge hE)) (ev_neg (by omega) (ih (i + 1) _ hd.2 (by omega) he))))))
theorem mkHs_length : ∀ (v : List IH) (m : Nat), (mkHs v m).length = v.length
  | [], _ => rfl
  | x :: t, m => by simp only [mkHs, List.length_cons, mkHs_length t]
theorem heldHunkS_ev (v : List IH) (m : Nat) (hE : endH v m ≤ 1099511627776) (hL : v.length ≤ 1099511627776) : Ev (fun k => laws_heldHunkS.f k (mkHs v m) (m : Int)) ((endH v m : Nat) : Int) := by
  simp only [laws_heldHunkS.f]
  exact heldHunkS_l0 (mkHs v m) _ hE (by rw [mkHs_length]; exact hL) v 0 m rfl (by rw [mkHs_length]; omega) rfl
end Go.Proofs.Ytbbkecdlapemfaa.Pl

/- BackHunks's law: the walk and what its helpers come to, joined. No condition but the inputs' own. -/
namespace Go.Proofs.Ytbbkecdlapemfaa.Pure
open Go.RowKit Go.Proofs.Ytbbkecdlapemfaa.My Go.Proofs.Ytbbkecdlapemfaa.Pl Go.Proofs.YtbbkecdlapemfaaW.PrintWords Go.Proofs.YtbbkecdlapemfaaW.PrintLast
theorem FnExactBackHunks (a : List ByteArray) (h : List LH) (wa : (WL Wstr) a) (wh : (WL W82) h) (A0 : Option Addr) (c0 : Nat) (A1 : Option Addr) (c1 : Nat) (W : World) (hr0 : Kd.C Kd.string W A0 a.length a) (hc0 : a.length ≤ c0) (hr1 : Kd.C k82 W A1 h.length h) (hc1 : h.length ≤ c1) :
    Calls Try.prog 12 #[.slice A0 a.length c0, .slice A1 h.length c1] W fun e w' => e = .returned (.bool true) ∧ Below W.heap.size W w' := by
  have fa := fitS_of_wl wa
  have fh := fitH_of_wl wh
  have early : Ev (fun k => laws_FnExactBackHunks.f k a h) true → Calls Try.prog 12 #[.slice A0 a.length c0, .slice A1 h.length c1] W fun e w' => e = .returned (.bool true) ∧ Below W.heap.size W w' := fun hev => by
    obtain ⟨k, hk⟩ := hev
    exact laws_FnExactBackHunks.calls k A0 c0 a A1 c1 h true W hr0 hc0 hr1 hc1 (hk k (Nat.le_refl _))
  obtain ⟨r, hr, hl⟩ := szStringS_ev a fa 1048576 (by omega) (by omega)
  by_cases h0 : r < 0
  · refine early ?_
    simp only [laws_FnExactBackHunks.f]
    exact ev_bind hr (ev_pos h0 (ev_some rfl))
  have hz : szS a ≤ 1048576 ∧ 0 ≤ r ∧ r ≤ 1048576 := by rcases hl with hl | hl <;> omega
  obtain ⟨q, hq, hm⟩ := szHunkS_ev h fh r (by omega) (by omega)
  by_cases h1 : q < 0
  · refine early ?_
    simp only [laws_FnExactBackHunks.f]
    exact ev_bind hr (ev_neg h0 (ev_bind hq (ev_pos h1 (ev_some rfl))))
  have hz' : szH h ≤ 1048576 := by rcases hm with hm | hm <;> omega
  have ha : a.length ≤ 1048576 := by have := hz.1; unfold szS at this; omega
  have ih := fitI_of fh
  have hyl : (h.map toH).length ≤ 1048576 := by rw [List.length_map]; unfold szH at hz'; omega
  have hme : endH (h.map toH) (1 + a.length) ≤ 1099511627776 := Nat.le_trans (endH_szH h (1 + a.length)) (by omega)
  obtain ⟨k1, e1⟩ := hr
  obtain ⟨k2, e2⟩ := hq
  obtain ⟨k3, e3⟩ := toStringS_ev a (by omega)
  obtain ⟨k4, e4⟩ := toHunkS_ev h (smallH hz')
  obtain ⟨k5, e5⟩ := eqStringS_ev a a fa.1
  obtain ⟨k6, e6⟩ := eqHunkS_ev (h.map toH) (h.map toH) ih
  obtain ⟨k7, e7⟩ := spec_BackHunks_ev a (h.map toH) fa ih
  obtain ⟨k8, e8⟩ := impl_BackHunks_ev a (h.map toH) fa ih
  obtain ⟨k9, e9⟩ := markStringS_ev a 1 (by omega) (by omega)
  have hvs := backR_small a (h.map toH)
  have hvf := backR_fit a (h.map toH) fa ih
  generalize hv : (backR a (h.map toH)).1 = v at *
  generalize hb : (backR a (h.map toH)).2 = b at *
  have hp : backR a (h.map toH) = (v, b) := Prod.ext hv hb
  rw [hp] at e7 e8
  have hmv : endH v 1 ≤ 1099511627776 := Nat.le_trans (endH_le v 100 1 (fun x hx => (hvs.2 x hx).2)) (by have := hvs.1; omega)
  obtain ⟨k12, e12⟩ := heldHunkS_ev v 1 hmv (by have := hvs.1; omega)
  obtain ⟨k13, e13⟩ := eqHunkS_ev' v v (by have := hvs.1; omega) hvf
  have k11 := 0
  obtain ⟨k, hk⟩ : ∃ k, k1 + k2 + k3 + k4 + k5 + k6 + k7 + k8 + k9 + k11 + k12 + k13 ≤ k := ⟨_, Nat.le_refl _⟩
  exact laws_FnExactBackHunks_true k A0 c0 a A1 c1 h W hr0 hc0 hr1 hc1 r (e1 k (by omega)) h0 q (e2 k (by omega)) h1 a (e3 k (by omega)) ((e5 k (by omega)).trans (by simp)) (h.map toH) (e4 k (by omega)) ((e6 k (by omega)).trans (by simp)) v b (e7 k (by omega)) (e8 k (by omega)) ((e13 k (by omega)).trans (by simp)) (e9 k (by omega)) hme (by omega) hmv (by have := hvs.1; omega) (e12 k (by omega))
end Go.Proofs.Ytbbkecdlapemfaa.Pure

/- The Go function loop.example/g00825/laws.FnExactBackHunks returns true for every input, and each argument reads afterwards as it read before. No condition. -/
namespace Go.Proofs.Ytbbkecdlapemfaa.fnExactBackHunks
open Go.ChangeShapes Go.WideShapes Go.ChangeAt Go.RowKit Go.Joins Go.Proofs.Ytbbkecdlapemfaa.Opens Go.Proofs.Ytbbkecdlapemfaa.My
open Go.ChangeMaps (open_string shut_string)
set_option linter.unusedVariables false
set_option linter.unusedSimpArgs false
theorem own : ownKnob Try.prog.godebug = none := by kernel_rfl
theorem laidOut : laidOutB Try.prog = true := by kernel_rfl
set_option maxRecDepth 100000 in
theorem lifted (os : Os) (started : os.Started) (H : Type) (enc : TypeId × Value → H) :
    ReturnsInHanded {} Try.checked os 12 .any (Rows.fnExactBackHunksSpec.pre6 enc Try.prog Try.f12 Rows.fnExactBackHunksRow.domain false) (Rows.fnExactBackHunksSpec.post enc Try.prog Try.f12 false true false false) := by
  refine returnsInHanded_of_change_sized (C := Try.checked) own started (by kernel_rfl) Try.func12
    (ChangeSpec.witness6 (enc := enc) (C := Try.checked) false ⟨#[], #[.slice none 0 0, .slice none 0 0], []⟩ 8 (by kernel_rfl) (by kernel_rfl) (by kernel_rfl) (by kernel_rfl)) ?_
  intro W base args ds gs before hval0 hW hcnd hsz0 _
  have hval : ∀ (j : Nat) t v, Try.f12.params[j]? = some t → args[j]? = some v → Value.okWide Try.prog W .any base t v := hval0
  have hW' := hW
  obtain ⟨p, q, hA0, hV, rfl, hfz, hnd⟩ := hW
  have hA : DataW.TrodAll enc Try.prog W 0 (fun _ => true) true Try.f12.params.toList args.toList ds p := hA0
  rw [Try.params12] at hA hval
  obtain ⟨v0, vs0, d0, ds0, p0, q0, hargs, rfl, rfl, h0, r0⟩ := trodAll_cons hA
  obtain ⟨v1, vs1, d1, ds1, p1, q1, rfl, rfl, rfl, h1, r1⟩ := trodAll_cons r0
  obtain ⟨rfl, rfl, rfl⟩ := trodAll_nil r1
  obtain rfl : args = #[v0, v1] := by cases args; simp_all
  obtain ⟨rfl, rfl⟩ := trodVars_none hV
  obtain ⟨A0, n0, c0, rfl⟩ := okWide_slice Try.underlying29 (hval 0 29 v0 rfl rfl)
  have k0 := h0
  have lt0 : ∀ x ∈ p0, x.block < W.heap.size := by obtain ⟨m, hm⟩ := k0; exact DataW.trod_lt m _ _ _ hm
  obtain ⟨l0, rfl, hc0, hr0, q0_⟩ := Opens.row (opens_slice Try.underlying29 (by kernel_rfl) (opens_string Try.underlying9)) h0
  obtain ⟨A1, n1, c1, rfl⟩ := okWide_slice Try.underlying22 (hval 1 22 v1 rfl rfl)
  have k1 := h1
  have lt1 : ∀ x ∈ p1, x.block < W.heap.size := by obtain ⟨m, hm⟩ := k1; exact DataW.trod_lt m _ _ _ hm
  obtain ⟨l1, rfl, hc1, hr1, q1_⟩ := Opens.row (opens_slice Try.underlying22 (by kernel_rfl) opens82) h1
  clear hA0 hval0 hsz0
  refine (Pure.FnExactBackHunks l0 l1 q0_ q1_ _ _ _ _ W hr0 hc0 hr1 hc1).mono fun e W' hh => ?_
  obtain ⟨rfl, hd⟩ := hh
  have bel : Below W.heap.size W W' := hd
  exact ⟨_, rfl, _, _, _, [], _, [], hW', trodAll_mk1 (shut_bool Try.underlying4 _), (trodAll_cons_mk (Below.trod laidOut (by kernel_rfl) (of_decide_eq_true (by kernel_rfl)) k0 bel lt0) (trodAll_cons_mk (Below.trod laidOut (by kernel_rfl) (of_decide_eq_true (by kernel_rfl)) k1 bel lt1) trodAll_mk0)), rfl, bel.frame _, fun h => by cases h⟩
theorem over : Rows.fnExactBackHunksRow.holds Try.pinned (OpenSpec.ofChange Rows.fnExactBackHunksSpec) :=
  OpenClaim.holds_of_wide 12 Try.f12 rfl rfl rfl rfl rfl rfl rfl ⟨rfl, rfl, rfl, rfl, rfl⟩ rfl rfl rfl rfl rfl (by kernel_rfl) Try.func12 (by kernel_rfl)
    (of_decide_eq_true (by kernel_rfl)) (by unfold Func.isWrapper; first | (rw [if_pos (by decide +kernel)]; kernel_rfl) | (rw [if_neg (by decide +kernel)]; exact ⟨rfl, rfl⟩))
    (fun os started H enc _ => lifted os started H enc)
theorem proved : Rows.FnExactBackHunksSaid := over
#print axioms proved
end Go.Proofs.Ytbbkecdlapemfaa.fnExactBackHunks
namespace Go.Proofs.Ytbbkecdlapemfaa
/-- The row, under a short name, for the claim. -/
theorem fnExactBackHunks_holds : Rows.FnExactBackHunksSaid := fnExactBackHunks.proved
end Go.Proofs.Ytbbkecdlapemfaa
