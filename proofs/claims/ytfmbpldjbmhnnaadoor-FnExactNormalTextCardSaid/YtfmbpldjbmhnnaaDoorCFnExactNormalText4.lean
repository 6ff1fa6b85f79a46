/- Part 4 of 6 of a proof of this sentence: The Go function loop.example/g00825/laws.FnExactNormalText returns true for every input, and each argument reads afterwards as it read before. No condition. -/
import Derived.Test.YtfmbpldjbmhnnaaDoorCFnExactNormalText3
/- Written by this session's program (wip/gen): a plain function with the same answers as the Go function, and the proof that the Go code comes to them. Asked: that the plain function has an answer. -/
namespace Go.Proofs.YtfmbpldjbmhnnaaDoor.My
open Go.RowKit Go.Proofs.YtfmbpldjbmhnnaaDoorW.PrintWords Go.Proofs.YtfmbpldjbmhnnaaDoorW.PrintLast
set_option linter.unusedVariables false
set_option linter.unusedSimpArgs false

/-! ### spec_Patch: function 75 -/
def spec_Patch.f (k : Nat) (l0 : List ByteArray) (l1 : List (S70)) : Option (List ByteArray × Bool) := (spec_l2Asked.f k l0 l1).bind fun t424 => (if t424 = true then ((spec_l2Patch.f k l0 l1).bind fun t425 => ((spec_l1Good.f k t425).bind fun t428 => (if t428 = true then (some (t425, true)) else (some (([] : List ByteArray), false))))) else (some (([] : List ByteArray), false)))
set_option maxHeartbeats 8000000 in
set_option maxRecDepth 100000 in
theorem spec_Patch.calls (k : Nat) (A0 : Option Addr) (c0 : Nat) (l0 : List ByteArray) (A1 : Option Addr) (c1 : Nat) (l1 : List (S70)) (r1 : List ByteArray) (r2 : Bool) (w : World) (hr0 : Kd.C Kd.string w A0 l0.length l0) (hc0 : l0.length ≤ c0) (hr1 : Kd.C k70 w A1 l1.length l1) (hc1 : l1.length ≤ c1) (h : spec_Patch.f k l0 l1 = some (r1, r2)) :
  Calls Tryd.prog 75 #[.slice A0 l0.length c0, .slice A1 l1.length c1] w fun e w' => ∃ v0_ : Value, e = .returned (.tuple #[v0_, .bool r2]) ∧ Kd.R Kd.string 9 w' w.heap.size (fun _ => True) v0_ r1 ∧ Below w.heap.size w w' := by
 have HR0 := Aside0.mk hr0
 have HC0 := Aside0.mk hc0
 clear hr0 hc0
 have HR1 := Aside0.mk hr1
 have HC1 := Aside0.mk hc1
 clear hr1 hc1
 have HB := Aside0.mk (Below.refl w.heap.size w)
 have H : ((spec_l2Asked.f k l0 l1).bind fun t424 => (if t424 = true then ((spec_l2Patch.f k l0 l1).bind fun t425 => ((spec_l1Good.f k t425).bind fun t428 => (if t428 = true then (some (t425, true)) else (some (([] : List ByteArray), false))))) else (some (([] : List ByteArray), false)))) = some (r1, r2) := h
 clear h
 replace H := Option.bind_eq_some_iff.mp H
 obtain ⟨t424, A30, H⟩ := H
 replace H : (if t424 = true then ((spec_l2Patch.f k l0 l1).bind fun t425 => ((spec_l1Good.f k t425).bind fun t428 => (if t428 = true then (some (t425, true)) else (some (([] : List ByteArray), false))))) else (some (([] : List ByteArray), false))) = some (r1, r2) := H
 have A3 := Aside0.mk A30
 clear A30
 by_cases c4 : t424 = true
 ·subst c4
  have H1 : ((spec_l2Patch.f k l0 l1).bind fun t425 => ((spec_l1Good.f k t425).bind fun t428 => (if t428 = true then (some (t425, true)) else (some (([] : List ByteArray), false))))) = some (r1, r2) := by rw [if_pos rfl] at H; exact H
  clear H
  have H := H1
  clear H1
  replace H := Option.bind_eq_some_iff.mp H
  obtain ⟨t425, A50, H⟩ := H
  replace H : ((spec_l1Good.f k t425).bind fun t428 => (if t428 = true then (some (t425, true)) else (some (([] : List ByteArray), false)))) = some (r1, r2) := H
  have A5 := Aside0.mk A50
  clear A50
  replace H := Option.bind_eq_some_iff.mp H
  obtain ⟨t428, A60, H⟩ := H
  replace H : (if t428 = true then (some (t425, true)) else (some (([] : List ByteArray), false))) = some (r1, r2) := H
  have A6 := Aside0.mk A60
  clear A60
  by_cases c7 : t428 = true
  ·subst c7
   have H1 : (some (t425, true)) = some (r1, r2) := by rw [if_pos rfl] at H; exact H
   clear H
   have H := H1
   clear H1
   simp only [Option.some.injEq, Prod.mk.injEq] at H
   obtain ⟨rfl, rfl⟩ := H
   go_enter Tryd.func75, Tryd.ntmps75
   go_wp2_with (first | ((with_reducible refine gateC (f := 88) rfl ?_); refine goesL_ (some 9) rfl rfl Tryd.func88 (by kernel_rfl) rfl #[.slice A0 l0.length c0, .slice A1 l1.length c1] rfl zm ?_; (with_reducible refine (spec_l2Asked.calls k _ _ l0 _ _ l1 true _ ?side1 ?side2 ?side3 ?side4 A3.out).mono ?_); (case side1 => exact zq HR0.out); (case side2 => exact HC0.out); (case side3 => exact zq HR1.out); (case side4 => exact HC1.out); rintro e w8 ⟨rfl, hb⟩; refine ⟨_, rfl, ?_⟩; have n0_ := Aside0.mk (below_step zb hb); clear HB; have HB := n0_; clear n0_; (try clear hb); (try clear hb2); (try clear hk); (try clear hi)) | ((with_reducible refine gateC (f := 89) rfl ?_); refine goesL_ (some 13) rfl rfl Tryd.func89 (by kernel_rfl) rfl #[.slice A0 l0.length c0, .slice A1 l1.length c1] rfl zm ?_; (with_reducible refine (spec_l2Patch.calls k _ _ l0 _ _ l1 t425 _ ?side1 ?side2 ?side3 ?side4 A5.out).mono ?_); (case side1 => exact zq (Kd.C_below HR0.out HB.out)); (case side2 => exact HC0.out); (case side3 => exact zq (Kd.C_below HR1.out HB.out)); (case side4 => exact HC1.out); rintro e w9 ⟨v426, rfl, ho0, hb⟩; refine ⟨_, rfl, ?_⟩; have n0_ := Aside0.mk (Kd.R_lower ho0 (below_size zb)); have n1_ := Aside0.mk (below_step zb hb); clear HB; have HO427 := n0_; have HB := n1_; clear n0_ n1_; (try clear hb); (try clear hb2); (try clear hk); (try clear hi); (try clear ho0); obtain ⟨Ao10, co10, eo10⟩ := Kd.R_slice HO427.out; subst eo10) | ((with_reducible refine gateC (f := 90) rfl ?_); refine goesL_ (some 15) rfl rfl Tryd.func90 (by kernel_rfl) rfl #[.slice Ao10 t425.length co10] rfl zm ?_; (with_reducible refine (spec_l1Good.calls k _ _ t425 true _ ?side1 ?side2 A6.out).mono ?_); (case side1 => repeat (first | exact (Kd.R_reads' HO427.out).2.2 | (with_reducible refine Kd.C_alloc ?_ _) | (with_reducible refine Kd.C_drewN ?_ _) | (with_reducible refine Kd.C_drew ?_))); (case side2 => exact (Kd.R_reads' HO427.out).2.1); rintro e w' ⟨rfl, ⟨nd, rfl⟩⟩; refine ⟨_, rfl, ?_⟩))
   go_ret2
   exact ⟨_, by first | rfl | (simp [errW_none, errW_some] <;> rfl) | (simp [*, errW_none, errW_some] <;> rfl), by (with_reducible repeat (first | apply Kd.R_alloc | apply Kd.R_drewN | apply Kd.R_drew)); exact HO427.out, by repeat (first | (with_reducible first | exact HB.out | apply below_alloc | apply pw_below_drewN | apply below_drew1) | exact HB.out)⟩
  ·replace c7 := Bool.eq_false_iff.mpr c7
   subst c7
   have H1 : (some (([] : List ByteArray), false)) = some (r1, r2) := by rw [if_neg (show ¬ (false = true) by decide)] at H; exact H
   clear H
   have H := H1
   clear H1
   simp only [Option.some.injEq, Prod.mk.injEq] at H
   obtain ⟨rfl, rfl⟩ := H
   go_enter Tryd.func75, Tryd.ntmps75
   go_wp2_with (first | ((with_reducible refine gateC (f := 88) rfl ?_); refine goesL_ (some 9) rfl rfl Tryd.func88 (by kernel_rfl) rfl #[.slice A0 l0.length c0, .slice A1 l1.length c1] rfl zm ?_; (with_reducible refine (spec_l2Asked.calls k _ _ l0 _ _ l1 true _ ?side1 ?side2 ?side3 ?side4 A3.out).mono ?_); (case side1 => exact zq HR0.out); (case side2 => exact HC0.out); (case side3 => exact zq HR1.out); (case side4 => exact HC1.out); rintro e w11 ⟨rfl, hb⟩; refine ⟨_, rfl, ?_⟩; have n0_ := Aside0.mk (below_step zb hb); clear HB; have HB := n0_; clear n0_; (try clear hb); (try clear hb2); (try clear hk); (try clear hi)) | ((with_reducible refine gateC (f := 89) rfl ?_); refine goesL_ (some 13) rfl rfl Tryd.func89 (by kernel_rfl) rfl #[.slice A0 l0.length c0, .slice A1 l1.length c1] rfl zm ?_; (with_reducible refine (spec_l2Patch.calls k _ _ l0 _ _ l1 t425 _ ?side1 ?side2 ?side3 ?side4 A5.out).mono ?_); (case side1 => exact zq (Kd.C_below HR0.out HB.out)); (case side2 => exact HC0.out); (case side3 => exact zq (Kd.C_below HR1.out HB.out)); (case side4 => exact HC1.out); rintro e w12 ⟨v426, rfl, ho0, hb⟩; refine ⟨_, rfl, ?_⟩; have n0_ := Aside0.mk (Kd.R_lower ho0 (below_size zb)); have n1_ := Aside0.mk (below_step zb hb); clear HB; have HO427 := n0_; have HB := n1_; clear n0_ n1_; (try clear hb); (try clear hb2); (try clear hk); (try clear hi); (try clear ho0); obtain ⟨Ao13, co13, eo13⟩ := Kd.R_slice HO427.out; subst eo13) | ((with_reducible refine gateC (f := 90) rfl ?_); refine goesL_ (some 15) rfl rfl Tryd.func90 (by kernel_rfl) rfl #[.slice Ao13 t425.length co13] rfl zm ?_; (with_reducible refine (spec_l1Good.calls k _ _ t425 false _ ?side1 ?side2 A6.out).mono ?_); (case side1 => repeat (first | exact (Kd.R_reads' HO427.out).2.2 | (with_reducible refine Kd.C_alloc ?_ _) | (with_reducible refine Kd.C_drewN ?_ _) | (with_reducible refine Kd.C_drew ?_))); (case side2 => exact (Kd.R_reads' HO427.out).2.1); rintro e w' ⟨rfl, ⟨nd, rfl⟩⟩; refine ⟨_, rfl, ?_⟩))
   go_ret2
   exact ⟨_, by first | rfl | (simp [errW_none, errW_some] <;> rfl) | (simp [*, errW_none, errW_some] <;> rfl), by first | exact Kd.R_nil _ _ _ _ _ | exact Kd.Q_nil _ _ _ _ _ | exact Kd.S_nil _ _ _ _ _, by repeat (first | (with_reducible first | exact HB.out | apply below_alloc | apply pw_below_drewN | apply below_drew1) | exact HB.out)⟩
 ·replace c4 := Bool.eq_false_iff.mpr c4
  subst c4
  have H1 : (some (([] : List ByteArray), false)) = some (r1, r2) := by rw [if_neg (show ¬ (false = true) by decide)] at H; exact H
  clear H
  have H := H1
  clear H1
  simp only [Option.some.injEq, Prod.mk.injEq] at H
  obtain ⟨rfl, rfl⟩ := H
  go_enter Tryd.func75, Tryd.ntmps75
  go_wp2_with (first | ((with_reducible refine gateC (f := 88) rfl ?_); refine goesL_ (some 9) rfl rfl Tryd.func88 (by kernel_rfl) rfl #[.slice A0 l0.length c0, .slice A1 l1.length c1] rfl zm ?_; (with_reducible refine (spec_l2Asked.calls k _ _ l0 _ _ l1 false _ ?side1 ?side2 ?side3 ?side4 A3.out).mono ?_); (case side1 => exact zq HR0.out); (case side2 => exact HC0.out); (case side3 => exact zq HR1.out); (case side4 => exact HC1.out); rintro e w14 ⟨rfl, hb⟩; refine ⟨_, rfl, ?_⟩; have n0_ := Aside0.mk (below_step zb hb); clear HB; have HB := n0_; clear n0_; (try clear hb); (try clear hb2); (try clear hk); (try clear hi)))
  go_ret2
  exact ⟨_, by first | rfl | (simp [errW_none, errW_some] <;> rfl) | (simp [*, errW_none, errW_some] <;> rfl), by first | exact Kd.R_nil _ _ _ _ _ | exact Kd.Q_nil _ _ _ _ _ | exact Kd.S_nil _ _ _ _ _, by repeat (first | (with_reducible first | exact HB.out | apply below_alloc | apply pw_below_drewN | apply below_drew1) | exact HB.out)⟩

end Go.Proofs.YtfmbpldjbmhnnaaDoor.My

/- Written by this session's program (wip/gen): a plain function with the same answers as the Go function, and the proof that the Go code comes to them. Asked: that the plain function has an answer. -/
namespace Go.Proofs.YtfmbpldjbmhnnaaDoor.My
open Go.RowKit Go.Proofs.YtfmbpldjbmhnnaaDoorW.PrintWords Go.Proofs.YtfmbpldjbmhnnaaDoorW.PrintLast
set_option linter.unusedVariables false
set_option linter.unusedSimpArgs false

/-! ### spec_l1OwnT: function 91 -/
def spec_l1OwnT.f (l0 : List ByteArray) : Option (List ByteArray) := (some (([] : List ByteArray) : List ByteArray)).bind fun y429 => (if y429.length + l0.length < 8796093022208 then (some (y429 ++ l0)) else (none))
set_option maxHeartbeats 8000000 in
set_option maxRecDepth 100000 in
theorem spec_l1OwnT.calls (A0 : Option Addr) (c0 : Nat) (l0 : List ByteArray) (r : List ByteArray) (w : World) (hr0 : Kd.C Kd.string w A0 l0.length l0) (hc0 : l0.length ≤ c0) (h : spec_l1OwnT.f l0 = some r) :
  Calls Tryd.prog 91 #[.slice A0 l0.length c0] w fun e w' => ∃ v0_ : Value, e = .returned (v0_) ∧ Kd.R Kd.string 9 w' w.heap.size (fun _ => True) v0_ r ∧ Below w.heap.size w w' := by
 have HR0 := Aside0.mk hr0
 have HC0 := Aside0.mk hc0
 clear hr0 hc0
 have HB := Aside0.mk (Below.refl w.heap.size w)
 have H : ((some (([] : List ByteArray) : List ByteArray)).bind fun y429 => (if y429.length + l0.length < 8796093022208 then (some (y429 ++ l0)) else (none))) = some r := h
 clear h
 obtain ⟨y429, hy429⟩ : ∃ y_ : List ByteArray, y_ = (([] : List ByteArray)) := ⟨_, rfl⟩
 replace H : (if y429.length + l0.length < 8796093022208 then (some (y429 ++ l0)) else (none)) = some r := by first | (rw [hy429]; with_reducible exact H) | (have H2_ := (Option.bind_some _ _).symm.trans H; rw [hy429]; with_reducible exact H2_) | (have H2_ := (Option.bind_some _ _).symm.trans H; with_reducible exact H2_) | with_reducible exact H | (rw [hy429]; exact H) | exact H
 have Ny429 := Aside0.mk hy429
 clear hy429
 by_cases c2 : y429.length + l0.length < 8796093022208
 ·rw [if_pos c2] at H
  have LMc2 := Aside0.mk c2
  clear c2
  obtain ⟨y432, hy432⟩ : ∃ y_ : List ByteArray, y_ = (y429 ++ l0) := ⟨_, rfl⟩
  replace H : (some y432) = some r := by first | (rw [hy432]; with_reducible exact H) | (have H2_ := (Option.bind_some _ _).symm.trans H; rw [hy432]; with_reducible exact H2_) | (have H2_ := (Option.bind_some _ _).symm.trans H; with_reducible exact H2_) | with_reducible exact H | (rw [hy432]; exact H) | exact H
  have Ny432 := Aside0.mk hy432
  clear hy432
  obtain rfl := Option.some.inj H
  go_enter Tryd.func91, Tryd.ntmps91
  go_wp2_with (first | ((with_reducible refine gate_dst (N := 3) rfl ?_); refine Kd.R_lit Kd.string _ 9 ?hg (N := 3) ?hd (xs := ([] : List ByteArray)) (inner := []) (ok := fun _ => True) (okp := fun _ => True) ?hr ?hp (fun _ hk => hk) trivial (Below.refl _ _) (Nat.le_refl _) (by simp) ?_; (case hd => rfl); (case hg => rfl); (case hr => first | (go_simp; done) | (go_simp; rfl)); (case hp => exact (Reps.none _ _)); intro v430 w3 ho4 hb hg_ hnew_; clear hg_ hnew_; (first | rw [← Ny429.out] at ho4 | (simp only [Int.reduceToNat] at ho4; rw [← Ny429.out] at ho4)); have n0_ := Aside0.mk (Kd.R_lower ho4 (below_size zb)); have n1_ := Aside0.mk (below_step zb hb); clear HB; have HO431 := n0_; have HB := n1_; clear n0_ n1_; clear hb ho4) | ((with_reducible refine gateB (b := .append) (xs := #[.tmp 3, .tmp 4]) rfl ?_); at_builtin; refine Kd.R_append_rows Kd.string (w0 := w) w.heap.size rfl (.tmp 3) (.tmp 4) 37 9 (.string ⟨#[]⟩) 16 rfl Tryd.underlying37 info9 rfl (by decide) (by omega) v430 y429 l0 _ _ _ (fun _ => True) (fun _ => False) rfl rfl ?aO ?aR (fun _ _ h => h) (fun _ h => h.elim) ?aF ?aB ?aS ?aL ?_; (case aR => exact zq (Kd.C_below HR0.out HB.out)); (case aB => exact zb); (case aF => exact (fun _ _ => trivial)); (case aO => exact (zr HO431.out)); (case aS => exact (below_size zb)); (case aL => have := LMc2.out; omega); intro v433 w5 ho hb hg hat; rw [← Ny432.out] at ho; have n0_ := Aside0.mk (hb); have n1_ := Aside0.mk (ho); clear HB; clear HO431; have HB := n0_; have HO434 := n1_; clear n0_ n1_; clear ho hb hg hat))
  go_ret
  exact ⟨_, by first | rfl | (simp [errW_none, errW_some] <;> rfl) | (simp [*, errW_none, errW_some] <;> rfl), by (with_reducible repeat (first | apply Kd.R_alloc | apply Kd.R_drewN | apply Kd.R_drew)); exact HO434.out, by repeat (first | (with_reducible first | exact HB.out | apply below_alloc | apply pw_below_drewN | apply below_drew1) | exact HB.out)⟩
 ·rw [if_neg c2] at H
  exact absurd H (by simp)

end Go.Proofs.YtfmbpldjbmhnnaaDoor.My

/- Written by this session's program (wip/gen): a plain function with the same answers as the Go function, and the proof that the Go code comes to them. Asked: that the plain function has an answer. -/
namespace Go.Proofs.YtfmbpldjbmhnnaaDoor.My
open Go.RowKit Go.Proofs.YtfmbpldjbmhnnaaDoorW.PrintWords Go.Proofs.YtfmbpldjbmhnnaaDoorW.PrintLast
set_option linter.unusedVariables false
set_option linter.unusedSimpArgs false

/-! ### spec_l4Number: function 63 -/
def spec_l4Number.f (a0 : Int) (a1 : Int) : Option (Int) := if a1 > 0 then (some (wrap64 (a0 + 1))) else (some a0)
set_option maxHeartbeats 8000000 in
set_option maxRecDepth 100000 in
theorem spec_l4Number.calls (a0 : Int) (a1 : Int) (r : Int) (w : World) (h : spec_l4Number.f a0 a1 = some r) :
  Calls Tryd.prog 63 #[.int .i64 a0, .int .i64 a1] w fun e w' => e = .returned (.int .i64 r) ∧ Drawn0 w w' := by
 have H : (if a1 > 0 then (some (wrap64 (a0 + 1))) else (some a0)) = some r := h
 clear h
 by_cases c3 : a1 > 0
 ·rw [if_pos c3] at H
  have c3b0 : decide (0 < a1) = true := decide_eq_true c3
  clear c3
  obtain rfl := Option.some.inj H
  go_enter Tryd.func63, Tryd.ntmps63
  go_wp2
  go_ret
  exact ⟨by first | rfl | (simp; done) | (simp [*]; done), by repeat (first | exact Drawn0.refl _ | apply Drawn0.step)⟩
 ·rw [if_neg c3] at H
  have c3b0 : decide (0 < a1) = false := decide_eq_false c3
  clear c3
  obtain rfl := Option.some.inj H
  go_enter Tryd.func63, Tryd.ntmps63
  go_wp2
  go_ret
  exact ⟨by first | rfl | (simp; done) | (simp [*]; done), by repeat (first | exact Drawn0.refl _ | apply Drawn0.step)⟩

end Go.Proofs.YtfmbpldjbmhnnaaDoor.My

/- Written by this session's program (wip/gen): a plain function with the same answers as the Go function, and the proof that the Go code comes to them. Asked: that the plain function has an answer. -/
namespace Go.Proofs.YtfmbpldjbmhnnaaDoor.My
open Go.RowKit Go.Proofs.YtfmbpldjbmhnnaaDoorW.PrintWords Go.Proofs.YtfmbpldjbmhnnaaDoorW.PrintLast
set_option linter.unusedVariables false
set_option linter.unusedSimpArgs false

/-! ### spec_l5Steps: function 76 -/
def spec_l5Steps.l0 : Nat → List ByteArray → List (S56) → Int → List (S70) → Int → Int → Option ((List (S56)))
 | 0, _, _, _, _, _, _ => none
 | k + 1, x0, x5, x6, x12, x13, x14 => if x14 < x13 then (if 0 ≤ x14 then (if x14 < (x12.length : Int) then ((spec_l4Number.f ((rd_T70 x12 x14).f0) ((rd_T70 x12 x14).f1)).bind fun t437 => (if 0 ≤ ((rd_T70 x12 x14).f0) then (if ((rd_T70 x12 x14).f0) ≤ (wrap64 (((rd_T70 x12 x14).f0) + ((rd_T70 x12 x14).f1))) then (if (wrap64 (((rd_T70 x12 x14).f0) + ((rd_T70 x12 x14).f1))) ≤ (x0.length : Int) then ((spec_l1OwnT.f ((x0.take ((wrap64 (((rd_T70 x12 x14).f0) + ((rd_T70 x12 x14).f1))) : Int).toNat).drop (((rd_T70 x12 x14).f0) : Int).toNat)).bind fun t439 => ((spec_l4Number.f (wrap64 (((rd_T70 x12 x14).f0) + x6)) (((rd_T70 x12 x14).f2).length : Int)).bind fun t442 => ((spec_l1OwnT.f ((rd_T70 x12 x14).f2)).bind fun t443 => (if x5.length < 1759218604441 then (spec_l5Steps.l0 k x0 (x5 ++ [(⟨t437, wrap64 (((rd_T70 x12 x14).f0) + ((rd_T70 x12 x14).f1)), t439, t442, wrap64 ((wrap64 (((rd_T70 x12 x14).f0) + x6)) + (((rd_T70 x12 x14).f2).length : Int)), t443⟩ : S56)]) (wrap64 (x6 + (wrap64 ((((rd_T70 x12 x14).f2).length : Int) - ((rd_T70 x12 x14).f1))))) x12 x13 (wrap64 (x14 + 1))) else (none))))) else (none)) else (none)) else (none))) else (none)) else (none)) else (some x5)
def spec_l5Steps.f (k : Nat) (l0 : List ByteArray) (l1 : List (S70)) : Option ((List (S56))) := spec_l5Steps.l0 k l0 ([] : List (S56)) 0 l1 (l1.length : Int) 0
def spec_l5Steps.T8 : Bool × List (List Nat × List Nat) := (true, [([], []), ([0], [0]), ([], []), ([2], [2]), ([1, 3], [1, 3]), ([], []), ([5], [5]), ([], []), ([7], [7]), ([6, 8], [6, 8]), ([], []), ([], []), ([11], [11]), ([], []), ([13], [13]), ([], []), ([15], [15]), ([14, 16], [14, 16]), ([10, 12, 17], [10, 12, 17]), ([18, 4], [18]), ([], []), ([], []), ([20, 21, 19], [20, 21]), ([], []), ([], []), ([23, 24], [23, 24]), ([], []), ([26], [26]), ([27, 22], [27]), ([4, 9, 19, 22, 25, 28], [4, 9, 19, 22, 25, 28]), ([], []), ([30, 29, 28, 0, 1, 2, 3, 4, 5, 6, 7, 8, 9, 10, 11, 12, 13, 14, 15, 16, 17, 18, 19, 20, 21, 22, 23, 24, 25, 26, 27, 28, 29, 30], [29, 30])])
def spec_l5Steps.B8 : List Nat := [0, 1, 0, 4, 15, 0, 32, 0, 128, 480, 0, 0, 2048, 0, 8192, 0, 32768, 122880, 261120, 523295, 0, 0, 4193311, 0, 0, 25165824, 0, 67108864, 209714207, 536870911, 0, 2147483647]
theorem spec_l5Steps.tab8 : rtab .any (opsOf Tryd.f76 8) = spec_l5Steps.T8 := by kernel_rfl
theorem spec_l5Steps.bits8 : waitsOk spec_l5Steps.T8.2 spec_l5Steps.B8 = true := by kernel_rfl
set_option maxHeartbeats 8000000 in
set_option maxRecDepth 100000 in
theorem spec_l5Steps.calls (k : Nat) (A0 : Option Addr) (c0 : Nat) (l0 : List ByteArray) (A1 : Option Addr) (c1 : Nat) (l1 : List (S70)) (r : List (S56)) (w : World) (hr0 : Kd.C Kd.string w A0 l0.length l0) (hc0 : l0.length ≤ c0) (hr1 : Kd.C k70 w A1 l1.length l1) (hc1 : l1.length ≤ c1) (h : spec_l5Steps.f k l0 l1 = some r) :
  Calls Tryd.prog 76 #[.slice A0 l0.length c0, .slice A1 l1.length c1] w fun e w' => ∃ v0_ : Value, e = .returned (v0_) ∧ Kd.S k56 56 w' w.heap.size (fun _ => True) v0_ r ∧ Below w.heap.size w w' := by
 have hu70 := Tryd.underlying70
 have hu56 := Tryd.underlying56
 have HR0 := Aside0.mk hr0
 have HC0 := Aside0.mk hc0
 clear hr0 hc0
 have HR1 := Aside0.mk hr1
 have HC1 := Aside0.mk hc1
 clear hr1 hc1
 have HB := Aside0.mk (Below.refl w.heap.size w)
 have H : (spec_l5Steps.l0 k l0 ([] : List (S56)) 0 l1 (l1.length : Int) 0) = some r := h
 clear h
 have H' := Aside0.mk H
 clear H
 go_enter Tryd.func76, Tryd.ntmps76
 go_wp2
 go_loopg [5, 6, 14] k (fun kq v5 v6 v14 w' => ∃ (x5_1 : List (S56)) (x6_1 : Int) (x14_1 : Int), v6 = .int .i64 x6_1 ∧ v14 = .int .i64 x14_1 ∧ Aside0 (spec_l5Steps.l0 kq l0 x5_1 x6_1 l1 (l1.length : Int) x14_1 = some r) ∧ Aside0 (kq ≤ k) ∧ Aside0 (Kd.S k56 56 w' w.heap.size (fun _ => True) v5 x5_1) ∧ Aside0 (Below w.heap.size w w'))
 case atStart => exact ⟨(([] : List (S56))), (0), (0), zf, zf, H', ⟨Nat.le_refl _⟩, ⟨by first | exact Kd.S_nil _ _ _ _ _ | exact Kd.Q_nil _ _ _ _ _ | exact Kd.R_nil _ _ _ _ _⟩, ⟨by repeat (first | (with_reducible first | exact HB.out | apply below_alloc | apply pw_below_drewN | apply below_drew1) | exact HB.out)⟩⟩
 case round =>
  clear H'
  try clear c1
  try clear p2
  obtain ⟨x5_1, x6_1, x14_1, rfl, rfl, HA, HK1, HO_5, HB⟩ := hrel
  cases gk with
  | zero => exact absurd HA.out (by simp [spec_l5Steps.l0])
  | succ k1 =>
   have H := HA.out
   clear HA
   simp only [spec_l5Steps.l0] at H
   by_cases c3 : x14_1 < (l1.length : Int)
   ·rw [if_pos c3] at H
    have c3b0 : decide (x14_1 < (l1.length : Int)) = true := decide_eq_true c3
    clear c3
    by_cases c4 : 0 ≤ x14_1
    ·rw [if_pos c4] at H
     have c4b0 : decide (0 ≤ x14_1) = true := decide_eq_true c4
     clear c4
     by_cases c5 : x14_1 < (l1.length : Int)
     ·rw [if_pos c5] at H
      have c5b0 : decide (x14_1 < (l1.length : Int)) = true := decide_eq_true c5
      clear c5
      replace H := Option.bind_eq_some_iff.mp H
      obtain ⟨t437, A60, H⟩ := H
      replace H : (if 0 ≤ ((rd_T70 l1 x14_1).f0) then (if ((rd_T70 l1 x14_1).f0) ≤ (wrap64 (((rd_T70 l1 x14_1).f0) + ((rd_T70 l1 x14_1).f1))) then (if (wrap64 (((rd_T70 l1 x14_1).f0) + ((rd_T70 l1 x14_1).f1))) ≤ (l0.length : Int) then ((spec_l1OwnT.f ((l0.take ((wrap64 (((rd_T70 l1 x14_1).f0) + ((rd_T70 l1 x14_1).f1))) : Int).toNat).drop (((rd_T70 l1 x14_1).f0) : Int).toNat)).bind fun t439 => ((spec_l4Number.f (wrap64 (((rd_T70 l1 x14_1).f0) + x6_1)) (((rd_T70 l1 x14_1).f2).length : Int)).bind fun t442 => ((spec_l1OwnT.f ((rd_T70 l1 x14_1).f2)).bind fun t443 => (if x5_1.length < 1759218604441 then (spec_l5Steps.l0 k1 l0 (x5_1 ++ [(⟨t437, wrap64 (((rd_T70 l1 x14_1).f0) + ((rd_T70 l1 x14_1).f1)), t439, t442, wrap64 ((wrap64 (((rd_T70 l1 x14_1).f0) + x6_1)) + (((rd_T70 l1 x14_1).f2).length : Int)), t443⟩ : S56)]) (wrap64 (x6_1 + (wrap64 ((((rd_T70 l1 x14_1).f2).length : Int) - ((rd_T70 l1 x14_1).f1))))) l1 (l1.length : Int) (wrap64 (x14_1 + 1))) else (none))))) else (none)) else (none)) else (none)) = some r := H
      have A6 := Aside0.mk A60
      clear A60
      by_cases c7 : 0 ≤ ((rd_T70 l1 x14_1).f0)
      ·rw [if_pos c7] at H
       have c7b0 := eq_true c7
       have c7b1 : decide (0 ≤ ((rd_T70 l1 x14_1).f0)) = true := decide_eq_true c7
       clear c7
       by_cases c8 : ((rd_T70 l1 x14_1).f0) ≤ (wrap64 (((rd_T70 l1 x14_1).f0) + ((rd_T70 l1 x14_1).f1)))
       ·rw [if_pos c8] at H
        have c8b0 := eq_true c8
        have c8b1 : decide (((rd_T70 l1 x14_1).f0) ≤ (wrap64 (((rd_T70 l1 x14_1).f0) + ((rd_T70 l1 x14_1).f1)))) = true := decide_eq_true c8
        by_cases c9 : (wrap64 (((rd_T70 l1 x14_1).f0) + ((rd_T70 l1 x14_1).f1))) ≤ (l0.length : Int)
        ·rw [if_pos c9] at H
         have c9b0 := eq_true c9
         have c9b1 : decide ((wrap64 (((rd_T70 l1 x14_1).f0) + ((rd_T70 l1 x14_1).f1))) ≤ (l0.length : Int)) = true := decide_eq_true c9
         replace H := Option.bind_eq_some_iff.mp H
         obtain ⟨t439, A100, H⟩ := H
         replace H : ((spec_l4Number.f (wrap64 (((rd_T70 l1 x14_1).f0) + x6_1)) (((rd_T70 l1 x14_1).f2).length : Int)).bind fun t442 => ((spec_l1OwnT.f ((rd_T70 l1 x14_1).f2)).bind fun t443 => (if x5_1.length < 1759218604441 then (spec_l5Steps.l0 k1 l0 (x5_1 ++ [(⟨t437, wrap64 (((rd_T70 l1 x14_1).f0) + ((rd_T70 l1 x14_1).f1)), t439, t442, wrap64 ((wrap64 (((rd_T70 l1 x14_1).f0) + x6_1)) + (((rd_T70 l1 x14_1).f2).length : Int)), t443⟩ : S56)]) (wrap64 (x6_1 + (wrap64 ((((rd_T70 l1 x14_1).f2).length : Int) - ((rd_T70 l1 x14_1).f1))))) l1 (l1.length : Int) (wrap64 (x14_1 + 1))) else (none)))) = some r := H
         have A10 := Aside0.mk A100
         clear A100
         replace H := Option.bind_eq_some_iff.mp H
         obtain ⟨t442, A110, H⟩ := H
         replace H : ((spec_l1OwnT.f ((rd_T70 l1 x14_1).f2)).bind fun t443 => (if x5_1.length < 1759218604441 then (spec_l5Steps.l0 k1 l0 (x5_1 ++ [(⟨t437, wrap64 (((rd_T70 l1 x14_1).f0) + ((rd_T70 l1 x14_1).f1)), t439, t442, wrap64 ((wrap64 (((rd_T70 l1 x14_1).f0) + x6_1)) + (((rd_T70 l1 x14_1).f2).length : Int)), t443⟩ : S56)]) (wrap64 (x6_1 + (wrap64 ((((rd_T70 l1 x14_1).f2).length : Int) - ((rd_T70 l1 x14_1).f1))))) l1 (l1.length : Int) (wrap64 (x14_1 + 1))) else (none))) = some r := H
         have A11 := Aside0.mk A110
         clear A110
         replace H := Option.bind_eq_some_iff.mp H
         obtain ⟨t443, A120, H⟩ := H
         replace H : (if x5_1.length < 1759218604441 then (spec_l5Steps.l0 k1 l0 (x5_1 ++ [(⟨t437, wrap64 (((rd_T70 l1 x14_1).f0) + ((rd_T70 l1 x14_1).f1)), t439, t442, wrap64 ((wrap64 (((rd_T70 l1 x14_1).f0) + x6_1)) + (((rd_T70 l1 x14_1).f2).length : Int)), t443⟩ : S56)]) (wrap64 (x6_1 + (wrap64 ((((rd_T70 l1 x14_1).f2).length : Int) - ((rd_T70 l1 x14_1).f1))))) l1 (l1.length : Int) (wrap64 (x14_1 + 1))) else (none)) = some r := H
         have A12 := Aside0.mk A120
         clear A120
         by_cases c13 : x5_1.length < 1759218604441
         ·rw [if_pos c13] at H
          have LMc13 := Aside0.mk c13
          clear c13
          obtain ⟨y447, hy447⟩ : ∃ y_ : List (S56), y_ = (x5_1 ++ [(⟨t437, wrap64 (((rd_T70 l1 x14_1).f0) + ((rd_T70 l1 x14_1).f1)), t439, t442, wrap64 ((wrap64 (((rd_T70 l1 x14_1).f0) + x6_1)) + (((rd_T70 l1 x14_1).f2).length : Int)), t443⟩ : S56)]) := ⟨_, rfl⟩
          replace H : (spec_l5Steps.l0 k1 l0 y447 (wrap64 (x6_1 + (wrap64 ((((rd_T70 l1 x14_1).f2).length : Int) - ((rd_T70 l1 x14_1).f1))))) l1 (l1.length : Int) (wrap64 (x14_1 + 1))) = some r := by first | (rw [hy447]; with_reducible exact H) | (have H2_ := (Option.bind_some _ _).symm.trans H; rw [hy447]; with_reducible exact H2_) | (have H2_ := (Option.bind_some _ _).symm.trans H; with_reducible exact H2_) | with_reducible exact H | (rw [hy447]; exact H) | exact H
          have Ny447 := Aside0.mk hy447
          clear hy447
          have H' := Aside0.mk H
          clear H
          have p435 : 0 ≤ (x14_1 : Int) := oa
          have q435 : x14_1 < (l1.length : Int) := oa
          obtain ⟨ad435, A435_2, c435_2, e435, hx435_0, hx435_1, hx435_2, hl435_2, hi435_2⟩ := at_T70 HR1.out x14_1 p435 q435
          cases e435
          replace hx435_0 := (HB.out.cell (World.block_lt_of_cell? w _ hx435_0)).trans hx435_0
          replace hx435_1 := (HB.out.cell (World.block_lt_of_cell? w _ hx435_1)).trans hx435_1
          replace hx435_2 := (HB.out.cell (World.block_lt_of_cell? w _ hx435_2)).trans hx435_2
          have HR435_2 := Aside0.mk hi435_2
          have HC435_2 := Aside0.mk hl435_2
          clear hi435_2 hl435_2
          replace p435 := eq_true p435
          replace q435 := eq_true q435
          try go_wp2_with (first | ((with_reducible refine gate_dst (N := 8) rfl ?_); refine box_event ?hg (N := 8) ?hd (cs := #[.int .i64 0, .int .i64 0, .slice none 0 0]) (t := 70) ?hr ?_; (case hd => rfl); (case hg => rfl); (case hr => first | (go_simp; done) | (go_simp; rfl)); intro gb436 hg w14 hbox hb; have n0_ := Aside0.mk (Kd.S_below (zs HO_5.out) hb); have n1_ := Aside0.mk (below_step zb hb); have n2_ := Aside0.mk (hbox); have n3_ := Aside0.mk ((by rw [hg]; exact (below_size zb) : w.heap.size ≤ gb436)); have n4_ := Aside0.mk ((by rw [hg]; exact (below_size zb) : w.heap.size ≤ gb436)); clear HO_5; clear HB; have HO_5 := n0_; have HB := n1_; have BK436 := n2_; have GW436 := n3_; have GE436 := n4_; clear n0_ n1_ n2_ n3_ n4_; clear hb hbox hg; have hcz15_0 : w14.cell? ⟨gb436, 0, none⟩ = some (.int .i64 0) := (blk_cell BK436.out 0).trans rfl; have hcz15_1 : w14.cell? ⟨gb436, 1, none⟩ = some (.int .i64 0) := (blk_cell BK436.out 1).trans rfl; have hcz15_2 : w14.cell? ⟨gb436, 2, none⟩ = some (.slice none 0 0) := (blk_cell BK436.out 2).trans rfl; have hfz15_0 := blk_frozen BK436.out 0; have hfz15_1 := blk_frozen BK436.out 1; have hfz15_2 := blk_frozen BK436.out 2))
          have n0_ : Aside0 (Kd.S k56 56 (((w14.setCell ⟨gb436, 0, none⟩ (.int .i64 ((rd_T70 l1 x14_1).f0))).setCell ⟨gb436, 1, none⟩ (.int .i64 ((rd_T70 l1 x14_1).f1))).setCell ⟨gb436, 2, none⟩ (.slice A435_2 ((rd_T70 l1 x14_1).f2).length c435_2)) w.heap.size (fun _ => True) u5 x5_1) := ⟨by (with_reducible repeat (first | apply Kd.S_alloc | apply Kd.S_drewN | apply Kd.S_drew)); exact Kd.S_mono (Kd.S_far (p := ⟨gb436, 2, none⟩) (Kd.S_far (p := ⟨gb436, 1, none⟩) (Kd.S_far (p := ⟨gb436, 0, none⟩) (Kd.S_types HO_5.out BK436.out (by decide)) (fun _ hk => hk.2) (.int .i64 ((rd_T70 l1 x14_1).f0))) (fun _ hk => hk.2) (.int .i64 ((rd_T70 l1 x14_1).f1))) (fun _ hk => hk.2) (.slice A435_2 ((rd_T70 l1 x14_1).f2).length c435_2)) (fun _ hk => trivial)⟩
          have n1_ : Aside0 ((((w14.setCell ⟨gb436, 0, none⟩ (.int .i64 ((rd_T70 l1 x14_1).f0))).setCell ⟨gb436, 1, none⟩ (.int .i64 ((rd_T70 l1 x14_1).f1))).setCell ⟨gb436, 2, none⟩ (.slice A435_2 ((rd_T70 l1 x14_1).f2).length c435_2)).heap[gb436]? = some (.cells #[.int .i64 ((rd_T70 l1 x14_1).f0), .int .i64 ((rd_T70 l1 x14_1).f1), .slice A435_2 ((rd_T70 l1 x14_1).f2).length c435_2] 70 (0, 0))) := ⟨by (with_reducible repeat (first | refine blk_drewN ?_ _ | refine blk_drew ?_ | refine blk_alloc ?_ _)); refine blk_put (cs := #[.int .i64 ((rd_T70 l1 x14_1).f0), .int .i64 ((rd_T70 l1 x14_1).f1), .slice none 0 0]) ?_ 2 _ rfl; (with_reducible repeat (first | refine blk_drewN ?_ _ | refine blk_drew ?_ | refine blk_alloc ?_ _)); refine blk_put (cs := #[.int .i64 ((rd_T70 l1 x14_1).f0), .int .i64 0, .slice none 0 0]) ?_ 1 _ rfl; (with_reducible repeat (first | refine blk_drewN ?_ _ | refine blk_drew ?_ | refine blk_alloc ?_ _)); refine blk_put (cs := #[.int .i64 0, .int .i64 0, .slice none 0 0]) ?_ 0 _ rfl; (with_reducible repeat (first | refine blk_drewN ?_ _ | refine blk_drew ?_ | refine blk_alloc ?_ _)); exact BK436.out⟩
          have n2_ : Aside0 (Below w.heap.size w (((w14.setCell ⟨gb436, 0, none⟩ (.int .i64 ((rd_T70 l1 x14_1).f0))).setCell ⟨gb436, 1, none⟩ (.int .i64 ((rd_T70 l1 x14_1).f1))).setCell ⟨gb436, 2, none⟩ (.slice A435_2 ((rd_T70 l1 x14_1).f2).length c435_2))) := ⟨by repeat (first | (with_reducible first | exact HB.out | apply below_alloc | apply pw_below_drewN | apply below_drew1 | refine below_set ?_ GE436.out) | exact HB.out)⟩
          (try clear HO_5)
          (try clear BK436)
          (try clear HB)
          (try simp only [show ∀ (w_ : World) (n_ : Nat) (p_ : Addr) (v_ : Value), (w_.drewN n_).setCell p_ v_ = (w_.setCell p_ v_).drewN n_ from fun _ _ _ _ => rfl])
          generalize (((w14.setCell ⟨gb436, 0, none⟩ (.int .i64 ((rd_T70 l1 x14_1).f0))).setCell ⟨gb436, 1, none⟩ (.int .i64 ((rd_T70 l1 x14_1).f1))).setCell ⟨gb436, 2, none⟩ (.slice A435_2 ((rd_T70 l1 x14_1).f2).length c435_2)) = w16 at n0_ n1_ n2_ ⊢
          have HO_5 := n0_
          have BK436 := n1_
          have HB := n2_
          clear n0_ n1_ n2_
          have n0_ := Aside0.mk (Kd.S_drew HO_5.out)
          have n1_ := Aside0.mk (blk_drew BK436.out)
          have n2_ := Aside0.mk (below_drew1 HB.out)
          clear HO_5
          clear BK436
          clear HB
          have HO_5 := n0_
          have BK436 := n1_
          have HB := n2_
          clear n0_ n1_ n2_
          obtain ⟨i018, hi018, _, hsz18, _⟩ := info_parts info9
          obtain ⟨A18, hcut18, hA18, hC18⟩ := print_mid_of (P := Tryd.prog) Value.string (⟨#[]⟩ : ByteArray) 37 9 .i64 .i64 Tryd.underlying37 hi018 hsz18 A0 c0 l0 ((rd_T70 l1 x14_1).f0) (wrap64 (((rd_T70 l1 x14_1).f0) + ((rd_T70 l1 x14_1).f1))) oa (by first | omega | exact oa) oa HC0.out
          have HR438 := Aside0.mk (Kd.C_of_reads (h1 := fun _ => rfl) (hA18 _ (Kd.reads_of_C HR0.out)))
          have HC438 := Aside0.mk hC18
          clear hA18 hC18 hi018 hsz18
          refine start_ (n := 32) (S := fun w' => w'.cell? ⟨gb436, 0, none⟩ = some (.int .i64 ((rd_T70 l1 x14_1).f0)) ∧ w'.cell? ⟨gb436, 1, none⟩ = some (.int .i64 ((rd_T70 l1 x14_1).f1)) ∧ w'.cell? ⟨gb436, 2, none⟩ = some (.slice A435_2 ((rd_T70 l1 x14_1).f2).length c435_2)) (ds := []) #[O,O,O,O,O,O,O,O,O,O,O,O,O,O,O,O,O,O,O,O,O,O,O,O,O,O,O,O,O,O,O,O] (by kernel_rfl) rfl rfl ⟨(blk_cell BK436.out 0).trans rfl, (blk_cell BK436.out 1).trans rfl, (blk_cell BK436.out 2).trans rfl⟩ (fun hHeld => ?_); refine with_tabW spec_l5Steps.tab8 spec_l5Steps.bits8 (fun HT_ HW_ => ?_)
          generalize w16.drew = w17 at HO_5 BK436 HB HR438 hHeld ⊢
          refine pure_ (i := 0) (N := some 25) (v := ?_) (a' := ?_) #[Y,O,O,O,O,O,O,O,O,O,O,O,O,O,O,O,O,O,O,O,O,O,O,O,O,O,O,O,O,O,O,O] rfl rfl zx (fun _ _ _ h => h) (Or.inl ⟨by rfl, ?_⟩) ?_ ?_
          rotate_left; (intro w'; go_simp; with_reducible rfl); rotate_left; (simp only [Act.put,qa,qb,qc,i64_w,i32_w]; rfl)
          refine pure_ (i := 2) (N := some 27) (v := ?_) (a' := ?_) #[Y,O,Y,O,O,O,O,O,O,O,O,O,O,O,O,O,O,O,O,O,O,O,O,O,O,O,O,O,O,O,O,O] rfl rfl zx (fun _ _ _ h => h) (Or.inl ⟨by rfl, ?_⟩) ?_ ?_
          rotate_left; (intro w'; go_simp; with_reducible rfl); rotate_left; (simp only [Act.put,qa,qb,qc,i64_w,i32_w]; rfl)
          refine pure_ (i := 5) (N := some 30) (v := ?_) (a' := ?_) #[Y,O,Y,O,O,Y,O,O,O,O,O,O,O,O,O,O,O,O,O,O,O,O,O,O,O,O,O,O,O,O,O,O] rfl rfl zx (fun _ _ _ h => h) (Or.inl ⟨by rfl, ?_⟩) ?_ ?_
          rotate_left; (intro w'; go_simp; with_reducible rfl); rotate_left; (simp only [Act.put,qa,qb,qc,i64_w,i32_w]; rfl)
          refine pure_ (i := 7) (N := some 32) (v := ?_) (a' := ?_) #[Y,O,Y,O,O,Y,O,Y,O,O,O,O,O,O,O,O,O,O,O,O,O,O,O,O,O,O,O,O,O,O,O,O] rfl rfl zx (fun _ _ _ h => h) (Or.inl ⟨by rfl, ?_⟩) ?_ ?_
          rotate_left; (intro w'; go_simp; with_reducible rfl); rotate_left; (simp only [Act.put,qa,qb,qc,i64_w,i32_w]; rfl)
          refine pure_ (i := 10) (N := some 35) (v := ?_) (a' := ?_) #[Y,O,Y,O,O,Y,O,Y,O,O,Y,O,O,O,O,O,O,O,O,O,O,O,O,O,O,O,O,O,O,O,O,O] rfl rfl zx (fun _ _ _ h => h) (Or.inl ⟨by rfl, ?_⟩) ?_ ?_
          rotate_left; (intro w'; go_simp; with_reducible rfl); rotate_left; (simp only [Act.put,qa,qb,qc,i64_w,i32_w]; rfl)
          refine pure_ (i := 11) (N := some 36) (v := ?_) (a' := ?_) #[Y,O,Y,O,O,Y,O,Y,O,O,Y,Y,O,O,O,O,O,O,O,O,O,O,O,O,O,O,O,O,O,O,O,O] rfl rfl zx (fun _ _ _ h => h) (Or.inl ⟨by rfl, ?_⟩) ?_ ?_
          rotate_left; (intro w'; go_simp; with_reducible rfl); rotate_left; (simp only [Act.put,qa,qb,qc,i64_w,i32_w]; rfl)
          refine pure_ (i := 13) (N := some 38) (v := ?_) (a' := ?_) #[Y,O,Y,O,O,Y,O,Y,O,O,Y,Y,O,Y,O,O,O,O,O,O,O,O,O,O,O,O,O,O,O,O,O,O] rfl rfl zx (fun _ _ _ h => h) (Or.inl ⟨by rfl, ?_⟩) ?_ ?_
          rotate_left; (intro w'; go_simp; with_reducible rfl); rotate_left; (simp only [Act.put,qa,qb,qc,i64_w,i32_w]; rfl)
          refine pure_ (i := 15) (N := some 40) (v := ?_) (a' := ?_) #[Y,O,Y,O,O,Y,O,Y,O,O,Y,Y,O,Y,O,Y,O,O,O,O,O,O,O,O,O,O,O,O,O,O,O,O] rfl rfl zx (fun _ _ _ h => h) (Or.inl ⟨by rfl, ?_⟩) ?_ ?_
          rotate_left; (intro w'; go_simp; with_reducible rfl); rotate_left; (simp only [Act.put,qa,qb,qc,i64_w,i32_w]; rfl)
          refine pure_ (i := 20) (N := some 45) (v := ?_) (a' := ?_) #[Y,O,Y,O,O,Y,O,Y,O,O,Y,Y,O,Y,O,Y,O,O,O,O,Y,O,O,O,O,O,O,O,O,O,O,O] rfl rfl zx (fun _ _ _ h => h) (Or.inl ⟨by rfl, ?_⟩) ?_ ?_
          rotate_left; (intro w'; go_simp; with_reducible rfl); rotate_left; (simp only [Act.put,qa,qb,qc,i64_w,i32_w]; rfl)
          refine pure_ (i := 21) (N := some 46) (v := ?_) (a' := ?_) #[Y,O,Y,O,O,Y,O,Y,O,O,Y,Y,O,Y,O,Y,O,O,O,O,Y,Y,O,O,O,O,O,O,O,O,O,O] rfl rfl zx (fun _ _ _ h => h) (Or.inl ⟨by rfl, ?_⟩) ?_ ?_
          rotate_left; (intro w'; go_simp; with_reducible rfl); rotate_left; (simp only [Act.put,qa,qb,qc,i64_w,i32_w]; rfl)
          refine pure_ (i := 23) (N := some 48) (v := ?_) (a' := ?_) #[Y,O,Y,O,O,Y,O,Y,O,O,Y,Y,O,Y,O,Y,O,O,O,O,Y,Y,O,Y,O,O,O,O,O,O,O,O] rfl rfl zx (fun _ _ _ h => h) (Or.inl ⟨by rfl, ?_⟩) ?_ ?_
          rotate_left; (intro w'; go_simp; with_reducible rfl); rotate_left; (simp only [Act.put,qa,qb,qc,i64_w,i32_w]; rfl)
          refine pure_ (i := 24) (N := some 49) (v := ?_) (a' := ?_) #[Y,O,Y,O,O,Y,O,Y,O,O,Y,Y,O,Y,O,Y,O,O,O,O,Y,Y,O,Y,Y,O,O,O,O,O,O,O] rfl rfl zx (fun _ _ _ h => h) (Or.inl ⟨by rfl, ?_⟩) ?_ ?_
          rotate_left; (intro w'; go_simp; with_reducible rfl); rotate_left; (simp only [Act.put,qa,qb,qc,i64_w,i32_w]; rfl)
          refine pure_ (i := 25) (N := some 50) (v := ?_) (a' := ?_) #[Y,O,Y,O,O,Y,O,Y,O,O,Y,Y,O,Y,O,Y,O,O,O,O,Y,Y,O,Y,Y,Y,O,O,O,O,O,O] rfl rfl zx (fun _ _ _ h => h) (Or.inl ⟨by rfl, ?_⟩) ?_ ?_
          rotate_left; (intro w'; go_simp; with_reducible rfl); rotate_left; (simp only [Act.put,qa,qb,qc,i64_w,i32_w]; rfl)
          refine pure_ (i := 26) (N := some 51) (v := ?_) (a' := ?_) #[Y,O,Y,O,O,Y,O,Y,O,O,Y,Y,O,Y,O,Y,O,O,O,O,Y,Y,O,Y,Y,Y,Y,O,O,O,O,O] rfl rfl zx (fun _ _ _ h => h) (Or.inl ⟨by rfl, ?_⟩) ?_ ?_
          rotate_left; (intro w'; go_simp; with_reducible rfl); rotate_left; (simp only [Act.put,qa,qb,qc,i64_w,i32_w]; rfl)
          refine take_ (i := 1) (N := some 26) (v := ?_) (a' := ?_) #[Y,Y,Y,O,O,Y,O,Y,O,O,Y,Y,O,Y,O,Y,O,O,O,O,Y,Y,O,Y,Y,Y,Y,O,O,O,O,O] rfl rfl (take_ofW HT_.out HW_.out (by kernel_rfl)) (fun _ _ _ h => h) (Or.inl ⟨by rfl, ?_⟩) hHeld ?_ ?_
          rotate_left; (rintro w' ⟨s0, s1, s2⟩; go_simp; with_reducible rfl); rotate_left; (simp only [Act.put,qa,qb,qc,i64_w,i32_w]; rfl)
          refine take_ (i := 3) (N := some 28) (v := ?_) (a' := ?_) #[Y,Y,Y,Y,O,Y,O,Y,O,O,Y,Y,O,Y,O,Y,O,O,O,O,Y,Y,O,Y,Y,Y,Y,O,O,O,O,O] rfl rfl (take_ofW HT_.out HW_.out (by kernel_rfl)) (fun _ _ _ h => h) (Or.inl ⟨by rfl, ?_⟩) hHeld ?_ ?_
          rotate_left; (rintro w' ⟨s0, s1, s2⟩; go_simp; with_reducible rfl); rotate_left; (simp only [Act.put,qa,qb,qc,i64_w,i32_w]; rfl)
          refine take_ (i := 6) (N := some 31) (v := ?_) (a' := ?_) #[Y,Y,Y,Y,O,Y,Y,Y,O,O,Y,Y,O,Y,O,Y,O,O,O,O,Y,Y,O,Y,Y,Y,Y,O,O,O,O,O] rfl rfl (take_ofW HT_.out HW_.out (by kernel_rfl)) (fun _ _ _ h => h) (Or.inl ⟨by rfl, ?_⟩) hHeld ?_ ?_
          rotate_left; (rintro w' ⟨s0, s1, s2⟩; go_simp; with_reducible rfl); rotate_left; (simp only [Act.put,qa,qb,qc,i64_w,i32_w]; rfl)
          refine take_ (i := 8) (N := some 33) (v := ?_) (a' := ?_) #[Y,Y,Y,Y,O,Y,Y,Y,Y,O,Y,Y,O,Y,O,Y,O,O,O,O,Y,Y,O,Y,Y,Y,Y,O,O,O,O,O] rfl rfl (take_ofW HT_.out HW_.out (by kernel_rfl)) (fun _ _ _ h => h) (Or.inl ⟨by rfl, ?_⟩) hHeld ?_ ?_
          rotate_left; (rintro w' ⟨s0, s1, s2⟩; go_simp; with_reducible rfl); rotate_left; (simp only [Act.put,qa,qb,qc,i64_w,i32_w]; rfl)
          refine pure_ (i := 9) (N := some 34) (v := ?_) (a' := ?_) #[Y,Y,Y,Y,O,Y,Y,Y,Y,Y,Y,Y,O,Y,O,Y,O,O,O,O,Y,Y,O,Y,Y,Y,Y,O,O,O,O,O] rfl rfl zx (fun _ _ _ h => h) (Or.inl ⟨by rfl, ?_⟩) ?_ ?_
          rotate_left; (intro w'; go_simp; with_reducible rfl); rotate_left; (simp only [Act.put,qa,qb,qc,i64_w,i32_w]; rfl)
          refine take_ (i := 12) (N := some 37) (v := ?_) (a' := ?_) #[Y,Y,Y,Y,O,Y,Y,Y,Y,Y,Y,Y,Y,Y,O,Y,O,O,O,O,Y,Y,O,Y,Y,Y,Y,O,O,O,O,O] rfl rfl (take_ofW HT_.out HW_.out (by kernel_rfl)) (fun _ _ _ h => h) (Or.inl ⟨by rfl, ?_⟩) hHeld ?_ ?_
          rotate_left; (rintro w' ⟨s0, s1, s2⟩; go_simp; with_reducible rfl); rotate_left; (simp only [Act.put,qa,qb,qc,i64_w,i32_w]; rfl)
          refine take_ (i := 14) (N := some 39) (v := ?_) (a' := ?_) #[Y,Y,Y,Y,O,Y,Y,Y,Y,Y,Y,Y,Y,Y,Y,Y,O,O,O,O,Y,Y,O,Y,Y,Y,Y,O,O,O,O,O] rfl rfl (take_ofW HT_.out HW_.out (by kernel_rfl)) (fun _ _ _ h => h) (Or.inl ⟨by rfl, ?_⟩) hHeld ?_ ?_
          rotate_left; (rintro w' ⟨s0, s1, s2⟩; go_simp; with_reducible rfl); rotate_left; (simp only [Act.put,qa,qb,qc,i64_w,i32_w]; rfl)
          refine take_ (i := 16) (N := some 41) (v := ?_) (a' := ?_) #[Y,Y,Y,Y,O,Y,Y,Y,Y,Y,Y,Y,Y,Y,Y,Y,Y,O,O,O,Y,Y,O,Y,Y,Y,Y,O,O,O,O,O] rfl rfl (take_ofW HT_.out HW_.out (by kernel_rfl)) (fun _ _ _ h => h) (Or.inl ⟨by rfl, ?_⟩) hHeld ?_ ?_
          rotate_left; (rintro w' ⟨s0, s1, s2⟩; go_simp; with_reducible rfl); rotate_left; (simp only [Act.put,qa,qb,qc,i64_w,i32_w]; rfl)
          refine pure_ (i := 17) (N := some 42) (v := ?_) (a' := ?_) #[Y,Y,Y,Y,O,Y,Y,Y,Y,Y,Y,Y,Y,Y,Y,Y,Y,Y,O,O,Y,Y,O,Y,Y,Y,Y,O,O,O,O,O] rfl rfl zx (fun _ _ _ h => h) (Or.inl ⟨by rfl, ?_⟩) ?_ ?_
          rotate_left; (intro w'; go_simp; with_reducible rfl); rotate_left; (simp only [Act.put,qa,qb,qc,i64_w,i32_w]; rfl)
          refine pure_ (i := 18) (N := some 43) (v := ?_) (a' := ?_) #[Y,Y,Y,Y,O,Y,Y,Y,Y,Y,Y,Y,Y,Y,Y,Y,Y,Y,Y,O,Y,Y,O,Y,Y,Y,Y,O,O,O,O,O] rfl rfl zx (fun _ _ _ h => h) (Or.inl ⟨by rfl, ?_⟩) ?_ ?_
          rotate_left; (intro w'; go_simp; with_reducible rfl); rotate_left; (simp only [Act.put,qa,qb,qc,i64_w,i32_w]; rfl)
          refine take_ (i := 27) (N := some 52) (v := ?_) (a' := ?_) #[Y,Y,Y,Y,O,Y,Y,Y,Y,Y,Y,Y,Y,Y,Y,Y,Y,Y,Y,O,Y,Y,O,Y,Y,Y,Y,Y,O,O,O,O] rfl rfl (take_ofW HT_.out HW_.out (by kernel_rfl)) (fun _ _ _ h => h) (Or.inl ⟨by rfl, ?_⟩) hHeld ?_ ?_
          rotate_left; (rintro w' ⟨s0, s1, s2⟩; go_simp; with_reducible rfl); rotate_left; (simp only [Act.put,qa,qb,qc,i64_w,i32_w]; rfl)
          refine join_ (σ := Value × Value × Nat) 1 #[Y,Y,Y,Y,Y,Y,Y,Y,Y,Y,Y,Y,Y,Y,Y,Y,Y,Y,Y,Y,Y,Y,Y,Y,Y,Y,Y,Y,Y,Y,Y,O] (fun s_ => [(29, .int .i64 t437), (44, s_.1), (47, .int .i64 t442), (53, s_.2.1), (11, .pointer (some ⟨s_.2.2, 0, none⟩)), (54, .agg #[.int .i64 t437, .int .i64 (wrap64 (((rd_T70 l1 x14_1).f0) + ((rd_T70 l1 x14_1).f1))), s_.1, .int .i64 t442, .int .i64 (wrap64 ((wrap64 (((rd_T70 l1 x14_1).f0) + x6_1)) + (((rd_T70 l1 x14_1).f2).length : Int))), s_.2.1])]) (fun s_ w' => (w'.cell? ⟨gb436, 0, none⟩ = some (.int .i64 ((rd_T70 l1 x14_1).f0)) ∧ w'.cell? ⟨gb436, 1, none⟩ = some (.int .i64 ((rd_T70 l1 x14_1).f1)) ∧ w'.cell? ⟨gb436, 2, none⟩ = some (.slice A435_2 ((rd_T70 l1 x14_1).f2).length c435_2)) ∧ (Kd.R Kd.string 9 w' w.heap.size (fun k_ => some k_ ≠ (s_.2.1 : Value).ownBlock) s_.1 t439) ∧ (Kd.R Kd.string 9 w' w.heap.size (fun k_ => some k_ ≠ (s_.1 : Value).ownBlock) s_.2.1 t443) ∧ (Kd.S k56 56 w' w.heap.size (fun k_ => some k_ ≠ (s_.1 : Value).ownBlock ∧ some k_ ≠ (s_.2.1 : Value).ownBlock ∧ k_ ≠ s_.2.2) u5 x5_1) ∧ (w'.heap[gb436]? = some (.cells #[.int .i64 ((rd_T70 l1 x14_1).f0), .int .i64 ((rd_T70 l1 x14_1).f1), .slice A435_2 ((rd_T70 l1 x14_1).f2).length c435_2] 70 (0, 0))) ∧ (w'.heap[s_.2.2]? = some (.cells #[.int .i64 0, .int .i64 0, .slice none 0 0, .int .i64 0, .int .i64 0, .slice none 0 0] 56 (0, 0))) ∧ (w.heap.size ≤ s_.2.2) ∧ (w.heap.size ≤ s_.2.2) ∧ (gb436 ≠ s_.2.2) ∧ (s_.2.2 ≠ gb436) ∧ (Below w.heap.size w w')) ?_ ?_
          rotate_left
          ·intro hJ4_19_22_28_30
           refine join_ (σ := Value × Value) 2 #[Y,Y,Y,Y,Y,Y,Y,Y,Y,Y,Y,Y,Y,Y,Y,Y,Y,Y,Y,Y,Y,Y,Y,Y,Y,Y,Y,Y,Y,Y,O,O] (fun s_ => [(29, .int .i64 t437), (44, s_.1), (47, .int .i64 t442), (53, s_.2), (54, .agg #[.int .i64 t437, .int .i64 (wrap64 (((rd_T70 l1 x14_1).f0) + ((rd_T70 l1 x14_1).f1))), s_.1, .int .i64 t442, .int .i64 (wrap64 ((wrap64 (((rd_T70 l1 x14_1).f0) + x6_1)) + (((rd_T70 l1 x14_1).f2).length : Int))), s_.2])]) (fun s_ w' => (w'.cell? ⟨gb436, 0, none⟩ = some (.int .i64 ((rd_T70 l1 x14_1).f0)) ∧ w'.cell? ⟨gb436, 1, none⟩ = some (.int .i64 ((rd_T70 l1 x14_1).f1)) ∧ w'.cell? ⟨gb436, 2, none⟩ = some (.slice A435_2 ((rd_T70 l1 x14_1).f2).length c435_2)) ∧ (Kd.R Kd.string 9 w' w.heap.size (fun k_ => some k_ ≠ (s_.2 : Value).ownBlock) s_.1 t439) ∧ (Kd.R Kd.string 9 w' w.heap.size (fun k_ => some k_ ≠ (s_.1 : Value).ownBlock) s_.2 t443) ∧ (Kd.S k56 56 w' w.heap.size (fun k_ => some k_ ≠ (s_.1 : Value).ownBlock ∧ some k_ ≠ (s_.2 : Value).ownBlock) u5 x5_1) ∧ (w'.heap[gb436]? = some (.cells #[.int .i64 ((rd_T70 l1 x14_1).f0), .int .i64 ((rd_T70 l1 x14_1).f1), .slice A435_2 ((rd_T70 l1 x14_1).f2).length c435_2] 70 (0, 0))) ∧ (Below w.heap.size w w')) ?_ ?_
           rotate_left
           ·intro hJ4_19_22_28
            refine join_ (σ := Value × Nat) 3 #[Y,Y,Y,Y,Y,Y,Y,Y,Y,Y,Y,Y,Y,Y,Y,Y,Y,Y,Y,Y,Y,Y,Y,Y,Y,Y,Y,Y,O,O,Y,O] (fun s_ => [(29, .int .i64 t437), (44, s_.1), (47, .int .i64 t442), (11, .pointer (some ⟨s_.2, 0, none⟩))]) (fun s_ w' => (w'.cell? ⟨gb436, 0, none⟩ = some (.int .i64 ((rd_T70 l1 x14_1).f0)) ∧ w'.cell? ⟨gb436, 1, none⟩ = some (.int .i64 ((rd_T70 l1 x14_1).f1)) ∧ w'.cell? ⟨gb436, 2, none⟩ = some (.slice A435_2 ((rd_T70 l1 x14_1).f2).length c435_2)) ∧ (Kd.R Kd.string 9 w' w.heap.size (fun _ => True) s_.1 t439) ∧ (Kd.S k56 56 w' w.heap.size (fun k_ => some k_ ≠ (s_.1 : Value).ownBlock ∧ k_ ≠ s_.2) u5 x5_1) ∧ (w'.heap[gb436]? = some (.cells #[.int .i64 ((rd_T70 l1 x14_1).f0), .int .i64 ((rd_T70 l1 x14_1).f1), .slice A435_2 ((rd_T70 l1 x14_1).f2).length c435_2] 70 (0, 0))) ∧ (w'.heap[s_.2]? = some (.cells #[.int .i64 0, .int .i64 0, .slice none 0 0, .int .i64 0, .int .i64 0, .slice none 0 0] 56 (0, 0))) ∧ (w.heap.size ≤ s_.2) ∧ (w.heap.size ≤ s_.2) ∧ (gb436 ≠ s_.2) ∧ (s_.2 ≠ gb436) ∧ (Below w.heap.size w w')) ?_ ?_
            rotate_left
            ·intro hJ4_19_22_30
             refine join_ (σ := Value) 4 #[Y,Y,Y,Y,Y,Y,Y,Y,Y,Y,Y,Y,Y,Y,Y,Y,Y,Y,Y,Y,Y,Y,Y,Y,Y,Y,Y,Y,O,O,O,O] (fun s_ => [(29, .int .i64 t437), (44, s_), (47, .int .i64 t442)]) (fun s_ w' => (w'.cell? ⟨gb436, 0, none⟩ = some (.int .i64 ((rd_T70 l1 x14_1).f0)) ∧ w'.cell? ⟨gb436, 1, none⟩ = some (.int .i64 ((rd_T70 l1 x14_1).f1)) ∧ w'.cell? ⟨gb436, 2, none⟩ = some (.slice A435_2 ((rd_T70 l1 x14_1).f2).length c435_2)) ∧ (Kd.R Kd.string 9 w' w.heap.size (fun _ => True) s_ t439) ∧ (Kd.S k56 56 w' w.heap.size (fun k_ => some k_ ≠ (s_ : Value).ownBlock) u5 x5_1) ∧ (w'.heap[gb436]? = some (.cells #[.int .i64 ((rd_T70 l1 x14_1).f0), .int .i64 ((rd_T70 l1 x14_1).f1), .slice A435_2 ((rd_T70 l1 x14_1).f2).length c435_2] 70 (0, 0))) ∧ (Below w.heap.size w w')) ?_ ?_
             rotate_left
             ·intro hJ4_19_22
              refine join_ (σ := Value × Nat) 4 #[Y,Y,Y,Y,Y,Y,Y,Y,Y,Y,Y,Y,Y,Y,Y,Y,Y,Y,Y,Y,Y,Y,O,Y,Y,Y,Y,Y,O,O,Y,O] (fun s_ => [(29, .int .i64 t437), (44, s_.1), (11, .pointer (some ⟨s_.2, 0, none⟩))]) (fun s_ w' => (w'.cell? ⟨gb436, 0, none⟩ = some (.int .i64 ((rd_T70 l1 x14_1).f0)) ∧ w'.cell? ⟨gb436, 1, none⟩ = some (.int .i64 ((rd_T70 l1 x14_1).f1)) ∧ w'.cell? ⟨gb436, 2, none⟩ = some (.slice A435_2 ((rd_T70 l1 x14_1).f2).length c435_2)) ∧ (Kd.R Kd.string 9 w' w.heap.size (fun _ => True) s_.1 t439) ∧ (Kd.S k56 56 w' w.heap.size (fun k_ => some k_ ≠ (s_.1 : Value).ownBlock ∧ k_ ≠ s_.2) u5 x5_1) ∧ (w'.heap[gb436]? = some (.cells #[.int .i64 ((rd_T70 l1 x14_1).f0), .int .i64 ((rd_T70 l1 x14_1).f1), .slice A435_2 ((rd_T70 l1 x14_1).f2).length c435_2] 70 (0, 0))) ∧ (w'.heap[s_.2]? = some (.cells #[.int .i64 0, .int .i64 0, .slice none 0 0, .int .i64 0, .int .i64 0, .slice none 0 0] 56 (0, 0))) ∧ (w.heap.size ≤ s_.2) ∧ (w.heap.size ≤ s_.2) ∧ (gb436 ≠ s_.2) ∧ (s_.2 ≠ gb436) ∧ (Below w.heap.size w w')) ?_ ?_
              rotate_left
              ·intro hJ4_19_30
               refine join_ (σ := Value) 5 #[Y,Y,Y,Y,Y,Y,Y,Y,Y,Y,Y,Y,Y,Y,Y,Y,Y,Y,Y,Y,Y,Y,O,Y,Y,Y,Y,Y,O,O,O,O] (fun s_ => [(29, .int .i64 t437), (44, s_)]) (fun s_ w' => (w'.cell? ⟨gb436, 0, none⟩ = some (.int .i64 ((rd_T70 l1 x14_1).f0)) ∧ w'.cell? ⟨gb436, 1, none⟩ = some (.int .i64 ((rd_T70 l1 x14_1).f1)) ∧ w'.cell? ⟨gb436, 2, none⟩ = some (.slice A435_2 ((rd_T70 l1 x14_1).f2).length c435_2)) ∧ (Kd.R Kd.string 9 w' w.heap.size (fun _ => True) s_ t439) ∧ (Kd.S k56 56 w' w.heap.size (fun k_ => some k_ ≠ (s_ : Value).ownBlock) u5 x5_1) ∧ (w'.heap[gb436]? = some (.cells #[.int .i64 ((rd_T70 l1 x14_1).f0), .int .i64 ((rd_T70 l1 x14_1).f1), .slice A435_2 ((rd_T70 l1 x14_1).f2).length c435_2] 70 (0, 0))) ∧ (Below w.heap.size w w')) ?_ ?_
               rotate_left
               ·intro hJ4_19
                refine join_ (σ := Nat) 5 #[Y,Y,Y,Y,Y,Y,Y,Y,Y,Y,Y,Y,Y,Y,Y,Y,Y,Y,Y,O,Y,Y,O,Y,Y,Y,Y,Y,O,O,Y,O] (fun s_ => [(29, .int .i64 t437), (11, .pointer (some ⟨s_, 0, none⟩))]) (fun s_ w' => (w'.cell? ⟨gb436, 0, none⟩ = some (.int .i64 ((rd_T70 l1 x14_1).f0)) ∧ w'.cell? ⟨gb436, 1, none⟩ = some (.int .i64 ((rd_T70 l1 x14_1).f1)) ∧ w'.cell? ⟨gb436, 2, none⟩ = some (.slice A435_2 ((rd_T70 l1 x14_1).f2).length c435_2)) ∧ (Kd.S k56 56 w' w.heap.size (fun k_ => k_ ≠ s_) u5 x5_1) ∧ (w'.heap[gb436]? = some (.cells #[.int .i64 ((rd_T70 l1 x14_1).f0), .int .i64 ((rd_T70 l1 x14_1).f1), .slice A435_2 ((rd_T70 l1 x14_1).f2).length c435_2] 70 (0, 0))) ∧ (w'.heap[s_]? = some (.cells #[.int .i64 0, .int .i64 0, .slice none 0 0, .int .i64 0, .int .i64 0, .slice none 0 0] 56 (0, 0))) ∧ (w.heap.size ≤ s_) ∧ (w.heap.size ≤ s_) ∧ (gb436 ≠ s_) ∧ (s_ ≠ gb436) ∧ (Below w.heap.size w w')) ?_ ?_
                rotate_left
                ·intro hJ4_30
                 refine join_ (σ := Unit) 6 #[Y,Y,Y,Y,Y,Y,Y,Y,Y,Y,Y,Y,Y,Y,Y,Y,Y,Y,Y,O,Y,Y,O,Y,Y,Y,Y,Y,O,O,O,O] (fun s_ => [(29, .int .i64 t437)]) (fun s_ w' => (w'.cell? ⟨gb436, 0, none⟩ = some (.int .i64 ((rd_T70 l1 x14_1).f0)) ∧ w'.cell? ⟨gb436, 1, none⟩ = some (.int .i64 ((rd_T70 l1 x14_1).f1)) ∧ w'.cell? ⟨gb436, 2, none⟩ = some (.slice A435_2 ((rd_T70 l1 x14_1).f2).length c435_2)) ∧ (Kd.S k56 56 w' w.heap.size (fun _ => True) u5 x5_1) ∧ (w'.heap[gb436]? = some (.cells #[.int .i64 ((rd_T70 l1 x14_1).f0), .int .i64 ((rd_T70 l1 x14_1).f1), .slice A435_2 ((rd_T70 l1 x14_1).f2).length c435_2] 70 (0, 0))) ∧ (Below w.heap.size w w')) ?_ ?_
                 rotate_left
                 ·intro hJ4
                  refine join_ (σ := Nat) 6 #[Y,Y,Y,Y,O,Y,Y,Y,Y,Y,Y,Y,Y,Y,Y,Y,Y,Y,Y,O,Y,Y,O,Y,Y,Y,Y,Y,O,O,Y,O] (fun s_ => [(11, .pointer (some ⟨s_, 0, none⟩))]) (fun s_ w' => (w'.cell? ⟨gb436, 0, none⟩ = some (.int .i64 ((rd_T70 l1 x14_1).f0)) ∧ w'.cell? ⟨gb436, 1, none⟩ = some (.int .i64 ((rd_T70 l1 x14_1).f1)) ∧ w'.cell? ⟨gb436, 2, none⟩ = some (.slice A435_2 ((rd_T70 l1 x14_1).f2).length c435_2)) ∧ (Kd.S k56 56 w' w.heap.size (fun k_ => k_ ≠ s_) u5 x5_1) ∧ (w'.heap[gb436]? = some (.cells #[.int .i64 ((rd_T70 l1 x14_1).f0), .int .i64 ((rd_T70 l1 x14_1).f1), .slice A435_2 ((rd_T70 l1 x14_1).f2).length c435_2] 70 (0, 0))) ∧ (w'.heap[s_]? = some (.cells #[.int .i64 0, .int .i64 0, .slice none 0 0, .int .i64 0, .int .i64 0, .slice none 0 0] 56 (0, 0))) ∧ (w.heap.size ≤ s_) ∧ (w.heap.size ≤ s_) ∧ (gb436 ≠ s_) ∧ (s_ ≠ gb436) ∧ (Below w.heap.size w w')) ?_ ?_
                  rotate_left
                  ·intro hJ30
                   refine two_ (i := 4) (j := 30) (Ni := some 29) (Nj := some 11) #[Y,Y,Y,Y,Y,Y,Y,Y,Y,Y,Y,Y,Y,Y,Y,Y,Y,Y,Y,O,Y,Y,O,Y,Y,Y,Y,Y,O,O,O,O] #[Y,Y,Y,Y,O,Y,Y,Y,Y,Y,Y,Y,Y,Y,Y,Y,Y,Y,Y,O,Y,Y,O,Y,Y,Y,Y,Y,O,O,Y,O] rfl rfl rfl rfl (two_of HT_.out (by kernel_rfl)) (by decide) (by decide) (fun K hK => ?_) (fun K hK => ?_)
                   ·skip
                    refine goes_ Tryd.func63 (by kernel_rfl) rfl #[.int .i64 ((rd_T70 l1 x14_1).f0), .int .i64 ((rd_T70 l1 x14_1).f1)] (by rfl) rfl rfl zm ?_
                    with_reducible refine (spec_l4Number.calls ((rd_T70 l1 x14_1).f0) ((rd_T70 l1 x14_1).f1) t437 _ A6.out).mono ?_
                    rintro e w' ⟨rfl, ⟨nd, rfl⟩⟩
                    refine ⟨_, rfl, ?_⟩
                    refine hK.out _ _ ⟨(blk_cell BK436.out 0).trans rfl, (blk_cell BK436.out 1).trans rfl, (blk_cell BK436.out 2).trans rfl⟩ (fun hHeld => ?_)
                    clear hK K
                    refine norm_ (a' := ?_) ?_ ?_
                    rotate_left
                    ·show Act.put _ (some 29) _ = _
                     simp only [Act.put,qa,qb,qc,i64_w,i32_w]
                     rfl
                    exact norm_ (by first | (simp only [putAll, Act.put, List.setIfInBounds_toArray, List.set_cons_zero, List.set_cons_succ]; done) | (simp only [putAll, Act.put, List.setIfInBounds_toArray, List.set_cons_zero, List.set_cons_succ]; rfl)) (hJ4 () _ ⟨hHeld, (zs HO_5.out), (zk BK436.out), (by repeat (first | (with_reducible first | exact HB.out | apply below_alloc | apply pw_below_drewN | apply below_drew1 | refine below_set ?_ GE436.out) | exact HB.out))⟩)
                   ·skip
                    refine box_step ?hg (N := 11) ?hd (cs := #[.int .i64 0, .int .i64 0, .slice none 0 0, .int .i64 0, .int .i64 0, .slice none 0 0]) (t := 56) ?hr ?_; (case hd => rfl); (case hg => rfl); (case hr => first | (go_simp; done) | (go_simp; rfl))
                    intro gb446 hg w19 hbox hb
                    have n0_ := Aside0.mk (Kd.S_below (Kd.S_elderB (zs HO_5.out) gb446 (Nat.le_of_eq hg.symm)) hb)
                    have n1_ := Aside0.mk (blk_below (g := gb436) (o := .cells #[.int .i64 ((rd_T70 l1 x14_1).f0), .int .i64 ((rd_T70 l1 x14_1).f1), .slice A435_2 ((rd_T70 l1 x14_1).f2).length c435_2] 70 (0, 0)) (zk BK436.out) hb)
                    have n2_ := Aside0.mk (below_step (by repeat (first | (with_reducible first | exact HB.out | apply below_alloc | apply pw_below_drewN | apply below_drew1 | refine below_set ?_ GE436.out) | exact HB.out)) hb)
                    have n3_ := Aside0.mk (hbox)
                    have n4_ := Aside0.mk ((by rw [hg]; exact (below_size (by repeat (first | (with_reducible first | exact HB.out | apply below_alloc | apply pw_below_drewN | apply below_drew1 | refine below_set ?_ GE436.out) | exact HB.out))) : w.heap.size ≤ gb446))
                    have n5_ := Aside0.mk ((by rw [hg]; exact (below_size (by repeat (first | (with_reducible first | exact HB.out | apply below_alloc | apply pw_below_drewN | apply below_drew1 | refine below_set ?_ GE436.out) | exact HB.out))) : w.heap.size ≤ gb446))
                    have n6_ := Aside0.mk ((by rw [hg]; exact Nat.ne_of_lt (blk_lt (g := gb436) (o := .cells #[.int .i64 ((rd_T70 l1 x14_1).f0), .int .i64 ((rd_T70 l1 x14_1).f1), .slice A435_2 ((rd_T70 l1 x14_1).f2).length c435_2] 70 (0, 0)) (zk BK436.out)) : gb436 ≠ gb446))
                    have n7_ := Aside0.mk ((by rw [hg]; exact Nat.ne_of_gt (blk_lt (g := gb436) (o := .cells #[.int .i64 ((rd_T70 l1 x14_1).f0), .int .i64 ((rd_T70 l1 x14_1).f1), .slice A435_2 ((rd_T70 l1 x14_1).f2).length c435_2] 70 (0, 0)) (zk BK436.out)) : gb446 ≠ gb436))
                    clear HO_5
                    clear BK436
                    clear HB
                    have HO_5 := n0_
                    have BK436 := n1_
                    have HB := n2_
                    have BK446 := n3_
                    have GW446 := n4_
                    have GE446 := n5_
                    have NB436_446 := n6_
                    have NB446_436 := n7_
                    clear n0_ n1_ n2_ n3_ n4_ n5_ n6_ n7_
                    clear hb hbox hg
                    refine hK.out _ _ ⟨(blk_cell BK436.out 0).trans rfl, (blk_cell BK436.out 1).trans rfl, (blk_cell BK436.out 2).trans rfl⟩ (fun hHeld => ?_)
                    clear hK K
                    refine norm_ (a' := ?_) ?_ ?_
                    rotate_left
                    ·show Act.put _ (some 11) _ = _
                     simp only [Act.put,qa,qb,qc,i64_w,i32_w]
                     rfl
                    exact norm_ (by first | (simp only [putAll, Act.put, List.setIfInBounds_toArray, List.set_cons_zero, List.set_cons_succ]; done) | (simp only [putAll, Act.put, List.setIfInBounds_toArray, List.set_cons_zero, List.set_cons_succ]; rfl)) (hJ30 (gb446) _ ⟨hHeld, (by (with_reducible repeat (first | apply Kd.S_alloc | apply Kd.S_drewN | apply Kd.S_drew)); exact Kd.S_mono HO_5.out (fun _ hk => hk.2)), (zk BK436.out), (zk BK446.out), GW446.out, GE446.out, NB436_446.out, NB446_436.out, (by repeat (first | (with_reducible first | exact HB.out | apply below_alloc | apply pw_below_drewN | apply below_drew1 | refine below_set ?_ GE436.out | refine below_set ?_ GE446.out) | exact HB.out))⟩)
                  ·skip
                   rintro gb446 w20 ⟨hS_, h0_, h1_, h2_, h3_, h4_, h5_, h6_, h7_⟩
                   have n0_ : Aside0 (Kd.S k56 56 w20 w.heap.size (fun k_ => k_ ≠ gb446) u5 x5_1) := ⟨h0_⟩
                   have n1_ : Aside0 (w20.heap[gb436]? = some (.cells #[.int .i64 ((rd_T70 l1 x14_1).f0), .int .i64 ((rd_T70 l1 x14_1).f1), .slice A435_2 ((rd_T70 l1 x14_1).f2).length c435_2] 70 (0, 0))) := ⟨h1_⟩
                   have n2_ : Aside0 (w20.heap[gb446]? = some (.cells #[.int .i64 0, .int .i64 0, .slice none 0 0, .int .i64 0, .int .i64 0, .slice none 0 0] 56 (0, 0))) := ⟨h2_⟩
                   have n3_ : Aside0 (w.heap.size ≤ gb446) := ⟨h3_⟩
                   have n4_ : Aside0 (w.heap.size ≤ gb446) := ⟨h4_⟩
                   have n5_ : Aside0 (gb436 ≠ gb446) := ⟨h5_⟩
                   have n6_ : Aside0 (gb446 ≠ gb436) := ⟨h6_⟩
                   have n7_ : Aside0 (Below w.heap.size w w20) := ⟨h7_⟩
                   clear HO_5
                   clear BK436
                   clear HB
                   clear h0_ h1_ h2_ h3_ h4_ h5_ h6_ h7_
                   have HO_5 := n0_
                   have BK436 := n1_
                   have BK446 := n2_
                   have GW446 := n3_
                   have GE446 := n4_
                   have NB436_446 := n5_
                   have NB446_436 := n6_
                   have HB := n7_
                   clear n0_ n1_ n2_ n3_ n4_ n5_ n6_ n7_
                   have hHeld : w20.cell? ⟨gb436, 0, none⟩ = some (.int .i64 ((rd_T70 l1 x14_1).f0)) ∧ w20.cell? ⟨gb436, 1, none⟩ = some (.int .i64 ((rd_T70 l1 x14_1).f1)) ∧ w20.cell? ⟨gb436, 2, none⟩ = some (.slice A435_2 ((rd_T70 l1 x14_1).f2).length c435_2) := hS_
                   refine norm_ (a' := ?_) ?_ ?_
                   rotate_left
                   ·simp only [putAll, Act.put, List.setIfInBounds_toArray, List.set_cons_zero, List.set_cons_succ]
                    rfl
                   refine one_ (i := 4) (N := some 29) #[Y,Y,Y,Y,Y,Y,Y,Y,Y,Y,Y,Y,Y,Y,Y,Y,Y,Y,Y,O,Y,Y,O,Y,Y,Y,Y,Y,O,O,Y,O] rfl rfl (one_of HT_.out (by kernel_rfl)) (by decide) (fun K hK => ?_)
                   refine goes_ Tryd.func63 (by kernel_rfl) rfl #[.int .i64 ((rd_T70 l1 x14_1).f0), .int .i64 ((rd_T70 l1 x14_1).f1)] (by rfl) rfl rfl zm ?_
                   with_reducible refine (spec_l4Number.calls ((rd_T70 l1 x14_1).f0) ((rd_T70 l1 x14_1).f1) t437 _ A6.out).mono ?_
                   rintro e w' ⟨rfl, ⟨nd, rfl⟩⟩
                   refine ⟨_, rfl, ?_⟩
                   refine hK.out _ _ ⟨(blk_cell BK436.out 0).trans rfl, (blk_cell BK436.out 1).trans rfl, (blk_cell BK436.out 2).trans rfl⟩ (fun hHeld => ?_)
                   clear hK K
                   refine norm_ (a' := ?_) ?_ ?_
                   rotate_left
                   ·show Act.put _ (some 29) _ = _
                    simp only [Act.put,qa,qb,qc,i64_w,i32_w]
                    rfl
                   exact norm_ (by first | (simp only [putAll, Act.put, List.setIfInBounds_toArray, List.set_cons_zero, List.set_cons_succ]; done) | (simp only [putAll, Act.put, List.setIfInBounds_toArray, List.set_cons_zero, List.set_cons_succ]; rfl)) (hJ4_30 (gb446) _ ⟨hHeld, (zs HO_5.out), (zk BK436.out), (zk BK446.out), GW446.out, GE446.out, NB436_446.out, NB446_436.out, (by repeat (first | (with_reducible first | exact HB.out | apply below_alloc | apply pw_below_drewN | apply below_drew1 | refine below_set ?_ GE436.out | refine below_set ?_ GE446.out) | exact HB.out))⟩)
                 ·skip
                  rintro _ w19 ⟨hS_, h0_, h1_, h2_⟩
                  have n0_ : Aside0 (Kd.S k56 56 w19 w.heap.size (fun _ => True) u5 x5_1) := ⟨h0_⟩
                  have n1_ : Aside0 (w19.heap[gb436]? = some (.cells #[.int .i64 ((rd_T70 l1 x14_1).f0), .int .i64 ((rd_T70 l1 x14_1).f1), .slice A435_2 ((rd_T70 l1 x14_1).f2).length c435_2] 70 (0, 0))) := ⟨h1_⟩
                  have n2_ : Aside0 (Below w.heap.size w w19) := ⟨h2_⟩
                  clear HO_5
                  clear BK436
                  clear HB
                  clear h0_ h1_ h2_
                  have HO_5 := n0_
                  have BK436 := n1_
                  have HB := n2_
                  clear n0_ n1_ n2_
                  have hHeld : w19.cell? ⟨gb436, 0, none⟩ = some (.int .i64 ((rd_T70 l1 x14_1).f0)) ∧ w19.cell? ⟨gb436, 1, none⟩ = some (.int .i64 ((rd_T70 l1 x14_1).f1)) ∧ w19.cell? ⟨gb436, 2, none⟩ = some (.slice A435_2 ((rd_T70 l1 x14_1).f2).length c435_2) := hS_
                  refine norm_ (a' := ?_) ?_ ?_
                  rotate_left
                  ·simp only [putAll, Act.put, List.setIfInBounds_toArray, List.set_cons_zero, List.set_cons_succ]
                   rfl
                  refine two_ (i := 19) (j := 30) (Ni := some 44) (Nj := some 11) #[Y,Y,Y,Y,Y,Y,Y,Y,Y,Y,Y,Y,Y,Y,Y,Y,Y,Y,Y,Y,Y,Y,O,Y,Y,Y,Y,Y,O,O,O,O] #[Y,Y,Y,Y,Y,Y,Y,Y,Y,Y,Y,Y,Y,Y,Y,Y,Y,Y,Y,O,Y,Y,O,Y,Y,Y,Y,Y,O,O,Y,O] rfl rfl rfl rfl (two_of HT_.out (by kernel_rfl)) (by decide) (by decide) (fun K hK => ?_) (fun K hK => ?_)
                  ·skip
                   refine goes_ Tryd.func91 (by kernel_rfl) rfl #[.slice A18 ((l0.take ((wrap64 (((rd_T70 l1 x14_1).f0) + ((rd_T70 l1 x14_1).f1))) : Int).toNat).drop (((rd_T70 l1 x14_1).f0) : Int).toNat).length (c0 - ((rd_T70 l1 x14_1).f0).toNat)] (by rfl) rfl rfl (by (try simp only [List.map_toArray, List.map_cons, List.map_nil]); first | done | (rw [show ((l0.take ((wrap64 (((rd_T70 l1 x14_1).f0) + ((rd_T70 l1 x14_1).f1))) : Int).toNat).drop (((rd_T70 l1 x14_1).f0) : Int).toNat).length = ((wrap64 (((rd_T70 l1 x14_1).f0) + ((rd_T70 l1 x14_1).f1))).toNat - ((rd_T70 l1 x14_1).f0).toNat) from (by rw [List.length_drop, List.length_take]; have h_ : ((wrap64 (((rd_T70 l1 x14_1).f0) + ((rd_T70 l1 x14_1).f1))) : Int) ≤ (l0.length : Int) := oa; omega)] <;> rfl) | rfl | (simp only [List.length_drop, List.length_take]; rfl)) ?_
                   with_reducible refine (spec_l1OwnT.calls _ _ ((l0.take ((wrap64 (((rd_T70 l1 x14_1).f0) + ((rd_T70 l1 x14_1).f1))) : Int).toNat).drop (((rd_T70 l1 x14_1).f0) : Int).toNat) t439 _ ?side1 ?side2 A10.out).mono ?_
                   (case side1 => exact zq (Kd.C_below HR438.out HB.out))
                   (case side2 => exact HC438.out)
                   rintro e w20 ⟨v440, rfl, ho0, hb⟩
                   refine ⟨_, rfl, ?_⟩
                   have n0_ := Aside0.mk (Kd.S_elder' (zs HO_5.out) (Kd.R_base ho0) hb)
                   have n1_ := Aside0.mk (Kd.R_lower ho0 (below_size (by repeat (first | (with_reducible first | exact HB.out | apply below_alloc | apply pw_below_drewN | apply below_drew1 | refine below_set ?_ GE436.out) | exact HB.out))))
                   have n2_ := Aside0.mk (blk_below (g := gb436) (o := .cells #[.int .i64 ((rd_T70 l1 x14_1).f0), .int .i64 ((rd_T70 l1 x14_1).f1), .slice A435_2 ((rd_T70 l1 x14_1).f2).length c435_2] 70 (0, 0)) (zk BK436.out) hb)
                   have n3_ := Aside0.mk (below_step (by repeat (first | (with_reducible first | exact HB.out | apply below_alloc | apply pw_below_drewN | apply below_drew1 | refine below_set ?_ GE436.out) | exact HB.out)) hb)
                   clear HO_5
                   clear BK436
                   clear HB
                   have HO_5 := n0_
                   have HO441 := n1_
                   have BK436 := n2_
                   have HB := n3_
                   clear n0_ n1_ n2_ n3_
                   (try clear hb)
                   (try clear hb2)
                   (try clear hk)
                   (try clear hi)
                   (try clear ho0)
                   refine hK.out _ _ ⟨(blk_cell BK436.out 0).trans rfl, (blk_cell BK436.out 1).trans rfl, (blk_cell BK436.out 2).trans rfl⟩ (fun hHeld => ?_)
                   clear hK K
                   refine norm_ (a' := ?_) ?_ ?_
                   rotate_left
                   ·show Act.put _ (some 44) _ = _
                    simp only [Act.put,qa,qb,qc,i64_w,i32_w]
                    rfl
                   exact norm_ (by first | (simp only [putAll, Act.put, List.setIfInBounds_toArray, List.set_cons_zero, List.set_cons_succ]; done) | (simp only [putAll, Act.put, List.setIfInBounds_toArray, List.set_cons_zero, List.set_cons_succ]; rfl)) (hJ4_19 (v440) _ ⟨hHeld, (zr HO441.out), (by (with_reducible repeat (first | apply Kd.S_alloc | apply Kd.S_drewN | apply Kd.S_drew)); exact Kd.S_mono HO_5.out (fun _ hk => hk.2)), (zk BK436.out), (by repeat (first | (with_reducible first | exact HB.out | apply below_alloc | apply pw_below_drewN | apply below_drew1 | refine below_set ?_ GE436.out) | exact HB.out))⟩)
                  ·skip
                   refine box_step ?hg (N := 11) ?hd (cs := #[.int .i64 0, .int .i64 0, .slice none 0 0, .int .i64 0, .int .i64 0, .slice none 0 0]) (t := 56) ?hr ?_; (case hd => rfl); (case hg => rfl); (case hr => first | (go_simp; done) | (go_simp; rfl))
                   intro gb446 hg w20 hbox hb
                   have n0_ := Aside0.mk (Kd.S_below (Kd.S_elderB (zs HO_5.out) gb446 (Nat.le_of_eq hg.symm)) hb)
                   have n1_ := Aside0.mk (blk_below (g := gb436) (o := .cells #[.int .i64 ((rd_T70 l1 x14_1).f0), .int .i64 ((rd_T70 l1 x14_1).f1), .slice A435_2 ((rd_T70 l1 x14_1).f2).length c435_2] 70 (0, 0)) (zk BK436.out) hb)
                   have n2_ := Aside0.mk (below_step (by repeat (first | (with_reducible first | exact HB.out | apply below_alloc | apply pw_below_drewN | apply below_drew1 | refine below_set ?_ GE436.out) | exact HB.out)) hb)
                   have n3_ := Aside0.mk (hbox)
                   have n4_ := Aside0.mk ((by rw [hg]; exact (below_size (by repeat (first | (with_reducible first | exact HB.out | apply below_alloc | apply pw_below_drewN | apply below_drew1 | refine below_set ?_ GE436.out) | exact HB.out))) : w.heap.size ≤ gb446))
                   have n5_ := Aside0.mk ((by rw [hg]; exact (below_size (by repeat (first | (with_reducible first | exact HB.out | apply below_alloc | apply pw_below_drewN | apply below_drew1 | refine below_set ?_ GE436.out) | exact HB.out))) : w.heap.size ≤ gb446))
                   have n6_ := Aside0.mk ((by rw [hg]; exact Nat.ne_of_lt (blk_lt (g := gb436) (o := .cells #[.int .i64 ((rd_T70 l1 x14_1).f0), .int .i64 ((rd_T70 l1 x14_1).f1), .slice A435_2 ((rd_T70 l1 x14_1).f2).length c435_2] 70 (0, 0)) (zk BK436.out)) : gb436 ≠ gb446))
                   have n7_ := Aside0.mk ((by rw [hg]; exact Nat.ne_of_gt (blk_lt (g := gb436) (o := .cells #[.int .i64 ((rd_T70 l1 x14_1).f0), .int .i64 ((rd_T70 l1 x14_1).f1), .slice A435_2 ((rd_T70 l1 x14_1).f2).length c435_2] 70 (0, 0)) (zk BK436.out)) : gb446 ≠ gb436))
                   clear HO_5
                   clear BK436
                   clear HB
                   have HO_5 := n0_
                   have BK436 := n1_
                   have HB := n2_
                   have BK446 := n3_
                   have GW446 := n4_
                   have GE446 := n5_
                   have NB436_446 := n6_
                   have NB446_436 := n7_
                   clear n0_ n1_ n2_ n3_ n4_ n5_ n6_ n7_
                   clear hb hbox hg
                   refine hK.out _ _ ⟨(blk_cell BK436.out 0).trans rfl, (blk_cell BK436.out 1).trans rfl, (blk_cell BK436.out 2).trans rfl⟩ (fun hHeld => ?_)
                   clear hK K
                   refine norm_ (a' := ?_) ?_ ?_
                   rotate_left
                   ·show Act.put _ (some 11) _ = _
                    simp only [Act.put,qa,qb,qc,i64_w,i32_w]
                    rfl
                   exact norm_ (by first | (simp only [putAll, Act.put, List.setIfInBounds_toArray, List.set_cons_zero, List.set_cons_succ]; done) | (simp only [putAll, Act.put, List.setIfInBounds_toArray, List.set_cons_zero, List.set_cons_succ]; rfl)) (hJ4_30 (gb446) _ ⟨hHeld, (by (with_reducible repeat (first | apply Kd.S_alloc | apply Kd.S_drewN | apply Kd.S_drew)); exact Kd.S_mono HO_5.out (fun _ hk => hk.2)), (zk BK436.out), (zk BK446.out), GW446.out, GE446.out, NB436_446.out, NB446_436.out, (by repeat (first | (with_reducible first | exact HB.out | apply below_alloc | apply pw_below_drewN | apply below_drew1 | refine below_set ?_ GE436.out | refine below_set ?_ GE446.out) | exact HB.out))⟩)
                ·skip
                 rintro gb446 w20 ⟨hS_, h0_, h1_, h2_, h3_, h4_, h5_, h6_, h7_⟩
                 have n0_ : Aside0 (Kd.S k56 56 w20 w.heap.size (fun k_ => k_ ≠ gb446) u5 x5_1) := ⟨h0_⟩
                 have n1_ : Aside0 (w20.heap[gb436]? = some (.cells #[.int .i64 ((rd_T70 l1 x14_1).f0), .int .i64 ((rd_T70 l1 x14_1).f1), .slice A435_2 ((rd_T70 l1 x14_1).f2).length c435_2] 70 (0, 0))) := ⟨h1_⟩
                 have n2_ : Aside0 (w20.heap[gb446]? = some (.cells #[.int .i64 0, .int .i64 0, .slice none 0 0, .int .i64 0, .int .i64 0, .slice none 0 0] 56 (0, 0))) := ⟨h2_⟩
                 have n3_ : Aside0 (w.heap.size ≤ gb446) := ⟨h3_⟩
                 have n4_ : Aside0 (w.heap.size ≤ gb446) := ⟨h4_⟩
                 have n5_ : Aside0 (gb436 ≠ gb446) := ⟨h5_⟩
                 have n6_ : Aside0 (gb446 ≠ gb436) := ⟨h6_⟩
                 have n7_ : Aside0 (Below w.heap.size w w20) := ⟨h7_⟩
                 clear HO_5
                 clear BK436
                 clear HB
                 clear h0_ h1_ h2_ h3_ h4_ h5_ h6_ h7_
                 have HO_5 := n0_
                 have BK436 := n1_
                 have BK446 := n2_
                 have GW446 := n3_
                 have GE446 := n4_
                 have NB436_446 := n5_
                 have NB446_436 := n6_
                 have HB := n7_
                 clear n0_ n1_ n2_ n3_ n4_ n5_ n6_ n7_
                 have hHeld : w20.cell? ⟨gb436, 0, none⟩ = some (.int .i64 ((rd_T70 l1 x14_1).f0)) ∧ w20.cell? ⟨gb436, 1, none⟩ = some (.int .i64 ((rd_T70 l1 x14_1).f1)) ∧ w20.cell? ⟨gb436, 2, none⟩ = some (.slice A435_2 ((rd_T70 l1 x14_1).f2).length c435_2) := hS_
                 refine norm_ (a' := ?_) ?_ ?_
                 rotate_left
                 ·simp only [putAll, Act.put, List.setIfInBounds_toArray, List.set_cons_zero, List.set_cons_succ]
                  rfl
                 refine one_ (i := 19) (N := some 44) #[Y,Y,Y,Y,Y,Y,Y,Y,Y,Y,Y,Y,Y,Y,Y,Y,Y,Y,Y,Y,Y,Y,O,Y,Y,Y,Y,Y,O,O,Y,O] rfl rfl (one_of HT_.out (by kernel_rfl)) (by decide) (fun K hK => ?_)
                 refine goes_ Tryd.func91 (by kernel_rfl) rfl #[.slice A18 ((l0.take ((wrap64 (((rd_T70 l1 x14_1).f0) + ((rd_T70 l1 x14_1).f1))) : Int).toNat).drop (((rd_T70 l1 x14_1).f0) : Int).toNat).length (c0 - ((rd_T70 l1 x14_1).f0).toNat)] (by rfl) rfl rfl (by (try simp only [List.map_toArray, List.map_cons, List.map_nil]); first | done | (rw [show ((l0.take ((wrap64 (((rd_T70 l1 x14_1).f0) + ((rd_T70 l1 x14_1).f1))) : Int).toNat).drop (((rd_T70 l1 x14_1).f0) : Int).toNat).length = ((wrap64 (((rd_T70 l1 x14_1).f0) + ((rd_T70 l1 x14_1).f1))).toNat - ((rd_T70 l1 x14_1).f0).toNat) from (by rw [List.length_drop, List.length_take]; have h_ : ((wrap64 (((rd_T70 l1 x14_1).f0) + ((rd_T70 l1 x14_1).f1))) : Int) ≤ (l0.length : Int) := oa; omega)] <;> rfl) | rfl | (simp only [List.length_drop, List.length_take]; rfl)) ?_
                 with_reducible refine (spec_l1OwnT.calls _ _ ((l0.take ((wrap64 (((rd_T70 l1 x14_1).f0) + ((rd_T70 l1 x14_1).f1))) : Int).toNat).drop (((rd_T70 l1 x14_1).f0) : Int).toNat) t439 _ ?side1 ?side2 A10.out).mono ?_
                 (case side1 => exact zq (Kd.C_below HR438.out HB.out))
                 (case side2 => exact HC438.out)
                 rintro e w21 ⟨v440, rfl, ho0, hb⟩
                 refine ⟨_, rfl, ?_⟩
                 have n0_ := Aside0.mk (Kd.S_elder' (zs HO_5.out) (Kd.R_base ho0) hb)
                 have n1_ := Aside0.mk (Kd.R_lower ho0 (below_size (by repeat (first | (with_reducible first | exact HB.out | apply below_alloc | apply pw_below_drewN | apply below_drew1 | refine below_set ?_ GE436.out | refine below_set ?_ GE446.out) | exact HB.out))))
                 have n2_ := Aside0.mk (blk_below (g := gb436) (o := .cells #[.int .i64 ((rd_T70 l1 x14_1).f0), .int .i64 ((rd_T70 l1 x14_1).f1), .slice A435_2 ((rd_T70 l1 x14_1).f2).length c435_2] 70 (0, 0)) (zk BK436.out) hb)
                 have n3_ := Aside0.mk (blk_below (g := gb446) (o := .cells #[.int .i64 0, .int .i64 0, .slice none 0 0, .int .i64 0, .int .i64 0, .slice none 0 0] 56 (0, 0)) (zk BK446.out) hb)
                 have n4_ := Aside0.mk (below_step (by repeat (first | (with_reducible first | exact HB.out | apply below_alloc | apply pw_below_drewN | apply below_drew1 | refine below_set ?_ GE436.out | refine below_set ?_ GE446.out) | exact HB.out)) hb)
                 clear HO_5
                 clear BK436
                 clear BK446
                 clear HB
                 have HO_5 := n0_
                 have HO441 := n1_
                 have BK436 := n2_
                 have BK446 := n3_
                 have HB := n4_
                 clear n0_ n1_ n2_ n3_ n4_
                 (try clear hb)
                 (try clear hb2)
                 (try clear hk)
                 (try clear hi)
                 (try clear ho0)
                 refine hK.out _ _ ⟨(blk_cell BK436.out 0).trans rfl, (blk_cell BK436.out 1).trans rfl, (blk_cell BK436.out 2).trans rfl⟩ (fun hHeld => ?_)
                 clear hK K
                 refine norm_ (a' := ?_) ?_ ?_
                 rotate_left
                 ·show Act.put _ (some 44) _ = _
                  simp only [Act.put,qa,qb,qc,i64_w,i32_w]
                  rfl
                 exact norm_ (by first | (simp only [putAll, Act.put, List.setIfInBounds_toArray, List.set_cons_zero, List.set_cons_succ]; done) | (simp only [putAll, Act.put, List.setIfInBounds_toArray, List.set_cons_zero, List.set_cons_succ]; rfl)) (hJ4_19_30 (v440, gb446) _ ⟨hHeld, (zr HO441.out), (by (with_reducible repeat (first | apply Kd.S_alloc | apply Kd.S_drewN | apply Kd.S_drew)); exact Kd.S_mono HO_5.out (fun _ hk => ⟨hk.2, hk.1⟩)), (zk BK436.out), (zk BK446.out), GW446.out, GE446.out, NB436_446.out, NB446_436.out, (by repeat (first | (with_reducible first | exact HB.out | apply below_alloc | apply pw_below_drewN | apply below_drew1 | refine below_set ?_ GE436.out | refine below_set ?_ GE446.out) | exact HB.out))⟩)
               ·skip
                rintro v440 w20 ⟨hS_, h0_, h1_, h2_, h3_⟩
                have n0_ : Aside0 (Kd.R Kd.string 9 w20 w.heap.size (fun _ => True) v440 t439) := ⟨h0_⟩
                have n1_ : Aside0 (Kd.S k56 56 w20 w.heap.size (fun k_ => some k_ ≠ (v440 : Value).ownBlock) u5 x5_1) := ⟨h1_⟩
                have n2_ : Aside0 (w20.heap[gb436]? = some (.cells #[.int .i64 ((rd_T70 l1 x14_1).f0), .int .i64 ((rd_T70 l1 x14_1).f1), .slice A435_2 ((rd_T70 l1 x14_1).f2).length c435_2] 70 (0, 0))) := ⟨h2_⟩
                have n3_ : Aside0 (Below w.heap.size w w20) := ⟨h3_⟩
                clear HO_5
                clear BK436
                clear HB
                clear h0_ h1_ h2_ h3_
                have HO441 := n0_
                have HO_5 := n1_
                have BK436 := n2_
                have HB := n3_
                clear n0_ n1_ n2_ n3_
                have hHeld : w20.cell? ⟨gb436, 0, none⟩ = some (.int .i64 ((rd_T70 l1 x14_1).f0)) ∧ w20.cell? ⟨gb436, 1, none⟩ = some (.int .i64 ((rd_T70 l1 x14_1).f1)) ∧ w20.cell? ⟨gb436, 2, none⟩ = some (.slice A435_2 ((rd_T70 l1 x14_1).f2).length c435_2) := hS_
                refine norm_ (a' := ?_) ?_ ?_
                rotate_left
                ·simp only [putAll, Act.put, List.setIfInBounds_toArray, List.set_cons_zero, List.set_cons_succ]
                 rfl
                refine two_ (i := 22) (j := 30) (Ni := some 47) (Nj := some 11) #[Y,Y,Y,Y,Y,Y,Y,Y,Y,Y,Y,Y,Y,Y,Y,Y,Y,Y,Y,Y,Y,Y,Y,Y,Y,Y,Y,Y,O,O,O,O] #[Y,Y,Y,Y,Y,Y,Y,Y,Y,Y,Y,Y,Y,Y,Y,Y,Y,Y,Y,Y,Y,Y,O,Y,Y,Y,Y,Y,O,O,Y,O] rfl rfl rfl rfl (two_of HT_.out (by kernel_rfl)) (by decide) (by decide) (fun K hK => ?_) (fun K hK => ?_)
                ·skip
                 refine goes_ Tryd.func63 (by kernel_rfl) rfl #[.int .i64 (wrap64 (((rd_T70 l1 x14_1).f0) + x6_1)), .int .i64 (((rd_T70 l1 x14_1).f2).length : Int)] (by rfl) rfl rfl zm ?_
                 with_reducible refine (spec_l4Number.calls (wrap64 (((rd_T70 l1 x14_1).f0) + x6_1)) (((rd_T70 l1 x14_1).f2).length : Int) t442 _ A11.out).mono ?_
                 rintro e w' ⟨rfl, ⟨nd, rfl⟩⟩
                 refine ⟨_, rfl, ?_⟩
                 refine hK.out _ _ ⟨(blk_cell BK436.out 0).trans rfl, (blk_cell BK436.out 1).trans rfl, (blk_cell BK436.out 2).trans rfl⟩ (fun hHeld => ?_)
                 clear hK K
                 refine norm_ (a' := ?_) ?_ ?_
                 rotate_left
                 ·show Act.put _ (some 47) _ = _
                  simp only [Act.put,qa,qb,qc,i64_w,i32_w]
                  rfl
                 exact norm_ (by first | (simp only [putAll, Act.put, List.setIfInBounds_toArray, List.set_cons_zero, List.set_cons_succ]; done) | (simp only [putAll, Act.put, List.setIfInBounds_toArray, List.set_cons_zero, List.set_cons_succ]; rfl)) (hJ4_19_22 (v440) _ ⟨hHeld, (zr HO441.out), (zs HO_5.out), (zk BK436.out), (by repeat (first | (with_reducible first | exact HB.out | apply below_alloc | apply pw_below_drewN | apply below_drew1 | refine below_set ?_ GE436.out) | exact HB.out))⟩)
                ·skip
                 refine box_step ?hg (N := 11) ?hd (cs := #[.int .i64 0, .int .i64 0, .slice none 0 0, .int .i64 0, .int .i64 0, .slice none 0 0]) (t := 56) ?hr ?_; (case hd => rfl); (case hg => rfl); (case hr => first | (go_simp; done) | (go_simp; rfl))
                 intro gb446 hg w21 hbox hb
                 have n0_ := Aside0.mk (Kd.S_below (Kd.S_elderB (zs HO_5.out) gb446 (Nat.le_of_eq hg.symm)) hb)
                 have n1_ := Aside0.mk (Kd.R_below (zr HO441.out) hb)
                 have n2_ := Aside0.mk (blk_below (g := gb436) (o := .cells #[.int .i64 ((rd_T70 l1 x14_1).f0), .int .i64 ((rd_T70 l1 x14_1).f1), .slice A435_2 ((rd_T70 l1 x14_1).f2).length c435_2] 70 (0, 0)) (zk BK436.out) hb)
                 have n3_ := Aside0.mk (below_step (by repeat (first | (with_reducible first | exact HB.out | apply below_alloc | apply pw_below_drewN | apply below_drew1 | refine below_set ?_ GE436.out) | exact HB.out)) hb)
                 have n4_ := Aside0.mk (hbox)
                 have n5_ := Aside0.mk ((by rw [hg]; exact (below_size (by repeat (first | (with_reducible first | exact HB.out | apply below_alloc | apply pw_below_drewN | apply below_drew1 | refine below_set ?_ GE436.out) | exact HB.out))) : w.heap.size ≤ gb446))
                 have n6_ := Aside0.mk ((by rw [hg]; exact (below_size (by repeat (first | (with_reducible first | exact HB.out | apply below_alloc | apply pw_below_drewN | apply below_drew1 | refine below_set ?_ GE436.out) | exact HB.out))) : w.heap.size ≤ gb446))
                 have n7_ := Aside0.mk ((by rw [hg]; exact Nat.ne_of_lt (blk_lt (g := gb436) (o := .cells #[.int .i64 ((rd_T70 l1 x14_1).f0), .int .i64 ((rd_T70 l1 x14_1).f1), .slice A435_2 ((rd_T70 l1 x14_1).f2).length c435_2] 70 (0, 0)) (zk BK436.out)) : gb436 ≠ gb446))
                 have n8_ := Aside0.mk ((by rw [hg]; exact Nat.ne_of_gt (blk_lt (g := gb436) (o := .cells #[.int .i64 ((rd_T70 l1 x14_1).f0), .int .i64 ((rd_T70 l1 x14_1).f1), .slice A435_2 ((rd_T70 l1 x14_1).f2).length c435_2] 70 (0, 0)) (zk BK436.out)) : gb446 ≠ gb436))
                 clear HO_5
                 clear HO441
                 clear BK436
                 clear HB
                 have HO_5 := n0_
                 have HO441 := n1_
                 have BK436 := n2_
                 have HB := n3_
                 have BK446 := n4_
                 have GW446 := n5_
                 have GE446 := n6_
                 have NB436_446 := n7_
                 have NB446_436 := n8_
                 clear n0_ n1_ n2_ n3_ n4_ n5_ n6_ n7_ n8_
                 clear hb hbox hg
                 refine hK.out _ _ ⟨(blk_cell BK436.out 0).trans rfl, (blk_cell BK436.out 1).trans rfl, (blk_cell BK436.out 2).trans rfl⟩ (fun hHeld => ?_)
                 clear hK K
                 refine norm_ (a' := ?_) ?_ ?_
                 rotate_left
                 ·show Act.put _ (some 11) _ = _
                  simp only [Act.put,qa,qb,qc,i64_w,i32_w]
                  rfl
                 exact norm_ (by first | (simp only [putAll, Act.put, List.setIfInBounds_toArray, List.set_cons_zero, List.set_cons_succ]; done) | (simp only [putAll, Act.put, List.setIfInBounds_toArray, List.set_cons_zero, List.set_cons_succ]; rfl)) (hJ4_19_30 (v440, gb446) _ ⟨hHeld, (zr HO441.out), (zs HO_5.out), (zk BK436.out), (zk BK446.out), GW446.out, GE446.out, NB436_446.out, NB446_436.out, (by repeat (first | (with_reducible first | exact HB.out | apply below_alloc | apply pw_below_drewN | apply below_drew1 | refine below_set ?_ GE436.out | refine below_set ?_ GE446.out) | exact HB.out))⟩)
              ·skip
               rintro ⟨v440, gb446⟩ w21 ⟨hS_, h0_, h1_, h2_, h3_, h4_, h5_, h6_, h7_, h8_⟩
               have n0_ : Aside0 (Kd.R Kd.string 9 w21 w.heap.size (fun _ => True) v440 t439) := ⟨h0_⟩
               have n1_ : Aside0 (Kd.S k56 56 w21 w.heap.size (fun k_ => some k_ ≠ (v440 : Value).ownBlock ∧ k_ ≠ gb446) u5 x5_1) := ⟨h1_⟩
               have n2_ : Aside0 (w21.heap[gb436]? = some (.cells #[.int .i64 ((rd_T70 l1 x14_1).f0), .int .i64 ((rd_T70 l1 x14_1).f1), .slice A435_2 ((rd_T70 l1 x14_1).f2).length c435_2] 70 (0, 0))) := ⟨h2_⟩
               have n3_ : Aside0 (w21.heap[gb446]? = some (.cells #[.int .i64 0, .int .i64 0, .slice none 0 0, .int .i64 0, .int .i64 0, .slice none 0 0] 56 (0, 0))) := ⟨h3_⟩
               have n4_ : Aside0 (w.heap.size ≤ gb446) := ⟨h4_⟩
               have n5_ : Aside0 (w.heap.size ≤ gb446) := ⟨h5_⟩
               have n6_ : Aside0 (gb436 ≠ gb446) := ⟨h6_⟩
               have n7_ : Aside0 (gb446 ≠ gb436) := ⟨h7_⟩
               have n8_ : Aside0 (Below w.heap.size w w21) := ⟨h8_⟩
               clear HO_5
               clear BK436
               clear HB
               clear h0_ h1_ h2_ h3_ h4_ h5_ h6_ h7_ h8_
               have HO441 := n0_
               have HO_5 := n1_
               have BK436 := n2_
               have BK446 := n3_
               have GW446 := n4_
               have GE446 := n5_
               have NB436_446 := n6_
               have NB446_436 := n7_
               have HB := n8_
               clear n0_ n1_ n2_ n3_ n4_ n5_ n6_ n7_ n8_
               have hHeld : w21.cell? ⟨gb436, 0, none⟩ = some (.int .i64 ((rd_T70 l1 x14_1).f0)) ∧ w21.cell? ⟨gb436, 1, none⟩ = some (.int .i64 ((rd_T70 l1 x14_1).f1)) ∧ w21.cell? ⟨gb436, 2, none⟩ = some (.slice A435_2 ((rd_T70 l1 x14_1).f2).length c435_2) := hS_
               refine norm_ (a' := ?_) ?_ ?_
               rotate_left
               ·simp only [putAll, Act.put, List.setIfInBounds_toArray, List.set_cons_zero, List.set_cons_succ]
                rfl
               refine one_ (i := 22) (N := some 47) #[Y,Y,Y,Y,Y,Y,Y,Y,Y,Y,Y,Y,Y,Y,Y,Y,Y,Y,Y,Y,Y,Y,Y,Y,Y,Y,Y,Y,O,O,Y,O] rfl rfl (one_of HT_.out (by kernel_rfl)) (by decide) (fun K hK => ?_)
               refine goes_ Tryd.func63 (by kernel_rfl) rfl #[.int .i64 (wrap64 (((rd_T70 l1 x14_1).f0) + x6_1)), .int .i64 (((rd_T70 l1 x14_1).f2).length : Int)] (by rfl) rfl rfl zm ?_
               with_reducible refine (spec_l4Number.calls (wrap64 (((rd_T70 l1 x14_1).f0) + x6_1)) (((rd_T70 l1 x14_1).f2).length : Int) t442 _ A11.out).mono ?_
               rintro e w' ⟨rfl, ⟨nd, rfl⟩⟩
               refine ⟨_, rfl, ?_⟩
               refine hK.out _ _ ⟨(blk_cell BK436.out 0).trans rfl, (blk_cell BK436.out 1).trans rfl, (blk_cell BK436.out 2).trans rfl⟩ (fun hHeld => ?_)
               clear hK K
               refine norm_ (a' := ?_) ?_ ?_
               rotate_left
               ·show Act.put _ (some 47) _ = _
                simp only [Act.put,qa,qb,qc,i64_w,i32_w]
                rfl
               exact norm_ (by first | (simp only [putAll, Act.put, List.setIfInBounds_toArray, List.set_cons_zero, List.set_cons_succ]; done) | (simp only [putAll, Act.put, List.setIfInBounds_toArray, List.set_cons_zero, List.set_cons_succ]; rfl)) (hJ4_19_22_30 (v440, gb446) _ ⟨hHeld, (zr HO441.out), (zs HO_5.out), (zk BK436.out), (zk BK446.out), GW446.out, GE446.out, NB436_446.out, NB446_436.out, (by repeat (first | (with_reducible first | exact HB.out | apply below_alloc | apply pw_below_drewN | apply below_drew1 | refine below_set ?_ GE436.out | refine below_set ?_ GE446.out) | exact HB.out))⟩)
             ·skip
              rintro v440 w20 ⟨hS_, h0_, h1_, h2_, h3_⟩
              have n0_ : Aside0 (Kd.R Kd.string 9 w20 w.heap.size (fun _ => True) v440 t439) := ⟨h0_⟩
              have n1_ : Aside0 (Kd.S k56 56 w20 w.heap.size (fun k_ => some k_ ≠ (v440 : Value).ownBlock) u5 x5_1) := ⟨h1_⟩
              have n2_ : Aside0 (w20.heap[gb436]? = some (.cells #[.int .i64 ((rd_T70 l1 x14_1).f0), .int .i64 ((rd_T70 l1 x14_1).f1), .slice A435_2 ((rd_T70 l1 x14_1).f2).length c435_2] 70 (0, 0))) := ⟨h2_⟩
              have n3_ : Aside0 (Below w.heap.size w w20) := ⟨h3_⟩
              clear HO_5
              clear BK436
              clear HB
              clear h0_ h1_ h2_ h3_
              have HO441 := n0_
              have HO_5 := n1_
              have BK436 := n2_
              have HB := n3_
              clear n0_ n1_ n2_ n3_
              have hHeld : w20.cell? ⟨gb436, 0, none⟩ = some (.int .i64 ((rd_T70 l1 x14_1).f0)) ∧ w20.cell? ⟨gb436, 1, none⟩ = some (.int .i64 ((rd_T70 l1 x14_1).f1)) ∧ w20.cell? ⟨gb436, 2, none⟩ = some (.slice A435_2 ((rd_T70 l1 x14_1).f2).length c435_2) := hS_
              refine norm_ (a' := ?_) ?_ ?_
              rotate_left
              ·simp only [putAll, Act.put, List.setIfInBounds_toArray, List.set_cons_zero, List.set_cons_succ]
               rfl
              refine two_ (i := 28) (j := 30) (Ni := some 53) (Nj := some 11) #[Y,Y,Y,Y,Y,Y,Y,Y,Y,Y,Y,Y,Y,Y,Y,Y,Y,Y,Y,Y,Y,Y,Y,Y,Y,Y,Y,Y,Y,O,O,O] #[Y,Y,Y,Y,Y,Y,Y,Y,Y,Y,Y,Y,Y,Y,Y,Y,Y,Y,Y,Y,Y,Y,Y,Y,Y,Y,Y,Y,O,O,Y,O] rfl rfl rfl rfl (two_of HT_.out (by kernel_rfl)) (by decide) (by decide) (fun K hK => ?_) (fun K hK => ?_)
              ·skip
               refine goes_ Tryd.func91 (by kernel_rfl) rfl #[.slice A435_2 ((rd_T70 l1 x14_1).f2).length c435_2] (by rfl) rfl rfl zm ?_
               with_reducible refine (spec_l1OwnT.calls _ _ ((rd_T70 l1 x14_1).f2) t443 _ ?side1 ?side2 A12.out).mono ?_
               (case side1 => exact zq (Kd.C_below HR435_2.out HB.out))
               (case side2 => exact HC435_2.out)
               rintro e w21 ⟨v444, rfl, ho0, hb⟩
               refine ⟨_, rfl, ?_⟩
               have n0_ := Aside0.mk (Kd.S_elder' (zs HO_5.out) (Kd.R_base ho0) hb)
               have n1_ := Aside0.mk (Kd.R_elder' (zr HO441.out) (Kd.R_base ho0) hb)
               have n2_ := Aside0.mk (Kd.R_lower (Kd.R_new' ho0 (Kd.R_lt (zr HO441.out))) (below_size (by repeat (first | (with_reducible first | exact HB.out | apply below_alloc | apply pw_below_drewN | apply below_drew1 | refine below_set ?_ GE436.out) | exact HB.out))))
               have n3_ := Aside0.mk (blk_below (g := gb436) (o := .cells #[.int .i64 ((rd_T70 l1 x14_1).f0), .int .i64 ((rd_T70 l1 x14_1).f1), .slice A435_2 ((rd_T70 l1 x14_1).f2).length c435_2] 70 (0, 0)) (zk BK436.out) hb)
               have n4_ := Aside0.mk (below_step (by repeat (first | (with_reducible first | exact HB.out | apply below_alloc | apply pw_below_drewN | apply below_drew1 | refine below_set ?_ GE436.out) | exact HB.out)) hb)
               clear HO_5
               clear HO441
               clear BK436
               clear HB
               have HO_5 := n0_
               have HO441 := n1_
               have HO445 := n2_
               have BK436 := n3_
               have HB := n4_
               clear n0_ n1_ n2_ n3_ n4_
               (try clear hb)
               (try clear hb2)
               (try clear hk)
               (try clear hi)
               (try clear ho0)
               obtain ⟨Ao22, co22, eo22⟩ := Kd.R_slice HO445.out
               (first | subst eo22 | (injection eo22 with f1_ f2_ f3_; have f4_ := f1_.symm; have f5_ := f3_.symm; clear f1_ f2_ f3_; subst f4_; subst f5_))
               obtain ⟨Ao23, co23, eo23⟩ := Kd.R_slice HO441.out
               (first | subst eo23 | (injection eo23 with f1_ f2_ f3_; have f4_ := f1_.symm; have f5_ := f3_.symm; clear f1_ f2_ f3_; subst f4_; subst f5_))
               refine hK.out _ _ ⟨(blk_cell BK436.out 0).trans rfl, (blk_cell BK436.out 1).trans rfl, (blk_cell BK436.out 2).trans rfl⟩ (fun hHeld => ?_)
               clear hK K
               refine norm_ (a' := ?_) ?_ ?_
               rotate_left
               ·show Act.put _ (some 53) _ = _
                simp only [Act.put,qa,qb,qc,i64_w,i32_w]
                rfl
               refine pure_ (i := 29) (N := some 54) (v := ?_) (a' := ?_) #[Y,Y,Y,Y,Y,Y,Y,Y,Y,Y,Y,Y,Y,Y,Y,Y,Y,Y,Y,Y,Y,Y,Y,Y,Y,Y,Y,Y,Y,Y,O,O] rfl rfl zx (fun _ _ _ h => h) (Or.inl ⟨by rfl, ?_⟩) ?_ ?_
               rotate_left; (intro w'; go_simp; with_reducible rfl); rotate_left; (simp only [Act.put,qa,qb,qc,i64_w,i32_w]; rfl)
               exact norm_ (by first | (simp only [putAll, Act.put, List.setIfInBounds_toArray, List.set_cons_zero, List.set_cons_succ]; done) | (simp only [putAll, Act.put, List.setIfInBounds_toArray, List.set_cons_zero, List.set_cons_succ]; rfl)) (hJ4_19_22_28 (.slice Ao23 t439.length co23, .slice Ao22 t443.length co22) _ ⟨hHeld, (by (with_reducible repeat (first | apply Kd.R_alloc | apply Kd.R_drewN | apply Kd.R_drew)); exact Kd.R_mono HO441.out (fun _ hk => hk.2)), (by (with_reducible repeat (first | apply Kd.R_alloc | apply Kd.R_drewN | apply Kd.R_drew)); exact Kd.R_mono HO445.out (fun _ hk => hk.2)), (zs HO_5.out), (zk BK436.out), (by repeat (first | (with_reducible first | exact HB.out | apply below_alloc | apply pw_below_drewN | apply below_drew1 | refine below_set ?_ GE436.out) | exact HB.out))⟩)
              ·skip
               refine box_step ?hg (N := 11) ?hd (cs := #[.int .i64 0, .int .i64 0, .slice none 0 0, .int .i64 0, .int .i64 0, .slice none 0 0]) (t := 56) ?hr ?_; (case hd => rfl); (case hg => rfl); (case hr => first | (go_simp; done) | (go_simp; rfl))
               intro gb446 hg w21 hbox hb
               have n0_ := Aside0.mk (Kd.S_below (Kd.S_elderB (zs HO_5.out) gb446 (Nat.le_of_eq hg.symm)) hb)
               have n1_ := Aside0.mk (Kd.R_below (zr HO441.out) hb)
               have n2_ := Aside0.mk (blk_below (g := gb436) (o := .cells #[.int .i64 ((rd_T70 l1 x14_1).f0), .int .i64 ((rd_T70 l1 x14_1).f1), .slice A435_2 ((rd_T70 l1 x14_1).f2).length c435_2] 70 (0, 0)) (zk BK436.out) hb)
               have n3_ := Aside0.mk (below_step (by repeat (first | (with_reducible first | exact HB.out | apply below_alloc | apply pw_below_drewN | apply below_drew1 | refine below_set ?_ GE436.out) | exact HB.out)) hb)
               have n4_ := Aside0.mk (hbox)
               have n5_ := Aside0.mk ((by rw [hg]; exact (below_size (by repeat (first | (with_reducible first | exact HB.out | apply below_alloc | apply pw_below_drewN | apply below_drew1 | refine below_set ?_ GE436.out) | exact HB.out))) : w.heap.size ≤ gb446))
               have n6_ := Aside0.mk ((by rw [hg]; exact (below_size (by repeat (first | (with_reducible first | exact HB.out | apply below_alloc | apply pw_below_drewN | apply below_drew1 | refine below_set ?_ GE436.out) | exact HB.out))) : w.heap.size ≤ gb446))
               have n7_ := Aside0.mk ((by rw [hg]; exact Nat.ne_of_lt (blk_lt (g := gb436) (o := .cells #[.int .i64 ((rd_T70 l1 x14_1).f0), .int .i64 ((rd_T70 l1 x14_1).f1), .slice A435_2 ((rd_T70 l1 x14_1).f2).length c435_2] 70 (0, 0)) (zk BK436.out)) : gb436 ≠ gb446))
               have n8_ := Aside0.mk ((by rw [hg]; exact Nat.ne_of_gt (blk_lt (g := gb436) (o := .cells #[.int .i64 ((rd_T70 l1 x14_1).f0), .int .i64 ((rd_T70 l1 x14_1).f1), .slice A435_2 ((rd_T70 l1 x14_1).f2).length c435_2] 70 (0, 0)) (zk BK436.out)) : gb446 ≠ gb436))
               clear HO_5
               clear HO441
               clear BK436
               clear HB
               have HO_5 := n0_
               have HO441 := n1_
               have BK436 := n2_
               have HB := n3_
               have BK446 := n4_
               have GW446 := n5_
               have GE446 := n6_
               have NB436_446 := n7_
               have NB446_436 := n8_
               clear n0_ n1_ n2_ n3_ n4_ n5_ n6_ n7_ n8_
               clear hb hbox hg
               refine hK.out _ _ ⟨(blk_cell BK436.out 0).trans rfl, (blk_cell BK436.out 1).trans rfl, (blk_cell BK436.out 2).trans rfl⟩ (fun hHeld => ?_)
               clear hK K
               refine norm_ (a' := ?_) ?_ ?_
               rotate_left
               ·show Act.put _ (some 11) _ = _
                simp only [Act.put,qa,qb,qc,i64_w,i32_w]
                rfl
               exact norm_ (by first | (simp only [putAll, Act.put, List.setIfInBounds_toArray, List.set_cons_zero, List.set_cons_succ]; done) | (simp only [putAll, Act.put, List.setIfInBounds_toArray, List.set_cons_zero, List.set_cons_succ]; rfl)) (hJ4_19_22_30 (v440, gb446) _ ⟨hHeld, (zr HO441.out), (zs HO_5.out), (zk BK436.out), (zk BK446.out), GW446.out, GE446.out, NB436_446.out, NB446_436.out, (by repeat (first | (with_reducible first | exact HB.out | apply below_alloc | apply pw_below_drewN | apply below_drew1 | refine below_set ?_ GE436.out | refine below_set ?_ GE446.out) | exact HB.out))⟩)
            ·skip
             rintro ⟨v440, gb446⟩ w21 ⟨hS_, h0_, h1_, h2_, h3_, h4_, h5_, h6_, h7_, h8_⟩
             have n0_ : Aside0 (Kd.R Kd.string 9 w21 w.heap.size (fun _ => True) v440 t439) := ⟨h0_⟩
             have n1_ : Aside0 (Kd.S k56 56 w21 w.heap.size (fun k_ => some k_ ≠ (v440 : Value).ownBlock ∧ k_ ≠ gb446) u5 x5_1) := ⟨h1_⟩
             have n2_ : Aside0 (w21.heap[gb436]? = some (.cells #[.int .i64 ((rd_T70 l1 x14_1).f0), .int .i64 ((rd_T70 l1 x14_1).f1), .slice A435_2 ((rd_T70 l1 x14_1).f2).length c435_2] 70 (0, 0))) := ⟨h2_⟩
             have n3_ : Aside0 (w21.heap[gb446]? = some (.cells #[.int .i64 0, .int .i64 0, .slice none 0 0, .int .i64 0, .int .i64 0, .slice none 0 0] 56 (0, 0))) := ⟨h3_⟩
             have n4_ : Aside0 (w.heap.size ≤ gb446) := ⟨h4_⟩
             have n5_ : Aside0 (w.heap.size ≤ gb446) := ⟨h5_⟩
             have n6_ : Aside0 (gb436 ≠ gb446) := ⟨h6_⟩
             have n7_ : Aside0 (gb446 ≠ gb436) := ⟨h7_⟩
             have n8_ : Aside0 (Below w.heap.size w w21) := ⟨h8_⟩
             clear HO_5
             clear BK436
             clear HB
             clear h0_ h1_ h2_ h3_ h4_ h5_ h6_ h7_ h8_
             have HO441 := n0_
             have HO_5 := n1_
             have BK436 := n2_
             have BK446 := n3_
             have GW446 := n4_
             have GE446 := n5_
             have NB436_446 := n6_
             have NB446_436 := n7_
             have HB := n8_
             clear n0_ n1_ n2_ n3_ n4_ n5_ n6_ n7_ n8_
             have hHeld : w21.cell? ⟨gb436, 0, none⟩ = some (.int .i64 ((rd_T70 l1 x14_1).f0)) ∧ w21.cell? ⟨gb436, 1, none⟩ = some (.int .i64 ((rd_T70 l1 x14_1).f1)) ∧ w21.cell? ⟨gb436, 2, none⟩ = some (.slice A435_2 ((rd_T70 l1 x14_1).f2).length c435_2) := hS_
             refine norm_ (a' := ?_) ?_ ?_
             rotate_left
             ·simp only [putAll, Act.put, List.setIfInBounds_toArray, List.set_cons_zero, List.set_cons_succ]
              rfl
             refine one_ (i := 28) (N := some 53) #[Y,Y,Y,Y,Y,Y,Y,Y,Y,Y,Y,Y,Y,Y,Y,Y,Y,Y,Y,Y,Y,Y,Y,Y,Y,Y,Y,Y,Y,O,Y,O] rfl rfl (one_of HT_.out (by kernel_rfl)) (by decide) (fun K hK => ?_)
             refine goes_ Tryd.func91 (by kernel_rfl) rfl #[.slice A435_2 ((rd_T70 l1 x14_1).f2).length c435_2] (by rfl) rfl rfl zm ?_
             with_reducible refine (spec_l1OwnT.calls _ _ ((rd_T70 l1 x14_1).f2) t443 _ ?side1 ?side2 A12.out).mono ?_
             (case side1 => exact zq (Kd.C_below HR435_2.out HB.out))
             (case side2 => exact HC435_2.out)
             rintro e w22 ⟨v444, rfl, ho0, hb⟩
             refine ⟨_, rfl, ?_⟩
             have n0_ := Aside0.mk (Kd.S_elder' (zs HO_5.out) (Kd.R_base ho0) hb)
             have n1_ := Aside0.mk (Kd.R_elder' (zr HO441.out) (Kd.R_base ho0) hb)
             have n2_ := Aside0.mk (Kd.R_lower (Kd.R_new' ho0 (Kd.R_lt (zr HO441.out))) (below_size (by repeat (first | (with_reducible first | exact HB.out | apply below_alloc | apply pw_below_drewN | apply below_drew1 | refine below_set ?_ GE436.out | refine below_set ?_ GE446.out) | exact HB.out))))
             have n3_ := Aside0.mk (blk_below (g := gb436) (o := .cells #[.int .i64 ((rd_T70 l1 x14_1).f0), .int .i64 ((rd_T70 l1 x14_1).f1), .slice A435_2 ((rd_T70 l1 x14_1).f2).length c435_2] 70 (0, 0)) (zk BK436.out) hb)
             have n4_ := Aside0.mk (blk_below (g := gb446) (o := .cells #[.int .i64 0, .int .i64 0, .slice none 0 0, .int .i64 0, .int .i64 0, .slice none 0 0] 56 (0, 0)) (zk BK446.out) hb)
             have n5_ := Aside0.mk (below_step (by repeat (first | (with_reducible first | exact HB.out | apply below_alloc | apply pw_below_drewN | apply below_drew1 | refine below_set ?_ GE436.out | refine below_set ?_ GE446.out) | exact HB.out)) hb)
             clear HO_5
             clear HO441
             clear BK436
             clear BK446
             clear HB
             have HO_5 := n0_
             have HO441 := n1_
             have HO445 := n2_
             have BK436 := n3_
             have BK446 := n4_
             have HB := n5_
             clear n0_ n1_ n2_ n3_ n4_ n5_
             (try clear hb)
             (try clear hb2)
             (try clear hk)
             (try clear hi)
             (try clear ho0)
             obtain ⟨Ao23, co23, eo23⟩ := Kd.R_slice HO445.out
             (first | subst eo23 | (injection eo23 with f1_ f2_ f3_; have f4_ := f1_.symm; have f5_ := f3_.symm; clear f1_ f2_ f3_; subst f4_; subst f5_))
             obtain ⟨Ao24, co24, eo24⟩ := Kd.R_slice HO441.out
             (first | subst eo24 | (injection eo24 with f1_ f2_ f3_; have f4_ := f1_.symm; have f5_ := f3_.symm; clear f1_ f2_ f3_; subst f4_; subst f5_))
             refine hK.out _ _ ⟨(blk_cell BK436.out 0).trans rfl, (blk_cell BK436.out 1).trans rfl, (blk_cell BK436.out 2).trans rfl⟩ (fun hHeld => ?_)
             clear hK K
             refine norm_ (a' := ?_) ?_ ?_
             rotate_left
             ·show Act.put _ (some 53) _ = _
              simp only [Act.put,qa,qb,qc,i64_w,i32_w]
              rfl
             refine pure_ (i := 29) (N := some 54) (v := ?_) (a' := ?_) #[Y,Y,Y,Y,Y,Y,Y,Y,Y,Y,Y,Y,Y,Y,Y,Y,Y,Y,Y,Y,Y,Y,Y,Y,Y,Y,Y,Y,Y,Y,Y,O] rfl rfl zx (fun _ _ _ h => h) (Or.inl ⟨by rfl, ?_⟩) ?_ ?_
             rotate_left; (intro w'; go_simp; with_reducible rfl); rotate_left; (simp only [Act.put,qa,qb,qc,i64_w,i32_w]; rfl)
             exact norm_ (by first | (simp only [putAll, Act.put, List.setIfInBounds_toArray, List.set_cons_zero, List.set_cons_succ]; done) | (simp only [putAll, Act.put, List.setIfInBounds_toArray, List.set_cons_zero, List.set_cons_succ]; rfl)) (hJ4_19_22_28_30 (.slice Ao24 t439.length co24, .slice Ao23 t443.length co23, gb446) _ ⟨hHeld, (by (with_reducible repeat (first | apply Kd.R_alloc | apply Kd.R_drewN | apply Kd.R_drew)); exact Kd.R_mono HO441.out (fun _ hk => hk.2)), (by (with_reducible repeat (first | apply Kd.R_alloc | apply Kd.R_drewN | apply Kd.R_drew)); exact Kd.R_mono HO445.out (fun _ hk => hk.2)), (by (with_reducible repeat (first | apply Kd.S_alloc | apply Kd.S_drewN | apply Kd.S_drew)); exact Kd.S_mono HO_5.out (fun _ hk => ⟨hk.1.1, ⟨hk.2, hk.1.2⟩⟩)), (zk BK436.out), (zk BK446.out), GW446.out, GE446.out, NB436_446.out, NB446_436.out, (by repeat (first | (with_reducible first | exact HB.out | apply below_alloc | apply pw_below_drewN | apply below_drew1 | refine below_set ?_ GE436.out | refine below_set ?_ GE446.out) | exact HB.out))⟩)
           ·skip
            rintro ⟨v440, v444⟩ w23 ⟨hS_, h0_, h1_, h2_, h3_, h4_⟩
            have n0_ : Aside0 (Kd.R Kd.string 9 w23 w.heap.size (fun k_ => some k_ ≠ (v444 : Value).ownBlock) v440 t439) := ⟨h0_⟩
            have n1_ : Aside0 (Kd.R Kd.string 9 w23 w.heap.size (fun k_ => some k_ ≠ (v440 : Value).ownBlock) v444 t443) := ⟨h1_⟩
            have n2_ : Aside0 (Kd.S k56 56 w23 w.heap.size (fun k_ => some k_ ≠ (v440 : Value).ownBlock ∧ some k_ ≠ (v444 : Value).ownBlock) u5 x5_1) := ⟨h2_⟩
            have n3_ : Aside0 (w23.heap[gb436]? = some (.cells #[.int .i64 ((rd_T70 l1 x14_1).f0), .int .i64 ((rd_T70 l1 x14_1).f1), .slice A435_2 ((rd_T70 l1 x14_1).f2).length c435_2] 70 (0, 0))) := ⟨h3_⟩
            have n4_ : Aside0 (Below w.heap.size w w23) := ⟨h4_⟩
            clear HO_5
            clear BK436
            clear HB
            clear h0_ h1_ h2_ h3_ h4_
            have HO441 := n0_
            have HO445 := n1_
            have HO_5 := n2_
            have BK436 := n3_
            have HB := n4_
            clear n0_ n1_ n2_ n3_ n4_
            have hHeld : w23.cell? ⟨gb436, 0, none⟩ = some (.int .i64 ((rd_T70 l1 x14_1).f0)) ∧ w23.cell? ⟨gb436, 1, none⟩ = some (.int .i64 ((rd_T70 l1 x14_1).f1)) ∧ w23.cell? ⟨gb436, 2, none⟩ = some (.slice A435_2 ((rd_T70 l1 x14_1).f2).length c435_2) := hS_
            obtain ⟨Ao24, co24, eo24⟩ := Kd.R_slice HO445.out
            (first | subst eo24 | (injection eo24 with f1_ f2_ f3_; have f4_ := f1_.symm; have f5_ := f3_.symm; clear f1_ f2_ f3_; subst f4_; subst f5_))
            obtain ⟨Ao25, co25, eo25⟩ := Kd.R_slice HO441.out
            (first | subst eo25 | (injection eo25 with f1_ f2_ f3_; have f4_ := f1_.symm; have f5_ := f3_.symm; clear f1_ f2_ f3_; subst f4_; subst f5_))
            refine norm_ (a' := ?_) ?_ ?_
            rotate_left
            ·simp only [putAll, Act.put, List.setIfInBounds_toArray, List.set_cons_zero, List.set_cons_succ]
             rfl
            refine one_ (i := 30) (N := some 11) #[Y,Y,Y,Y,Y,Y,Y,Y,Y,Y,Y,Y,Y,Y,Y,Y,Y,Y,Y,Y,Y,Y,Y,Y,Y,Y,Y,Y,Y,Y,Y,O] rfl rfl (one_of HT_.out (by kernel_rfl)) (by decide) (fun K hK => ?_)
            refine box_step ?hg (N := 11) ?hd (cs := #[.int .i64 0, .int .i64 0, .slice none 0 0, .int .i64 0, .int .i64 0, .slice none 0 0]) (t := 56) ?hr ?_; (case hd => rfl); (case hg => rfl); (case hr => first | (go_simp; done) | (go_simp; rfl))
            intro gb446 hg w26 hbox hb
            have n0_ := Aside0.mk (Kd.S_below (Kd.S_elderB (zs HO_5.out) gb446 (Nat.le_of_eq hg.symm)) hb)
            have n1_ := Aside0.mk (Kd.R_below (zr HO441.out) hb)
            have n2_ := Aside0.mk (Kd.R_below (zr HO445.out) hb)
            have n3_ := Aside0.mk (blk_below (g := gb436) (o := .cells #[.int .i64 ((rd_T70 l1 x14_1).f0), .int .i64 ((rd_T70 l1 x14_1).f1), .slice A435_2 ((rd_T70 l1 x14_1).f2).length c435_2] 70 (0, 0)) (zk BK436.out) hb)
            have n4_ := Aside0.mk (below_step (by repeat (first | (with_reducible first | exact HB.out | apply below_alloc | apply pw_below_drewN | apply below_drew1 | refine below_set ?_ GE436.out) | exact HB.out)) hb)
            have n5_ := Aside0.mk (hbox)
            have n6_ := Aside0.mk ((by rw [hg]; exact (below_size (by repeat (first | (with_reducible first | exact HB.out | apply below_alloc | apply pw_below_drewN | apply below_drew1 | refine below_set ?_ GE436.out) | exact HB.out))) : w.heap.size ≤ gb446))
            have n7_ := Aside0.mk ((by rw [hg]; exact (below_size (by repeat (first | (with_reducible first | exact HB.out | apply below_alloc | apply pw_below_drewN | apply below_drew1 | refine below_set ?_ GE436.out) | exact HB.out))) : w.heap.size ≤ gb446))
            have n8_ := Aside0.mk ((by rw [hg]; exact Nat.ne_of_lt (blk_lt (g := gb436) (o := .cells #[.int .i64 ((rd_T70 l1 x14_1).f0), .int .i64 ((rd_T70 l1 x14_1).f1), .slice A435_2 ((rd_T70 l1 x14_1).f2).length c435_2] 70 (0, 0)) (zk BK436.out)) : gb436 ≠ gb446))
            have n9_ := Aside0.mk ((by rw [hg]; exact Nat.ne_of_gt (blk_lt (g := gb436) (o := .cells #[.int .i64 ((rd_T70 l1 x14_1).f0), .int .i64 ((rd_T70 l1 x14_1).f1), .slice A435_2 ((rd_T70 l1 x14_1).f2).length c435_2] 70 (0, 0)) (zk BK436.out)) : gb446 ≠ gb436))
            clear HO_5
            clear HO441
            clear HO445
            clear BK436
            clear HB
            have HO_5 := n0_
            have HO441 := n1_
            have HO445 := n2_
            have BK436 := n3_
            have HB := n4_
            have BK446 := n5_
            have GW446 := n6_
            have GE446 := n7_
            have NB436_446 := n8_
            have NB446_436 := n9_
            clear n0_ n1_ n2_ n3_ n4_ n5_ n6_ n7_ n8_ n9_
            clear hb hbox hg
            refine hK.out _ _ ⟨(blk_cell BK436.out 0).trans rfl, (blk_cell BK436.out 1).trans rfl, (blk_cell BK436.out 2).trans rfl⟩ (fun hHeld => ?_)
            clear hK K
            refine norm_ (a' := ?_) ?_ ?_
            rotate_left
            ·show Act.put _ (some 11) _ = _
             simp only [Act.put,qa,qb,qc,i64_w,i32_w]
             rfl
            exact norm_ (by first | (simp only [putAll, Act.put, List.setIfInBounds_toArray, List.set_cons_zero, List.set_cons_succ]; done) | (simp only [putAll, Act.put, List.setIfInBounds_toArray, List.set_cons_zero, List.set_cons_succ]; rfl)) (hJ4_19_22_28_30 (.slice Ao25 t439.length co25, .slice Ao24 t443.length co24, gb446) _ ⟨hHeld, (zr HO441.out), (zr HO445.out), (by (with_reducible repeat (first | apply Kd.S_alloc | apply Kd.S_drewN | apply Kd.S_drew)); exact Kd.S_mono HO_5.out (fun _ hk => ⟨hk.1.1, ⟨hk.1.2, hk.2⟩⟩)), (zk BK436.out), (zk BK446.out), GW446.out, GE446.out, NB436_446.out, NB446_436.out, (by repeat (first | (with_reducible first | exact HB.out | apply below_alloc | apply pw_below_drewN | apply below_drew1 | refine below_set ?_ GE436.out | refine below_set ?_ GE446.out) | exact HB.out))⟩)
          rintro ⟨v440, v444, gb446⟩ w24 ⟨hS_, h0_, h1_, h2_, h3_, h4_, h5_, h6_, h7_, h8_, h9_⟩
          have n0_ : Aside0 (Kd.R Kd.string 9 w24 w.heap.size (fun k_ => some k_ ≠ (v444 : Value).ownBlock) v440 t439) := ⟨h0_⟩
          have n1_ : Aside0 (Kd.R Kd.string 9 w24 w.heap.size (fun k_ => some k_ ≠ (v440 : Value).ownBlock) v444 t443) := ⟨h1_⟩
          have n2_ : Aside0 (Kd.S k56 56 w24 w.heap.size (fun k_ => some k_ ≠ (v440 : Value).ownBlock ∧ some k_ ≠ (v444 : Value).ownBlock ∧ k_ ≠ gb446) u5 x5_1) := ⟨h2_⟩
          have n3_ : Aside0 (w24.heap[gb436]? = some (.cells #[.int .i64 ((rd_T70 l1 x14_1).f0), .int .i64 ((rd_T70 l1 x14_1).f1), .slice A435_2 ((rd_T70 l1 x14_1).f2).length c435_2] 70 (0, 0))) := ⟨h3_⟩
          have n4_ : Aside0 (w24.heap[gb446]? = some (.cells #[.int .i64 0, .int .i64 0, .slice none 0 0, .int .i64 0, .int .i64 0, .slice none 0 0] 56 (0, 0))) := ⟨h4_⟩
          have n5_ : Aside0 (w.heap.size ≤ gb446) := ⟨h5_⟩
          have n6_ : Aside0 (w.heap.size ≤ gb446) := ⟨h6_⟩
          have n7_ : Aside0 (gb436 ≠ gb446) := ⟨h7_⟩
          have n8_ : Aside0 (gb446 ≠ gb436) := ⟨h8_⟩
          have n9_ : Aside0 (Below w.heap.size w w24) := ⟨h9_⟩
          clear HO_5
          clear BK436
          clear HB
          clear h0_ h1_ h2_ h3_ h4_ h5_ h6_ h7_ h8_ h9_
          have HO441 := n0_
          have HO445 := n1_
          have HO_5 := n2_
          have BK436 := n3_
          have BK446 := n4_
          have GW446 := n5_
          have GE446 := n6_
          have NB436_446 := n7_
          have NB446_436 := n8_
          have HB := n9_
          clear n0_ n1_ n2_ n3_ n4_ n5_ n6_ n7_ n8_ n9_
          have hHeld : w24.cell? ⟨gb436, 0, none⟩ = some (.int .i64 ((rd_T70 l1 x14_1).f0)) ∧ w24.cell? ⟨gb436, 1, none⟩ = some (.int .i64 ((rd_T70 l1 x14_1).f1)) ∧ w24.cell? ⟨gb436, 2, none⟩ = some (.slice A435_2 ((rd_T70 l1 x14_1).f2).length c435_2) := hS_
          obtain ⟨Ao25, co25, eo25⟩ := Kd.R_slice HO445.out
          (first | subst eo25 | (injection eo25 with f1_ f2_ f3_; have f4_ := f1_.symm; have f5_ := f3_.symm; clear f1_ f2_ f3_; subst f4_; subst f5_))
          obtain ⟨Ao26, co26, eo26⟩ := Kd.R_slice HO441.out
          (first | subst eo26 | (injection eo26 with f1_ f2_ f3_; have f4_ := f1_.symm; have f5_ := f3_.symm; clear f1_ f2_ f3_; subst f4_; subst f5_))
          refine norm_ (a' := ?_) ?_ ?_
          rotate_left
          ·simp only [putAll, Act.put, List.setIfInBounds_toArray, List.set_cons_zero, List.set_cons_succ]
           rfl
          refine one_ (i := 31) (N := none) #[Y,Y,Y,Y,Y,Y,Y,Y,Y,Y,Y,Y,Y,Y,Y,Y,Y,Y,Y,Y,Y,Y,Y,Y,Y,Y,Y,Y,Y,Y,Y,Y] rfl rfl (one_of HT_.out (by kernel_rfl)) (by decide) (fun K hK => ?_)
          have hs27 : w24.cell? ⟨gb446, 0, none⟩ = some (.int .i64 0) := (blk_cell BK446.out 0).trans rfl
          have hfs27 := blk_frozen BK446.out 0
          have hns27_0 := NB436_446.out
          have hms27_0 := NB446_436.out
          have hs28 : w24.cell? ⟨gb446, 1, none⟩ = some (.int .i64 0) := (blk_cell BK446.out 1).trans rfl
          have hfs28 := blk_frozen BK446.out 1
          have hns28_0 := NB436_446.out
          have hms28_0 := NB446_436.out
          have hs29 : w24.cell? ⟨gb446, 2, none⟩ = some (.slice none 0 0) := (blk_cell BK446.out 2).trans rfl
          have hfs29 := blk_frozen BK446.out 2
          have hns29_0 := NB436_446.out
          have hms29_0 := NB446_436.out
          have hs30 : w24.cell? ⟨gb446, 3, none⟩ = some (.int .i64 0) := (blk_cell BK446.out 3).trans rfl
          have hfs30 := blk_frozen BK446.out 3
          have hns30_0 := NB436_446.out
          have hms30_0 := NB446_436.out
          have hs31 : w24.cell? ⟨gb446, 4, none⟩ = some (.int .i64 0) := (blk_cell BK446.out 4).trans rfl
          have hfs31 := blk_frozen BK446.out 4
          have hns31_0 := NB436_446.out
          have hms31_0 := NB446_436.out
          have hs32 : w24.cell? ⟨gb446, 5, none⟩ = some (.slice none 0 0) := (blk_cell BK446.out 5).trans rfl
          have hfs32 := blk_frozen BK446.out 5
          have hns32_0 := NB436_446.out
          have hms32_0 := NB446_436.out
          refine skip_ (w1 := ?_) (by rfl) rfl ?_ ?_
          rotate_left
          ·go_simp
           rfl
          refine hK.out _ _ ⟨((cell_far (p := ⟨gb446, _, none⟩) NB436_446.out _).trans (((cell_far (p := ⟨gb446, _, none⟩) NB436_446.out _).trans (((cell_far (p := ⟨gb446, _, none⟩) NB436_446.out _).trans (((cell_far (p := ⟨gb446, _, none⟩) NB436_446.out _).trans (((cell_far (p := ⟨gb446, _, none⟩) NB436_446.out _).trans (((cell_far (p := ⟨gb446, _, none⟩) NB436_446.out _).trans (hHeld.1)))))))))))), ((cell_far (p := ⟨gb446, _, none⟩) NB436_446.out _).trans (((cell_far (p := ⟨gb446, _, none⟩) NB436_446.out _).trans (((cell_far (p := ⟨gb446, _, none⟩) NB436_446.out _).trans (((cell_far (p := ⟨gb446, _, none⟩) NB436_446.out _).trans (((cell_far (p := ⟨gb446, _, none⟩) NB436_446.out _).trans (((cell_far (p := ⟨gb446, _, none⟩) NB436_446.out _).trans (hHeld.2.1)))))))))))), ((cell_far (p := ⟨gb446, _, none⟩) NB436_446.out _).trans (((cell_far (p := ⟨gb446, _, none⟩) NB436_446.out _).trans (((cell_far (p := ⟨gb446, _, none⟩) NB436_446.out _).trans (((cell_far (p := ⟨gb446, _, none⟩) NB436_446.out _).trans (((cell_far (p := ⟨gb446, _, none⟩) NB436_446.out _).trans (((cell_far (p := ⟨gb446, _, none⟩) NB436_446.out _).trans (hHeld.2.2))))))))))))⟩ (fun hHeld => ?_)
          clear hK K
          refine done_ (done_of HT_.out (by kernel_rfl)) ?_
          have n0_ : Aside0 (Kd.S k56 56 ((((((w24.setCell ⟨gb446, 0, none⟩ (.int .i64 t437)).setCell ⟨gb446, 1, none⟩ (.int .i64 (wrap64 (((rd_T70 l1 x14_1).f0) + ((rd_T70 l1 x14_1).f1))))).setCell ⟨gb446, 2, none⟩ (.slice Ao26 t439.length co26)).setCell ⟨gb446, 3, none⟩ (.int .i64 t442)).setCell ⟨gb446, 4, none⟩ (.int .i64 (wrap64 ((wrap64 (((rd_T70 l1 x14_1).f0) + x6_1)) + (((rd_T70 l1 x14_1).f2).length : Int))))).setCell ⟨gb446, 5, none⟩ (.slice Ao25 t443.length co25)) w.heap.size (fun k_ => some k_ ≠ (.slice Ao26 t439.length co26 : Value).ownBlock ∧ some k_ ≠ (.slice Ao25 t443.length co25 : Value).ownBlock ∧ k_ ≠ gb446) u5 x5_1) := ⟨by (with_reducible repeat (first | apply Kd.S_alloc | apply Kd.S_drewN | apply Kd.S_drew)); exact Kd.S_mono (Kd.S_far (p := ⟨gb446, 5, none⟩) (Kd.S_far (p := ⟨gb446, 4, none⟩) (Kd.S_far (p := ⟨gb446, 3, none⟩) (Kd.S_far (p := ⟨gb446, 2, none⟩) (Kd.S_far (p := ⟨gb446, 1, none⟩) (Kd.S_far (p := ⟨gb446, 0, none⟩) (Kd.S_mono HO_5.out (fun k_ hk => (⟨hk, hk.2.2⟩ : _ ∧ k_ ≠ gb446))) (fun _ hk => hk.2) (.int .i64 t437)) (fun _ hk => hk.2) (.int .i64 (wrap64 (((rd_T70 l1 x14_1).f0) + ((rd_T70 l1 x14_1).f1))))) (fun _ hk => hk.2) (.slice Ao26 t439.length co26)) (fun _ hk => hk.2) (.int .i64 t442)) (fun _ hk => hk.2) (.int .i64 (wrap64 ((wrap64 (((rd_T70 l1 x14_1).f0) + x6_1)) + (((rd_T70 l1 x14_1).f2).length : Int))))) (fun _ hk => hk.2) (.slice Ao25 t443.length co25)) (fun _ hk => ⟨hk.1.1, ⟨hk.1.2.1, hk.1.2.2⟩⟩)⟩
          have n1_ : Aside0 (Kd.R Kd.string 9 ((((((w24.setCell ⟨gb446, 0, none⟩ (.int .i64 t437)).setCell ⟨gb446, 1, none⟩ (.int .i64 (wrap64 (((rd_T70 l1 x14_1).f0) + ((rd_T70 l1 x14_1).f1))))).setCell ⟨gb446, 2, none⟩ (.slice Ao26 t439.length co26)).setCell ⟨gb446, 3, none⟩ (.int .i64 t442)).setCell ⟨gb446, 4, none⟩ (.int .i64 (wrap64 ((wrap64 (((rd_T70 l1 x14_1).f0) + x6_1)) + (((rd_T70 l1 x14_1).f2).length : Int))))).setCell ⟨gb446, 5, none⟩ (.slice Ao25 t443.length co25)) w.heap.size (fun k_ => some k_ ≠ (.slice Ao25 t443.length co25 : Value).ownBlock) (.slice Ao26 t439.length co26) t439) := ⟨by (with_reducible repeat (first | apply Kd.R_alloc | apply Kd.R_drewN | apply Kd.R_drew)); exact Kd.R_mono (Kd.R_far (p := ⟨gb446, 5, none⟩) (Kd.R_far (p := ⟨gb446, 4, none⟩) (Kd.R_far (p := ⟨gb446, 3, none⟩) (Kd.R_far (p := ⟨gb446, 2, none⟩) (Kd.R_far (p := ⟨gb446, 1, none⟩) (Kd.R_far (p := ⟨gb446, 0, none⟩) (Kd.R_types HO441.out BK446.out (by decide)) (fun _ hk => hk.2) (.int .i64 t437)) (fun _ hk => hk.2) (.int .i64 (wrap64 (((rd_T70 l1 x14_1).f0) + ((rd_T70 l1 x14_1).f1))))) (fun _ hk => hk.2) (.slice Ao26 t439.length co26)) (fun _ hk => hk.2) (.int .i64 t442)) (fun _ hk => hk.2) (.int .i64 (wrap64 ((wrap64 (((rd_T70 l1 x14_1).f0) + x6_1)) + (((rd_T70 l1 x14_1).f2).length : Int))))) (fun _ hk => hk.2) (.slice Ao25 t443.length co25)) (fun _ hk => hk.1)⟩
          have n2_ : Aside0 (Kd.R Kd.string 9 ((((((w24.setCell ⟨gb446, 0, none⟩ (.int .i64 t437)).setCell ⟨gb446, 1, none⟩ (.int .i64 (wrap64 (((rd_T70 l1 x14_1).f0) + ((rd_T70 l1 x14_1).f1))))).setCell ⟨gb446, 2, none⟩ (.slice Ao26 t439.length co26)).setCell ⟨gb446, 3, none⟩ (.int .i64 t442)).setCell ⟨gb446, 4, none⟩ (.int .i64 (wrap64 ((wrap64 (((rd_T70 l1 x14_1).f0) + x6_1)) + (((rd_T70 l1 x14_1).f2).length : Int))))).setCell ⟨gb446, 5, none⟩ (.slice Ao25 t443.length co25)) w.heap.size (fun k_ => some k_ ≠ (.slice Ao26 t439.length co26 : Value).ownBlock) (.slice Ao25 t443.length co25) t443) := ⟨by (with_reducible repeat (first | apply Kd.R_alloc | apply Kd.R_drewN | apply Kd.R_drew)); exact Kd.R_mono (Kd.R_far (p := ⟨gb446, 5, none⟩) (Kd.R_far (p := ⟨gb446, 4, none⟩) (Kd.R_far (p := ⟨gb446, 3, none⟩) (Kd.R_far (p := ⟨gb446, 2, none⟩) (Kd.R_far (p := ⟨gb446, 1, none⟩) (Kd.R_far (p := ⟨gb446, 0, none⟩) (Kd.R_types HO445.out BK446.out (by decide)) (fun _ hk => hk.2) (.int .i64 t437)) (fun _ hk => hk.2) (.int .i64 (wrap64 (((rd_T70 l1 x14_1).f0) + ((rd_T70 l1 x14_1).f1))))) (fun _ hk => hk.2) (.slice Ao26 t439.length co26)) (fun _ hk => hk.2) (.int .i64 t442)) (fun _ hk => hk.2) (.int .i64 (wrap64 ((wrap64 (((rd_T70 l1 x14_1).f0) + x6_1)) + (((rd_T70 l1 x14_1).f2).length : Int))))) (fun _ hk => hk.2) (.slice Ao25 t443.length co25)) (fun _ hk => hk.1)⟩
          have n3_ : Aside0 (((((((w24.setCell ⟨gb446, 0, none⟩ (.int .i64 t437)).setCell ⟨gb446, 1, none⟩ (.int .i64 (wrap64 (((rd_T70 l1 x14_1).f0) + ((rd_T70 l1 x14_1).f1))))).setCell ⟨gb446, 2, none⟩ (.slice Ao26 t439.length co26)).setCell ⟨gb446, 3, none⟩ (.int .i64 t442)).setCell ⟨gb446, 4, none⟩ (.int .i64 (wrap64 ((wrap64 (((rd_T70 l1 x14_1).f0) + x6_1)) + (((rd_T70 l1 x14_1).f2).length : Int))))).setCell ⟨gb446, 5, none⟩ (.slice Ao25 t443.length co25)).heap[gb436]? = some (.cells #[.int .i64 ((rd_T70 l1 x14_1).f0), .int .i64 ((rd_T70 l1 x14_1).f1), .slice A435_2 ((rd_T70 l1 x14_1).f2).length c435_2] 70 (0, 0))) := ⟨by (with_reducible repeat (first | refine blk_drewN ?_ _ | refine blk_drew ?_ | refine blk_alloc ?_ _)); refine blk_far ?_ NB436_446.out _; (with_reducible repeat (first | refine blk_drewN ?_ _ | refine blk_drew ?_ | refine blk_alloc ?_ _)); refine blk_far ?_ NB436_446.out _; (with_reducible repeat (first | refine blk_drewN ?_ _ | refine blk_drew ?_ | refine blk_alloc ?_ _)); refine blk_far ?_ NB436_446.out _; (with_reducible repeat (first | refine blk_drewN ?_ _ | refine blk_drew ?_ | refine blk_alloc ?_ _)); refine blk_far ?_ NB436_446.out _; (with_reducible repeat (first | refine blk_drewN ?_ _ | refine blk_drew ?_ | refine blk_alloc ?_ _)); refine blk_far ?_ NB436_446.out _; (with_reducible repeat (first | refine blk_drewN ?_ _ | refine blk_drew ?_ | refine blk_alloc ?_ _)); refine blk_far ?_ NB436_446.out _; (with_reducible repeat (first | refine blk_drewN ?_ _ | refine blk_drew ?_ | refine blk_alloc ?_ _)); exact BK436.out⟩
          have n4_ : Aside0 (((((((w24.setCell ⟨gb446, 0, none⟩ (.int .i64 t437)).setCell ⟨gb446, 1, none⟩ (.int .i64 (wrap64 (((rd_T70 l1 x14_1).f0) + ((rd_T70 l1 x14_1).f1))))).setCell ⟨gb446, 2, none⟩ (.slice Ao26 t439.length co26)).setCell ⟨gb446, 3, none⟩ (.int .i64 t442)).setCell ⟨gb446, 4, none⟩ (.int .i64 (wrap64 ((wrap64 (((rd_T70 l1 x14_1).f0) + x6_1)) + (((rd_T70 l1 x14_1).f2).length : Int))))).setCell ⟨gb446, 5, none⟩ (.slice Ao25 t443.length co25)).heap[gb446]? = some (.cells #[.int .i64 t437, .int .i64 (wrap64 (((rd_T70 l1 x14_1).f0) + ((rd_T70 l1 x14_1).f1))), .slice Ao26 t439.length co26, .int .i64 t442, .int .i64 (wrap64 ((wrap64 (((rd_T70 l1 x14_1).f0) + x6_1)) + (((rd_T70 l1 x14_1).f2).length : Int))), .slice Ao25 t443.length co25] 56 (0, 0))) := ⟨by (with_reducible repeat (first | refine blk_drewN ?_ _ | refine blk_drew ?_ | refine blk_alloc ?_ _)); refine blk_put (cs := #[.int .i64 t437, .int .i64 (wrap64 (((rd_T70 l1 x14_1).f0) + ((rd_T70 l1 x14_1).f1))), .slice Ao26 t439.length co26, .int .i64 t442, .int .i64 (wrap64 ((wrap64 (((rd_T70 l1 x14_1).f0) + x6_1)) + (((rd_T70 l1 x14_1).f2).length : Int))), .slice none 0 0]) ?_ 5 _ rfl; (with_reducible repeat (first | refine blk_drewN ?_ _ | refine blk_drew ?_ | refine blk_alloc ?_ _)); refine blk_put (cs := #[.int .i64 t437, .int .i64 (wrap64 (((rd_T70 l1 x14_1).f0) + ((rd_T70 l1 x14_1).f1))), .slice Ao26 t439.length co26, .int .i64 t442, .int .i64 0, .slice none 0 0]) ?_ 4 _ rfl; (with_reducible repeat (first | refine blk_drewN ?_ _ | refine blk_drew ?_ | refine blk_alloc ?_ _)); refine blk_put (cs := #[.int .i64 t437, .int .i64 (wrap64 (((rd_T70 l1 x14_1).f0) + ((rd_T70 l1 x14_1).f1))), .slice Ao26 t439.length co26, .int .i64 0, .int .i64 0, .slice none 0 0]) ?_ 3 _ rfl; (with_reducible repeat (first | refine blk_drewN ?_ _ | refine blk_drew ?_ | refine blk_alloc ?_ _)); refine blk_put (cs := #[.int .i64 t437, .int .i64 (wrap64 (((rd_T70 l1 x14_1).f0) + ((rd_T70 l1 x14_1).f1))), .slice none 0 0, .int .i64 0, .int .i64 0, .slice none 0 0]) ?_ 2 _ rfl; (with_reducible repeat (first | refine blk_drewN ?_ _ | refine blk_drew ?_ | refine blk_alloc ?_ _)); refine blk_put (cs := #[.int .i64 t437, .int .i64 0, .slice none 0 0, .int .i64 0, .int .i64 0, .slice none 0 0]) ?_ 1 _ rfl; (with_reducible repeat (first | refine blk_drewN ?_ _ | refine blk_drew ?_ | refine blk_alloc ?_ _)); refine blk_put (cs := #[.int .i64 0, .int .i64 0, .slice none 0 0, .int .i64 0, .int .i64 0, .slice none 0 0]) ?_ 0 _ rfl; (with_reducible repeat (first | refine blk_drewN ?_ _ | refine blk_drew ?_ | refine blk_alloc ?_ _)); exact BK446.out⟩
          have n5_ : Aside0 (Below w.heap.size w ((((((w24.setCell ⟨gb446, 0, none⟩ (.int .i64 t437)).setCell ⟨gb446, 1, none⟩ (.int .i64 (wrap64 (((rd_T70 l1 x14_1).f0) + ((rd_T70 l1 x14_1).f1))))).setCell ⟨gb446, 2, none⟩ (.slice Ao26 t439.length co26)).setCell ⟨gb446, 3, none⟩ (.int .i64 t442)).setCell ⟨gb446, 4, none⟩ (.int .i64 (wrap64 ((wrap64 (((rd_T70 l1 x14_1).f0) + x6_1)) + (((rd_T70 l1 x14_1).f2).length : Int))))).setCell ⟨gb446, 5, none⟩ (.slice Ao25 t443.length co25))) := ⟨by repeat (first | (with_reducible first | exact HB.out | apply below_alloc | apply pw_below_drewN | apply below_drew1 | refine below_set ?_ GE436.out | refine below_set ?_ GE446.out) | exact HB.out)⟩
          (try clear HO_5)
          (try clear HO441)
          (try clear HO445)
          (try clear BK436)
          (try clear BK446)
          (try clear HB)
          (try simp only [show ∀ (w_ : World) (n_ : Nat) (p_ : Addr) (v_ : Value), (w_.drewN n_).setCell p_ v_ = (w_.setCell p_ v_).drewN n_ from fun _ _ _ _ => rfl])
          generalize ((((((w24.setCell ⟨gb446, 0, none⟩ (.int .i64 t437)).setCell ⟨gb446, 1, none⟩ (.int .i64 (wrap64 (((rd_T70 l1 x14_1).f0) + ((rd_T70 l1 x14_1).f1))))).setCell ⟨gb446, 2, none⟩ (.slice Ao26 t439.length co26)).setCell ⟨gb446, 3, none⟩ (.int .i64 t442)).setCell ⟨gb446, 4, none⟩ (.int .i64 (wrap64 ((wrap64 (((rd_T70 l1 x14_1).f0) + x6_1)) + (((rd_T70 l1 x14_1).f2).length : Int))))).setCell ⟨gb446, 5, none⟩ (.slice Ao25 t443.length co25)) = w33 at n0_ n1_ n2_ n3_ n4_ n5_ ⊢
          have HO_5 := n0_
          have HO441 := n1_
          have HO445 := n2_
          have BK436 := n3_
          have BK446 := n4_
          have HB := n5_
          clear n0_ n1_ n2_ n3_ n4_ n5_
          have hnb34 := NB446_436.out
          have hnc34 := NB436_446.out
          have hcz35_0 : w33.cell? ⟨gb446, 0, none⟩ = some (.int .i64 t437) := (blk_cell BK446.out 0).trans rfl
          have hcz35_1 : w33.cell? ⟨gb446, 1, none⟩ = some (.int .i64 (wrap64 (((rd_T70 l1 x14_1).f0) + ((rd_T70 l1 x14_1).f1)))) := (blk_cell BK446.out 1).trans rfl
          have hcz35_2 : w33.cell? ⟨gb446, 2, none⟩ = some (.slice Ao26 t439.length co26) := (blk_cell BK446.out 2).trans rfl
          have hcz35_3 : w33.cell? ⟨gb446, 3, none⟩ = some (.int .i64 t442) := (blk_cell BK446.out 3).trans rfl
          have hcz35_4 : w33.cell? ⟨gb446, 4, none⟩ = some (.int .i64 (wrap64 ((wrap64 (((rd_T70 l1 x14_1).f0) + x6_1)) + (((rd_T70 l1 x14_1).f2).length : Int)))) := (blk_cell BK446.out 4).trans rfl
          have hcz35_5 : w33.cell? ⟨gb446, 5, none⟩ = some (.slice Ao25 t443.length co25) := (blk_cell BK446.out 5).trans rfl
          have hfz35_0 := blk_frozen BK446.out 0
          have hfz35_1 := blk_frozen BK446.out 1
          have hfz35_2 := blk_frozen BK446.out 2
          have hfz35_3 := blk_frozen BK446.out 3
          have hfz35_4 := blk_frozen BK446.out 4
          have hfz35_5 := blk_frozen BK446.out 5
          try go_wp2_with (first | ((with_reducible refine gateB (b := .append) (xs := #[.tmp 55, .tmp 57]) rfl ?_); at_builtin; refine Kd.S_append k56 (w0 := w) w.heap.size rfl (.tmp 55) (.tmp 57) 31 56 (.agg #[(.int .i64 0), (.int .i64 0), (.slice none 0 0), (.int .i64 0), (.int .i64 0), (.slice none 0 0)]) 80 rfl Tryd.underlying31 info56 rfl (by decide) (by omega) u5 x5_1 (⟨t437, wrap64 (((rd_T70 l1 x14_1).f0) + ((rd_T70 l1 x14_1).f1)), t439, t442, wrap64 ((wrap64 (((rd_T70 l1 x14_1).f0) + x6_1)) + (((rd_T70 l1 x14_1).f2).length : Int)), t443⟩ : S56) [.int .i64 t437, .int .i64 (wrap64 (((rd_T70 l1 x14_1).f0) + ((rd_T70 l1 x14_1).f1))), .slice Ao26 t439.length co26, .int .i64 t442, .int .i64 (wrap64 ((wrap64 (((rd_T70 l1 x14_1).f0) + x6_1)) + (((rd_T70 l1 x14_1).f2).length : Int))), .slice Ao25 t443.length co25] (fun k_ => k_ ≠ gb446) (fun k_ => some k_ = (.slice Ao26 t439.length co26 : Value).ownBlock ∨ some k_ = (.slice Ao25 t443.length co25 : Value).ownBlock) rfl rfl ?aP (fun k_ hk_ => hk_.elim (fun h_ => ((Kd.R_mono (ok' := fun k_ => ((fun k_ => k_ ≠ gb446)) k_ ∧ some k_ ≠ (u5 : Value).ownBlock) (Kd.R_types (Kd.R_apart' (HO441.out) (Kd.S_typed HO_5.out) (by decide)) BK446.out (by decide)) (fun k_ hk => ⟨hk.2, hk.1.2⟩))).1 k_ h_.symm) (fun h_ => ((Kd.R_mono (ok' := fun k_ => ((fun k_ => k_ ≠ gb446)) k_ ∧ some k_ ≠ (u5 : Value).ownBlock) (Kd.R_types (Kd.R_apart' (HO445.out) (Kd.S_typed HO_5.out) (by decide)) BK446.out (by decide)) (fun k_ hk => ⟨hk.2, hk.1.2⟩))).1 k_ h_.symm)) ?aF ?aO ?aB ?aS ?aL ?_; (case aP => exact k56_mkM (by with_reducible first | exact sep_nil | exact sep_e (by assumption) | exact sep_f (by assumption) | exact sep_a (by assumption) | exact sep_b (by assumption) | exact sep_a2 (by assumption) | exact sep_b2 (by assumption) | exact sep_c (by assumption) | exact sep_d (by assumption)) _ _ _ (⟨t437, wrap64 (((rd_T70 l1 x14_1).f0) + ((rd_T70 l1 x14_1).f1)), t439, t442, wrap64 ((wrap64 (((rd_T70 l1 x14_1).f0) + x6_1)) + (((rd_T70 l1 x14_1).f2).length : Int)), t443⟩ : S56) (Kd.R_mono (Kd.R_tight rfl (Kd.R_mono (ok' := fun k_ => ((fun k_ => k_ ≠ gb446)) k_ ∧ some k_ ≠ (u5 : Value).ownBlock) (Kd.R_types (Kd.R_apart' (HO441.out) (Kd.S_typed HO_5.out) (by decide)) BK446.out (by decide)) (fun k_ hk => ⟨hk.2, hk.1.2⟩))) (fun _ h_ => Or.inl h_)) (Kd.R_mono (Kd.R_tight rfl (Kd.R_mono (ok' := fun k_ => ((fun k_ => k_ ≠ gb446)) k_ ∧ some k_ ≠ (u5 : Value).ownBlock) (Kd.R_types (Kd.R_apart' (HO445.out) (Kd.S_typed HO_5.out) (by decide)) BK446.out (by decide)) (fun k_ hk => ⟨hk.2, hk.1.2⟩))) (fun _ h_ => Or.inr (h_)))); (case aB => exact (by repeat (first | (with_reducible first | exact HB.out | apply below_alloc | apply pw_below_drewN | apply below_drew1 | refine below_set ?_ GE436.out | refine below_set ?_ GE446.out) | exact HB.out))); (case aF => exact (fun k_ hk => Kd.freshB (g := gb446) (o := .cells #[.int .i64 t437, .int .i64 (wrap64 (((rd_T70 l1 x14_1).f0) + ((rd_T70 l1 x14_1).f1))), .slice Ao26 t439.length co26, .int .i64 t442, .int .i64 (wrap64 ((wrap64 (((rd_T70 l1 x14_1).f0) + x6_1)) + (((rd_T70 l1 x14_1).f2).length : Int))), .slice Ao25 t443.length co25] 56 (0, 0)) (zk BK446.out) k_ hk)); (case aO => exact (by (with_reducible repeat (first | apply Kd.S_alloc | apply Kd.S_drewN | apply Kd.S_drew)); exact Kd.S_mono HO_5.out (fun k_ hk => ⟨hk.2.2, fun e_ => e_.elim (fun h_ => hk.1 h_) (fun h_ => hk.2.1 h_)⟩))); (case aS => exact (below_size (by repeat (first | (with_reducible first | exact HB.out | apply below_alloc | apply pw_below_drewN | apply below_drew1 | refine below_set ?_ GE436.out | refine below_set ?_ GE446.out) | exact HB.out)))); (case aL => have := LMc13.out; omega); intro v448 w36 ho hb hg hat; rw [← Ny447.out] at ho; have n0_ := Aside0.mk (blk_grown (g := gb436) (o := .cells #[.int .i64 ((rd_T70 l1 x14_1).f0), .int .i64 ((rd_T70 l1 x14_1).f1), .slice A435_2 ((rd_T70 l1 x14_1).f2).length c435_2] 70 (0, 0)) (zk BK436.out) hg (Kd.S_ne HO_5.out BK436.out (by decide))); have n1_ := Aside0.mk (blk_grown (g := gb446) (o := .cells #[.int .i64 t437, .int .i64 (wrap64 (((rd_T70 l1 x14_1).f0) + ((rd_T70 l1 x14_1).f1))), .slice Ao26 t439.length co26, .int .i64 t442, .int .i64 (wrap64 ((wrap64 (((rd_T70 l1 x14_1).f0) + x6_1)) + (((rd_T70 l1 x14_1).f2).length : Int))), .slice Ao25 t443.length co25] 56 (0, 0)) (zk BK446.out) hg (Kd.S_away HO_5.out (fun _ hk => hk.2.2))); have n2_ := Aside0.mk (hb); have n3_ := Aside0.mk (ho); clear BK436; clear BK446; clear HB; clear HO_5; clear HO441; clear HO445; have BK436 := n0_; have BK446 := n1_; have HB := n2_; have HO449 := n3_; clear n0_ n1_ n2_ n3_; clear ho hb hg hat; have hcz37_0 : w36.cell? ⟨gb436, 0, none⟩ = some (.int .i64 ((rd_T70 l1 x14_1).f0)) := (blk_cell BK436.out 0).trans rfl; have hcz37_1 : w36.cell? ⟨gb436, 1, none⟩ = some (.int .i64 ((rd_T70 l1 x14_1).f1)) := (blk_cell BK436.out 1).trans rfl; have hcz37_2 : w36.cell? ⟨gb436, 2, none⟩ = some (.slice A435_2 ((rd_T70 l1 x14_1).f2).length c435_2) := (blk_cell BK436.out 2).trans rfl; have hfz37_0 := blk_frozen BK436.out 0; have hfz37_1 := blk_frozen BK436.out 1; have hfz37_2 := blk_frozen BK436.out 2))
          go_roundg k1
          case measure => have := HK1.out; omega
          case rel => exact ⟨(y447), (wrap64 (x6_1 + (wrap64 ((((rd_T70 l1 x14_1).f2).length : Int) - ((rd_T70 l1 x14_1).f1))))), (wrap64 (x14_1 + 1)), zf, zf, H', ⟨by have := HK1.out; omega⟩, ⟨by (with_reducible repeat (first | apply Kd.S_alloc | apply Kd.S_drewN | apply Kd.S_drew)); exact Kd.S_mono HO449.out (fun _ hk => trivial)⟩, ⟨by repeat (first | (with_reducible first | exact HB.out | apply below_alloc | apply pw_below_drewN | apply below_drew1 | refine below_set ?_ GE436.out | refine below_set ?_ GE446.out) | exact HB.out)⟩⟩
         ·rw [if_neg c13] at H
          exact absurd H (by simp)
        ·rw [if_neg c9] at H
         exact absurd H (by simp)
       ·rw [if_neg c8] at H
        exact absurd H (by simp)
      ·rw [if_neg c7] at H
       exact absurd H (by simp)
     ·rw [if_neg c5] at H
      exact absurd H (by simp)
    ·rw [if_neg c4] at H
     exact absurd H (by simp)
   ·rw [if_neg c3] at H
    have c3b0 : decide (x14_1 < (l1.length : Int)) = false := decide_eq_false c3
    clear c3
    obtain rfl := Option.some.inj H
    go_wp2
    go_ret
    exact ⟨_, by first | rfl | (simp [errW_none, errW_some] <;> rfl) | (simp [*, errW_none, errW_some] <;> rfl), by (with_reducible repeat (first | apply Kd.S_alloc | apply Kd.S_drewN | apply Kd.S_drew)); exact HO_5.out, by repeat (first | (with_reducible first | exact HB.out | apply below_alloc | apply pw_below_drewN | apply below_drew1) | exact HB.out)⟩

end Go.Proofs.YtfmbpldjbmhnnaaDoor.My

/- Written by this session's program (wip/gen): a plain function with the same answers as the Go function, and the proof that the Go code comes to them. Asked: that the plain function has an answer. -/
namespace Go.Proofs.YtfmbpldjbmhnnaaDoor.My
open Go.RowKit Go.Proofs.YtfmbpldjbmhnnaaDoorW.PrintWords Go.Proofs.YtfmbpldjbmhnnaaDoorW.PrintLast
set_option linter.unusedVariables false
set_option linter.unusedSimpArgs false

/-! ### spec_NormalSteps: function 57 -/
def spec_NormalSteps.f (k : Nat) (l0 : List ByteArray) (l1 : List (S70)) : Option ((List (S56)) × Bool) := (spec_Patch.f k l0 l1).bind fun bt450 => (if bt450.2 = true then ((spec_l5Steps.f k l0 l1).bind fun t454 => (some (t454, true))) else (some (([] : List (S56)), false)))
set_option maxHeartbeats 8000000 in
set_option maxRecDepth 100000 in
theorem spec_NormalSteps.calls (k : Nat) (A0 : Option Addr) (c0 : Nat) (l0 : List ByteArray) (A1 : Option Addr) (c1 : Nat) (l1 : List (S70)) (r1 : List (S56)) (r2 : Bool) (w : World) (hr0 : Kd.C Kd.string w A0 l0.length l0) (hc0 : l0.length ≤ c0) (hr1 : Kd.C k70 w A1 l1.length l1) (hc1 : l1.length ≤ c1) (h : spec_NormalSteps.f k l0 l1 = some (r1, r2)) :
  Calls Tryd.prog 57 #[.slice A0 l0.length c0, .slice A1 l1.length c1] w fun e w' => ∃ v0_ : Value, e = .returned (.tuple #[v0_, .bool r2]) ∧ Kd.S k56 56 w' w.heap.size (fun _ => True) v0_ r1 ∧ Below w.heap.size w w' := by
 have HR0 := Aside0.mk hr0
 have HC0 := Aside0.mk hc0
 clear hr0 hc0
 have HR1 := Aside0.mk hr1
 have HC1 := Aside0.mk hc1
 clear hr1 hc1
 have HB := Aside0.mk (Below.refl w.heap.size w)
 have H : ((spec_Patch.f k l0 l1).bind fun bt450 => (if bt450.2 = true then ((spec_l5Steps.f k l0 l1).bind fun t454 => (some (t454, true))) else (some (([] : List (S56)), false)))) = some (r1, r2) := h
 clear h
 replace H := Option.bind_eq_some_iff.mp H
 obtain ⟨⟨t450, t451⟩, A30, H⟩ := H
 replace H : (if t451 = true then ((spec_l5Steps.f k l0 l1).bind fun t454 => (some (t454, true))) else (some (([] : List (S56)), false))) = some (r1, r2) := H
 have A3 := Aside0.mk A30
 clear A30
 by_cases c4 : t451 = true
 ·subst c4
  have H1 : ((spec_l5Steps.f k l0 l1).bind fun t454 => (some (t454, true))) = some (r1, r2) := by rw [if_pos rfl] at H; exact H
  clear H
  have H := H1
  clear H1
  replace H := Option.bind_eq_some_iff.mp H
  obtain ⟨t454, A50, H⟩ := H
  replace H : (some (t454, true)) = some (r1, r2) := H
  have A5 := Aside0.mk A50
  clear A50
  simp only [Option.some.injEq, Prod.mk.injEq] at H
  obtain ⟨rfl, rfl⟩ := H
  go_enter Tryd.func57, Tryd.ntmps57
  go_wp2_with (first | ((with_reducible refine gateC (f := 75) rfl ?_); refine goesL_ (some 11) rfl rfl Tryd.func75 (by kernel_rfl) rfl #[.slice A0 l0.length c0, .slice A1 l1.length c1] rfl zm ?_; (with_reducible refine (spec_Patch.calls k _ _ l0 _ _ l1 t450 true _ ?side1 ?side2 ?side3 ?side4 A3.out).mono ?_); (case side1 => exact zq HR0.out); (case side2 => exact HC0.out); (case side3 => exact zq HR1.out); (case side4 => exact HC1.out); rintro e w6 ⟨v452, rfl, ho0, hb⟩; refine ⟨_, rfl, ?_⟩; have n0_ := Aside0.mk (Kd.R_lower ho0 (below_size zb)); have n1_ := Aside0.mk (below_step zb hb); clear HB; have HO453 := n0_; have HB := n1_; clear n0_ n1_; (try clear hb); (try clear hb2); (try clear hk); (try clear hi); (try clear ho0)) | ((with_reducible refine gateC (f := 76) rfl ?_); refine goesL_ (some 18) rfl rfl Tryd.func76 (by kernel_rfl) rfl #[.slice A0 l0.length c0, .slice A1 l1.length c1] rfl zm ?_; (with_reducible refine (spec_l5Steps.calls k _ _ l0 _ _ l1 t454 _ ?side1 ?side2 ?side3 ?side4 A5.out).mono ?_); (case side1 => exact zq (Kd.C_below HR0.out HB.out)); (case side2 => exact HC0.out); (case side3 => exact zq (Kd.C_below HR1.out HB.out)); (case side4 => exact HC1.out); rintro e w7 ⟨v455, rfl, ho0, hb⟩; refine ⟨_, rfl, ?_⟩; have n0_ := Aside0.mk (Kd.R_below (zr HO453.out) hb); have n1_ := Aside0.mk (Kd.S_lower (Kd.S_new' ho0 (Kd.R_lt (zr HO453.out))) (below_size zb)); have n2_ := Aside0.mk (below_step zb hb); clear HO453; clear HB; have HO453 := n0_; have HO456 := n1_; have HB := n2_; clear n0_ n1_ n2_; (try clear hb); (try clear hb2); (try clear hk); (try clear hi); (try clear ho0)))
  go_ret2
  exact ⟨_, by first | rfl | (simp [errW_none, errW_some] <;> rfl) | (simp [*, errW_none, errW_some] <;> rfl), by (with_reducible repeat (first | apply Kd.S_alloc | apply Kd.S_drewN | apply Kd.S_drew)); exact Kd.S_mono HO456.out (fun _ hk => trivial), by repeat (first | (with_reducible first | exact HB.out | apply below_alloc | apply pw_below_drewN | apply below_drew1) | exact HB.out)⟩
 ·replace c4 := Bool.eq_false_iff.mpr c4
  subst c4
  have H1 : (some (([] : List (S56)), false)) = some (r1, r2) := by rw [if_neg (show ¬ (false = true) by decide)] at H; exact H
  clear H
  have H := H1
  clear H1
  simp only [Option.some.injEq, Prod.mk.injEq] at H
  obtain ⟨rfl, rfl⟩ := H
  go_enter Tryd.func57, Tryd.ntmps57
  go_wp2_with (first | ((with_reducible refine gateC (f := 75) rfl ?_); refine goesL_ (some 11) rfl rfl Tryd.func75 (by kernel_rfl) rfl #[.slice A0 l0.length c0, .slice A1 l1.length c1] rfl zm ?_; (with_reducible refine (spec_Patch.calls k _ _ l0 _ _ l1 t450 false _ ?side1 ?side2 ?side3 ?side4 A3.out).mono ?_); (case side1 => exact zq HR0.out); (case side2 => exact HC0.out); (case side3 => exact zq HR1.out); (case side4 => exact HC1.out); rintro e w8 ⟨v452, rfl, ho0, hb⟩; refine ⟨_, rfl, ?_⟩; have n0_ := Aside0.mk (Kd.R_lower ho0 (below_size zb)); have n1_ := Aside0.mk (below_step zb hb); clear HB; have HO453 := n0_; have HB := n1_; clear n0_ n1_; (try clear hb); (try clear hb2); (try clear hk); (try clear hi); (try clear ho0)))
  go_ret2
  exact ⟨_, by first | rfl | (simp [errW_none, errW_some] <;> rfl) | (simp [*, errW_none, errW_some] <;> rfl), by first | exact Kd.S_nil _ _ _ _ _ | exact Kd.Q_nil _ _ _ _ _ | exact Kd.R_nil _ _ _ _ _, by repeat (first | (with_reducible first | exact HB.out | apply below_alloc | apply pw_below_drewN | apply below_drew1) | exact HB.out)⟩

end Go.Proofs.YtfmbpldjbmhnnaaDoor.My

/- Written by this session's program (wip/gen): a plain function with the same answers as the Go function, and the proof that the Go code comes to them. Asked: that the plain function has an answer. -/
namespace Go.Proofs.YtfmbpldjbmhnnaaDoor.My
open Go.RowKit Go.Proofs.YtfmbpldjbmhnnaaDoorW.PrintWords Go.Proofs.YtfmbpldjbmhnnaaDoorW.PrintLast
set_option linter.unusedVariables false
set_option linter.unusedSimpArgs false

/-! ### spec_l5Lines: function 101 -/
def spec_l5Lines.l0 : Nat → List ByteArray → List ByteArray → Int → Int → Option (Bool)
 | 0, _, _, _, _ => none
 | k + 1, x0, x5, x6, x7 => if x7 < x6 then (if 0 ≤ x7 then (if x7 < (x5.length : Int) then ((spec_l1Line.f k (rdOf ByteArray.empty x5 x7)).bind fun t281 => (if t281 = true then (if x7 < (wrap64 ((x0.length : Int) - 1)) then ((spec_l1Ends.f (rdOf ByteArray.empty x5 x7)).bind fun t282 => (if t282 = true then (spec_l5Lines.l0 k x0 x5 x6 (wrap64 (x7 + 1))) else (some false))) else (spec_l5Lines.l0 k x0 x5 x6 (wrap64 (x7 + 1)))) else (some false))) else (none)) else (none)) else (some (decide ((x0.length : Int) ≤ 40)))
def spec_l5Lines.f (k : Nat) (l0 : List ByteArray) : Option (Bool) := spec_l5Lines.l0 k l0 l0 (l0.length : Int) 0
set_option maxHeartbeats 8000000 in
set_option maxRecDepth 100000 in
theorem spec_l5Lines.calls (k : Nat) (A0 : Option Addr) (c0 : Nat) (l0 : List ByteArray) (r : Bool) (w : World) (hr0 : Kd.C Kd.string w A0 l0.length l0) (hc0 : l0.length ≤ c0) (h : spec_l5Lines.f k l0 = some r) :
  Calls Tryd.prog 101 #[.slice A0 l0.length c0] w fun e w' => e = .returned (.bool r) ∧ Drawn0 w w' := by
 have HR0 := Aside0.mk hr0
 have HC0 := Aside0.mk hc0
 clear hr0 hc0
 have H : (spec_l5Lines.l0 k l0 l0 (l0.length : Int) 0) = some r := h
 clear h
 have H' := Aside0.mk H
 clear H
 go_enter Tryd.func101, Tryd.ntmps101
 go_wp2
 go_loopg [7] k (fun kq v7 w' => ∃ (x7_1 : Int), v7 = .int .i64 x7_1 ∧ Aside0 (spec_l5Lines.l0 kq l0 l0 (l0.length : Int) x7_1 = some r) ∧ Aside0 (kq ≤ k) ∧ Drawn0 w w')
 case atStart => exact ⟨(0), zf, H', ⟨Nat.le_refl _⟩, by repeat (first | exact Drawn0.refl _ | apply Drawn0.step)⟩
 case round =>
  clear H'
  try clear c1
  obtain ⟨x7_1, rfl, HA, HK1, ⟨m1, rfl⟩⟩ := hrel
  cases gk with
  | zero => exact absurd HA.out (by simp [spec_l5Lines.l0])
  | succ k1 =>
   have H := HA.out
   clear HA
   simp only [spec_l5Lines.l0] at H
   by_cases c2 : x7_1 < (l0.length : Int)
   ·rw [if_pos c2] at H
    have c2b0 : decide (x7_1 < (l0.length : Int)) = true := decide_eq_true c2
    clear c2
    by_cases c3 : 0 ≤ x7_1
    ·rw [if_pos c3] at H
     have c3b0 : decide (0 ≤ x7_1) = true := decide_eq_true c3
     clear c3
     by_cases c4 : x7_1 < (l0.length : Int)
     ·rw [if_pos c4] at H
      have c4b0 : decide (x7_1 < (l0.length : Int)) = true := decide_eq_true c4
      clear c4
      replace H := Option.bind_eq_some_iff.mp H
      obtain ⟨t281, A50, H⟩ := H
      replace H : (if t281 = true then (if x7_1 < (wrap64 ((l0.length : Int) - 1)) then ((spec_l1Ends.f (rdOf ByteArray.empty l0 x7_1)).bind fun t282 => (if t282 = true then (spec_l5Lines.l0 k1 l0 l0 (l0.length : Int) (wrap64 (x7_1 + 1))) else (some false))) else (spec_l5Lines.l0 k1 l0 l0 (l0.length : Int) (wrap64 (x7_1 + 1)))) else (some false)) = some r := H
      have A5 := Aside0.mk A50
      clear A50
      by_cases c6 : t281 = true
      ·subst c6
       have H1 : (if x7_1 < (wrap64 ((l0.length : Int) - 1)) then ((spec_l1Ends.f (rdOf ByteArray.empty l0 x7_1)).bind fun t282 => (if t282 = true then (spec_l5Lines.l0 k1 l0 l0 (l0.length : Int) (wrap64 (x7_1 + 1))) else (some false))) else (spec_l5Lines.l0 k1 l0 l0 (l0.length : Int) (wrap64 (x7_1 + 1)))) = some r := by rw [if_pos rfl] at H; exact H
       clear H
       have H := H1
       clear H1
       by_cases c7 : x7_1 < (wrap64 ((l0.length : Int) - 1))
       ·rw [if_pos c7] at H
        have c7b0 : decide (x7_1 < (wrap64 ((l0.length : Int) - 1))) = true := decide_eq_true c7
        clear c7
        replace H := Option.bind_eq_some_iff.mp H
        obtain ⟨t282, A80, H⟩ := H
        replace H : (if t282 = true then (spec_l5Lines.l0 k1 l0 l0 (l0.length : Int) (wrap64 (x7_1 + 1))) else (some false)) = some r := H
        have A8 := Aside0.mk A80
        clear A80
        by_cases c9 : t282 = true
        ·subst c9
         have H1 : (spec_l5Lines.l0 k1 l0 l0 (l0.length : Int) (wrap64 (x7_1 + 1))) = some r := by rw [if_pos rfl] at H; exact H
         clear H
         have H := H1
         clear H1
         have H' := Aside0.mk H
         clear H
         have p280 : 0 ≤ (x7_1 : Int) := oa
         have q280 : x7_1 < (l0.length : Int) := oa
         obtain ⟨ad280, e280, hx280_0⟩ := Kd.at_string HR0.out x7_1 p280 q280
         cases e280
         replace p280 := eq_true p280
         replace q280 := eq_true q280
         go_wp2_with (first | ((with_reducible refine gateC (f := 106) rfl ?_); refine goesL_ (some 13) rfl rfl Tryd.func106 (by kernel_rfl) rfl #[.string (rdOf ByteArray.empty l0 x7_1)] rfl zm ?_; (with_reducible refine (spec_l1Line.calls k1 (rdOf ByteArray.empty l0 x7_1) true _ A5.out).mono ?_); rintro e w' ⟨rfl, ⟨nd, rfl⟩⟩; refine ⟨_, rfl, ?_⟩) | (go_at_call 83; (with_reducible refine (spec_l1Ends.calls (rdOf ByteArray.empty l0 x7_1) true _ A8.out).mono ?_); rintro e w' ⟨rfl, ⟨nd, rfl⟩⟩))
         go_roundg k1
         case measure => have := HK1.out; omega
         case rel => exact ⟨(wrap64 (x7_1 + 1)), zf, H', ⟨by have := HK1.out; omega⟩, by repeat (first | exact Drawn0.refl _ | apply Drawn0.step)⟩
        ·replace c9 := Bool.eq_false_iff.mpr c9
         subst c9
         have H1 : (some false) = some r := by rw [if_neg (show ¬ (false = true) by decide)] at H; exact H
         clear H
         have H := H1
         clear H1
         obtain rfl := Option.some.inj H
         have p280 : 0 ≤ (x7_1 : Int) := oa
         have q280 : x7_1 < (l0.length : Int) := oa
         obtain ⟨ad280, e280, hx280_0⟩ := Kd.at_string HR0.out x7_1 p280 q280
         cases e280
         replace p280 := eq_true p280
         replace q280 := eq_true q280
         go_wp2_with (first | ((with_reducible refine gateC (f := 106) rfl ?_); refine goesL_ (some 13) rfl rfl Tryd.func106 (by kernel_rfl) rfl #[.string (rdOf ByteArray.empty l0 x7_1)] rfl zm ?_; (with_reducible refine (spec_l1Line.calls k1 (rdOf ByteArray.empty l0 x7_1) true _ A5.out).mono ?_); rintro e w' ⟨rfl, ⟨nd, rfl⟩⟩; refine ⟨_, rfl, ?_⟩) | (go_at_call 83; (with_reducible refine (spec_l1Ends.calls (rdOf ByteArray.empty l0 x7_1) false _ A8.out).mono ?_); rintro e w' ⟨rfl, ⟨nd, rfl⟩⟩))
         go_ret
         exact ⟨by first | rfl | (simp; done) | (simp [*]; done), by repeat (first | exact Drawn0.refl _ | apply Drawn0.step)⟩
       ·rw [if_neg c7] at H
        have c7b0 : decide (x7_1 < (wrap64 ((l0.length : Int) - 1))) = false := decide_eq_false c7
        clear c7
        have H' := Aside0.mk H
        clear H
        have p280 : 0 ≤ (x7_1 : Int) := oa
        have q280 : x7_1 < (l0.length : Int) := oa
        obtain ⟨ad280, e280, hx280_0⟩ := Kd.at_string HR0.out x7_1 p280 q280
        cases e280
        replace p280 := eq_true p280
        replace q280 := eq_true q280
        go_wp2_with (first | ((with_reducible refine gateC (f := 106) rfl ?_); refine goesL_ (some 13) rfl rfl Tryd.func106 (by kernel_rfl) rfl #[.string (rdOf ByteArray.empty l0 x7_1)] rfl zm ?_; (with_reducible refine (spec_l1Line.calls k1 (rdOf ByteArray.empty l0 x7_1) true _ A5.out).mono ?_); rintro e w' ⟨rfl, ⟨nd, rfl⟩⟩; refine ⟨_, rfl, ?_⟩))
        go_roundg k1
        case measure => have := HK1.out; omega
        case rel => exact ⟨(wrap64 (x7_1 + 1)), zf, H', ⟨by have := HK1.out; omega⟩, by repeat (first | exact Drawn0.refl _ | apply Drawn0.step)⟩
      ·replace c6 := Bool.eq_false_iff.mpr c6
       subst c6
       have H1 : (some false) = some r := by rw [if_neg (show ¬ (false = true) by decide)] at H; exact H
       clear H
       have H := H1
       clear H1
       obtain rfl := Option.some.inj H
       have p280 : 0 ≤ (x7_1 : Int) := oa
       have q280 : x7_1 < (l0.length : Int) := oa
       obtain ⟨ad280, e280, hx280_0⟩ := Kd.at_string HR0.out x7_1 p280 q280
       cases e280
       replace p280 := eq_true p280
       replace q280 := eq_true q280
       go_wp2_with (first | ((with_reducible refine gateC (f := 106) rfl ?_); refine goesL_ (some 13) rfl rfl Tryd.func106 (by kernel_rfl) rfl #[.string (rdOf ByteArray.empty l0 x7_1)] rfl zm ?_; (with_reducible refine (spec_l1Line.calls k1 (rdOf ByteArray.empty l0 x7_1) false _ A5.out).mono ?_); rintro e w' ⟨rfl, ⟨nd, rfl⟩⟩; refine ⟨_, rfl, ?_⟩))
       go_ret
       exact ⟨by first | rfl | (simp; done) | (simp [*]; done), by repeat (first | exact Drawn0.refl _ | apply Drawn0.step)⟩
     ·rw [if_neg c4] at H
      exact absurd H (by simp)
    ·rw [if_neg c3] at H
     exact absurd H (by simp)
   ·rw [if_neg c2] at H
    have c2b0 : decide (x7_1 < (l0.length : Int)) = false := decide_eq_false c2
    clear c2
    obtain rfl := Option.some.inj H
    go_wp2
    go_ret
    exact ⟨by first | rfl | (simp; done) | (simp [*]; done), by repeat (first | exact Drawn0.refl _ | apply Drawn0.step)⟩

end Go.Proofs.YtfmbpldjbmhnnaaDoor.My

/- Written by this session's program (wip/gen): a plain function with the same answers as the Go function, and the proof that the Go code comes to them. Asked: that the plain function has an answer. -/
namespace Go.Proofs.YtfmbpldjbmhnnaaDoor.My
open Go.RowKit Go.Proofs.YtfmbpldjbmhnnaaDoorW.PrintWords Go.Proofs.YtfmbpldjbmhnnaaDoorW.PrintLast
set_option linter.unusedVariables false
set_option linter.unusedSimpArgs false

/-! ### spec_l5Side: function 82 -/
def spec_l5Side.j0 : Nat → Int → Int → List ByteArray → Bool → Option (Bool)
 | 0, _, _, _, _ => none
 | k + 1, x0, x1, x2, x19 => if x19 = true then (some false) else (if (x2.length : Int) = 0 then (some (x1 == x0)) else (if x0 ≥ 1 then (some ((wrap64 ((wrap64 (x1 - x0)) + 1)) == (x2.length : Int))) else (some false)))
def spec_l5Side.f (k : Nat) (a0 : Int) (a1 : Int) (l2 : List ByteArray) : Option (Bool) := (spec_l1In.f a0 0 1000).bind fun t283 => (if t283 = true then ((spec_l1In.f a1 0 1000).bind fun t284 => (if t284 = true then ((spec_l5Lines.f k l2).bind fun t285 => (spec_l5Side.j0 k a0 a1 l2 (!t285))) else (spec_l5Side.j0 k a0 a1 l2 true))) else (spec_l5Side.j0 k a0 a1 l2 true))
set_option maxHeartbeats 8000000 in
set_option maxRecDepth 100000 in
theorem spec_l5Side.calls (k : Nat) (a0 : Int) (a1 : Int) (A2 : Option Addr) (c2 : Nat) (l2 : List ByteArray) (r : Bool) (w : World) (hr2 : Kd.C Kd.string w A2 l2.length l2) (hc2 : l2.length ≤ c2) (h : spec_l5Side.f k a0 a1 l2 = some r) :
  Calls Tryd.prog 82 #[.int .i64 a0, .int .i64 a1, .slice A2 l2.length c2] w fun e w' => e = .returned (.bool r) ∧ Drawn0 w w' := by
 have HR2 := Aside0.mk hr2
 have HC2 := Aside0.mk hc2
 clear hr2 hc2
 have H : ((spec_l1In.f a0 0 1000).bind fun t283 => (if t283 = true then ((spec_l1In.f a1 0 1000).bind fun t284 => (if t284 = true then ((spec_l5Lines.f k l2).bind fun t285 => (spec_l5Side.j0 k a0 a1 l2 (!t285))) else (spec_l5Side.j0 k a0 a1 l2 true))) else (spec_l5Side.j0 k a0 a1 l2 true))) = some r := h
 clear h
 have HC4 := Aside0.mk H
 clear H
 go_enter Tryd.func82, Tryd.ntmps82
 go_upto_region 1 with (fail)
 go_cut [19] (fun v19 wc => ∃ (kq : Nat) (x19_3 : Bool), v19 = .bool x19_3 ∧ Aside0 (spec_l5Side.j0 kq a0 a1 l2 x19_3 = some r) ∧ Aside0 (kq ≤ k) ∧ Drawn0 w wc)
 case first =>
  have H := HC4.out
  clear HC4
  replace H := Option.bind_eq_some_iff.mp H
  obtain ⟨t283, A50, H⟩ := H
  replace H : (if t283 = true then ((spec_l1In.f a1 0 1000).bind fun t284 => (if t284 = true then ((spec_l5Lines.f k l2).bind fun t285 => (spec_l5Side.j0 k a0 a1 l2 (!t285))) else (spec_l5Side.j0 k a0 a1 l2 true))) else (spec_l5Side.j0 k a0 a1 l2 true)) = some r := H
  have A5 := Aside0.mk A50
  clear A50
  by_cases c6 : t283 = true
  ·subst c6
   have H1 : ((spec_l1In.f a1 0 1000).bind fun t284 => (if t284 = true then ((spec_l5Lines.f k l2).bind fun t285 => (spec_l5Side.j0 k a0 a1 l2 (!t285))) else (spec_l5Side.j0 k a0 a1 l2 true))) = some r := by rw [if_pos rfl] at H; exact H
   clear H
   have H := H1
   clear H1
   replace H := Option.bind_eq_some_iff.mp H
   obtain ⟨t284, A70, H⟩ := H
   replace H : (if t284 = true then ((spec_l5Lines.f k l2).bind fun t285 => (spec_l5Side.j0 k a0 a1 l2 (!t285))) else (spec_l5Side.j0 k a0 a1 l2 true)) = some r := H
   have A7 := Aside0.mk A70
   clear A70
   by_cases c8 : t284 = true
   ·subst c8
    have H1 : ((spec_l5Lines.f k l2).bind fun t285 => (spec_l5Side.j0 k a0 a1 l2 (!t285))) = some r := by rw [if_pos rfl] at H; exact H
    clear H
    have H := H1
    clear H1
    replace H := Option.bind_eq_some_iff.mp H
    obtain ⟨t285, A90, H⟩ := H
    replace H : (spec_l5Side.j0 k a0 a1 l2 (!t285)) = some r := H
    have A9 := Aside0.mk A90
    clear A90
    have H' := Aside0.mk H
    clear H
    go_wp2_with (first | ((with_reducible refine gateC (f := 61) rfl ?_); refine goesL_ (some 8) rfl rfl Tryd.func61 (by kernel_rfl) rfl #[.int .i64 a0, .int .i64 0, .int .i64 1000] rfl zm ?_; (with_reducible refine (spec_l1In.calls a0 0 1000 true _ A5.out).mono ?_); rintro e w' ⟨rfl, ⟨nd, rfl⟩⟩; refine ⟨_, rfl, ?_⟩) | (go_at_call 61; (with_reducible refine (spec_l1In.calls a1 0 1000 true _ A7.out).mono ?_); rintro e w' ⟨rfl, ⟨nd, rfl⟩⟩) | (go_at_call 101; (with_reducible refine (spec_l5Lines.calls k _ _ l2 t285 _ ?side1 ?side2 A9.out).mono ?_); (case side1 => exact zq HR2.out); (case side2 => exact HC2.out); rintro e w' ⟨rfl, ⟨nd, rfl⟩⟩))
    go_meet
    case rel => exact ⟨_, (!t285), zf, H', ⟨by first | omega | exact Nat.le_refl _⟩, by repeat (first | exact Drawn0.refl _ | apply Drawn0.step)⟩
   ·replace c8 := Bool.eq_false_iff.mpr c8
    subst c8
    have H1 : (spec_l5Side.j0 k a0 a1 l2 true) = some r := by rw [if_neg (show ¬ (false = true) by decide)] at H; exact H
    clear H
    have H := H1
    clear H1
    have H' := Aside0.mk H
    clear H
    go_wp2_with (first | ((with_reducible refine gateC (f := 61) rfl ?_); refine goesL_ (some 8) rfl rfl Tryd.func61 (by kernel_rfl) rfl #[.int .i64 a0, .int .i64 0, .int .i64 1000] rfl zm ?_; (with_reducible refine (spec_l1In.calls a0 0 1000 true _ A5.out).mono ?_); rintro e w' ⟨rfl, ⟨nd, rfl⟩⟩; refine ⟨_, rfl, ?_⟩) | (go_at_call 61; (with_reducible refine (spec_l1In.calls a1 0 1000 false _ A7.out).mono ?_); rintro e w' ⟨rfl, ⟨nd, rfl⟩⟩))
    go_meet
    case rel => exact ⟨_, (true), zf, H', ⟨by first | omega | exact Nat.le_refl _⟩, by repeat (first | exact Drawn0.refl _ | apply Drawn0.step)⟩
  ·replace c6 := Bool.eq_false_iff.mpr c6
   subst c6
   have H1 : (spec_l5Side.j0 k a0 a1 l2 true) = some r := by rw [if_neg (show ¬ (false = true) by decide)] at H; exact H
   clear H
   have H := H1
   clear H1
   have H' := Aside0.mk H
   clear H
   go_wp2_with (first | ((with_reducible refine gateC (f := 61) rfl ?_); refine goesL_ (some 8) rfl rfl Tryd.func61 (by kernel_rfl) rfl #[.int .i64 a0, .int .i64 0, .int .i64 1000] rfl zm ?_; (with_reducible refine (spec_l1In.calls a0 0 1000 false _ A5.out).mono ?_); rintro e w' ⟨rfl, ⟨nd, rfl⟩⟩; refine ⟨_, rfl, ?_⟩))
   go_meet
   case rel => exact ⟨_, (true), zf, H', ⟨by first | omega | exact Nat.le_refl _⟩, by repeat (first | exact Drawn0.refl _ | apply Drawn0.step)⟩
 case rest =>
  clear HC4
  try clear c2
  try clear p2
  try clear c6
  try clear c8
  obtain ⟨kq, x19_3, rfl, HA, HJ3, ⟨mc3, rfl⟩⟩ := hcut
  cases kq with
  | zero => exact absurd HA.out (by simp [spec_l5Side.j0])
  | succ kj3 =>
   have H := HA.out
   clear HA
   simp only [spec_l5Side.j0] at H
   by_cases c10 : x19_3 = true
   ·subst c10
    have H1 : (some false) = some r := by rw [if_pos rfl] at H; exact H
    clear H
    have H := H1
    clear H1
    obtain rfl := Option.some.inj H
    go_wp2
    go_ret
    exact ⟨by first | rfl | (simp; done) | (simp [*]; done), by repeat (first | exact Drawn0.refl _ | apply Drawn0.step)⟩
   ·replace c10 := Bool.eq_false_iff.mpr c10
    subst c10
    have H1 : (if (l2.length : Int) = 0 then (some (a1 == a0)) else (if a0 ≥ 1 then (some ((wrap64 ((wrap64 (a1 - a0)) + 1)) == (l2.length : Int))) else (some false))) = some r := by rw [if_neg (show ¬ (false = true) by decide)] at H; exact H
    clear H
    have H := H1
    clear H1
    by_cases c11 : (l2.length : Int) = 0
    ·rw [if_pos c11] at H
     have c11b0 : ((l2.length : Int) == 0) = true := beq_iff_eq.mpr c11
     have c11b1 : ((l2.length : Int) != 0) = false := bne_eq_false_iff_eq.mpr c11
     clear c11
     obtain rfl := Option.some.inj H
     go_wp2
     go_ret
     exact ⟨by first | rfl | (simp; done) | (simp [*]; done), by repeat (first | exact Drawn0.refl _ | apply Drawn0.step)⟩
    ·rw [if_neg c11] at H
     have c11b0 : ((l2.length : Int) == 0) = false := beq_eq_false_iff_ne.mpr c11
     have c11b1 : ((l2.length : Int) != 0) = true := bne_iff_ne.mpr c11
     have c11b2 : ¬ (l2 = []) := fun h_ => c11 (by rw [h_]; rfl)
     by_cases c12 : a0 ≥ 1
     ·rw [if_pos c12] at H
      have c12b0 : decide (1 ≤ a0) = true := decide_eq_true c12
      clear c12
      obtain rfl := Option.some.inj H
      go_wp2
      go_ret
      exact ⟨by first | rfl | (simp; done) | (simp [*]; done), by repeat (first | exact Drawn0.refl _ | apply Drawn0.step)⟩
     ·rw [if_neg c12] at H
      have c12b0 : decide (1 ≤ a0) = false := decide_eq_false c12
      clear c12
      obtain rfl := Option.some.inj H
      go_wp2
      go_ret
      exact ⟨by first | rfl | (simp; done) | (simp [*]; done), by repeat (first | exact Drawn0.refl _ | apply Drawn0.step)⟩

end Go.Proofs.YtfmbpldjbmhnnaaDoor.My

/- Written by this session's program (wip/gen): a plain function with the same answers as the Go function, and the proof that the Go code comes to them. Asked: that the plain function has an answer. -/
namespace Go.Proofs.YtfmbpldjbmhnnaaDoor.My
open Go.RowKit Go.Proofs.YtfmbpldjbmhnnaaDoorW.PrintWords Go.Proofs.YtfmbpldjbmhnnaaDoorW.PrintLast
set_option linter.unusedVariables false
set_option linter.unusedSimpArgs false

/-! ### spec_l5Step: function 67 -/
def spec_l5Step.f (k : Nat) (a0_0 : Int) (a0_1 : Int) (l0_2 : List ByteArray) (a0_3 : Int) (a0_4 : Int) (l0_5 : List ByteArray) : Option (Bool) := (spec_l5Side.f k a0_0 a0_1 l0_2).bind fun t287 => (if t287 = true then ((spec_l5Side.f k a0_3 a0_4 l0_5).bind fun t288 => (if t288 = true then (some (decide ((wrap64 ((l0_2.length : Int) + (l0_5.length : Int))) > 0))) else (some false))) else (some false))
set_option maxHeartbeats 8000000 in
set_option maxRecDepth 100000 in
theorem spec_l5Step.calls (k : Nat) (a0_0 : Int) (a0_1 : Int) (A0_2 : Option Addr) (c0_2 : Nat) (l0_2 : List ByteArray) (a0_3 : Int) (a0_4 : Int) (A0_5 : Option Addr) (c0_5 : Nat) (l0_5 : List ByteArray) (r : Bool) (w : World) (hr0_2 : Kd.C Kd.string w A0_2 l0_2.length l0_2) (hc0_2 : l0_2.length ≤ c0_2) (hr0_5 : Kd.C Kd.string w A0_5 l0_5.length l0_5) (hc0_5 : l0_5.length ≤ c0_5) (h : spec_l5Step.f k a0_0 a0_1 l0_2 a0_3 a0_4 l0_5 = some r) :
  Calls Tryd.prog 67 #[.agg #[.int .i64 a0_0, .int .i64 a0_1, .slice A0_2 l0_2.length c0_2, .int .i64 a0_3, .int .i64 a0_4, .slice A0_5 l0_5.length c0_5]] w fun e w' => e = .returned (.bool r) ∧ Below w.heap.size w w' := by
 have hu56 := Tryd.underlying56
 have HR0_2 := Aside0.mk hr0_2
 have HC0_2 := Aside0.mk hc0_2
 clear hr0_2 hc0_2
 have HR0_5 := Aside0.mk hr0_5
 have HC0_5 := Aside0.mk hc0_5
 clear hr0_5 hc0_5
 have HB := Aside0.mk (Below.refl w.heap.size w)
 have H : ((spec_l5Side.f k a0_0 a0_1 l0_2).bind fun t287 => (if t287 = true then ((spec_l5Side.f k a0_3 a0_4 l0_5).bind fun t288 => (if t288 = true then (some (decide ((wrap64 ((l0_2.length : Int) + (l0_5.length : Int))) > 0))) else (some false))) else (some false))) = some r := h
 clear h
 replace H := Option.bind_eq_some_iff.mp H
 obtain ⟨t287, A20, H⟩ := H
 replace H : (if t287 = true then ((spec_l5Side.f k a0_3 a0_4 l0_5).bind fun t288 => (if t288 = true then (some (decide ((wrap64 ((l0_2.length : Int) + (l0_5.length : Int))) > 0))) else (some false))) else (some false)) = some r := H
 have A2 := Aside0.mk A20
 clear A20
 by_cases c3 : t287 = true
 ·subst c3
  have H1 : ((spec_l5Side.f k a0_3 a0_4 l0_5).bind fun t288 => (if t288 = true then (some (decide ((wrap64 ((l0_2.length : Int) + (l0_5.length : Int))) > 0))) else (some false))) = some r := by rw [if_pos rfl] at H; exact H
  clear H
  have H := H1
  clear H1
  replace H := Option.bind_eq_some_iff.mp H
  obtain ⟨t288, A40, H⟩ := H
  replace H : (if t288 = true then (some (decide ((wrap64 ((l0_2.length : Int) + (l0_5.length : Int))) > 0))) else (some false)) = some r := H
  have A4 := Aside0.mk A40
  clear A40
  by_cases c5 : t288 = true
  ·subst c5
   have H1 : (some (decide ((wrap64 ((l0_2.length : Int) + (l0_5.length : Int))) > 0))) = some r := by rw [if_pos rfl] at H; exact H
   clear H
   have H := H1
   clear H1
   obtain rfl := Option.some.inj H
   go_enter Tryd.func67, Tryd.ntmps67
   go_wp2_with (first | ((with_reducible refine gate_dst (N := 1) rfl ?_); (try (refine gate_guard (by rfl) ?_; dsimp only)); refine box_event ?hg (N := 1) ?hd (cs := #[.int .i64 a0_0, .int .i64 a0_1, .slice A0_2 l0_2.length c0_2, .int .i64 a0_3, .int .i64 a0_4, .slice A0_5 l0_5.length c0_5]) (t := 56) ?hr ?_; (case hd => rfl); (case hg => rfl); (case hr => first | (go_simp; done) | (go_simp; rfl)); intro gb286 hg w6 hbox hb; have n0_ := Aside0.mk (below_step zb hb); have n1_ := Aside0.mk (hbox); have n2_ := Aside0.mk ((by rw [hg]; exact (below_size zb) : w.heap.size ≤ gb286)); have n3_ := Aside0.mk ((by rw [hg]; exact (below_size zb) : w.heap.size ≤ gb286)); clear HB; have HB := n0_; have BK286 := n1_; have GW286 := n2_; have GE286 := n3_; clear n0_ n1_ n2_ n3_; clear hb hbox hg; have hcz7_0 : w6.cell? ⟨gb286, 0, none⟩ = some (.int .i64 a0_0) := (blk_cell BK286.out 0).trans rfl; have hcz7_1 : w6.cell? ⟨gb286, 1, none⟩ = some (.int .i64 a0_1) := (blk_cell BK286.out 1).trans rfl; have hcz7_2 : w6.cell? ⟨gb286, 2, none⟩ = some (.slice A0_2 l0_2.length c0_2) := (blk_cell BK286.out 2).trans rfl; have hcz7_3 : w6.cell? ⟨gb286, 3, none⟩ = some (.int .i64 a0_3) := (blk_cell BK286.out 3).trans rfl; have hcz7_4 : w6.cell? ⟨gb286, 4, none⟩ = some (.int .i64 a0_4) := (blk_cell BK286.out 4).trans rfl; have hcz7_5 : w6.cell? ⟨gb286, 5, none⟩ = some (.slice A0_5 l0_5.length c0_5) := (blk_cell BK286.out 5).trans rfl; have hfz7_0 := blk_frozen BK286.out 0; have hfz7_1 := blk_frozen BK286.out 1; have hfz7_2 := blk_frozen BK286.out 2; have hfz7_3 := blk_frozen BK286.out 3; have hfz7_4 := blk_frozen BK286.out 4; have hfz7_5 := blk_frozen BK286.out 5) | ((with_reducible refine gateC (f := 82) rfl ?_); refine goesL_ (some 9) rfl rfl Tryd.func82 (by kernel_rfl) rfl #[.int .i64 a0_0, .int .i64 a0_1, .slice A0_2 l0_2.length c0_2] rfl zm ?_; (with_reducible refine (spec_l5Side.calls k a0_0 a0_1 _ _ l0_2 true _ ?side1 ?side2 A2.out).mono ?_); (case side1 => exact zq (Kd.C_below HR0_2.out HB.out)); (case side2 => exact HC0_2.out); rintro e w' ⟨rfl, ⟨nd, rfl⟩⟩; refine ⟨_, rfl, ?_⟩) | (go_at_call 82; (with_reducible refine (spec_l5Side.calls k a0_3 a0_4 _ _ l0_5 true _ ?side1 ?side2 A4.out).mono ?_); (case side1 => repeat (first | exact (Kd.C_below HR0_5.out (by repeat (first | (with_reducible first | exact HB.out | apply below_alloc | apply pw_below_drewN | apply below_drew1 | refine below_set ?_ GE286.out) | exact HB.out))) | (with_reducible refine Kd.C_alloc ?_ _) | (with_reducible refine Kd.C_drewN ?_ _) | (with_reducible refine Kd.C_drew ?_))); (case side2 => exact HC0_5.out); rintro e w' ⟨rfl, ⟨nd, rfl⟩⟩))
   go_ret
   exact ⟨by first | rfl | (simp [errW_none, errW_some] <;> rfl) | (simp [*, errW_none, errW_some] <;> rfl), by repeat (first | (with_reducible first | exact HB.out | apply below_alloc | apply pw_below_drewN | apply below_drew1 | refine below_set ?_ GE286.out) | exact HB.out)⟩
  ·replace c5 := Bool.eq_false_iff.mpr c5
   subst c5
   have H1 : (some false) = some r := by rw [if_neg (show ¬ (false = true) by decide)] at H; exact H
   clear H
   have H := H1
   clear H1
   obtain rfl := Option.some.inj H
   go_enter Tryd.func67, Tryd.ntmps67
   go_wp2_with (first | ((with_reducible refine gate_dst (N := 1) rfl ?_); (try (refine gate_guard (by rfl) ?_; dsimp only)); refine box_event ?hg (N := 1) ?hd (cs := #[.int .i64 a0_0, .int .i64 a0_1, .slice A0_2 l0_2.length c0_2, .int .i64 a0_3, .int .i64 a0_4, .slice A0_5 l0_5.length c0_5]) (t := 56) ?hr ?_; (case hd => rfl); (case hg => rfl); (case hr => first | (go_simp; done) | (go_simp; rfl)); intro gb286 hg w8 hbox hb; have n0_ := Aside0.mk (below_step zb hb); have n1_ := Aside0.mk (hbox); have n2_ := Aside0.mk ((by rw [hg]; exact (below_size zb) : w.heap.size ≤ gb286)); have n3_ := Aside0.mk ((by rw [hg]; exact (below_size zb) : w.heap.size ≤ gb286)); clear HB; have HB := n0_; have BK286 := n1_; have GW286 := n2_; have GE286 := n3_; clear n0_ n1_ n2_ n3_; clear hb hbox hg; have hcz9_0 : w8.cell? ⟨gb286, 0, none⟩ = some (.int .i64 a0_0) := (blk_cell BK286.out 0).trans rfl; have hcz9_1 : w8.cell? ⟨gb286, 1, none⟩ = some (.int .i64 a0_1) := (blk_cell BK286.out 1).trans rfl; have hcz9_2 : w8.cell? ⟨gb286, 2, none⟩ = some (.slice A0_2 l0_2.length c0_2) := (blk_cell BK286.out 2).trans rfl; have hcz9_3 : w8.cell? ⟨gb286, 3, none⟩ = some (.int .i64 a0_3) := (blk_cell BK286.out 3).trans rfl; have hcz9_4 : w8.cell? ⟨gb286, 4, none⟩ = some (.int .i64 a0_4) := (blk_cell BK286.out 4).trans rfl; have hcz9_5 : w8.cell? ⟨gb286, 5, none⟩ = some (.slice A0_5 l0_5.length c0_5) := (blk_cell BK286.out 5).trans rfl; have hfz9_0 := blk_frozen BK286.out 0; have hfz9_1 := blk_frozen BK286.out 1; have hfz9_2 := blk_frozen BK286.out 2; have hfz9_3 := blk_frozen BK286.out 3; have hfz9_4 := blk_frozen BK286.out 4; have hfz9_5 := blk_frozen BK286.out 5) | ((with_reducible refine gateC (f := 82) rfl ?_); refine goesL_ (some 9) rfl rfl Tryd.func82 (by kernel_rfl) rfl #[.int .i64 a0_0, .int .i64 a0_1, .slice A0_2 l0_2.length c0_2] rfl zm ?_; (with_reducible refine (spec_l5Side.calls k a0_0 a0_1 _ _ l0_2 true _ ?side1 ?side2 A2.out).mono ?_); (case side1 => exact zq (Kd.C_below HR0_2.out HB.out)); (case side2 => exact HC0_2.out); rintro e w' ⟨rfl, ⟨nd, rfl⟩⟩; refine ⟨_, rfl, ?_⟩) | (go_at_call 82; (with_reducible refine (spec_l5Side.calls k a0_3 a0_4 _ _ l0_5 false _ ?side1 ?side2 A4.out).mono ?_); (case side1 => repeat (first | exact (Kd.C_below HR0_5.out (by repeat (first | (with_reducible first | exact HB.out | apply below_alloc | apply pw_below_drewN | apply below_drew1 | refine below_set ?_ GE286.out) | exact HB.out))) | (with_reducible refine Kd.C_alloc ?_ _) | (with_reducible refine Kd.C_drewN ?_ _) | (with_reducible refine Kd.C_drew ?_))); (case side2 => exact HC0_5.out); rintro e w' ⟨rfl, ⟨nd, rfl⟩⟩))
   go_ret
   exact ⟨by first | rfl | (simp [errW_none, errW_some] <;> rfl) | (simp [*, errW_none, errW_some] <;> rfl), by repeat (first | (with_reducible first | exact HB.out | apply below_alloc | apply pw_below_drewN | apply below_drew1 | refine below_set ?_ GE286.out) | exact HB.out)⟩
 ·replace c3 := Bool.eq_false_iff.mpr c3
  subst c3
  have H1 : (some false) = some r := by rw [if_neg (show ¬ (false = true) by decide)] at H; exact H
  clear H
  have H := H1
  clear H1
  obtain rfl := Option.some.inj H
  go_enter Tryd.func67, Tryd.ntmps67
  go_wp2_with (first | ((with_reducible refine gate_dst (N := 1) rfl ?_); (try (refine gate_guard (by rfl) ?_; dsimp only)); refine box_event ?hg (N := 1) ?hd (cs := #[.int .i64 a0_0, .int .i64 a0_1, .slice A0_2 l0_2.length c0_2, .int .i64 a0_3, .int .i64 a0_4, .slice A0_5 l0_5.length c0_5]) (t := 56) ?hr ?_; (case hd => rfl); (case hg => rfl); (case hr => first | (go_simp; done) | (go_simp; rfl)); intro gb286 hg w10 hbox hb; have n0_ := Aside0.mk (below_step zb hb); have n1_ := Aside0.mk (hbox); have n2_ := Aside0.mk ((by rw [hg]; exact (below_size zb) : w.heap.size ≤ gb286)); have n3_ := Aside0.mk ((by rw [hg]; exact (below_size zb) : w.heap.size ≤ gb286)); clear HB; have HB := n0_; have BK286 := n1_; have GW286 := n2_; have GE286 := n3_; clear n0_ n1_ n2_ n3_; clear hb hbox hg; have hcz11_0 : w10.cell? ⟨gb286, 0, none⟩ = some (.int .i64 a0_0) := (blk_cell BK286.out 0).trans rfl; have hcz11_1 : w10.cell? ⟨gb286, 1, none⟩ = some (.int .i64 a0_1) := (blk_cell BK286.out 1).trans rfl; have hcz11_2 : w10.cell? ⟨gb286, 2, none⟩ = some (.slice A0_2 l0_2.length c0_2) := (blk_cell BK286.out 2).trans rfl; have hcz11_3 : w10.cell? ⟨gb286, 3, none⟩ = some (.int .i64 a0_3) := (blk_cell BK286.out 3).trans rfl; have hcz11_4 : w10.cell? ⟨gb286, 4, none⟩ = some (.int .i64 a0_4) := (blk_cell BK286.out 4).trans rfl; have hcz11_5 : w10.cell? ⟨gb286, 5, none⟩ = some (.slice A0_5 l0_5.length c0_5) := (blk_cell BK286.out 5).trans rfl; have hfz11_0 := blk_frozen BK286.out 0; have hfz11_1 := blk_frozen BK286.out 1; have hfz11_2 := blk_frozen BK286.out 2; have hfz11_3 := blk_frozen BK286.out 3; have hfz11_4 := blk_frozen BK286.out 4; have hfz11_5 := blk_frozen BK286.out 5) | ((with_reducible refine gateC (f := 82) rfl ?_); refine goesL_ (some 9) rfl rfl Tryd.func82 (by kernel_rfl) rfl #[.int .i64 a0_0, .int .i64 a0_1, .slice A0_2 l0_2.length c0_2] rfl zm ?_; (with_reducible refine (spec_l5Side.calls k a0_0 a0_1 _ _ l0_2 false _ ?side1 ?side2 A2.out).mono ?_); (case side1 => exact zq (Kd.C_below HR0_2.out HB.out)); (case side2 => exact HC0_2.out); rintro e w' ⟨rfl, ⟨nd, rfl⟩⟩; refine ⟨_, rfl, ?_⟩))
  go_ret
  exact ⟨by first | rfl | (simp [errW_none, errW_some] <;> rfl) | (simp [*, errW_none, errW_some] <;> rfl), by repeat (first | (with_reducible first | exact HB.out | apply below_alloc | apply pw_below_drewN | apply below_drew1 | refine below_set ?_ GE286.out) | exact HB.out)⟩

end Go.Proofs.YtfmbpldjbmhnnaaDoor.My

/- Written by this session's program (wip/gen): a plain function with the same answers as the Go function, and the proof that the Go code comes to them. Asked: that the plain function has an answer. -/
namespace Go.Proofs.YtfmbpldjbmhnnaaDoor.My
open Go.RowKit Go.Proofs.YtfmbpldjbmhnnaaDoorW.PrintWords Go.Proofs.YtfmbpldjbmhnnaaDoorW.PrintLast
set_option linter.unusedVariables false
set_option linter.unusedSimpArgs false

/-! ### spec_GoodSteps: function 45 -/
def spec_GoodSteps.l0 : Nat → List (S56) → List (S56) → Int → Int → Option (Bool)
 | 0, _, _, _, _ => none
 | k + 1, x0, x5, x6, x7 => if x7 < x6 then (if 0 ≤ x7 then (if x7 < (x5.length : Int) then ((spec_l5Step.f k ((rd_T56 x5 x7).f0) ((rd_T56 x5 x7).f1) ((rd_T56 x5 x7).f2) ((rd_T56 x5 x7).f3) ((rd_T56 x5 x7).f4) ((rd_T56 x5 x7).f5)).bind fun t291 => (if t291 = true then (spec_GoodSteps.l0 k x0 x5 x6 (wrap64 (x7 + 1))) else (some false))) else (none)) else (none)) else (some (decide ((x0.length : Int) ≤ 20)))
def spec_GoodSteps.f (k : Nat) (l0 : List (S56)) : Option (Bool) := spec_GoodSteps.l0 k l0 l0 (l0.length : Int) 0
set_option maxHeartbeats 8000000 in
set_option maxRecDepth 100000 in
theorem spec_GoodSteps.calls (k : Nat) (A0 : Option Addr) (c0 : Nat) (l0 : List (S56)) (r : Bool) (w : World) (hr0 : Kd.C k56 w A0 l0.length l0) (hc0 : l0.length ≤ c0) (h : spec_GoodSteps.f k l0 = some r) :
  Calls Tryd.prog 45 #[.slice A0 l0.length c0] w fun e w' => e = .returned (.bool r) ∧ Below w.heap.size w w' := by
 have hu56 := Tryd.underlying56
 have HR0 := Aside0.mk hr0
 have HC0 := Aside0.mk hc0
 clear hr0 hc0
 have HB := Aside0.mk (Below.refl w.heap.size w)
 have H : (spec_GoodSteps.l0 k l0 l0 (l0.length : Int) 0) = some r := h
 clear h
 have H' := Aside0.mk H
 clear H
 go_enter Tryd.func45, Tryd.ntmps45
 go_wp2
 go_loopg [7] k (fun kq v7 w' => ∃ (x7_1 : Int), v7 = .int .i64 x7_1 ∧ Aside0 (spec_GoodSteps.l0 kq l0 l0 (l0.length : Int) x7_1 = some r) ∧ Aside0 (kq ≤ k) ∧ Aside0 (Below w.heap.size w w'))
 case atStart => exact ⟨(0), zf, H', ⟨Nat.le_refl _⟩, ⟨by repeat (first | (with_reducible first | exact HB.out | apply below_alloc | apply pw_below_drewN | apply below_drew1) | exact HB.out)⟩⟩
 case round =>
  clear H'
  obtain ⟨x7_1, rfl, HA, HK1, HB⟩ := hrel
  cases gk with
  | zero => exact absurd HA.out (by simp [spec_GoodSteps.l0])
  | succ k1 =>
   have H := HA.out
   clear HA
   simp only [spec_GoodSteps.l0] at H
   by_cases c2 : x7_1 < (l0.length : Int)
   ·rw [if_pos c2] at H
    have c2b0 : decide (x7_1 < (l0.length : Int)) = true := decide_eq_true c2
    clear c2
    by_cases c3 : 0 ≤ x7_1
    ·rw [if_pos c3] at H
     have c3b0 : decide (0 ≤ x7_1) = true := decide_eq_true c3
     clear c3
     by_cases c4 : x7_1 < (l0.length : Int)
     ·rw [if_pos c4] at H
      have c4b0 : decide (x7_1 < (l0.length : Int)) = true := decide_eq_true c4
      clear c4
      replace H := Option.bind_eq_some_iff.mp H
      obtain ⟨t291, A50, H⟩ := H
      replace H : (if t291 = true then (spec_GoodSteps.l0 k1 l0 l0 (l0.length : Int) (wrap64 (x7_1 + 1))) else (some false)) = some r := H
      have A5 := Aside0.mk A50
      clear A50
      by_cases c6 : t291 = true
      ·subst c6
       have H1 : (spec_GoodSteps.l0 k1 l0 l0 (l0.length : Int) (wrap64 (x7_1 + 1))) = some r := by rw [if_pos rfl] at H; exact H
       clear H
       have H := H1
       clear H1
       have H' := Aside0.mk H
       clear H
       have p289 : 0 ≤ (x7_1 : Int) := oa
       have q289 : x7_1 < (l0.length : Int) := oa
       obtain ⟨ad289, A289_2, c289_2, A289_5, c289_5, e289, hx289_0, hx289_1, hx289_2, hx289_3, hx289_4, hx289_5, hl289_2, hi289_2, hl289_5, hi289_5⟩ := at_T56 HR0.out x7_1 p289 q289
       cases e289
       replace hx289_0 := (HB.out.cell (World.block_lt_of_cell? w _ hx289_0)).trans hx289_0
       replace hx289_1 := (HB.out.cell (World.block_lt_of_cell? w _ hx289_1)).trans hx289_1
       replace hx289_2 := (HB.out.cell (World.block_lt_of_cell? w _ hx289_2)).trans hx289_2
       replace hx289_3 := (HB.out.cell (World.block_lt_of_cell? w _ hx289_3)).trans hx289_3
       replace hx289_4 := (HB.out.cell (World.block_lt_of_cell? w _ hx289_4)).trans hx289_4
       replace hx289_5 := (HB.out.cell (World.block_lt_of_cell? w _ hx289_5)).trans hx289_5
       have HR289_2 := Aside0.mk hi289_2
       have HC289_2 := Aside0.mk hl289_2
       clear hi289_2 hl289_2
       have HR289_5 := Aside0.mk hi289_5
       have HC289_5 := Aside0.mk hl289_5
       clear hi289_5 hl289_5
       replace p289 := eq_true p289
       replace q289 := eq_true q289
       go_wp2_with (first | ((with_reducible refine gate_dst (N := 4) rfl ?_); refine box_event ?hg (N := 4) ?hd (cs := #[.int .i64 0, .int .i64 0, .slice none 0 0, .int .i64 0, .int .i64 0, .slice none 0 0]) (t := 56) ?hr ?_; (case hd => rfl); (case hg => rfl); (case hr => first | (go_simp; done) | (go_simp; rfl)); intro gb290 hg w7 hbox hb; have n0_ := Aside0.mk (below_step zb hb); have n1_ := Aside0.mk (hbox); have n2_ := Aside0.mk ((by rw [hg]; exact (below_size zb) : w.heap.size ≤ gb290)); have n3_ := Aside0.mk ((by rw [hg]; exact (below_size zb) : w.heap.size ≤ gb290)); clear HB; have HB := n0_; have BK290 := n1_; have GW290 := n2_; have GE290 := n3_; clear n0_ n1_ n2_ n3_; clear hb hbox hg; have hcz8_0 : w7.cell? ⟨gb290, 0, none⟩ = some (.int .i64 0) := (blk_cell BK290.out 0).trans rfl; have hcz8_1 : w7.cell? ⟨gb290, 1, none⟩ = some (.int .i64 0) := (blk_cell BK290.out 1).trans rfl; have hcz8_2 : w7.cell? ⟨gb290, 2, none⟩ = some (.slice none 0 0) := (blk_cell BK290.out 2).trans rfl; have hcz8_3 : w7.cell? ⟨gb290, 3, none⟩ = some (.int .i64 0) := (blk_cell BK290.out 3).trans rfl; have hcz8_4 : w7.cell? ⟨gb290, 4, none⟩ = some (.int .i64 0) := (blk_cell BK290.out 4).trans rfl; have hcz8_5 : w7.cell? ⟨gb290, 5, none⟩ = some (.slice none 0 0) := (blk_cell BK290.out 5).trans rfl; have hfz8_0 := blk_frozen BK290.out 0; have hfz8_1 := blk_frozen BK290.out 1; have hfz8_2 := blk_frozen BK290.out 2; have hfz8_3 := blk_frozen BK290.out 3; have hfz8_4 := blk_frozen BK290.out 4; have hfz8_5 := blk_frozen BK290.out 5) | ((with_reducible refine gateC (f := 67) rfl ?_); refine goesL_ (some 12) rfl rfl Tryd.func67 (by kernel_rfl) rfl #[.agg #[.int .i64 ((rd_T56 l0 x7_1).f0), .int .i64 ((rd_T56 l0 x7_1).f1), .slice A289_2 ((rd_T56 l0 x7_1).f2).length c289_2, .int .i64 ((rd_T56 l0 x7_1).f3), .int .i64 ((rd_T56 l0 x7_1).f4), .slice A289_5 ((rd_T56 l0 x7_1).f5).length c289_5]] rfl zm ?_; (with_reducible refine (spec_l5Step.calls k1 ((rd_T56 l0 x7_1).f0) ((rd_T56 l0 x7_1).f1) _ _ ((rd_T56 l0 x7_1).f2) ((rd_T56 l0 x7_1).f3) ((rd_T56 l0 x7_1).f4) _ _ ((rd_T56 l0 x7_1).f5) true _ ?side1 ?side2 ?side3 ?side4 A5.out).mono ?_); (case side1 => exact Kd.C_below HR289_2.out (by repeat (first | (with_reducible first | exact HB.out | apply below_alloc | apply pw_below_drewN | apply below_drew1 | refine below_set ?_ GE290.out) | exact HB.out))); (case side2 => exact HC289_2.out); (case side3 => exact Kd.C_below HR289_5.out (by repeat (first | (with_reducible first | exact HB.out | apply below_alloc | apply pw_below_drewN | apply below_drew1 | refine below_set ?_ GE290.out) | exact HB.out))); (case side4 => exact HC289_5.out); rintro e w9 ⟨rfl, hb⟩; refine ⟨_, rfl, ?_⟩; have n0_ := Aside0.mk (blk_below (g := gb290) (o := .cells #[.int .i64 ((rd_T56 l0 x7_1).f0), .int .i64 ((rd_T56 l0 x7_1).f1), .slice A289_2 ((rd_T56 l0 x7_1).f2).length c289_2, .int .i64 ((rd_T56 l0 x7_1).f3), .int .i64 ((rd_T56 l0 x7_1).f4), .slice A289_5 ((rd_T56 l0 x7_1).f5).length c289_5] 56 (0, 0)) (by (with_reducible repeat (first | refine blk_drewN ?_ _ | refine blk_drew ?_ | refine blk_alloc ?_ _)); refine blk_put (cs := #[.int .i64 ((rd_T56 l0 x7_1).f0), .int .i64 ((rd_T56 l0 x7_1).f1), .slice A289_2 ((rd_T56 l0 x7_1).f2).length c289_2, .int .i64 ((rd_T56 l0 x7_1).f3), .int .i64 ((rd_T56 l0 x7_1).f4), .slice none 0 0]) ?_ 5 _ rfl; (with_reducible repeat (first | refine blk_drewN ?_ _ | refine blk_drew ?_ | refine blk_alloc ?_ _)); refine blk_put (cs := #[.int .i64 ((rd_T56 l0 x7_1).f0), .int .i64 ((rd_T56 l0 x7_1).f1), .slice A289_2 ((rd_T56 l0 x7_1).f2).length c289_2, .int .i64 ((rd_T56 l0 x7_1).f3), .int .i64 0, .slice none 0 0]) ?_ 4 _ rfl; (with_reducible repeat (first | refine blk_drewN ?_ _ | refine blk_drew ?_ | refine blk_alloc ?_ _)); refine blk_put (cs := #[.int .i64 ((rd_T56 l0 x7_1).f0), .int .i64 ((rd_T56 l0 x7_1).f1), .slice A289_2 ((rd_T56 l0 x7_1).f2).length c289_2, .int .i64 0, .int .i64 0, .slice none 0 0]) ?_ 3 _ rfl; (with_reducible repeat (first | refine blk_drewN ?_ _ | refine blk_drew ?_ | refine blk_alloc ?_ _)); refine blk_put (cs := #[.int .i64 ((rd_T56 l0 x7_1).f0), .int .i64 ((rd_T56 l0 x7_1).f1), .slice none 0 0, .int .i64 0, .int .i64 0, .slice none 0 0]) ?_ 2 _ rfl; (with_reducible repeat (first | refine blk_drewN ?_ _ | refine blk_drew ?_ | refine blk_alloc ?_ _)); refine blk_put (cs := #[.int .i64 ((rd_T56 l0 x7_1).f0), .int .i64 0, .slice none 0 0, .int .i64 0, .int .i64 0, .slice none 0 0]) ?_ 1 _ rfl; (with_reducible repeat (first | refine blk_drewN ?_ _ | refine blk_drew ?_ | refine blk_alloc ?_ _)); refine blk_put (cs := #[.int .i64 0, .int .i64 0, .slice none 0 0, .int .i64 0, .int .i64 0, .slice none 0 0]) ?_ 0 _ rfl; (with_reducible repeat (first | refine blk_drewN ?_ _ | refine blk_drew ?_ | refine blk_alloc ?_ _)); exact BK290.out) hb); have n1_ := Aside0.mk (below_step (by repeat (first | (with_reducible first | exact HB.out | apply below_alloc | apply pw_below_drewN | apply below_drew1 | refine below_set ?_ GE290.out) | exact HB.out)) hb); clear BK290; clear HB; have BK290 := n0_; have HB := n1_; clear n0_ n1_; (try clear hb); (try clear hb2); (try clear hk); (try clear hi)))
       go_roundg k1
       case measure => have := HK1.out; omega
       case rel => exact ⟨(wrap64 (x7_1 + 1)), zf, H', ⟨by have := HK1.out; omega⟩, ⟨by repeat (first | (with_reducible first | exact HB.out | apply below_alloc | apply pw_below_drewN | apply below_drew1 | refine below_set ?_ GE290.out) | exact HB.out)⟩⟩
      ·replace c6 := Bool.eq_false_iff.mpr c6
       subst c6
       have H1 : (some false) = some r := by rw [if_neg (show ¬ (false = true) by decide)] at H; exact H
       clear H
       have H := H1
       clear H1
       obtain rfl := Option.some.inj H
       have p289 : 0 ≤ (x7_1 : Int) := oa
       have q289 : x7_1 < (l0.length : Int) := oa
       obtain ⟨ad289, A289_2, c289_2, A289_5, c289_5, e289, hx289_0, hx289_1, hx289_2, hx289_3, hx289_4, hx289_5, hl289_2, hi289_2, hl289_5, hi289_5⟩ := at_T56 HR0.out x7_1 p289 q289
       cases e289
       replace hx289_0 := (HB.out.cell (World.block_lt_of_cell? w _ hx289_0)).trans hx289_0
       replace hx289_1 := (HB.out.cell (World.block_lt_of_cell? w _ hx289_1)).trans hx289_1
       replace hx289_2 := (HB.out.cell (World.block_lt_of_cell? w _ hx289_2)).trans hx289_2
       replace hx289_3 := (HB.out.cell (World.block_lt_of_cell? w _ hx289_3)).trans hx289_3
       replace hx289_4 := (HB.out.cell (World.block_lt_of_cell? w _ hx289_4)).trans hx289_4
       replace hx289_5 := (HB.out.cell (World.block_lt_of_cell? w _ hx289_5)).trans hx289_5
       have HR289_2 := Aside0.mk hi289_2
       have HC289_2 := Aside0.mk hl289_2
       clear hi289_2 hl289_2
       have HR289_5 := Aside0.mk hi289_5
       have HC289_5 := Aside0.mk hl289_5
       clear hi289_5 hl289_5
       replace p289 := eq_true p289
       replace q289 := eq_true q289
       go_wp2_with (first | ((with_reducible refine gate_dst (N := 4) rfl ?_); refine box_event ?hg (N := 4) ?hd (cs := #[.int .i64 0, .int .i64 0, .slice none 0 0, .int .i64 0, .int .i64 0, .slice none 0 0]) (t := 56) ?hr ?_; (case hd => rfl); (case hg => rfl); (case hr => first | (go_simp; done) | (go_simp; rfl)); intro gb290 hg w10 hbox hb; have n0_ := Aside0.mk (below_step zb hb); have n1_ := Aside0.mk (hbox); have n2_ := Aside0.mk ((by rw [hg]; exact (below_size zb) : w.heap.size ≤ gb290)); have n3_ := Aside0.mk ((by rw [hg]; exact (below_size zb) : w.heap.size ≤ gb290)); clear HB; have HB := n0_; have BK290 := n1_; have GW290 := n2_; have GE290 := n3_; clear n0_ n1_ n2_ n3_; clear hb hbox hg; have hcz11_0 : w10.cell? ⟨gb290, 0, none⟩ = some (.int .i64 0) := (blk_cell BK290.out 0).trans rfl; have hcz11_1 : w10.cell? ⟨gb290, 1, none⟩ = some (.int .i64 0) := (blk_cell BK290.out 1).trans rfl; have hcz11_2 : w10.cell? ⟨gb290, 2, none⟩ = some (.slice none 0 0) := (blk_cell BK290.out 2).trans rfl; have hcz11_3 : w10.cell? ⟨gb290, 3, none⟩ = some (.int .i64 0) := (blk_cell BK290.out 3).trans rfl; have hcz11_4 : w10.cell? ⟨gb290, 4, none⟩ = some (.int .i64 0) := (blk_cell BK290.out 4).trans rfl; have hcz11_5 : w10.cell? ⟨gb290, 5, none⟩ = some (.slice none 0 0) := (blk_cell BK290.out 5).trans rfl; have hfz11_0 := blk_frozen BK290.out 0; have hfz11_1 := blk_frozen BK290.out 1; have hfz11_2 := blk_frozen BK290.out 2; have hfz11_3 := blk_frozen BK290.out 3; have hfz11_4 := blk_frozen BK290.out 4; have hfz11_5 := blk_frozen BK290.out 5) | ((with_reducible refine gateC (f := 67) rfl ?_); refine goesL_ (some 12) rfl rfl Tryd.func67 (by kernel_rfl) rfl #[.agg #[.int .i64 ((rd_T56 l0 x7_1).f0), .int .i64 ((rd_T56 l0 x7_1).f1), .slice A289_2 ((rd_T56 l0 x7_1).f2).length c289_2, .int .i64 ((rd_T56 l0 x7_1).f3), .int .i64 ((rd_T56 l0 x7_1).f4), .slice A289_5 ((rd_T56 l0 x7_1).f5).length c289_5]] rfl zm ?_; (with_reducible refine (spec_l5Step.calls k1 ((rd_T56 l0 x7_1).f0) ((rd_T56 l0 x7_1).f1) _ _ ((rd_T56 l0 x7_1).f2) ((rd_T56 l0 x7_1).f3) ((rd_T56 l0 x7_1).f4) _ _ ((rd_T56 l0 x7_1).f5) false _ ?side1 ?side2 ?side3 ?side4 A5.out).mono ?_); (case side1 => exact Kd.C_below HR289_2.out (by repeat (first | (with_reducible first | exact HB.out | apply below_alloc | apply pw_below_drewN | apply below_drew1 | refine below_set ?_ GE290.out) | exact HB.out))); (case side2 => exact HC289_2.out); (case side3 => exact Kd.C_below HR289_5.out (by repeat (first | (with_reducible first | exact HB.out | apply below_alloc | apply pw_below_drewN | apply below_drew1 | refine below_set ?_ GE290.out) | exact HB.out))); (case side4 => exact HC289_5.out); rintro e w12 ⟨rfl, hb⟩; refine ⟨_, rfl, ?_⟩; have n0_ := Aside0.mk (blk_below (g := gb290) (o := .cells #[.int .i64 ((rd_T56 l0 x7_1).f0), .int .i64 ((rd_T56 l0 x7_1).f1), .slice A289_2 ((rd_T56 l0 x7_1).f2).length c289_2, .int .i64 ((rd_T56 l0 x7_1).f3), .int .i64 ((rd_T56 l0 x7_1).f4), .slice A289_5 ((rd_T56 l0 x7_1).f5).length c289_5] 56 (0, 0)) (by (with_reducible repeat (first | refine blk_drewN ?_ _ | refine blk_drew ?_ | refine blk_alloc ?_ _)); refine blk_put (cs := #[.int .i64 ((rd_T56 l0 x7_1).f0), .int .i64 ((rd_T56 l0 x7_1).f1), .slice A289_2 ((rd_T56 l0 x7_1).f2).length c289_2, .int .i64 ((rd_T56 l0 x7_1).f3), .int .i64 ((rd_T56 l0 x7_1).f4), .slice none 0 0]) ?_ 5 _ rfl; (with_reducible repeat (first | refine blk_drewN ?_ _ | refine blk_drew ?_ | refine blk_alloc ?_ _)); refine blk_put (cs := #[.int .i64 ((rd_T56 l0 x7_1).f0), .int .i64 ((rd_T56 l0 x7_1).f1), .slice A289_2 ((rd_T56 l0 x7_1).f2).length c289_2, .int .i64 ((rd_T56 l0 x7_1).f3), .int .i64 0, .slice none 0 0]) ?_ 4 _ rfl; (with_reducible repeat (first | refine blk_drewN ?_ _ | refine blk_drew ?_ | refine blk_alloc ?_ _)); refine blk_put (cs := #[.int .i64 ((rd_T56 l0 x7_1).f0), .int .i64 ((rd_T56 l0 x7_1).f1), .slice A289_2 ((rd_T56 l0 x7_1).f2).length c289_2, .int .i64 0, .int .i64 0, .slice none 0 0]) ?_ 3 _ rfl; (with_reducible repeat (first | refine blk_drewN ?_ _ | refine blk_drew ?_ | refine blk_alloc ?_ _)); refine blk_put (cs := #[.int .i64 ((rd_T56 l0 x7_1).f0), .int .i64 ((rd_T56 l0 x7_1).f1), .slice none 0 0, .int .i64 0, .int .i64 0, .slice none 0 0]) ?_ 2 _ rfl; (with_reducible repeat (first | refine blk_drewN ?_ _ | refine blk_drew ?_ | refine blk_alloc ?_ _)); refine blk_put (cs := #[.int .i64 ((rd_T56 l0 x7_1).f0), .int .i64 0, .slice none 0 0, .int .i64 0, .int .i64 0, .slice none 0 0]) ?_ 1 _ rfl; (with_reducible repeat (first | refine blk_drewN ?_ _ | refine blk_drew ?_ | refine blk_alloc ?_ _)); refine blk_put (cs := #[.int .i64 0, .int .i64 0, .slice none 0 0, .int .i64 0, .int .i64 0, .slice none 0 0]) ?_ 0 _ rfl; (with_reducible repeat (first | refine blk_drewN ?_ _ | refine blk_drew ?_ | refine blk_alloc ?_ _)); exact BK290.out) hb); have n1_ := Aside0.mk (below_step (by repeat (first | (with_reducible first | exact HB.out | apply below_alloc | apply pw_below_drewN | apply below_drew1 | refine below_set ?_ GE290.out) | exact HB.out)) hb); clear BK290; clear HB; have BK290 := n0_; have HB := n1_; clear n0_ n1_; (try clear hb); (try clear hb2); (try clear hk); (try clear hi)))
       go_ret
       exact ⟨by first | rfl | (simp [errW_none, errW_some] <;> rfl) | (simp [*, errW_none, errW_some] <;> rfl), by repeat (first | (with_reducible first | exact HB.out | apply below_alloc | apply pw_below_drewN | apply below_drew1 | refine below_set ?_ GE290.out) | exact HB.out)⟩
     ·rw [if_neg c4] at H
      exact absurd H (by simp)
    ·rw [if_neg c3] at H
     exact absurd H (by simp)
   ·rw [if_neg c2] at H
    have c2b0 : decide (x7_1 < (l0.length : Int)) = false := decide_eq_false c2
    clear c2
    obtain rfl := Option.some.inj H
    go_wp2
    go_ret
    exact ⟨by first | rfl | (simp [errW_none, errW_some] <;> rfl) | (simp [*, errW_none, errW_some] <;> rfl), by repeat (first | (with_reducible first | exact HB.out | apply below_alloc | apply pw_below_drewN | apply below_drew1) | exact HB.out)⟩

end Go.Proofs.YtfmbpldjbmhnnaaDoor.My

/- Written by this session's program (wip/gen): a plain function with the same answers as the Go function, and the proof that the Go code comes to them. Asked: that the plain function has an answer. -/
namespace Go.Proofs.YtfmbpldjbmhnnaaDoor.My
open Go.RowKit Go.Proofs.YtfmbpldjbmhnnaaDoorW.PrintWords Go.Proofs.YtfmbpldjbmhnnaaDoorW.PrintLast
set_option linter.unusedVariables false
set_option linter.unusedSimpArgs false

/-! ### spec_l1Num: function 62 -/
def spec_l1Num.f : Nat → Int → Option (ByteArray)
 | 0, _ => none
 | k + 1, a0 => if a0 < 10 then (some (strOfNums (([(wrap64 (48 + a0)) % 256] : List Int)))) else ((spec_l1Num.f k (wrap64 (Int.tdiv a0 10))).bind fun t106 => ((some (([(wrap64 (48 + (Int.tmod a0 10))) % 256] : List Int) : List Int)).bind fun y107 => (if t106.size + (strOfNums y107).size ≤ 9223372036854775807 then (some (t106 ++ (strOfNums y107))) else (none))))
def spec_l1Num.T3 : Bool × List (List Nat × List Nat) := (true, [([], []), ([0], [0]), ([1], [1]), ([], []), ([3], [3]), ([4], [4]), ([5], [5]), ([6], [6]), ([7], [7]), ([2, 8], [2, 8]), ([9, 2, 0, 1, 2, 3, 4, 5, 6, 7, 8, 9], [9])])
def spec_l1Num.B3 : List Nat := [0, 1, 3, 0, 8, 24, 56, 120, 248, 511, 1023]
theorem spec_l1Num.tab3 : rtab .any (opsOf Tryd.f62 3) = spec_l1Num.T3 := by kernel_rfl
theorem spec_l1Num.bits3 : waitsOk spec_l1Num.T3.2 spec_l1Num.B3 = true := by kernel_rfl
set_option maxHeartbeats 8000000 in
set_option maxRecDepth 100000 in
theorem spec_l1Num.calls (k : Nat) : ∀ (a0 : Int) (r : ByteArray) (w : World) (h : spec_l1Num.f k a0 = some r),
  Calls Tryd.prog 62 #[.int .i64 a0] w fun e w' => e = .returned (.string r) ∧ Below w.heap.size w w' := by
 induction k using Nat.strongRecOn with
 | _ k ih =>
 intro a0 r w h
 cases k with
 | zero => exact absurd h (by simp [spec_l1Num.f])
 | succ k =>
 simp only [spec_l1Num.f] at h
 have HB := Aside0.mk (Below.refl w.heap.size w)
 have H : (if a0 < 10 then (some (strOfNums (([(wrap64 (48 + a0)) % 256] : List Int)))) else ((spec_l1Num.f k (wrap64 (Int.tdiv a0 10))).bind fun t106 => ((some (([(wrap64 (48 + (Int.tmod a0 10))) % 256] : List Int) : List Int)).bind fun y107 => (if t106.size + (strOfNums y107).size ≤ 9223372036854775807 then (some (t106 ++ (strOfNums y107))) else (none))))) = some r := h
 clear h
 by_cases c2 : a0 < 10
 ·rw [if_pos c2] at H
  have c2b0 : decide (a0 < 10) = true := decide_eq_true c2
  clear c2
  obtain ⟨y103, hy103⟩ : ∃ y_ : List Int, y_ = (([(wrap64 (48 + a0)) % 256] : List Int)) := ⟨_, rfl⟩
  replace H : (some (strOfNums y103)) = some r := by first | (rw [hy103]; with_reducible exact H) | (have H2_ := (Option.bind_some _ _).symm.trans H; rw [hy103]; with_reducible exact H2_) | (have H2_ := (Option.bind_some _ _).symm.trans H; with_reducible exact H2_) | with_reducible exact H | (rw [hy103]; exact H) | exact H
  have Ny103 := Aside0.mk hy103
  clear hy103
  obtain rfl := Option.some.inj H
  go_enter Tryd.func62, Tryd.ntmps62
  go_wp2_with (first | ((with_reducible refine gate_dst (N := 8) rfl ?_); refine Kd.R_lit (Kd.int .u8) _ 5 ?hg (N := 8) ?hd (xs := ([(wrap64 (48 + a0)) % 256] : List Int)) (inner := [.int .u8 ((wrap64 (48 + a0)) % 256)]) (ok := fun _ => True) (okp := fun _ => True) ?hr ?hp (fun _ hk => hk) trivial (Below.refl _ _) (Nat.le_refl _) (by simp) ?_; (case hd => rfl); (case hg => rfl); (case hr => first | (go_simp; done) | (go_simp; rfl)); (case hp => exact (Reps.one (show Kd.M (Kd.int .u8) _ _ _ ((wrap64 (48 + a0)) % 256) [.int .u8 ((wrap64 (48 + a0)) % 256)] from rfl) (Reps.none _ _))); intro v104 w3 ho4 hb hg_ hnew_; clear hg_ hnew_; (first | rw [← Ny103.out] at ho4 | (simp only [Int.reduceToNat] at ho4; rw [← Ny103.out] at ho4)); have n0_ := Aside0.mk (Kd.R_lower ho4 (below_size zb)); have n1_ := Aside0.mk (below_step zb hb); clear HB; have HO105 := n0_; have HB := n1_; clear n0_ n1_; clear hb ho4; have hcv5 := own_string (P := Tryd.prog) Tryd.underlying89 Tryd.underlying5 Tryd.underlying9 (Kd.own_of_R HO105.out)))
  go_ret
  exact ⟨by first | rfl | (simp [errW_none, errW_some] <;> rfl) | (simp [*, errW_none, errW_some] <;> rfl), by repeat (first | (with_reducible first | exact HB.out | apply below_alloc | apply pw_below_drewN | apply below_drew1) | exact HB.out)⟩
 ·rw [if_neg c2] at H
  have c2b0 : decide (a0 < 10) = false := decide_eq_false c2
  clear c2
  replace H := Option.bind_eq_some_iff.mp H
  obtain ⟨t106, A60, H⟩ := H
  replace H : ((some (([(wrap64 (48 + (Int.tmod a0 10))) % 256] : List Int) : List Int)).bind fun y107 => (if t106.size + (strOfNums y107).size ≤ 9223372036854775807 then (some (t106 ++ (strOfNums y107))) else (none))) = some r := H
  have A6 := Aside0.mk A60
  clear A60
  obtain ⟨y107, hy107⟩ : ∃ y_ : List Int, y_ = (([(wrap64 (48 + (Int.tmod a0 10))) % 256] : List Int)) := ⟨_, rfl⟩
  replace H : (if t106.size + (strOfNums y107).size ≤ 9223372036854775807 then (some (t106 ++ (strOfNums y107))) else (none)) = some r := by first | (rw [hy107]; with_reducible exact H) | (have H2_ := (Option.bind_some _ _).symm.trans H; rw [hy107]; with_reducible exact H2_) | (have H2_ := (Option.bind_some _ _).symm.trans H; with_reducible exact H2_) | with_reducible exact H | (rw [hy107]; exact H) | exact H
  have Ny107 := Aside0.mk hy107
  clear hy107
  by_cases c7 : t106.size + (strOfNums y107).size ≤ 9223372036854775807
  ·rw [if_pos c7] at H
   have c7b0 := eq_true c7
   have c7b1 : decide (t106.size + (strOfNums y107).size ≤ 9223372036854775807) = true := decide_eq_true c7
   try have c7b2 : (9223372036854775807 < t106.size + (strOfNums y107).size) = False := eq_false (Nat.not_lt.2 c7)
   obtain rfl := Option.some.inj H
   go_enter Tryd.func62, Tryd.ntmps62
   try go_wp2
   have n0_ := Aside0.mk (below_drew1 HB.out)
   clear HB
   have HB := n0_
   clear n0_
   refine start_ (n := 11) (S := fun w' => True) (ds := []) #[O,O,O,O,O,O,O,O,O,O,O] (by kernel_rfl) rfl rfl trivial (fun hHeld => ?_); refine with_tabW spec_l1Num.tab3 spec_l1Num.bits3 (fun HT_ HW_ => ?_)
   generalize w.drew = w8 at HB hHeld ⊢
   refine pure_ (i := 0) (N := some 10) (v := ?_) (a' := ?_) #[Y,O,O,O,O,O,O,O,O,O,O] rfl rfl zx (fun _ _ _ h => h) (Or.inl ⟨by rfl, ?_⟩) ?_ ?_
   rotate_left; (intro w'; go_simp; with_reducible rfl); rotate_left; (simp only [Act.put,qa,qb,qc,i64_w,i32_w]; rfl)
   refine pure_ (i := 1) (N := some 11) (v := ?_) (a' := ?_) #[Y,Y,O,O,O,O,O,O,O,O,O] rfl rfl zx (fun _ _ _ h => h) (Or.inl ⟨by rfl, ?_⟩) ?_ ?_
   rotate_left; (intro w'; go_simp; with_reducible rfl); rotate_left; (simp only [Act.put,qa,qb,qc,i64_w,i32_w]; rfl)
   refine pure_ (i := 3) (N := some 13) (v := ?_) (a' := ?_) #[Y,Y,O,Y,O,O,O,O,O,O,O] rfl rfl zx (fun _ _ _ h => h) (Or.inl ⟨by rfl, ?_⟩) ?_ ?_
   rotate_left; (intro w'; go_simp; with_reducible rfl); rotate_left; (simp only [Act.put,qa,qb,qc,i64_w,i32_w]; rfl)
   refine pure_ (i := 4) (N := some 14) (v := ?_) (a' := ?_) #[Y,Y,O,Y,Y,O,O,O,O,O,O] rfl rfl zx (fun _ _ _ h => h) (Or.inl ⟨by rfl, ?_⟩) ?_ ?_
   rotate_left; (intro w'; go_simp; with_reducible rfl); rotate_left; (simp only [Act.put,qa,qb,qc,i64_w,i32_w]; rfl)
   refine pure_ (i := 5) (N := some 15) (v := ?_) (a' := ?_) #[Y,Y,O,Y,Y,Y,O,O,O,O,O] rfl rfl zx (fun _ _ _ h => h) (Or.inl ⟨by rfl, ?_⟩) ?_ ?_
   rotate_left; (intro w'; go_simp; with_reducible rfl); rotate_left; (simp only [Act.put,qa,qb,qc,i64_w,i32_w]; rfl)
   refine pure_ (i := 6) (N := some 16) (v := ?_) (a' := ?_) #[Y,Y,O,Y,Y,Y,Y,O,O,O,O] rfl rfl zx (fun _ _ _ h => h) (Or.inl ⟨by rfl, ?_⟩) ?_ ?_
   rotate_left; (intro w'; go_simp; with_reducible rfl); rotate_left; (simp only [Act.put,qa,qb,qc,i64_w,i32_w]; rfl)
   refine join_ (σ := Value) 2 #[Y,Y,Y,Y,Y,Y,Y,Y,Y,O,O] (fun s_ => [(12, .string t106), (17, s_), (18, .string (strOfNums y107))]) (fun s_ w' => (Kd.R (Kd.int .u8) 5 w' w.heap.size (fun _ => True) s_ y107) ∧ (Below w.heap.size w w')) ?_ ?_
   rotate_left
   ·intro hCont
    refine two_ (i := 2) (j := 7) (Ni := some 12) (Nj := some 17) #[Y,Y,Y,Y,Y,Y,Y,O,O,O,O] #[Y,Y,O,Y,Y,Y,Y,Y,O,O,O] rfl rfl rfl rfl (two_of HT_.out (by kernel_rfl)) (by decide) (by decide) (fun K hK => ?_) (fun K hK => ?_)
    ·skip
     refine goes_ Tryd.func62 (by kernel_rfl) rfl #[.int .i64 (wrap64 (Int.tdiv a0 10))] (by rfl) rfl rfl zm ?_
     with_reducible refine (ih k (by omega) (wrap64 (Int.tdiv a0 10)) t106 _ A6.out).mono ?_
     rintro e w9 ⟨rfl, hb⟩
     refine ⟨_, rfl, ?_⟩
     have n0_ := Aside0.mk (below_step zb hb)
     clear HB
     have HB := n0_
     clear n0_
     (try clear hb)
     (try clear hb2)
     (try clear hk)
     (try clear hi)
     refine hK.out _ _ trivial (fun hHeld => ?_)
     clear hK K
     refine norm_ (a' := ?_) ?_ ?_
     rotate_left
     ·show Act.put _ (some 12) _ = _
      simp only [Act.put,qa,qb,qc,i64_w,i32_w]
      rfl
     refine one_ (i := 7) (N := some 17) #[Y,Y,Y,Y,Y,Y,Y,Y,O,O,O] rfl rfl (one_of HT_.out (by kernel_rfl)) (by decide) (fun K hK => ?_)
     refine Kd.R_lit_step (Kd.int .u8) _ 5 ?hg (N := 17) ?hd (xs := ([(wrap64 (48 + (Int.tmod a0 10))) % 256] : List Int)) (inner := [.int .u8 ((wrap64 (48 + (Int.tmod a0 10))) % 256)]) (ok := fun _ => True) (okp := fun _ => True) ?hr ?hp (fun _ hk => hk) trivial (Below.refl _ _) (Nat.le_refl _) (by simp) ?_; (case hd => rfl); (case hg => rfl); (case hr => first | (go_simp; done) | (go_simp; rfl)); (case hp => exact (Reps.one (show Kd.M (Kd.int .u8) _ _ _ ((wrap64 (48 + (Int.tmod a0 10))) % 256) [.int .u8 ((wrap64 (48 + (Int.tmod a0 10))) % 256)] from rfl) (Reps.none _ _)))
     intro v108 w10 ho11 hb hg_ hnew_
     clear hg_ hnew_
     (first | rw [← Ny107.out] at ho11 | (simp only [Int.reduceToNat] at ho11; rw [← Ny107.out] at ho11))
     have n0_ := Aside0.mk (Kd.R_lower ho11 (below_size zb))
     have n1_ := Aside0.mk (below_step zb hb)
     clear HB
     have HO109 := n0_
     have HB := n1_
     clear n0_ n1_
     clear hb ho11
     refine hK.out _ _ trivial (fun hHeld => ?_)
     clear hK K
     refine norm_ (a' := ?_) ?_ ?_
     rotate_left
     ·show Act.put _ (some 17) _ = _
      simp only [Act.put,qa,qb,qc,i64_w,i32_w]
      rfl
     refine one_ (i := 8) (N := some 18) #[Y,Y,Y,Y,Y,Y,Y,Y,Y,O,O] rfl rfl (one_of HT_.out (by kernel_rfl)) (by decide) (fun K hK => ?_)
     have hcv12 := own_string (P := Tryd.prog) Tryd.underlying89 Tryd.underlying5 Tryd.underlying9 (Kd.own_of_R HO109.out)
     refine value_ (w1 := ?_) (v := ?_) (by rfl) rfl ?_ ?_
     rotate_left 2
     ·go_simp
      constructor
      ·rfl
      ·rfl
     clear hcv12
     refine hK.out _ _ trivial (fun hHeld => ?_)
     clear hK K
     refine norm_ (a' := ?_) ?_ ?_
     rotate_left
     ·show Act.put _ (some 18) _ = _
      simp only [Act.put,qa,qb,qc,i64_w,i32_w]
      rfl
     exact norm_ (by simp only [putAll, Act.put, List.setIfInBounds_toArray, List.set_cons_zero, List.set_cons_succ]) (hCont (v108) _ ⟨(zr HO109.out), zb⟩)
    ·skip
     refine Kd.R_lit_step (Kd.int .u8) _ 5 ?hg (N := 17) ?hd (xs := ([(wrap64 (48 + (Int.tmod a0 10))) % 256] : List Int)) (inner := [.int .u8 ((wrap64 (48 + (Int.tmod a0 10))) % 256)]) (ok := fun _ => True) (okp := fun _ => True) ?hr ?hp (fun _ hk => hk) trivial (Below.refl _ _) (Nat.le_refl _) (by simp) ?_; (case hd => rfl); (case hg => rfl); (case hr => first | (go_simp; done) | (go_simp; rfl)); (case hp => exact (Reps.one (show Kd.M (Kd.int .u8) _ _ _ ((wrap64 (48 + (Int.tmod a0 10))) % 256) [.int .u8 ((wrap64 (48 + (Int.tmod a0 10))) % 256)] from rfl) (Reps.none _ _)))
     intro v108 w9 ho10 hb hg_ hnew_
     clear hg_ hnew_
     (first | rw [← Ny107.out] at ho10 | (simp only [Int.reduceToNat] at ho10; rw [← Ny107.out] at ho10))
     have n0_ := Aside0.mk (Kd.R_lower ho10 (below_size zb))
     have n1_ := Aside0.mk (below_step zb hb)
     clear HB
     have HO109 := n0_
     have HB := n1_
     clear n0_ n1_
     clear hb ho10
     refine hK.out _ _ trivial (fun hHeld => ?_)
     clear hK K
     refine norm_ (a' := ?_) ?_ ?_
     rotate_left
     ·show Act.put _ (some 17) _ = _
      simp only [Act.put,qa,qb,qc,i64_w,i32_w]
      rfl
     refine two_ (i := 2) (j := 8) (Ni := some 12) (Nj := some 18) #[Y,Y,Y,Y,Y,Y,Y,Y,O,O,O] #[Y,Y,O,Y,Y,Y,Y,Y,Y,O,O] rfl rfl rfl rfl (two_of HT_.out (by kernel_rfl)) (by decide) (by decide) (fun K hK => ?_) (fun K hK => ?_)
     ·skip
      refine goes_ Tryd.func62 (by kernel_rfl) rfl #[.int .i64 (wrap64 (Int.tdiv a0 10))] (by rfl) rfl rfl zm ?_
      with_reducible refine (ih k (by omega) (wrap64 (Int.tdiv a0 10)) t106 _ A6.out).mono ?_
      rintro e w11 ⟨rfl, hb⟩
      refine ⟨_, rfl, ?_⟩
      have n0_ := Aside0.mk (Kd.R_below (zr HO109.out) hb)
      have n1_ := Aside0.mk (below_step zb hb)
      clear HO109
      clear HB
      have HO109 := n0_
      have HB := n1_
      clear n0_ n1_
      (try clear hb)
      (try clear hb2)
      (try clear hk)
      (try clear hi)
      refine hK.out _ _ trivial (fun hHeld => ?_)
      clear hK K
      refine norm_ (a' := ?_) ?_ ?_
      rotate_left
      ·show Act.put _ (some 12) _ = _
       simp only [Act.put,qa,qb,qc,i64_w,i32_w]
       rfl
      refine one_ (i := 8) (N := some 18) #[Y,Y,Y,Y,Y,Y,Y,Y,Y,O,O] rfl rfl (one_of HT_.out (by kernel_rfl)) (by decide) (fun K hK => ?_)
      have hcv12 := own_string (P := Tryd.prog) Tryd.underlying89 Tryd.underlying5 Tryd.underlying9 (Kd.own_of_R HO109.out)
      refine value_ (w1 := ?_) (v := ?_) (by rfl) rfl ?_ ?_
      rotate_left 2
      ·go_simp
       constructor
       ·rfl
       ·rfl
      clear hcv12
      refine hK.out _ _ trivial (fun hHeld => ?_)
      clear hK K
      refine norm_ (a' := ?_) ?_ ?_
      rotate_left
      ·show Act.put _ (some 18) _ = _
       simp only [Act.put,qa,qb,qc,i64_w,i32_w]
       rfl
      exact norm_ (by simp only [putAll, Act.put, List.setIfInBounds_toArray, List.set_cons_zero, List.set_cons_succ]) (hCont (v108) _ ⟨(zr HO109.out), zb⟩)
     ·skip
      have hcv11 := own_string (P := Tryd.prog) Tryd.underlying89 Tryd.underlying5 Tryd.underlying9 (Kd.own_of_R HO109.out)
      refine value_ (w1 := ?_) (v := ?_) (by rfl) rfl ?_ ?_
      rotate_left 2
      ·go_simp
       constructor
       ·rfl
       ·rfl
      clear hcv11
      refine hK.out _ _ trivial (fun hHeld => ?_)
      clear hK K
      refine norm_ (a' := ?_) ?_ ?_
      rotate_left
      ·show Act.put _ (some 18) _ = _
       simp only [Act.put,qa,qb,qc,i64_w,i32_w]
       rfl
      refine one_ (i := 2) (N := some 12) #[Y,Y,Y,Y,Y,Y,Y,Y,Y,O,O] rfl rfl (one_of HT_.out (by kernel_rfl)) (by decide) (fun K hK => ?_)
      refine goes_ Tryd.func62 (by kernel_rfl) rfl #[.int .i64 (wrap64 (Int.tdiv a0 10))] (by rfl) rfl rfl zm ?_
      with_reducible refine (ih k (by omega) (wrap64 (Int.tdiv a0 10)) t106 _ A6.out).mono ?_
      rintro e w12 ⟨rfl, hb⟩
      refine ⟨_, rfl, ?_⟩
      have n0_ := Aside0.mk (Kd.R_below (zr HO109.out) hb)
      have n1_ := Aside0.mk (below_step zb hb)
      clear HO109
      clear HB
      have HO109 := n0_
      have HB := n1_
      clear n0_ n1_
      (try clear hb)
      (try clear hb2)
      (try clear hk)
      (try clear hi)
      refine hK.out _ _ trivial (fun hHeld => ?_)
      clear hK K
      refine norm_ (a' := ?_) ?_ ?_
      rotate_left
      ·show Act.put _ (some 12) _ = _
       simp only [Act.put,qa,qb,qc,i64_w,i32_w]
       rfl
      exact norm_ (by simp only [putAll, Act.put, List.setIfInBounds_toArray, List.set_cons_zero, List.set_cons_succ]) (hCont (v108) _ ⟨(zr HO109.out), zb⟩)
   rintro v108 w13 ⟨h0_, h1_⟩
   have n0_ : Aside0 (Kd.R (Kd.int .u8) 5 w13 w.heap.size (fun _ => True) v108 y107) := ⟨h0_⟩
   have n1_ : Aside0 (Below w.heap.size w w13) := ⟨h1_⟩
   clear HB
   clear h0_ h1_
   have HO109 := n0_
   have HB := n1_
   clear n0_ n1_
   have hHeld := trivial
   refine norm_ (a' := ?_) ?_ ?_
   rotate_left
   ·simp only [putAll, Act.put, List.setIfInBounds_toArray, List.set_cons_zero, List.set_cons_succ]
    rfl
   refine pure_ (i := 9) (N := some 19) (v := ?_) (a' := ?_) #[Y,Y,Y,Y,Y,Y,Y,Y,Y,Y,O] rfl rfl zx (fun _ _ _ h => h) (Or.inl ⟨by rfl, ?_⟩) ?_ ?_
   rotate_left; (intro w'; go_simp; with_reducible rfl); rotate_left; (simp only [Act.put,qa,qb,qc,i64_w,i32_w]; rfl)
   refine pure_ (i := 10) (N := some 2) (v := ?_) (a' := ?_) #[Y,Y,Y,Y,Y,Y,Y,Y,Y,Y,Y] rfl rfl zx (fun _ _ _ h => h) (Or.inl ⟨by rfl, ?_⟩) ?_ ?_
   rotate_left; (intro w'; go_simp; with_reducible rfl); rotate_left; (simp only [Act.put,qa,qb,qc,i64_w,i32_w]; rfl)
   refine done_ (done_of HT_.out (by kernel_rfl)) ?_
   try go_wp2
   go_ret
   exact ⟨by first | rfl | (simp [errW_none, errW_some] <;> rfl) | (simp [*, errW_none, errW_some] <;> rfl), by repeat (first | (with_reducible first | exact HB.out | apply below_alloc | apply pw_below_drewN | apply below_drew1) | exact HB.out)⟩
  ·rw [if_neg c7] at H
   exact absurd H (by simp)

end Go.Proofs.YtfmbpldjbmhnnaaDoor.My

/- Written by this session's program (wip/gen): a plain function with the same answers as the Go function, and the proof that the Go code comes to them. Asked: that the plain function has an answer. -/
namespace Go.Proofs.YtfmbpldjbmhnnaaDoor.My
open Go.RowKit Go.Proofs.YtfmbpldjbmhnnaaDoorW.PrintWords Go.Proofs.YtfmbpldjbmhnnaaDoorW.PrintLast
set_option linter.unusedVariables false
set_option linter.unusedSimpArgs false

/-! ### spec_l5Numbers: function 68 -/
def spec_l5Numbers.f (k : Nat) (a0 : Int) (a1 : Int) : Option (ByteArray) := if a0 = a1 then ((spec_l1Num.f k a0).bind fun t292 => (some t292)) else ((spec_l1Num.f k a0).bind fun t293 => (if t293.size + 1 ≤ 9223372036854775807 then ((spec_l1Num.f k a1).bind fun t294 => (if (t293 ++ (⟨#[44]⟩ : ByteArray)).size + t294.size ≤ 9223372036854775807 then (some ((t293 ++ (⟨#[44]⟩ : ByteArray)) ++ t294)) else (none))) else (none)))
set_option maxHeartbeats 8000000 in
set_option maxRecDepth 100000 in
theorem spec_l5Numbers.calls (k : Nat) (a0 : Int) (a1 : Int) (r : ByteArray) (w : World) (h : spec_l5Numbers.f k a0 a1 = some r) :
  Calls Tryd.prog 68 #[.int .i64 a0, .int .i64 a1] w fun e w' => e = .returned (.string r) ∧ Below w.heap.size w w' := by
 have HB := Aside0.mk (Below.refl w.heap.size w)
 have H : (if a0 = a1 then ((spec_l1Num.f k a0).bind fun t292 => (some t292)) else ((spec_l1Num.f k a0).bind fun t293 => (if t293.size + 1 ≤ 9223372036854775807 then ((spec_l1Num.f k a1).bind fun t294 => (if (t293 ++ (⟨#[44]⟩ : ByteArray)).size + t294.size ≤ 9223372036854775807 then (some ((t293 ++ (⟨#[44]⟩ : ByteArray)) ++ t294)) else (none))) else (none)))) = some r := h
 clear h
 by_cases c3 : a0 = a1
 ·rw [if_pos c3] at H
  have c3b0 : (a0 == a1) = true := beq_iff_eq.mpr c3
  have c3b1 : (a0 != a1) = false := bne_eq_false_iff_eq.mpr c3
  clear c3
  replace H := Option.bind_eq_some_iff.mp H
  obtain ⟨t292, A40, H⟩ := H
  replace H : (some t292) = some r := H
  have A4 := Aside0.mk A40
  clear A40
  obtain rfl := Option.some.inj H
  go_enter Tryd.func68, Tryd.ntmps68
  go_wp2_with (first | ((with_reducible refine gateC (f := 62) rfl ?_); refine goesL_ (some 9) rfl rfl Tryd.func62 (by kernel_rfl) rfl #[.int .i64 a0] rfl zm ?_; (with_reducible refine (spec_l1Num.calls k a0 t292 _ A4.out).mono ?_); rintro e w5 ⟨rfl, hb⟩; refine ⟨_, rfl, ?_⟩; have n0_ := Aside0.mk (below_step zb hb); clear HB; have HB := n0_; clear n0_; (try clear hb); (try clear hb2); (try clear hk); (try clear hi)))
  go_ret
  exact ⟨by first | rfl | (simp [errW_none, errW_some] <;> rfl) | (simp [*, errW_none, errW_some] <;> rfl), by repeat (first | (with_reducible first | exact HB.out | apply below_alloc | apply pw_below_drewN | apply below_drew1) | exact HB.out)⟩
 ·rw [if_neg c3] at H
  have c3b0 : (a0 == a1) = false := beq_eq_false_iff_ne.mpr c3
  have c3b1 : (a0 != a1) = true := bne_iff_ne.mpr c3
  replace H := Option.bind_eq_some_iff.mp H
  obtain ⟨t293, A60, H⟩ := H
  replace H : (if t293.size + 1 ≤ 9223372036854775807 then ((spec_l1Num.f k a1).bind fun t294 => (if (t293 ++ (⟨#[44]⟩ : ByteArray)).size + t294.size ≤ 9223372036854775807 then (some ((t293 ++ (⟨#[44]⟩ : ByteArray)) ++ t294)) else (none))) else (none)) = some r := H
  have A6 := Aside0.mk A60
  clear A60
  by_cases c7 : t293.size + 1 ≤ 9223372036854775807
  ·rw [if_pos c7] at H
   have c7b0 := eq_true c7
   have c7b1 : decide (t293.size + 1 ≤ 9223372036854775807) = true := decide_eq_true c7
   try have c7b2 : (9223372036854775807 < t293.size + 1) = False := eq_false (Nat.not_lt.2 c7)
   replace H := Option.bind_eq_some_iff.mp H
   obtain ⟨t294, A80, H⟩ := H
   replace H : (if (t293 ++ (⟨#[44]⟩ : ByteArray)).size + t294.size ≤ 9223372036854775807 then (some ((t293 ++ (⟨#[44]⟩ : ByteArray)) ++ t294)) else (none)) = some r := H
   have A8 := Aside0.mk A80
   clear A80
   by_cases c9 : (t293 ++ (⟨#[44]⟩ : ByteArray)).size + t294.size ≤ 9223372036854775807
   ·rw [if_pos c9] at H
    have c9b0 := eq_true c9
    have c9b1 : decide ((t293 ++ (⟨#[44]⟩ : ByteArray)).size + t294.size ≤ 9223372036854775807) = true := decide_eq_true c9
    try have c9b2 : (9223372036854775807 < (t293 ++ (⟨#[44]⟩ : ByteArray)).size + t294.size) = False := eq_false (Nat.not_lt.2 c9)
    try have c9b9 := c9
    try simp only [ByteArray.size_append, show (⟨#[44]⟩ : ByteArray).size = 1 from rfl] at c9b9
    try have c9b8 := eq_false (Nat.not_lt.2 c9b9)
    try replace c9b9 := eq_true c9b9
    obtain rfl := Option.some.inj H
    go_enter Tryd.func68, Tryd.ntmps68
    go_wp2_with (first | ((with_reducible refine gateC (f := 62) rfl ?_); refine goesL_ (some 11) rfl rfl Tryd.func62 (by kernel_rfl) rfl #[.int .i64 a0] rfl zm ?_; (with_reducible refine (spec_l1Num.calls k a0 t293 _ A6.out).mono ?_); rintro e w10 ⟨rfl, hb⟩; refine ⟨_, rfl, ?_⟩; have n0_ := Aside0.mk (below_step zb hb); clear HB; have HB := n0_; clear n0_; (try clear hb); (try clear hb2); (try clear hk); (try clear hi)) | ((with_reducible refine gateC (f := 62) rfl ?_); refine goesL_ (some 14) rfl rfl Tryd.func62 (by kernel_rfl) rfl #[.int .i64 a1] rfl zm ?_; (with_reducible refine (spec_l1Num.calls k a1 t294 _ A8.out).mono ?_); rintro e w11 ⟨rfl, hb⟩; refine ⟨_, rfl, ?_⟩; have n0_ := Aside0.mk (below_step zb hb); clear HB; have HB := n0_; clear n0_; (try clear hb); (try clear hb2); (try clear hk); (try clear hi)))
    go_ret
    exact ⟨by first | rfl | (simp [errW_none, errW_some] <;> rfl) | (simp [*, errW_none, errW_some] <;> rfl), by repeat (first | (with_reducible first | exact HB.out | apply below_alloc | apply pw_below_drewN | apply below_drew1) | exact HB.out)⟩
   ·rw [if_neg c9] at H
    exact absurd H (by simp)
  ·rw [if_neg c7] at H
   exact absurd H (by simp)

end Go.Proofs.YtfmbpldjbmhnnaaDoor.My

/- Written by this session's program (wip/gen): a plain function with the same answers as the Go function, and the proof that the Go code comes to them. Asked: that the plain function has an answer. -/
namespace Go.Proofs.YtfmbpldjbmhnnaaDoor.My
open Go.RowKit Go.Proofs.YtfmbpldjbmhnnaaDoorW.PrintWords Go.Proofs.YtfmbpldjbmhnnaaDoorW.PrintLast
set_option linter.unusedVariables false
set_option linter.unusedSimpArgs false

/-! ### spec_l5Shown: function 69 -/
def spec_l5Shown.f (a0 : ByteArray) (a1 : ByteArray) : Option (ByteArray) := (spec_l1Ends.f a1).bind fun t295 => (if t295 = true then (if a0.size + a1.size ≤ 9223372036854775807 then (some (a0 ++ a1)) else (none)) else (if a0.size + a1.size ≤ 9223372036854775807 then (if (a0 ++ a1).size + 8 ≤ 9223372036854775807 then (some ((a0 ++ a1) ++ (⟨#[10, 92, 32, 110, 111, 110, 101, 10]⟩ : ByteArray))) else (none)) else (none)))
set_option maxHeartbeats 8000000 in
set_option maxRecDepth 100000 in
theorem spec_l5Shown.calls (a0 : ByteArray) (a1 : ByteArray) (r : ByteArray) (w : World) (h : spec_l5Shown.f a0 a1 = some r) :
  Calls Tryd.prog 69 #[.string a0, .string a1] w fun e w' => e = .returned (.string r) ∧ Drawn0 w w' := by
 have H : ((spec_l1Ends.f a1).bind fun t295 => (if t295 = true then (if a0.size + a1.size ≤ 9223372036854775807 then (some (a0 ++ a1)) else (none)) else (if a0.size + a1.size ≤ 9223372036854775807 then (if (a0 ++ a1).size + 8 ≤ 9223372036854775807 then (some ((a0 ++ a1) ++ (⟨#[10, 92, 32, 110, 111, 110, 101, 10]⟩ : ByteArray))) else (none)) else (none)))) = some r := h
 clear h
 replace H := Option.bind_eq_some_iff.mp H
 obtain ⟨t295, A30, H⟩ := H
 replace H : (if t295 = true then (if a0.size + a1.size ≤ 9223372036854775807 then (some (a0 ++ a1)) else (none)) else (if a0.size + a1.size ≤ 9223372036854775807 then (if (a0 ++ a1).size + 8 ≤ 9223372036854775807 then (some ((a0 ++ a1) ++ (⟨#[10, 92, 32, 110, 111, 110, 101, 10]⟩ : ByteArray))) else (none)) else (none))) = some r := H
 have A3 := Aside0.mk A30
 clear A30
 by_cases c4 : t295 = true
 ·subst c4
  have H1 : (if a0.size + a1.size ≤ 9223372036854775807 then (some (a0 ++ a1)) else (none)) = some r := by rw [if_pos rfl] at H; exact H
  clear H
  have H := H1
  clear H1
  by_cases c5 : a0.size + a1.size ≤ 9223372036854775807
  ·rw [if_pos c5] at H
   have c5b0 := eq_true c5
   have c5b1 : decide (a0.size + a1.size ≤ 9223372036854775807) = true := decide_eq_true c5
   try have c5b2 : (9223372036854775807 < a0.size + a1.size) = False := eq_false (Nat.not_lt.2 c5)
   obtain rfl := Option.some.inj H
   go_enter Tryd.func69, Tryd.ntmps69
   go_wp2_with (first | ((with_reducible refine gateC (f := 83) rfl ?_); refine goesL_ (some 6) rfl rfl Tryd.func83 (by kernel_rfl) rfl #[.string a1] rfl zm ?_; (with_reducible refine (spec_l1Ends.calls a1 true _ A3.out).mono ?_); rintro e w' ⟨rfl, ⟨nd, rfl⟩⟩; refine ⟨_, rfl, ?_⟩))
   go_ret
   exact ⟨by first | rfl | (simp; done) | (simp [*]; done), by repeat (first | exact Drawn0.refl _ | apply Drawn0.step)⟩
  ·rw [if_neg c5] at H
   exact absurd H (by simp)
 ·replace c4 := Bool.eq_false_iff.mpr c4
  subst c4
  have H1 : (if a0.size + a1.size ≤ 9223372036854775807 then (if (a0 ++ a1).size + 8 ≤ 9223372036854775807 then (some ((a0 ++ a1) ++ (⟨#[10, 92, 32, 110, 111, 110, 101, 10]⟩ : ByteArray))) else (none)) else (none)) = some r := by rw [if_neg (show ¬ (false = true) by decide)] at H; exact H
  clear H
  have H := H1
  clear H1
  by_cases c6 : a0.size + a1.size ≤ 9223372036854775807
  ·rw [if_pos c6] at H
   have c6b0 := eq_true c6
   have c6b1 : decide (a0.size + a1.size ≤ 9223372036854775807) = true := decide_eq_true c6
   try have c6b2 : (9223372036854775807 < a0.size + a1.size) = False := eq_false (Nat.not_lt.2 c6)
   by_cases c7 : (a0 ++ a1).size + 8 ≤ 9223372036854775807
   ·rw [if_pos c7] at H
    have c7b0 := eq_true c7
    have c7b1 : decide ((a0 ++ a1).size + 8 ≤ 9223372036854775807) = true := decide_eq_true c7
    try have c7b2 : (9223372036854775807 < (a0 ++ a1).size + 8) = False := eq_false (Nat.not_lt.2 c7)
    try have c7b9 := c7
    try simp only [ByteArray.size_append] at c7b9
    try have c7b8 := eq_false (Nat.not_lt.2 c7b9)
    try replace c7b9 := eq_true c7b9
    obtain rfl := Option.some.inj H
    go_enter Tryd.func69, Tryd.ntmps69
    go_wp2_with (first | ((with_reducible refine gateC (f := 83) rfl ?_); refine goesL_ (some 6) rfl rfl Tryd.func83 (by kernel_rfl) rfl #[.string a1] rfl zm ?_; (with_reducible refine (spec_l1Ends.calls a1 false _ A3.out).mono ?_); rintro e w' ⟨rfl, ⟨nd, rfl⟩⟩; refine ⟨_, rfl, ?_⟩))
    go_ret
    exact ⟨by first | rfl | (simp; done) | (simp [*]; done), by repeat (first | exact Drawn0.refl _ | apply Drawn0.step)⟩
   ·rw [if_neg c7] at H
    exact absurd H (by simp)
  ·rw [if_neg c6] at H
   exact absurd H (by simp)

end Go.Proofs.YtfmbpldjbmhnnaaDoor.My

/- Written by this session's program (wip/gen): a plain function with the same answers as the Go function, and the proof that the Go code comes to them. Asked: that the plain function has an answer. -/
namespace Go.Proofs.YtfmbpldjbmhnnaaDoor.My
open Go.RowKit Go.Proofs.YtfmbpldjbmhnnaaDoorW.PrintWords Go.Proofs.YtfmbpldjbmhnnaaDoorW.PrintLast
set_option linter.unusedVariables false
set_option linter.unusedSimpArgs false

/-! ### spec_l5Text: function 46 -/
mutual
def spec_l5Text.l0 : Nat → ByteArray → List (S56) → Int → Int → Option (ByteArray)
 | 0, _, _, _, _ => none
 | k + 1, x3, x11, x12, x13 => if x13 < x12 then (if 0 ≤ x13 then (if x13 < (x11.length : Int) then (if (((rd_T56 x11 x13).f2).length : Int) = 0 then (spec_l5Text.j1 k x3 (⟨#[97]⟩ : ByteArray) x11 x12 x13 ((rd_T56 x11 x13).f0) ((rd_T56 x11 x13).f1) ((rd_T56 x11 x13).f2) ((rd_T56 x11 x13).f3) ((rd_T56 x11 x13).f4) ((rd_T56 x11 x13).f5)) else (if (((rd_T56 x11 x13).f5).length : Int) = 0 then (spec_l5Text.j1 k x3 (⟨#[100]⟩ : ByteArray) x11 x12 x13 ((rd_T56 x11 x13).f0) ((rd_T56 x11 x13).f1) ((rd_T56 x11 x13).f2) ((rd_T56 x11 x13).f3) ((rd_T56 x11 x13).f4) ((rd_T56 x11 x13).f5)) else (spec_l5Text.j1 k x3 (⟨#[99]⟩ : ByteArray) x11 x12 x13 ((rd_T56 x11 x13).f0) ((rd_T56 x11 x13).f1) ((rd_T56 x11 x13).f2) ((rd_T56 x11 x13).f3) ((rd_T56 x11 x13).f4) ((rd_T56 x11 x13).f5)))) else (none)) else (none)) else (some x3)
def spec_l5Text.j1 : Nat → ByteArray → ByteArray → List (S56) → Int → Int → Int → Int → List ByteArray → Int → Int → List ByteArray → Option (ByteArray)
 | 0, _, _, _, _, _, _, _, _, _, _, _ => none
 | k + 1, x3, x6, x11, x12, x13, x298000, x298001, x298002, x298003, x298004, x298005 => (spec_l5Numbers.f k x298000 x298001).bind fun t298 => (if t298.size + x6.size ≤ 9223372036854775807 then ((spec_l5Numbers.f k x298003 x298004).bind fun t299 => (if (t298 ++ x6).size + t299.size ≤ 9223372036854775807 then (if ((t298 ++ x6) ++ t299).size + 1 ≤ 9223372036854775807 then (if x3.size + (((t298 ++ x6) ++ t299) ++ (⟨#[10]⟩ : ByteArray)).size ≤ 9223372036854775807 then (spec_l5Text.l1 k (x3 ++ (((t298 ++ x6) ++ t299) ++ (⟨#[10]⟩ : ByteArray))) x6 x11 x12 x13 x298002 (x298002.length : Int) 0 x298000 x298001 x298002 x298003 x298004 x298005) else (none)) else (none)) else (none))) else (none))
def spec_l5Text.l1 : Nat → ByteArray → ByteArray → List (S56) → Int → Int → List ByteArray → Int → Int → Int → Int → List ByteArray → Int → Int → List ByteArray → Option (ByteArray)
 | 0, _, _, _, _, _, _, _, _, _, _, _, _, _, _ => none
 | k + 1, x3, x6, x11, x12, x13, x44, x45, x46, x298000, x298001, x298002, x298003, x298004, x298005 => if x46 < x45 then (if 0 ≤ x46 then (if x46 < (x44.length : Int) then ((spec_l5Shown.f (⟨#[60, 32]⟩ : ByteArray) (rdOf ByteArray.empty x44 x46)).bind fun t301 => (if x3.size + t301.size ≤ 9223372036854775807 then (spec_l5Text.l1 k (x3 ++ t301) x6 x11 x12 x13 x44 x45 (wrap64 (x46 + 1)) x298000 x298001 x298002 x298003 x298004 x298005) else (none))) else (none)) else (none)) else (if x6.toList = ([99] : List UInt8) then (if x3.size + 4 ≤ 9223372036854775807 then (spec_l5Text.j3 k (x3 ++ (⟨#[45, 45, 45, 10]⟩ : ByteArray)) x11 x12 x13 x298000 x298001 x298002 x298003 x298004 x298005) else (none)) else (spec_l5Text.j3 k x3 x11 x12 x13 x298000 x298001 x298002 x298003 x298004 x298005))
def spec_l5Text.j3 : Nat → ByteArray → List (S56) → Int → Int → Int → Int → List ByteArray → Int → Int → List ByteArray → Option (ByteArray)
 | 0, _, _, _, _, _, _, _, _, _, _ => none
 | k + 1, x3, x11, x12, x13, x298000, x298001, x298002, x298003, x298004, x298005 => spec_l5Text.l2 k x3 x11 x12 x13 x298005 (x298005.length : Int) 0
def spec_l5Text.l2 : Nat → ByteArray → List (S56) → Int → Int → List ByteArray → Int → Int → Option (ByteArray)
 | 0, _, _, _, _, _, _, _ => none
 | k + 1, x3, x11, x12, x13, x60, x61, x62 => if x62 < x61 then (if 0 ≤ x62 then (if x62 < (x60.length : Int) then ((spec_l5Shown.f (⟨#[62, 32]⟩ : ByteArray) (rdOf ByteArray.empty x60 x62)).bind fun t303 => (if x3.size + t303.size ≤ 9223372036854775807 then (spec_l5Text.l2 k (x3 ++ t303) x11 x12 x13 x60 x61 (wrap64 (x62 + 1))) else (none))) else (none)) else (none)) else (spec_l5Text.l0 k x3 x11 x12 (wrap64 (x13 + 1)))
end
def spec_l5Text.f (k : Nat) (l0 : List (S56)) : Option (ByteArray) := spec_l5Text.l0 k (⟨#[]⟩ : ByteArray) l0 (l0.length : Int) 0
def spec_l5Text.T10 : Bool × List (List Nat × List Nat) := (true, [([], []), ([], []), ([1], [1]), ([], []), ([3], [3]), ([2, 4], [2, 4]), ([], []), ([5, 6], [5, 6]), ([], []), ([8], [8]), ([], []), ([10], [10]), ([9, 11, 5], [9, 11]), ([7, 12], [7, 12]), ([13], [13]), ([0, 14], [0, 14]), ([15, 12, 0, 1, 2, 3, 4, 5, 6, 7, 8, 9, 10, 11, 12, 13, 14, 15], [0, 15])])
def spec_l5Text.B10 : List Nat := [0, 0, 2, 0, 8, 30, 0, 126, 0, 256, 0, 1024, 3902, 8190, 16382, 32767, 65535]
theorem spec_l5Text.tab10 : rtab .any (opsOf Tryd.f46 10) = spec_l5Text.T10 := by kernel_rfl
theorem spec_l5Text.bits10 : waitsOk spec_l5Text.T10.2 spec_l5Text.B10 = true := by kernel_rfl
set_option maxHeartbeats 8000000 in
set_option maxRecDepth 100000 in
theorem spec_l5Text.calls (k : Nat) (A0 : Option Addr) (c0 : Nat) (l0 : List (S56)) (r : ByteArray) (w : World) (hr0 : Kd.C k56 w A0 l0.length l0) (hc0 : l0.length ≤ c0) (h : spec_l5Text.f k l0 = some r) :
  Calls Tryd.prog 46 #[.slice A0 l0.length c0] w fun e w' => e = .returned (.string r) ∧ Below w.heap.size w w' := by
 have hu56 := Tryd.underlying56
 have HR0 := Aside0.mk hr0
 have HC0 := Aside0.mk hc0
 clear hr0 hc0
 have HB := Aside0.mk (Below.refl w.heap.size w)
 have H : (spec_l5Text.l0 k (⟨#[]⟩ : ByteArray) l0 (l0.length : Int) 0) = some r := h
 clear h
 have H' := Aside0.mk H
 clear H
 go_enter Tryd.func46, Tryd.ntmps46
 go_wp2
 go_loopg [3, 13] k (fun kq v3 v13 w' => ∃ (x3_1 : ByteArray) (x13_1 : Int), v3 = .string x3_1 ∧ v13 = .int .i64 x13_1 ∧ Aside0 (spec_l5Text.l0 kq x3_1 l0 (l0.length : Int) x13_1 = some r) ∧ Aside0 (kq ≤ k) ∧ Aside0 (Below w.heap.size w w'))
 case atStart => exact ⟨((⟨#[]⟩ : ByteArray)), (0), zf, zf, H', ⟨Nat.le_refl _⟩, ⟨by repeat (first | (with_reducible first | exact HB.out | apply below_alloc | apply pw_below_drewN | apply below_drew1) | exact HB.out)⟩⟩
 case round =>
  clear H'
  obtain ⟨x3_1, x13_1, rfl, rfl, HA, HK1, HB⟩ := hrel
  cases gk with
  | zero => exact absurd HA.out (by simp [spec_l5Text.l0])
  | succ k1 =>
   have H := HA.out
   clear HA
   simp only [spec_l5Text.l0] at H
   by_cases c2 : x13_1 < (l0.length : Int)
   ·rw [if_pos c2] at H
    have c2b0 : decide (x13_1 < (l0.length : Int)) = true := decide_eq_true c2
    clear c2
    by_cases c3 : 0 ≤ x13_1
    ·rw [if_pos c3] at H
     have c3b0 : decide (0 ≤ x13_1) = true := decide_eq_true c3
     clear c3
     by_cases c4 : x13_1 < (l0.length : Int)
     ·rw [if_pos c4] at H
      have c4b0 : decide (x13_1 < (l0.length : Int)) = true := decide_eq_true c4
      clear c4
      have HC5 := Aside0.mk H
      clear H
      have p296 : 0 ≤ (x13_1 : Int) := oa
      have q296 : x13_1 < (l0.length : Int) := oa
      obtain ⟨ad296, A296_2, c296_2, A296_5, c296_5, e296, hx296_0, hx296_1, hx296_2, hx296_3, hx296_4, hx296_5, hl296_2, hi296_2, hl296_5, hi296_5⟩ := at_T56 HR0.out x13_1 p296 q296
      cases e296
      replace hx296_0 := (HB.out.cell (World.block_lt_of_cell? w _ hx296_0)).trans hx296_0
      replace hx296_1 := (HB.out.cell (World.block_lt_of_cell? w _ hx296_1)).trans hx296_1
      replace hx296_2 := (HB.out.cell (World.block_lt_of_cell? w _ hx296_2)).trans hx296_2
      replace hx296_3 := (HB.out.cell (World.block_lt_of_cell? w _ hx296_3)).trans hx296_3
      replace hx296_4 := (HB.out.cell (World.block_lt_of_cell? w _ hx296_4)).trans hx296_4
      replace hx296_5 := (HB.out.cell (World.block_lt_of_cell? w _ hx296_5)).trans hx296_5
      have HR296_2 := Aside0.mk hi296_2
      have HC296_2 := Aside0.mk hl296_2
      clear hi296_2 hl296_2
      have HR296_5 := Aside0.mk hi296_5
      have HC296_5 := Aside0.mk hl296_5
      clear hi296_5 hl296_5
      replace p296 := eq_true p296
      replace q296 := eq_true q296
      go_upto_block 2 with (first | ((with_reducible refine gate_dst (N := 5) rfl ?_); refine box_event ?hg (N := 5) ?hd (cs := #[.int .i64 0, .int .i64 0, .slice none 0 0, .int .i64 0, .int .i64 0, .slice none 0 0]) (t := 56) ?hr ?_; (case hd => rfl); (case hg => rfl); (case hr => first | (go_simp; done) | (go_simp; rfl)); intro gb297 hg w6 hbox hb; have n0_ := Aside0.mk (below_step zb hb); have n1_ := Aside0.mk (hbox); have n2_ := Aside0.mk ((by rw [hg]; exact (below_size zb) : w.heap.size ≤ gb297)); have n3_ := Aside0.mk ((by rw [hg]; exact (below_size zb) : w.heap.size ≤ gb297)); clear HB; have HB := n0_; have BK297 := n1_; have GW297 := n2_; have GE297 := n3_; clear n0_ n1_ n2_ n3_; clear hb hbox hg; have hcz7_0 : w6.cell? ⟨gb297, 0, none⟩ = some (.int .i64 0) := (blk_cell BK297.out 0).trans rfl; have hcz7_1 : w6.cell? ⟨gb297, 1, none⟩ = some (.int .i64 0) := (blk_cell BK297.out 1).trans rfl; have hcz7_2 : w6.cell? ⟨gb297, 2, none⟩ = some (.slice none 0 0) := (blk_cell BK297.out 2).trans rfl; have hcz7_3 : w6.cell? ⟨gb297, 3, none⟩ = some (.int .i64 0) := (blk_cell BK297.out 3).trans rfl; have hcz7_4 : w6.cell? ⟨gb297, 4, none⟩ = some (.int .i64 0) := (blk_cell BK297.out 4).trans rfl; have hcz7_5 : w6.cell? ⟨gb297, 5, none⟩ = some (.slice none 0 0) := (blk_cell BK297.out 5).trans rfl; have hfz7_0 := blk_frozen BK297.out 0; have hfz7_1 := blk_frozen BK297.out 1; have hfz7_2 := blk_frozen BK297.out 2; have hfz7_3 := blk_frozen BK297.out 3; have hfz7_4 := blk_frozen BK297.out 4; have hfz7_5 := blk_frozen BK297.out 5))
      (try simp only [Act.put, List.setIfInBounds_toArray, List.set_cons_zero, List.set_cons_succ])
      go_cut [6] (fun v6 wc => ∃ (kq : Nat) (x6_4 : ByteArray), v6 = .string x6_4 ∧ Aside0 (spec_l5Text.j1 kq x3_1 x6_4 l0 (l0.length : Int) x13_1 ((rd_T56 l0 x13_1).f0) ((rd_T56 l0 x13_1).f1) ((rd_T56 l0 x13_1).f2) ((rd_T56 l0 x13_1).f3) ((rd_T56 l0 x13_1).f4) ((rd_T56 l0 x13_1).f5) = some r) ∧ Aside0 (kq ≤ k1) ∧ Aside0 (wc.heap[gb297]? = some (.cells #[.int .i64 ((rd_T56 l0 x13_1).f0), .int .i64 ((rd_T56 l0 x13_1).f1), (.slice A296_2 ((rd_T56 l0 x13_1).f2).length c296_2), .int .i64 ((rd_T56 l0 x13_1).f3), .int .i64 ((rd_T56 l0 x13_1).f4), (.slice A296_5 ((rd_T56 l0 x13_1).f5).length c296_5)] 56 (0, 0))) ∧ Aside0 (Below w.heap.size w wc))
      case first =>
       have H := HC5.out
       clear HC5
       by_cases c8 : (((rd_T56 l0 x13_1).f2).length : Int) = 0
       ·rw [if_pos c8] at H
        have c8b0 : ((((rd_T56 l0 x13_1).f2).length : Int) == 0) = true := beq_iff_eq.mpr c8
        have c8b1 : ((((rd_T56 l0 x13_1).f2).length : Int) != 0) = false := bne_eq_false_iff_eq.mpr c8
        clear c8
        (first | rw [c8b0] | (simp only [i64_w, i32_w]; rw [c8b0]) | skip)
        have H' := Aside0.mk H
        clear H
        have hcz9_0 : w6.cell? ⟨gb297, 0, none⟩ = some (.int .i64 0) := (blk_cell BK297.out 0).trans rfl
        have hcz9_1 : w6.cell? ⟨gb297, 1, none⟩ = some (.int .i64 0) := (blk_cell BK297.out 1).trans rfl
        have hcz9_2 : w6.cell? ⟨gb297, 2, none⟩ = some (.slice none 0 0) := (blk_cell BK297.out 2).trans rfl
        have hcz9_3 : w6.cell? ⟨gb297, 3, none⟩ = some (.int .i64 0) := (blk_cell BK297.out 3).trans rfl
        have hcz9_4 : w6.cell? ⟨gb297, 4, none⟩ = some (.int .i64 0) := (blk_cell BK297.out 4).trans rfl
        have hcz9_5 : w6.cell? ⟨gb297, 5, none⟩ = some (.slice none 0 0) := (blk_cell BK297.out 5).trans rfl
        have hfz9_0 := blk_frozen BK297.out 0
        have hfz9_1 := blk_frozen BK297.out 1
        have hfz9_2 := blk_frozen BK297.out 2
        have hfz9_3 := blk_frozen BK297.out 3
        have hfz9_4 := blk_frozen BK297.out 4
        have hfz9_5 := blk_frozen BK297.out 5
        go_wp2
        go_meet
        case rel => exact ⟨_, ((⟨#[97]⟩ : ByteArray)), zf, H', ⟨by have := HK1.out; first | omega | exact Nat.le_refl _⟩, ⟨by (with_reducible repeat (first | refine blk_drewN ?_ _ | refine blk_drew ?_ | refine blk_alloc ?_ _)); refine blk_put (cs := #[.int .i64 ((rd_T56 l0 x13_1).f0), .int .i64 ((rd_T56 l0 x13_1).f1), .slice A296_2 ((rd_T56 l0 x13_1).f2).length c296_2, .int .i64 ((rd_T56 l0 x13_1).f3), .int .i64 ((rd_T56 l0 x13_1).f4), .slice none 0 0]) ?_ 5 _ rfl; (with_reducible repeat (first | refine blk_drewN ?_ _ | refine blk_drew ?_ | refine blk_alloc ?_ _)); refine blk_put (cs := #[.int .i64 ((rd_T56 l0 x13_1).f0), .int .i64 ((rd_T56 l0 x13_1).f1), .slice A296_2 ((rd_T56 l0 x13_1).f2).length c296_2, .int .i64 ((rd_T56 l0 x13_1).f3), .int .i64 0, .slice none 0 0]) ?_ 4 _ rfl; (with_reducible repeat (first | refine blk_drewN ?_ _ | refine blk_drew ?_ | refine blk_alloc ?_ _)); refine blk_put (cs := #[.int .i64 ((rd_T56 l0 x13_1).f0), .int .i64 ((rd_T56 l0 x13_1).f1), .slice A296_2 ((rd_T56 l0 x13_1).f2).length c296_2, .int .i64 0, .int .i64 0, .slice none 0 0]) ?_ 3 _ rfl; (with_reducible repeat (first | refine blk_drewN ?_ _ | refine blk_drew ?_ | refine blk_alloc ?_ _)); refine blk_put (cs := #[.int .i64 ((rd_T56 l0 x13_1).f0), .int .i64 ((rd_T56 l0 x13_1).f1), .slice none 0 0, .int .i64 0, .int .i64 0, .slice none 0 0]) ?_ 2 _ rfl; (with_reducible repeat (first | refine blk_drewN ?_ _ | refine blk_drew ?_ | refine blk_alloc ?_ _)); refine blk_put (cs := #[.int .i64 ((rd_T56 l0 x13_1).f0), .int .i64 0, .slice none 0 0, .int .i64 0, .int .i64 0, .slice none 0 0]) ?_ 1 _ rfl; (with_reducible repeat (first | refine blk_drewN ?_ _ | refine blk_drew ?_ | refine blk_alloc ?_ _)); refine blk_put (cs := #[.int .i64 0, .int .i64 0, .slice none 0 0, .int .i64 0, .int .i64 0, .slice none 0 0]) ?_ 0 _ rfl; (with_reducible repeat (first | refine blk_drewN ?_ _ | refine blk_drew ?_ | refine blk_alloc ?_ _)); exact BK297.out⟩, ⟨by repeat (first | (with_reducible first | exact HB.out | apply below_alloc | apply pw_below_drewN | apply below_drew1 | refine below_set ?_ GE297.out) | exact HB.out)⟩⟩
       ·rw [if_neg c8] at H
        have c8b0 : ((((rd_T56 l0 x13_1).f2).length : Int) == 0) = false := beq_eq_false_iff_ne.mpr c8
        have c8b1 : ((((rd_T56 l0 x13_1).f2).length : Int) != 0) = true := bne_iff_ne.mpr c8
        have c8b2 : ¬ (((rd_T56 l0 x13_1).f2) = []) := fun h_ => c8 (by rw [h_]; rfl)
        (first | rw [c8b0] | (simp only [i64_w, i32_w]; rw [c8b0]) | skip)
        by_cases c10 : (((rd_T56 l0 x13_1).f5).length : Int) = 0
        ·rw [if_pos c10] at H
         have c10b0 : ((((rd_T56 l0 x13_1).f5).length : Int) == 0) = true := beq_iff_eq.mpr c10
         have c10b1 : ((((rd_T56 l0 x13_1).f5).length : Int) != 0) = false := bne_eq_false_iff_eq.mpr c10
         clear c10
         have H' := Aside0.mk H
         clear H
         have hcz11_0 : w6.cell? ⟨gb297, 0, none⟩ = some (.int .i64 0) := (blk_cell BK297.out 0).trans rfl
         have hcz11_1 : w6.cell? ⟨gb297, 1, none⟩ = some (.int .i64 0) := (blk_cell BK297.out 1).trans rfl
         have hcz11_2 : w6.cell? ⟨gb297, 2, none⟩ = some (.slice none 0 0) := (blk_cell BK297.out 2).trans rfl
         have hcz11_3 : w6.cell? ⟨gb297, 3, none⟩ = some (.int .i64 0) := (blk_cell BK297.out 3).trans rfl
         have hcz11_4 : w6.cell? ⟨gb297, 4, none⟩ = some (.int .i64 0) := (blk_cell BK297.out 4).trans rfl
         have hcz11_5 : w6.cell? ⟨gb297, 5, none⟩ = some (.slice none 0 0) := (blk_cell BK297.out 5).trans rfl
         have hfz11_0 := blk_frozen BK297.out 0
         have hfz11_1 := blk_frozen BK297.out 1
         have hfz11_2 := blk_frozen BK297.out 2
         have hfz11_3 := blk_frozen BK297.out 3
         have hfz11_4 := blk_frozen BK297.out 4
         have hfz11_5 := blk_frozen BK297.out 5
         go_wp2
         go_meet
         case rel => exact ⟨_, ((⟨#[100]⟩ : ByteArray)), zf, H', ⟨by have := HK1.out; first | omega | exact Nat.le_refl _⟩, ⟨by (with_reducible repeat (first | refine blk_drewN ?_ _ | refine blk_drew ?_ | refine blk_alloc ?_ _)); refine blk_put (cs := #[.int .i64 ((rd_T56 l0 x13_1).f0), .int .i64 ((rd_T56 l0 x13_1).f1), .slice A296_2 ((rd_T56 l0 x13_1).f2).length c296_2, .int .i64 ((rd_T56 l0 x13_1).f3), .int .i64 ((rd_T56 l0 x13_1).f4), .slice none 0 0]) ?_ 5 _ rfl; (with_reducible repeat (first | refine blk_drewN ?_ _ | refine blk_drew ?_ | refine blk_alloc ?_ _)); refine blk_put (cs := #[.int .i64 ((rd_T56 l0 x13_1).f0), .int .i64 ((rd_T56 l0 x13_1).f1), .slice A296_2 ((rd_T56 l0 x13_1).f2).length c296_2, .int .i64 ((rd_T56 l0 x13_1).f3), .int .i64 0, .slice none 0 0]) ?_ 4 _ rfl; (with_reducible repeat (first | refine blk_drewN ?_ _ | refine blk_drew ?_ | refine blk_alloc ?_ _)); refine blk_put (cs := #[.int .i64 ((rd_T56 l0 x13_1).f0), .int .i64 ((rd_T56 l0 x13_1).f1), .slice A296_2 ((rd_T56 l0 x13_1).f2).length c296_2, .int .i64 0, .int .i64 0, .slice none 0 0]) ?_ 3 _ rfl; (with_reducible repeat (first | refine blk_drewN ?_ _ | refine blk_drew ?_ | refine blk_alloc ?_ _)); refine blk_put (cs := #[.int .i64 ((rd_T56 l0 x13_1).f0), .int .i64 ((rd_T56 l0 x13_1).f1), .slice none 0 0, .int .i64 0, .int .i64 0, .slice none 0 0]) ?_ 2 _ rfl; (with_reducible repeat (first | refine blk_drewN ?_ _ | refine blk_drew ?_ | refine blk_alloc ?_ _)); refine blk_put (cs := #[.int .i64 ((rd_T56 l0 x13_1).f0), .int .i64 0, .slice none 0 0, .int .i64 0, .int .i64 0, .slice none 0 0]) ?_ 1 _ rfl; (with_reducible repeat (first | refine blk_drewN ?_ _ | refine blk_drew ?_ | refine blk_alloc ?_ _)); refine blk_put (cs := #[.int .i64 0, .int .i64 0, .slice none 0 0, .int .i64 0, .int .i64 0, .slice none 0 0]) ?_ 0 _ rfl; (with_reducible repeat (first | refine blk_drewN ?_ _ | refine blk_drew ?_ | refine blk_alloc ?_ _)); exact BK297.out⟩, ⟨by repeat (first | (with_reducible first | exact HB.out | apply below_alloc | apply pw_below_drewN | apply below_drew1 | refine below_set ?_ GE297.out) | exact HB.out)⟩⟩
        ·rw [if_neg c10] at H
         have c10b0 : ((((rd_T56 l0 x13_1).f5).length : Int) == 0) = false := beq_eq_false_iff_ne.mpr c10
         have c10b1 : ((((rd_T56 l0 x13_1).f5).length : Int) != 0) = true := bne_iff_ne.mpr c10
         have c10b2 : ¬ (((rd_T56 l0 x13_1).f5) = []) := fun h_ => c10 (by rw [h_]; rfl)
         have H' := Aside0.mk H
         clear H
         have hcz12_0 : w6.cell? ⟨gb297, 0, none⟩ = some (.int .i64 0) := (blk_cell BK297.out 0).trans rfl
         have hcz12_1 : w6.cell? ⟨gb297, 1, none⟩ = some (.int .i64 0) := (blk_cell BK297.out 1).trans rfl
         have hcz12_2 : w6.cell? ⟨gb297, 2, none⟩ = some (.slice none 0 0) := (blk_cell BK297.out 2).trans rfl
         have hcz12_3 : w6.cell? ⟨gb297, 3, none⟩ = some (.int .i64 0) := (blk_cell BK297.out 3).trans rfl
         have hcz12_4 : w6.cell? ⟨gb297, 4, none⟩ = some (.int .i64 0) := (blk_cell BK297.out 4).trans rfl
         have hcz12_5 : w6.cell? ⟨gb297, 5, none⟩ = some (.slice none 0 0) := (blk_cell BK297.out 5).trans rfl
         have hfz12_0 := blk_frozen BK297.out 0
         have hfz12_1 := blk_frozen BK297.out 1
         have hfz12_2 := blk_frozen BK297.out 2
         have hfz12_3 := blk_frozen BK297.out 3
         have hfz12_4 := blk_frozen BK297.out 4
         have hfz12_5 := blk_frozen BK297.out 5
         go_wp2
         go_meet
         case rel => exact ⟨_, ((⟨#[99]⟩ : ByteArray)), zf, H', ⟨by have := HK1.out; first | omega | exact Nat.le_refl _⟩, ⟨by (with_reducible repeat (first | refine blk_drewN ?_ _ | refine blk_drew ?_ | refine blk_alloc ?_ _)); refine blk_put (cs := #[.int .i64 ((rd_T56 l0 x13_1).f0), .int .i64 ((rd_T56 l0 x13_1).f1), .slice A296_2 ((rd_T56 l0 x13_1).f2).length c296_2, .int .i64 ((rd_T56 l0 x13_1).f3), .int .i64 ((rd_T56 l0 x13_1).f4), .slice none 0 0]) ?_ 5 _ rfl; (with_reducible repeat (first | refine blk_drewN ?_ _ | refine blk_drew ?_ | refine blk_alloc ?_ _)); refine blk_put (cs := #[.int .i64 ((rd_T56 l0 x13_1).f0), .int .i64 ((rd_T56 l0 x13_1).f1), .slice A296_2 ((rd_T56 l0 x13_1).f2).length c296_2, .int .i64 ((rd_T56 l0 x13_1).f3), .int .i64 0, .slice none 0 0]) ?_ 4 _ rfl; (with_reducible repeat (first | refine blk_drewN ?_ _ | refine blk_drew ?_ | refine blk_alloc ?_ _)); refine blk_put (cs := #[.int .i64 ((rd_T56 l0 x13_1).f0), .int .i64 ((rd_T56 l0 x13_1).f1), .slice A296_2 ((rd_T56 l0 x13_1).f2).length c296_2, .int .i64 0, .int .i64 0, .slice none 0 0]) ?_ 3 _ rfl; (with_reducible repeat (first | refine blk_drewN ?_ _ | refine blk_drew ?_ | refine blk_alloc ?_ _)); refine blk_put (cs := #[.int .i64 ((rd_T56 l0 x13_1).f0), .int .i64 ((rd_T56 l0 x13_1).f1), .slice none 0 0, .int .i64 0, .int .i64 0, .slice none 0 0]) ?_ 2 _ rfl; (with_reducible repeat (first | refine blk_drewN ?_ _ | refine blk_drew ?_ | refine blk_alloc ?_ _)); refine blk_put (cs := #[.int .i64 ((rd_T56 l0 x13_1).f0), .int .i64 0, .slice none 0 0, .int .i64 0, .int .i64 0, .slice none 0 0]) ?_ 1 _ rfl; (with_reducible repeat (first | refine blk_drewN ?_ _ | refine blk_drew ?_ | refine blk_alloc ?_ _)); refine blk_put (cs := #[.int .i64 0, .int .i64 0, .slice none 0 0, .int .i64 0, .int .i64 0, .slice none 0 0]) ?_ 0 _ rfl; (with_reducible repeat (first | refine blk_drewN ?_ _ | refine blk_drew ?_ | refine blk_alloc ?_ _)); exact BK297.out⟩, ⟨by repeat (first | (with_reducible first | exact HB.out | apply below_alloc | apply pw_below_drewN | apply below_drew1 | refine below_set ?_ GE297.out) | exact HB.out)⟩⟩
      case rest =>
       clear HC5
       try clear c1
       try clear c2
       try clear c2b0
       try clear p2
       try clear q2
       try clear hx2
       try clear c3
       try clear c3b0
       try clear c4
       try clear c4b0
       try clear c8
       try clear c8b0
       try clear c8b1
       try clear c8b2
       try clear c10
       try clear c10b0
       try clear c10b1
       try clear c10b2
       try clear hcz11_0
       try clear hcz11_1
       try clear hcz11_2
       try clear hcz11_3
       try clear hcz11_4
       try clear hcz11_5
       try clear hcz12_0
       try clear hcz12_1
       try clear hcz12_2
       try clear hcz12_3
       try clear hcz12_4
       try clear hcz12_5
       try clear hcz7_0
       try clear hcz7_1
       try clear hcz7_2
       try clear hcz7_3
       try clear hcz7_4
       try clear hcz7_5
       try clear hcz9_0
       try clear hcz9_1
       try clear hcz9_2
       try clear hcz9_3
       try clear hcz9_4
       try clear hcz9_5
       try clear hfz11_0
       try clear hfz11_1
       try clear hfz11_2
       try clear hfz11_3
       try clear hfz11_4
       try clear hfz11_5
       try clear hfz12_0
       try clear hfz12_1
       try clear hfz12_2
       try clear hfz12_3
       try clear hfz12_4
       try clear hfz12_5
       try clear hfz7_0
       try clear hfz7_1
       try clear hfz7_2
       try clear hfz7_3
       try clear hfz7_4
       try clear hfz7_5
       try clear hfz9_0
       try clear hfz9_1
       try clear hfz9_2
       try clear hfz9_3
       try clear hfz9_4
       try clear hfz9_5
       try clear hx296_0
       try clear hx296_1
       try clear hx296_2
       try clear hx296_3
       try clear hx296_4
       try clear hx296_5
       try clear p296
       try clear q296
       obtain ⟨kq, x6_4, rfl, HA, HJ4, BK297, HB⟩ := hcut
       cases kq with
       | zero => exact absurd HA.out (by simp [spec_l5Text.j1])
       | succ kj4 =>
        have H := HA.out
        clear HA
        simp only [spec_l5Text.j1] at H
        replace H := Option.bind_eq_some_iff.mp H
        obtain ⟨t298, A130, H⟩ := H
        replace H : (if t298.size + x6_4.size ≤ 9223372036854775807 then ((spec_l5Numbers.f kj4 ((rd_T56 l0 x13_1).f3) ((rd_T56 l0 x13_1).f4)).bind fun t299 => (if (t298 ++ x6_4).size + t299.size ≤ 9223372036854775807 then (if ((t298 ++ x6_4) ++ t299).size + 1 ≤ 9223372036854775807 then (if x3_1.size + (((t298 ++ x6_4) ++ t299) ++ (⟨#[10]⟩ : ByteArray)).size ≤ 9223372036854775807 then (spec_l5Text.l1 kj4 (x3_1 ++ (((t298 ++ x6_4) ++ t299) ++ (⟨#[10]⟩ : ByteArray))) x6_4 l0 (l0.length : Int) x13_1 ((rd_T56 l0 x13_1).f2) (((rd_T56 l0 x13_1).f2).length : Int) 0 ((rd_T56 l0 x13_1).f0) ((rd_T56 l0 x13_1).f1) ((rd_T56 l0 x13_1).f2) ((rd_T56 l0 x13_1).f3) ((rd_T56 l0 x13_1).f4) ((rd_T56 l0 x13_1).f5)) else (none)) else (none)) else (none))) else (none)) = some r := H
        have A13 := Aside0.mk A130
        clear A130
        by_cases c14 : t298.size + x6_4.size ≤ 9223372036854775807
        ·rw [if_pos c14] at H
         have c14b0 := eq_true c14
         have c14b1 : decide (t298.size + x6_4.size ≤ 9223372036854775807) = true := decide_eq_true c14
         try have c14b2 : (9223372036854775807 < t298.size + x6_4.size) = False := eq_false (Nat.not_lt.2 c14)
         replace H := Option.bind_eq_some_iff.mp H
         obtain ⟨t299, A150, H⟩ := H
         replace H : (if (t298 ++ x6_4).size + t299.size ≤ 9223372036854775807 then (if ((t298 ++ x6_4) ++ t299).size + 1 ≤ 9223372036854775807 then (if x3_1.size + (((t298 ++ x6_4) ++ t299) ++ (⟨#[10]⟩ : ByteArray)).size ≤ 9223372036854775807 then (spec_l5Text.l1 kj4 (x3_1 ++ (((t298 ++ x6_4) ++ t299) ++ (⟨#[10]⟩ : ByteArray))) x6_4 l0 (l0.length : Int) x13_1 ((rd_T56 l0 x13_1).f2) (((rd_T56 l0 x13_1).f2).length : Int) 0 ((rd_T56 l0 x13_1).f0) ((rd_T56 l0 x13_1).f1) ((rd_T56 l0 x13_1).f2) ((rd_T56 l0 x13_1).f3) ((rd_T56 l0 x13_1).f4) ((rd_T56 l0 x13_1).f5)) else (none)) else (none)) else (none)) = some r := H
         have A15 := Aside0.mk A150
         clear A150
         by_cases c16 : (t298 ++ x6_4).size + t299.size ≤ 9223372036854775807
         ·rw [if_pos c16] at H
          have c16b0 := eq_true c16
          have c16b1 : decide ((t298 ++ x6_4).size + t299.size ≤ 9223372036854775807) = true := decide_eq_true c16
          try have c16b2 : (9223372036854775807 < (t298 ++ x6_4).size + t299.size) = False := eq_false (Nat.not_lt.2 c16)
          try have c16b9 := c16
          try simp only [ByteArray.size_append] at c16b9
          try have c16b8 := eq_false (Nat.not_lt.2 c16b9)
          try replace c16b9 := eq_true c16b9
          by_cases c17 : ((t298 ++ x6_4) ++ t299).size + 1 ≤ 9223372036854775807
          ·rw [if_pos c17] at H
           have c17b0 := eq_true c17
           have c17b1 : decide (((t298 ++ x6_4) ++ t299).size + 1 ≤ 9223372036854775807) = true := decide_eq_true c17
           try have c17b2 : (9223372036854775807 < ((t298 ++ x6_4) ++ t299).size + 1) = False := eq_false (Nat.not_lt.2 c17)
           try have c17b9 := c17
           try simp only [ByteArray.size_append] at c17b9
           try have c17b8 := eq_false (Nat.not_lt.2 c17b9)
           try replace c17b9 := eq_true c17b9
           by_cases c18 : x3_1.size + (((t298 ++ x6_4) ++ t299) ++ (⟨#[10]⟩ : ByteArray)).size ≤ 9223372036854775807
           ·rw [if_pos c18] at H
            have c18b0 := eq_true c18
            have c18b1 : decide (x3_1.size + (((t298 ++ x6_4) ++ t299) ++ (⟨#[10]⟩ : ByteArray)).size ≤ 9223372036854775807) = true := decide_eq_true c18
            try have c18b2 : (9223372036854775807 < x3_1.size + (((t298 ++ x6_4) ++ t299) ++ (⟨#[10]⟩ : ByteArray)).size) = False := eq_false (Nat.not_lt.2 c18)
            try have c18b9 := c18
            try simp only [ByteArray.size_append, show (⟨#[10]⟩ : ByteArray).size = 1 from rfl] at c18b9
            try have c18b8 := eq_false (Nat.not_lt.2 c18b9)
            try replace c18b9 := eq_true c18b9
            have H' := Aside0.mk H
            clear H
            try go_wp2
            have n0_ := Aside0.mk (blk_drew BK297.out)
            have n1_ := Aside0.mk (below_drew1 HB.out)
            clear BK297
            clear HB
            have BK297 := n0_
            have HB := n1_
            clear n0_ n1_
            refine start_ (n := 17) (S := fun w' => w'.cell? ⟨gb297, 0, none⟩ = some (.int .i64 ((rd_T56 l0 x13_1).f0)) ∧ w'.cell? ⟨gb297, 1, none⟩ = some (.int .i64 ((rd_T56 l0 x13_1).f1)) ∧ w'.cell? ⟨gb297, 2, none⟩ = some (.slice A296_2 ((rd_T56 l0 x13_1).f2).length c296_2) ∧ w'.cell? ⟨gb297, 3, none⟩ = some (.int .i64 ((rd_T56 l0 x13_1).f3)) ∧ w'.cell? ⟨gb297, 4, none⟩ = some (.int .i64 ((rd_T56 l0 x13_1).f4)) ∧ w'.cell? ⟨gb297, 5, none⟩ = some (.slice A296_5 ((rd_T56 l0 x13_1).f5).length c296_5)) (ds := []) #[O,O,O,O,O,O,O,O,O,O,O,O,O,O,O,O,O] (by kernel_rfl) rfl rfl ⟨(blk_cell BK297.out 0).trans rfl, (blk_cell BK297.out 1).trans rfl, (blk_cell BK297.out 2).trans rfl, (blk_cell BK297.out 3).trans rfl, (blk_cell BK297.out 4).trans rfl, (blk_cell BK297.out 5).trans rfl⟩ (fun hHeld => ?_); refine with_tabW spec_l5Text.tab10 spec_l5Text.bits10 (fun HT_ HW_ => ?_)
            generalize wc.drew = w19 at BK297 HB hHeld ⊢
            refine pure_ (i := 0) (N := some 27) (v := ?_) (a' := ?_) #[Y,O,O,O,O,O,O,O,O,O,O,O,O,O,O,O,O] rfl rfl zx (fun _ _ _ h => h) (Or.inl ⟨by rfl, ?_⟩) ?_ ?_
            rotate_left; (intro w'; go_simp; with_reducible rfl); rotate_left; (simp only [Act.put,qa,qb,qc,i64_w,i32_w]; rfl)
            refine pure_ (i := 1) (N := some 28) (v := ?_) (a' := ?_) #[Y,Y,O,O,O,O,O,O,O,O,O,O,O,O,O,O,O] rfl rfl zx (fun _ _ _ h => h) (Or.inl ⟨by rfl, ?_⟩) ?_ ?_
            rotate_left; (intro w'; go_simp; with_reducible rfl); rotate_left; (simp only [Act.put,qa,qb,qc,i64_w,i32_w]; rfl)
            refine pure_ (i := 3) (N := some 30) (v := ?_) (a' := ?_) #[Y,Y,O,Y,O,O,O,O,O,O,O,O,O,O,O,O,O] rfl rfl zx (fun _ _ _ h => h) (Or.inl ⟨by rfl, ?_⟩) ?_ ?_
            rotate_left; (intro w'; go_simp; with_reducible rfl); rotate_left; (simp only [Act.put,qa,qb,qc,i64_w,i32_w]; rfl)
            refine pure_ (i := 6) (N := some 33) (v := ?_) (a' := ?_) #[Y,Y,O,Y,O,O,Y,O,O,O,O,O,O,O,O,O,O] rfl rfl zx (fun _ _ _ h => h) (Or.inl ⟨by rfl, ?_⟩) ?_ ?_
            rotate_left; (intro w'; go_simp; with_reducible rfl); rotate_left; (simp only [Act.put,qa,qb,qc,i64_w,i32_w]; rfl)
            refine pure_ (i := 8) (N := some 35) (v := ?_) (a' := ?_) #[Y,Y,O,Y,O,O,Y,O,Y,O,O,O,O,O,O,O,O] rfl rfl zx (fun _ _ _ h => h) (Or.inl ⟨by rfl, ?_⟩) ?_ ?_
            rotate_left; (intro w'; go_simp; with_reducible rfl); rotate_left; (simp only [Act.put,qa,qb,qc,i64_w,i32_w]; rfl)
            refine pure_ (i := 10) (N := some 37) (v := ?_) (a' := ?_) #[Y,Y,O,Y,O,O,Y,O,Y,O,Y,O,O,O,O,O,O] rfl rfl zx (fun _ _ _ h => h) (Or.inl ⟨by rfl, ?_⟩) ?_ ?_
            rotate_left; (intro w'; go_simp; with_reducible rfl); rotate_left; (simp only [Act.put,qa,qb,qc,i64_w,i32_w]; rfl)
            refine take_ (i := 2) (N := some 29) (v := ?_) (a' := ?_) #[Y,Y,Y,Y,O,O,Y,O,Y,O,Y,O,O,O,O,O,O] rfl rfl (take_ofW HT_.out HW_.out (by kernel_rfl)) (fun _ _ _ h => h) (Or.inl ⟨by rfl, ?_⟩) hHeld ?_ ?_
            rotate_left; (rintro w' ⟨s0, s1, s2, s3, s4, s5⟩; go_simp; with_reducible rfl); rotate_left; (simp only [Act.put,qa,qb,qc,i64_w,i32_w]; rfl)
            refine take_ (i := 4) (N := some 31) (v := ?_) (a' := ?_) #[Y,Y,Y,Y,Y,O,Y,O,Y,O,Y,O,O,O,O,O,O] rfl rfl (take_ofW HT_.out HW_.out (by kernel_rfl)) (fun _ _ _ h => h) (Or.inl ⟨by rfl, ?_⟩) hHeld ?_ ?_
            rotate_left; (rintro w' ⟨s0, s1, s2, s3, s4, s5⟩; go_simp; with_reducible rfl); rotate_left; (simp only [Act.put,qa,qb,qc,i64_w,i32_w]; rfl)
            refine take_ (i := 9) (N := some 36) (v := ?_) (a' := ?_) #[Y,Y,Y,Y,Y,O,Y,O,Y,Y,Y,O,O,O,O,O,O] rfl rfl (take_ofW HT_.out HW_.out (by kernel_rfl)) (fun _ _ _ h => h) (Or.inl ⟨by rfl, ?_⟩) hHeld ?_ ?_
            rotate_left; (rintro w' ⟨s0, s1, s2, s3, s4, s5⟩; go_simp; with_reducible rfl); rotate_left; (simp only [Act.put,qa,qb,qc,i64_w,i32_w]; rfl)
            refine take_ (i := 11) (N := some 38) (v := ?_) (a' := ?_) #[Y,Y,Y,Y,Y,O,Y,O,Y,Y,Y,Y,O,O,O,O,O] rfl rfl (take_ofW HT_.out HW_.out (by kernel_rfl)) (fun _ _ _ h => h) (Or.inl ⟨by rfl, ?_⟩) hHeld ?_ ?_
            rotate_left; (rintro w' ⟨s0, s1, s2, s3, s4, s5⟩; go_simp; with_reducible rfl); rotate_left; (simp only [Act.put,qa,qb,qc,i64_w,i32_w]; rfl)
            refine one_ (i := 5) (N := some 32) #[Y,Y,Y,Y,Y,Y,Y,O,Y,Y,Y,Y,O,O,O,O,O] rfl rfl (one_of HT_.out (by kernel_rfl)) (by decide) (fun K hK => ?_)
            refine goes_ Tryd.func68 (by kernel_rfl) rfl #[.int .i64 ((rd_T56 l0 x13_1).f0), .int .i64 ((rd_T56 l0 x13_1).f1)] (by rfl) rfl rfl zm ?_
            with_reducible refine (spec_l5Numbers.calls kj4 ((rd_T56 l0 x13_1).f0) ((rd_T56 l0 x13_1).f1) t298 _ A13.out).mono ?_
            rintro e w20 ⟨rfl, hb⟩
            refine ⟨_, rfl, ?_⟩
            have n0_ := Aside0.mk (blk_below (g := gb297) (o := .cells #[.int .i64 ((rd_T56 l0 x13_1).f0), .int .i64 ((rd_T56 l0 x13_1).f1), .slice A296_2 ((rd_T56 l0 x13_1).f2).length c296_2, .int .i64 ((rd_T56 l0 x13_1).f3), .int .i64 ((rd_T56 l0 x13_1).f4), .slice A296_5 ((rd_T56 l0 x13_1).f5).length c296_5] 56 (0, 0)) (zk BK297.out) hb)
            have n1_ := Aside0.mk (below_step (by repeat (first | (with_reducible first | exact HB.out | apply below_alloc | apply pw_below_drewN | apply below_drew1 | refine below_set ?_ GE297.out) | exact HB.out)) hb)
            clear BK297
            clear HB
            have BK297 := n0_
            have HB := n1_
            clear n0_ n1_
            (try clear hb)
            (try clear hb2)
            (try clear hk)
            (try clear hi)
            refine hK.out _ _ ⟨(blk_cell BK297.out 0).trans rfl, (blk_cell BK297.out 1).trans rfl, (blk_cell BK297.out 2).trans rfl, (blk_cell BK297.out 3).trans rfl, (blk_cell BK297.out 4).trans rfl, (blk_cell BK297.out 5).trans rfl⟩ (fun hHeld => ?_)
            clear hK K
            refine norm_ (a' := ?_) ?_ ?_
            rotate_left
            ·show Act.put _ (some 32) _ = _
             simp only [Act.put,qa,qb,qc,i64_w,i32_w]
             rfl
            refine pure_ (i := 7) (N := some 34) (v := ?_) (a' := ?_) #[Y,Y,Y,Y,Y,Y,Y,Y,Y,Y,Y,Y,O,O,O,O,O] rfl rfl zx (fun _ _ _ h => h) (Or.inl ⟨by rfl, ?_⟩) ?_ ?_
            rotate_left; (intro w'; go_simp; with_reducible rfl); rotate_left; (simp only [Act.put,qa,qb,qc,i64_w,i32_w]; rfl)
            refine one_ (i := 12) (N := some 39) #[Y,Y,Y,Y,Y,Y,Y,Y,Y,Y,Y,Y,Y,O,O,O,O] rfl rfl (one_of HT_.out (by kernel_rfl)) (by decide) (fun K hK => ?_)
            refine goes_ Tryd.func68 (by kernel_rfl) rfl #[.int .i64 ((rd_T56 l0 x13_1).f3), .int .i64 ((rd_T56 l0 x13_1).f4)] (by rfl) rfl rfl zm ?_
            with_reducible refine (spec_l5Numbers.calls kj4 ((rd_T56 l0 x13_1).f3) ((rd_T56 l0 x13_1).f4) t299 _ A15.out).mono ?_
            rintro e w21 ⟨rfl, hb⟩
            refine ⟨_, rfl, ?_⟩
            have n0_ := Aside0.mk (blk_below (g := gb297) (o := .cells #[.int .i64 ((rd_T56 l0 x13_1).f0), .int .i64 ((rd_T56 l0 x13_1).f1), .slice A296_2 ((rd_T56 l0 x13_1).f2).length c296_2, .int .i64 ((rd_T56 l0 x13_1).f3), .int .i64 ((rd_T56 l0 x13_1).f4), .slice A296_5 ((rd_T56 l0 x13_1).f5).length c296_5] 56 (0, 0)) (zk BK297.out) hb)
            have n1_ := Aside0.mk (below_step (by repeat (first | (with_reducible first | exact HB.out | apply below_alloc | apply pw_below_drewN | apply below_drew1 | refine below_set ?_ GE297.out) | exact HB.out)) hb)
            clear BK297
            clear HB
            have BK297 := n0_
            have HB := n1_
            clear n0_ n1_
            (try clear hb)
            (try clear hb2)
            (try clear hk)
            (try clear hi)
            refine hK.out _ _ ⟨(blk_cell BK297.out 0).trans rfl, (blk_cell BK297.out 1).trans rfl, (blk_cell BK297.out 2).trans rfl, (blk_cell BK297.out 3).trans rfl, (blk_cell BK297.out 4).trans rfl, (blk_cell BK297.out 5).trans rfl⟩ (fun hHeld => ?_)
            clear hK K
            refine norm_ (a' := ?_) ?_ ?_
            rotate_left
            ·show Act.put _ (some 39) _ = _
             simp only [Act.put,qa,qb,qc,i64_w,i32_w]
             rfl
            refine pure_ (i := 13) (N := some 40) (v := ?_) (a' := ?_) #[Y,Y,Y,Y,Y,Y,Y,Y,Y,Y,Y,Y,Y,Y,O,O,O] rfl rfl zx (fun _ _ _ h => h) (Or.inl ⟨by rfl, ?_⟩) ?_ ?_
            rotate_left; (intro w'; go_simp; with_reducible rfl); rotate_left; (simp only [Act.put,qa,qb,qc,i64_w,i32_w]; rfl)
            refine pure_ (i := 14) (N := some 41) (v := ?_) (a' := ?_) #[Y,Y,Y,Y,Y,Y,Y,Y,Y,Y,Y,Y,Y,Y,Y,O,O] rfl rfl zx (fun _ _ _ h => h) (Or.inl ⟨by rfl, ?_⟩) ?_ ?_
            rotate_left; (intro w'; go_simp; with_reducible rfl); rotate_left; (simp only [Act.put,qa,qb,qc,i64_w,i32_w]; rfl)
            refine pure_ (i := 15) (N := some 42) (v := ?_) (a' := ?_) #[Y,Y,Y,Y,Y,Y,Y,Y,Y,Y,Y,Y,Y,Y,Y,Y,O] rfl rfl zx (fun _ _ _ h => h) (Or.inl ⟨by rfl, ?_⟩) ?_ ?_
            rotate_left; (intro w'; go_simp; with_reducible rfl); rotate_left; (simp only [Act.put,qa,qb,qc,i64_w,i32_w]; rfl)
            refine pure_ (i := 16) (N := some 3) (v := ?_) (a' := ?_) #[Y,Y,Y,Y,Y,Y,Y,Y,Y,Y,Y,Y,Y,Y,Y,Y,Y] rfl rfl zx (fun _ _ _ h => h) (Or.inl ⟨by rfl, ?_⟩) ?_ ?_
            rotate_left; (intro w'; go_simp; with_reducible rfl); rotate_left; (simp only [Act.put,qa,qb,qc,i64_w,i32_w]; rfl)
            refine done_ (done_of HT_.out (by kernel_rfl)) ?_
            have hcz22_0 : w21.cell? ⟨gb297, 0, none⟩ = some (.int .i64 ((rd_T56 l0 x13_1).f0)) := (blk_cell BK297.out 0).trans rfl
            have hcz22_1 : w21.cell? ⟨gb297, 1, none⟩ = some (.int .i64 ((rd_T56 l0 x13_1).f1)) := (blk_cell BK297.out 1).trans rfl
            have hcz22_2 : w21.cell? ⟨gb297, 2, none⟩ = some (.slice A296_2 ((rd_T56 l0 x13_1).f2).length c296_2) := (blk_cell BK297.out 2).trans rfl
            have hcz22_3 : w21.cell? ⟨gb297, 3, none⟩ = some (.int .i64 ((rd_T56 l0 x13_1).f3)) := (blk_cell BK297.out 3).trans rfl
            have hcz22_4 : w21.cell? ⟨gb297, 4, none⟩ = some (.int .i64 ((rd_T56 l0 x13_1).f4)) := (blk_cell BK297.out 4).trans rfl
            have hcz22_5 : w21.cell? ⟨gb297, 5, none⟩ = some (.slice A296_5 ((rd_T56 l0 x13_1).f5).length c296_5) := (blk_cell BK297.out 5).trans rfl
            have hfz22_0 := blk_frozen BK297.out 0
            have hfz22_1 := blk_frozen BK297.out 1
            have hfz22_2 := blk_frozen BK297.out 2
            have hfz22_3 := blk_frozen BK297.out 3
            have hfz22_4 := blk_frozen BK297.out 4
            have hfz22_5 := blk_frozen BK297.out 5
            try go_wp2
            go_loopg [3, 46] kj4 (fun kq v3 v46 w' => ∃ (x3_3 : ByteArray) (x46_3 : Int), v3 = .string x3_3 ∧ v46 = .int .i64 x46_3 ∧ Aside0 (spec_l5Text.l1 kq x3_3 x6_4 l0 (l0.length : Int) x13_1 ((rd_T56 l0 x13_1).f2) (((rd_T56 l0 x13_1).f2).length : Int) x46_3 ((rd_T56 l0 x13_1).f0) ((rd_T56 l0 x13_1).f1) ((rd_T56 l0 x13_1).f2) ((rd_T56 l0 x13_1).f3) ((rd_T56 l0 x13_1).f4) ((rd_T56 l0 x13_1).f5) = some r) ∧ Aside0 (kq ≤ kj4) ∧ Aside0 (w'.heap[gb297]? = some (.cells #[.int .i64 ((rd_T56 l0 x13_1).f0), .int .i64 ((rd_T56 l0 x13_1).f1), (.slice A296_2 ((rd_T56 l0 x13_1).f2).length c296_2), .int .i64 ((rd_T56 l0 x13_1).f3), .int .i64 ((rd_T56 l0 x13_1).f4), (.slice A296_5 ((rd_T56 l0 x13_1).f5).length c296_5)] 56 (0, 0))) ∧ Aside0 (Below w.heap.size w w'))
            case atStart => exact ⟨(x3_1 ++ (((t298 ++ x6_4) ++ t299) ++ (⟨#[10]⟩ : ByteArray))), (0), zf, zf, H', ⟨Nat.le_refl _⟩, ⟨by (with_reducible repeat (first | refine blk_drewN ?_ _ | refine blk_drew ?_ | refine blk_alloc ?_ _)); exact BK297.out⟩, ⟨by repeat (first | (with_reducible first | exact HB.out | apply below_alloc | apply pw_below_drewN | apply below_drew1 | refine below_set ?_ GE297.out) | exact HB.out)⟩⟩
            case round =>
             clear H'
             try clear c1
             try clear c2
             try clear c2b0
             try clear p2
             try clear q2
             try clear hx2
             try clear c3
             try clear c3b0
             try clear c4
             try clear c4b0
             try clear c6
             try clear c8
             try clear c8b0
             try clear c8b1
             try clear c8b2
             try clear c10
             try clear c10b0
             try clear c10b1
             try clear c10b2
             try clear c14
             try clear c14b0
             try clear c14b1
             try clear c14b2
             try clear c16
             try clear c16b0
             try clear c16b1
             try clear c16b2
             try clear c17
             try clear c17b0
             try clear c17b1
             try clear c17b2
             try clear c18
             try clear c18b0
             try clear c18b1
             try clear c18b2
             try clear hcz11_0
             try clear hcz11_1
             try clear hcz11_2
             try clear hcz11_3
             try clear hcz11_4
             try clear hcz11_5
             try clear hcz12_0
             try clear hcz12_1
             try clear hcz12_2
             try clear hcz12_3
             try clear hcz12_4
             try clear hcz12_5
             try clear hcz22_0
             try clear hcz22_1
             try clear hcz22_2
             try clear hcz22_3
             try clear hcz22_4
             try clear hcz22_5
             try clear hcz7_0
             try clear hcz7_1
             try clear hcz7_2
             try clear hcz7_3
             try clear hcz7_4
             try clear hcz7_5
             try clear hcz9_0
             try clear hcz9_1
             try clear hcz9_2
             try clear hcz9_3
             try clear hcz9_4
             try clear hcz9_5
             try clear hfz11_0
             try clear hfz11_1
             try clear hfz11_2
             try clear hfz11_3
             try clear hfz11_4
             try clear hfz11_5
             try clear hfz12_0
             try clear hfz12_1
             try clear hfz12_2
             try clear hfz12_3
             try clear hfz12_4
             try clear hfz12_5
             try clear hfz22_0
             try clear hfz22_1
             try clear hfz22_2
             try clear hfz22_3
             try clear hfz22_4
             try clear hfz22_5
             try clear hfz7_0
             try clear hfz7_1
             try clear hfz7_2
             try clear hfz7_3
             try clear hfz7_4
             try clear hfz7_5
             try clear hfz9_0
             try clear hfz9_1
             try clear hfz9_2
             try clear hfz9_3
             try clear hfz9_4
             try clear hfz9_5
             try clear hx296_0
             try clear hx296_1
             try clear hx296_2
             try clear hx296_3
             try clear hx296_4
             try clear hx296_5
             try clear p2
             try clear p296
             try clear q2
             try clear q296
             obtain ⟨x3_3, x46_3, rfl, rfl, HA, HK3, BK297, HB⟩ := hrel
             cases gk with
             | zero => exact absurd HA.out (by simp [spec_l5Text.l1])
             | succ k3 =>
              have H := HA.out
              clear HA
              simp only [spec_l5Text.l1] at H
              by_cases c23 : x46_3 < (((rd_T56 l0 x13_1).f2).length : Int)
              ·rw [if_pos c23] at H
               have c23b0 : decide (x46_3 < (((rd_T56 l0 x13_1).f2).length : Int)) = true := decide_eq_true c23
               clear c23
               by_cases c24 : 0 ≤ x46_3
               ·rw [if_pos c24] at H
                have c24b0 : decide (0 ≤ x46_3) = true := decide_eq_true c24
                clear c24
                by_cases c25 : x46_3 < (((rd_T56 l0 x13_1).f2).length : Int)
                ·rw [if_pos c25] at H
                 have c25b0 : decide (x46_3 < (((rd_T56 l0 x13_1).f2).length : Int)) = true := decide_eq_true c25
                 clear c25
                 replace H := Option.bind_eq_some_iff.mp H
                 obtain ⟨t301, A260, H⟩ := H
                 replace H : (if x3_3.size + t301.size ≤ 9223372036854775807 then (spec_l5Text.l1 k3 (x3_3 ++ t301) x6_4 l0 (l0.length : Int) x13_1 ((rd_T56 l0 x13_1).f2) (((rd_T56 l0 x13_1).f2).length : Int) (wrap64 (x46_3 + 1)) ((rd_T56 l0 x13_1).f0) ((rd_T56 l0 x13_1).f1) ((rd_T56 l0 x13_1).f2) ((rd_T56 l0 x13_1).f3) ((rd_T56 l0 x13_1).f4) ((rd_T56 l0 x13_1).f5)) else (none)) = some r := H
                 have A26 := Aside0.mk A260
                 clear A260
                 by_cases c27 : x3_3.size + t301.size ≤ 9223372036854775807
                 ·rw [if_pos c27] at H
                  have c27b0 := eq_true c27
                  have c27b1 : decide (x3_3.size + t301.size ≤ 9223372036854775807) = true := decide_eq_true c27
                  try have c27b2 : (9223372036854775807 < x3_3.size + t301.size) = False := eq_false (Nat.not_lt.2 c27)
                  have H' := Aside0.mk H
                  clear H
                  have p300 : 0 ≤ (x46_3 : Int) := oa
                  have q300 : x46_3 < (((rd_T56 l0 x13_1).f2).length : Int) := oa
                  obtain ⟨ad300, e300, hx300_0⟩ := Kd.at_string HR296_2.out x46_3 p300 q300
                  cases e300
                  replace hx300_0 := (HB.out.cell (World.block_lt_of_cell? w _ hx300_0)).trans hx300_0
                  replace p300 := eq_true p300
                  replace q300 := eq_true q300
                  go_wp2_with (first | ((with_reducible refine gateC (f := 69) rfl ?_); refine goesL_ (some 52) rfl rfl Tryd.func69 (by kernel_rfl) rfl #[.string (⟨#[60, 32]⟩ : ByteArray), .string (rdOf ByteArray.empty ((rd_T56 l0 x13_1).f2) x46_3)] rfl zm ?_; (with_reducible refine (spec_l5Shown.calls (⟨#[60, 32]⟩ : ByteArray) (rdOf ByteArray.empty ((rd_T56 l0 x13_1).f2) x46_3) t301 _ A26.out).mono ?_); rintro e w' ⟨rfl, ⟨nd, rfl⟩⟩; refine ⟨_, rfl, ?_⟩))
                  go_roundg k3
                  case measure => have := HK1.out; have := HJ4.out; have := HK3.out; omega
                  case rel => exact ⟨(x3_3 ++ t301), (wrap64 (x46_3 + 1)), zf, zf, H', ⟨by have := HK1.out; have := HJ4.out; have := HK3.out; omega⟩, ⟨by (with_reducible repeat (first | refine blk_drewN ?_ _ | refine blk_drew ?_ | refine blk_alloc ?_ _)); exact BK297.out⟩, ⟨by repeat (first | (with_reducible first | exact HB.out | apply below_alloc | apply pw_below_drewN | apply below_drew1 | refine below_set ?_ GE297.out) | exact HB.out)⟩⟩
                 ·rw [if_neg c27] at H
                  exact absurd H (by simp)
                ·rw [if_neg c25] at H
                 exact absurd H (by simp)
               ·rw [if_neg c24] at H
                exact absurd H (by simp)
              ·rw [if_neg c23] at H
               have c23b0 : decide (x46_3 < (((rd_T56 l0 x13_1).f2).length : Int)) = false := decide_eq_false c23
               clear c23
               have HC28 := Aside0.mk H
               clear H
               go_upto_if 56 with (fail)
               go_cut [3] (fun v3 wc => ∃ (kq : Nat) (x3_27 : ByteArray), v3 = .string x3_27 ∧ Aside0 (spec_l5Text.j3 kq x3_27 l0 (l0.length : Int) x13_1 ((rd_T56 l0 x13_1).f0) ((rd_T56 l0 x13_1).f1) ((rd_T56 l0 x13_1).f2) ((rd_T56 l0 x13_1).f3) ((rd_T56 l0 x13_1).f4) ((rd_T56 l0 x13_1).f5) = some r) ∧ Aside0 (kq ≤ k3) ∧ Aside0 (wc.heap[gb297]? = some (.cells #[.int .i64 ((rd_T56 l0 x13_1).f0), .int .i64 ((rd_T56 l0 x13_1).f1), (.slice A296_2 ((rd_T56 l0 x13_1).f2).length c296_2), .int .i64 ((rd_T56 l0 x13_1).f3), .int .i64 ((rd_T56 l0 x13_1).f4), (.slice A296_5 ((rd_T56 l0 x13_1).f5).length c296_5)] 56 (0, 0))) ∧ Aside0 (Below w.heap.size w wc))
               case first =>
                have H := HC28.out
                clear HC28
                by_cases c29 : x6_4.toList = ([99] : List UInt8)
                ·rw [if_pos c29] at H
                 have c29b0 : (x6_4.toList == ([99] : List UInt8)) = true := beq_iff_eq.mpr c29
                 have c29b1 : (x6_4.toList != ([99] : List UInt8)) = false := bne_eq_false_iff_eq.mpr c29
                 clear c29
                 (first | rw [c29b0] | (simp only [i64_w, i32_w]; rw [c29b0]) | skip)
                 by_cases c30 : x3_3.size + 4 ≤ 9223372036854775807
                 ·rw [if_pos c30] at H
                  have c30b0 := eq_true c30
                  have c30b1 : decide (x3_3.size + 4 ≤ 9223372036854775807) = true := decide_eq_true c30
                  try have c30b2 : (9223372036854775807 < x3_3.size + 4) = False := eq_false (Nat.not_lt.2 c30)
                  have H' := Aside0.mk H
                  clear H
                  go_wp2
                  go_meet
                  case rel => exact ⟨_, (x3_3 ++ (⟨#[45, 45, 45, 10]⟩ : ByteArray)), zf, H', ⟨by have := HK1.out; have := HJ4.out; have := HK3.out; first | omega | exact Nat.le_refl _⟩, ⟨by (with_reducible repeat (first | refine blk_drewN ?_ _ | refine blk_drew ?_ | refine blk_alloc ?_ _)); exact BK297.out⟩, ⟨by repeat (first | (with_reducible first | exact HB.out | apply below_alloc | apply pw_below_drewN | apply below_drew1 | refine below_set ?_ GE297.out) | exact HB.out)⟩⟩
                 ·rw [if_neg c30] at H
                  exact absurd H (by simp)
                ·rw [if_neg c29] at H
                 have c29b0 : (x6_4.toList == ([99] : List UInt8)) = false := beq_eq_false_iff_ne.mpr c29
                 have c29b1 : (x6_4.toList != ([99] : List UInt8)) = true := bne_iff_ne.mpr c29
                 (first | rw [c29b0] | (simp only [i64_w, i32_w]; rw [c29b0]) | skip)
                 have H' := Aside0.mk H
                 clear H
                 go_wp2
                 go_meet
                 case rel => exact ⟨_, (x3_3), zf, H', ⟨by have := HK1.out; have := HJ4.out; have := HK3.out; first | omega | exact Nat.le_refl _⟩, ⟨by (with_reducible repeat (first | refine blk_drewN ?_ _ | refine blk_drew ?_ | refine blk_alloc ?_ _)); exact BK297.out⟩, ⟨by repeat (first | (with_reducible first | exact HB.out | apply below_alloc | apply pw_below_drewN | apply below_drew1 | refine below_set ?_ GE297.out) | exact HB.out)⟩⟩
               case rest =>
                clear HC28
                try clear c1
                try clear c2
                try clear c2b0
                try clear p2
                try clear q2
                try clear hx2
                try clear c3
                try clear c3b0
                try clear p3
                try clear q3
                try clear hx3
                try clear c4
                try clear c4b0
                try clear c6
                try clear p6
                try clear c8
                try clear c8b0
                try clear c8b1
                try clear c8b2
                try clear c10
                try clear c10b0
                try clear c10b1
                try clear c10b2
                try clear c14
                try clear c14b0
                try clear c14b1
                try clear c14b2
                try clear c16
                try clear c16b0
                try clear c16b1
                try clear c16b2
                try clear c17
                try clear c17b0
                try clear c17b1
                try clear c17b2
                try clear c18
                try clear c18b0
                try clear c18b1
                try clear c18b2
                try clear c23
                try clear c23b0
                try clear c24
                try clear c24b0
                try clear c25
                try clear c25b0
                try clear c27
                try clear c27b0
                try clear c27b1
                try clear c27b2
                try clear c29
                try clear c29b0
                try clear c29b1
                try clear p29
                try clear q29
                try clear hx29
                try clear c30
                try clear c30b0
                try clear c30b1
                try clear c30b2
                try clear p30
                try clear q30
                try clear hx30
                try clear hcz11_0
                try clear hcz11_1
                try clear hcz11_2
                try clear hcz11_3
                try clear hcz11_4
                try clear hcz11_5
                try clear hcz12_0
                try clear hcz12_1
                try clear hcz12_2
                try clear hcz12_3
                try clear hcz12_4
                try clear hcz12_5
                try clear hcz22_0
                try clear hcz22_1
                try clear hcz22_2
                try clear hcz22_3
                try clear hcz22_4
                try clear hcz22_5
                try clear hcz7_0
                try clear hcz7_1
                try clear hcz7_2
                try clear hcz7_3
                try clear hcz7_4
                try clear hcz7_5
                try clear hcz9_0
                try clear hcz9_1
                try clear hcz9_2
                try clear hcz9_3
                try clear hcz9_4
                try clear hcz9_5
                try clear hfz11_0
                try clear hfz11_1
                try clear hfz11_2
                try clear hfz11_3
                try clear hfz11_4
                try clear hfz11_5
                try clear hfz12_0
                try clear hfz12_1
                try clear hfz12_2
                try clear hfz12_3
                try clear hfz12_4
                try clear hfz12_5
                try clear hfz22_0
                try clear hfz22_1
                try clear hfz22_2
                try clear hfz22_3
                try clear hfz22_4
                try clear hfz22_5
                try clear hfz7_0
                try clear hfz7_1
                try clear hfz7_2
                try clear hfz7_3
                try clear hfz7_4
                try clear hfz7_5
                try clear hfz9_0
                try clear hfz9_1
                try clear hfz9_2
                try clear hfz9_3
                try clear hfz9_4
                try clear hfz9_5
                try clear hx296_0
                try clear hx296_1
                try clear hx296_2
                try clear hx296_3
                try clear hx296_4
                try clear hx296_5
                try clear hx300_0
                try clear p2
                try clear p296
                try clear p300
                try clear q2
                try clear q296
                try clear q300
                obtain ⟨kq, x3_27, rfl, HA, HJ27, BK297, HB⟩ := hcut
                cases kq with
                | zero => exact absurd HA.out (by simp [spec_l5Text.j3])
                | succ kj27 =>
                 have H := HA.out
                 clear HA
                 simp only [spec_l5Text.j3] at H
                 have H' := Aside0.mk H
                 clear H
                 have hcz31_0 : wc.cell? ⟨gb297, 0, none⟩ = some (.int .i64 ((rd_T56 l0 x13_1).f0)) := (blk_cell BK297.out 0).trans rfl
                 have hcz31_1 : wc.cell? ⟨gb297, 1, none⟩ = some (.int .i64 ((rd_T56 l0 x13_1).f1)) := (blk_cell BK297.out 1).trans rfl
                 have hcz31_2 : wc.cell? ⟨gb297, 2, none⟩ = some (.slice A296_2 ((rd_T56 l0 x13_1).f2).length c296_2) := (blk_cell BK297.out 2).trans rfl
                 have hcz31_3 : wc.cell? ⟨gb297, 3, none⟩ = some (.int .i64 ((rd_T56 l0 x13_1).f3)) := (blk_cell BK297.out 3).trans rfl
                 have hcz31_4 : wc.cell? ⟨gb297, 4, none⟩ = some (.int .i64 ((rd_T56 l0 x13_1).f4)) := (blk_cell BK297.out 4).trans rfl
                 have hcz31_5 : wc.cell? ⟨gb297, 5, none⟩ = some (.slice A296_5 ((rd_T56 l0 x13_1).f5).length c296_5) := (blk_cell BK297.out 5).trans rfl
                 have hfz31_0 := blk_frozen BK297.out 0
                 have hfz31_1 := blk_frozen BK297.out 1
                 have hfz31_2 := blk_frozen BK297.out 2
                 have hfz31_3 := blk_frozen BK297.out 3
                 have hfz31_4 := blk_frozen BK297.out 4
                 have hfz31_5 := blk_frozen BK297.out 5
                 go_wp2
                 go_loopg [3, 62] kj27 (fun kq v3 v62 w' => ∃ (x3_5 : ByteArray) (x62_5 : Int), v3 = .string x3_5 ∧ v62 = .int .i64 x62_5 ∧ Aside0 (spec_l5Text.l2 kq x3_5 l0 (l0.length : Int) x13_1 ((rd_T56 l0 x13_1).f5) (((rd_T56 l0 x13_1).f5).length : Int) x62_5 = some r) ∧ Aside0 (kq ≤ kj27) ∧ Aside0 (w'.heap[gb297]? = some (.cells #[.int .i64 ((rd_T56 l0 x13_1).f0), .int .i64 ((rd_T56 l0 x13_1).f1), (.slice A296_2 ((rd_T56 l0 x13_1).f2).length c296_2), .int .i64 ((rd_T56 l0 x13_1).f3), .int .i64 ((rd_T56 l0 x13_1).f4), (.slice A296_5 ((rd_T56 l0 x13_1).f5).length c296_5)] 56 (0, 0))) ∧ Aside0 (Below w.heap.size w w'))
                 case atStart => exact ⟨(x3_27), (0), zf, zf, H', ⟨Nat.le_refl _⟩, ⟨by (with_reducible repeat (first | refine blk_drewN ?_ _ | refine blk_drew ?_ | refine blk_alloc ?_ _)); exact BK297.out⟩, ⟨by repeat (first | (with_reducible first | exact HB.out | apply below_alloc | apply pw_below_drewN | apply below_drew1 | refine below_set ?_ GE297.out) | exact HB.out)⟩⟩
                 case round =>
                  clear H'
                  try clear c1
                  try clear c2
                  try clear c2b0
                  try clear p2
                  try clear q2
                  try clear hx2
                  try clear c3
                  try clear c3b0
                  try clear p3
                  try clear q3
                  try clear hx3
                  try clear c4
                  try clear c4b0
                  try clear c6
                  try clear p6
                  try clear c8
                  try clear c8b0
                  try clear c8b1
                  try clear c8b2
                  try clear c10
                  try clear c10b0
                  try clear c10b1
                  try clear c10b2
                  try clear c14
                  try clear c14b0
                  try clear c14b1
                  try clear c14b2
                  try clear c16
                  try clear c16b0
                  try clear c16b1
                  try clear c16b2
                  try clear c17
                  try clear c17b0
                  try clear c17b1
                  try clear c17b2
                  try clear c18
                  try clear c18b0
                  try clear c18b1
                  try clear c18b2
                  try clear c23
                  try clear c23b0
                  try clear c24
                  try clear c24b0
                  try clear c25
                  try clear c25b0
                  try clear c27
                  try clear c27b0
                  try clear c27b1
                  try clear c27b2
                  try clear c29
                  try clear c29b0
                  try clear c29b1
                  try clear p29
                  try clear q29
                  try clear hx29
                  try clear c30
                  try clear c30b0
                  try clear c30b1
                  try clear c30b2
                  try clear p30
                  try clear q30
                  try clear hx30
                  try clear hcz11_0
                  try clear hcz11_1
                  try clear hcz11_2
                  try clear hcz11_3
                  try clear hcz11_4
                  try clear hcz11_5
                  try clear hcz12_0
                  try clear hcz12_1
                  try clear hcz12_2
                  try clear hcz12_3
                  try clear hcz12_4
                  try clear hcz12_5
                  try clear hcz22_0
                  try clear hcz22_1
                  try clear hcz22_2
                  try clear hcz22_3
                  try clear hcz22_4
                  try clear hcz22_5
                  try clear hcz31_0
                  try clear hcz31_1
                  try clear hcz31_2
                  try clear hcz31_3
                  try clear hcz31_4
                  try clear hcz31_5
                  try clear hcz7_0
                  try clear hcz7_1
                  try clear hcz7_2
                  try clear hcz7_3
                  try clear hcz7_4
                  try clear hcz7_5
                  try clear hcz9_0
                  try clear hcz9_1
                  try clear hcz9_2
                  try clear hcz9_3
                  try clear hcz9_4
                  try clear hcz9_5
                  try clear hfz11_0
                  try clear hfz11_1
                  try clear hfz11_2
                  try clear hfz11_3
                  try clear hfz11_4
                  try clear hfz11_5
                  try clear hfz12_0
                  try clear hfz12_1
                  try clear hfz12_2
                  try clear hfz12_3
                  try clear hfz12_4
                  try clear hfz12_5
                  try clear hfz22_0
                  try clear hfz22_1
                  try clear hfz22_2
                  try clear hfz22_3
                  try clear hfz22_4
                  try clear hfz22_5
                  try clear hfz31_0
                  try clear hfz31_1
                  try clear hfz31_2
                  try clear hfz31_3
                  try clear hfz31_4
                  try clear hfz31_5
                  try clear hfz7_0
                  try clear hfz7_1
                  try clear hfz7_2
                  try clear hfz7_3
                  try clear hfz7_4
                  try clear hfz7_5
                  try clear hfz9_0
                  try clear hfz9_1
                  try clear hfz9_2
                  try clear hfz9_3
                  try clear hfz9_4
                  try clear hfz9_5
                  try clear hx296_0
                  try clear hx296_1
                  try clear hx296_2
                  try clear hx296_3
                  try clear hx296_4
                  try clear hx296_5
                  try clear hx300_0
                  try clear p2
                  try clear p29
                  try clear p296
                  try clear p3
                  try clear p30
                  try clear p300
                  try clear p6
                  try clear q2
                  try clear q29
                  try clear q296
                  try clear q3
                  try clear q30
                  try clear q300
                  obtain ⟨x3_5, x62_5, rfl, rfl, HA, HK5, BK297, HB⟩ := hrel
                  cases gk with
                  | zero => exact absurd HA.out (by simp [spec_l5Text.l2])
                  | succ k5 =>
                   have H := HA.out
                   clear HA
                   simp only [spec_l5Text.l2] at H
                   by_cases c32 : x62_5 < (((rd_T56 l0 x13_1).f5).length : Int)
                   ·rw [if_pos c32] at H
                    have c32b0 : decide (x62_5 < (((rd_T56 l0 x13_1).f5).length : Int)) = true := decide_eq_true c32
                    clear c32
                    by_cases c33 : 0 ≤ x62_5
                    ·rw [if_pos c33] at H
                     have c33b0 : decide (0 ≤ x62_5) = true := decide_eq_true c33
                     clear c33
                     by_cases c34 : x62_5 < (((rd_T56 l0 x13_1).f5).length : Int)
                     ·rw [if_pos c34] at H
                      have c34b0 : decide (x62_5 < (((rd_T56 l0 x13_1).f5).length : Int)) = true := decide_eq_true c34
                      clear c34
                      replace H := Option.bind_eq_some_iff.mp H
                      obtain ⟨t303, A350, H⟩ := H
                      replace H : (if x3_5.size + t303.size ≤ 9223372036854775807 then (spec_l5Text.l2 k5 (x3_5 ++ t303) l0 (l0.length : Int) x13_1 ((rd_T56 l0 x13_1).f5) (((rd_T56 l0 x13_1).f5).length : Int) (wrap64 (x62_5 + 1))) else (none)) = some r := H
                      have A35 := Aside0.mk A350
                      clear A350
                      by_cases c36 : x3_5.size + t303.size ≤ 9223372036854775807
                      ·rw [if_pos c36] at H
                       have c36b0 := eq_true c36
                       have c36b1 : decide (x3_5.size + t303.size ≤ 9223372036854775807) = true := decide_eq_true c36
                       try have c36b2 : (9223372036854775807 < x3_5.size + t303.size) = False := eq_false (Nat.not_lt.2 c36)
                       have H' := Aside0.mk H
                       clear H
                       have p302 : 0 ≤ (x62_5 : Int) := oa
                       have q302 : x62_5 < (((rd_T56 l0 x13_1).f5).length : Int) := oa
                       obtain ⟨ad302, e302, hx302_0⟩ := Kd.at_string HR296_5.out x62_5 p302 q302
                       cases e302
                       replace hx302_0 := (HB.out.cell (World.block_lt_of_cell? w _ hx302_0)).trans hx302_0
                       replace p302 := eq_true p302
                       replace q302 := eq_true q302
                       go_wp2_with (first | ((with_reducible refine gateC (f := 69) rfl ?_); refine goesL_ (some 68) rfl rfl Tryd.func69 (by kernel_rfl) rfl #[.string (⟨#[62, 32]⟩ : ByteArray), .string (rdOf ByteArray.empty ((rd_T56 l0 x13_1).f5) x62_5)] rfl zm ?_; (with_reducible refine (spec_l5Shown.calls (⟨#[62, 32]⟩ : ByteArray) (rdOf ByteArray.empty ((rd_T56 l0 x13_1).f5) x62_5) t303 _ A35.out).mono ?_); rintro e w' ⟨rfl, ⟨nd, rfl⟩⟩; refine ⟨_, rfl, ?_⟩))
                       go_roundg k5
                       case measure => have := HK1.out; have := HJ4.out; have := HK3.out; have := HJ27.out; have := HK5.out; omega
                       case rel => exact ⟨(x3_5 ++ t303), (wrap64 (x62_5 + 1)), zf, zf, H', ⟨by have := HK1.out; have := HJ4.out; have := HK3.out; have := HJ27.out; have := HK5.out; omega⟩, ⟨by (with_reducible repeat (first | refine blk_drewN ?_ _ | refine blk_drew ?_ | refine blk_alloc ?_ _)); exact BK297.out⟩, ⟨by repeat (first | (with_reducible first | exact HB.out | apply below_alloc | apply pw_below_drewN | apply below_drew1 | refine below_set ?_ GE297.out) | exact HB.out)⟩⟩
                      ·rw [if_neg c36] at H
                       exact absurd H (by simp)
                     ·rw [if_neg c34] at H
                      exact absurd H (by simp)
                    ·rw [if_neg c33] at H
                     exact absurd H (by simp)
                   ·rw [if_neg c32] at H
                    have c32b0 : decide (x62_5 < (((rd_T56 l0 x13_1).f5).length : Int)) = false := decide_eq_false c32
                    clear c32
                    have H' := Aside0.mk H
                    clear H
                    go_wp2
                    go_roundg k5
                    case measure => have := HK1.out; have := HJ4.out; have := HK3.out; have := HJ27.out; have := HK5.out; omega
                    case rel => exact ⟨(x3_5), (wrap64 (x13_1 + 1)), zf, zf, H', ⟨by have := HK1.out; have := HJ4.out; have := HK3.out; have := HJ27.out; have := HK5.out; omega⟩, ⟨by repeat (first | (with_reducible first | exact HB.out | apply below_alloc | apply pw_below_drewN | apply below_drew1 | refine below_set ?_ GE297.out) | exact HB.out)⟩⟩
           ·rw [if_neg c18] at H
            exact absurd H (by simp)
          ·rw [if_neg c17] at H
           exact absurd H (by simp)
         ·rw [if_neg c16] at H
          exact absurd H (by simp)
        ·rw [if_neg c14] at H
         exact absurd H (by simp)
     ·rw [if_neg c4] at H
      exact absurd H (by simp)
    ·rw [if_neg c3] at H
     exact absurd H (by simp)
   ·rw [if_neg c2] at H
    have c2b0 : decide (x13_1 < (l0.length : Int)) = false := decide_eq_false c2
    clear c2
    obtain rfl := Option.some.inj H
    go_wp2
    go_ret
    exact ⟨by first | rfl | (simp [errW_none, errW_some] <;> rfl) | (simp [*, errW_none, errW_some] <;> rfl), by repeat (first | (with_reducible first | exact HB.out | apply below_alloc | apply pw_below_drewN | apply below_drew1) | exact HB.out)⟩

end Go.Proofs.YtfmbpldjbmhnnaaDoor.My
