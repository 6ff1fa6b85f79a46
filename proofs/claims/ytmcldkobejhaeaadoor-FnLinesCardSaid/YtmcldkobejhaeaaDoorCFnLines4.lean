/- Part 4 of 5 of a proof of this sentence: The Go function loop.example/g00825/laws.FnLines returns true for every input, and each argument reads afterwards as it read before. No condition. -/
import Derived.Lib.Strings
import Derived.Lib.Bytealg
import Derived.Laws.Bits64b
import Derived.Test.YtmcldkobejhaeaaDoorCFnLines3
/- Written by this session's program (wip/gen): a plain function with the same answers as the Go function, and the proof that the Go code comes to them. Asked: that the plain function has an answer. -/
namespace Go.Proofs.YtmcldkobejhaeaaDoor.My
open Go.RowKit Go.Proofs.YtmcldkobejhaeaaDoorW.PrintWords Go.Proofs.YtmcldkobejhaeaaDoorW.PrintLast Go.Proofs.YtmcldkobejhaeaaDoorW.PrintMore
attribute [local go_sem] max2_int min2_int max_two min_two max_three min_three max_four min_four
set_option linter.unusedVariables false
set_option linter.unusedSimpArgs false
def spec_PartOf.f (k : Nat) (l0 : List ByteArray) (a1 : Int) (a2 : Int) : Option (List ByteArray × Bool) := (spec_l1Good.f k l0).bind fun t381 => (if t381 = true then ((spec_l1In.f a1 0 a2).bind fun t382 => (if t382 = true then (if a2 > (l0.length : Int) then (some (([] : List ByteArray), false)) else (if 0 ≤ a1 then (if a1 ≤ a2 then (if a2 ≤ (l0.length : Int) then ((spec_l1OwnT.f ((l0.take (a2 : Int).toNat).drop (a1 : Int).toNat)).bind fun t384 => (some (t384, true))) else (none)) else (none)) else (none))) else (some (([] : List ByteArray), false)))) else (some (([] : List ByteArray), false)))
set_option maxHeartbeats 8000000 in
set_option maxRecDepth 100000 in
theorem spec_PartOf.calls (k : Nat) (A0 : Option Addr) (c0 : Nat) (l0 : List ByteArray) (a1 : Int) (a2 : Int) (r1 : List ByteArray) (r2 : Bool) (w : World) (hr0 : Kd.C Kd.string w A0 l0.length l0) (hc0 : l0.length ≤ c0) (h : spec_PartOf.f k l0 a1 a2 = some (r1, r2)) :
  Calls Tryd.prog 26 #[.slice A0 l0.length c0, .int .i64 a1, .int .i64 a2] w fun e w' => ∃ v0_ : Value, e = .returned (.tuple #[v0_, .bool r2]) ∧ Kd.R Kd.string 9 w' w.heap.size (fun _ => True) v0_ r1 ∧ Below w.heap.size w w' := by
 have HR0 := am hr0
 have HC0 := am hc0
 clear hr0 hc0
 have HB := am (Below.refl w.heap.size w)
 have H : ((spec_l1Good.f k l0).bind fun t381 => (if t381 = true then ((spec_l1In.f a1 0 a2).bind fun t382 => (if t382 = true then (if a2 > (l0.length : Int) then (some (([] : List ByteArray), false)) else (if 0 ≤ a1 then (if a1 ≤ a2 then (if a2 ≤ (l0.length : Int) then ((spec_l1OwnT.f ((l0.take (a2 : Int).toNat).drop (a1 : Int).toNat)).bind fun t384 => (some (t384, true))) else (none)) else (none)) else (none))) else (some (([] : List ByteArray), false)))) else (some (([] : List ByteArray), false)))) = some (r1, r2) := h
 clear h
 replace H := Option.bind_eq_some_iff.mp H
 obtain ⟨t381, A40, H⟩ := H
 replace H : (if t381 = true then ((spec_l1In.f a1 0 a2).bind fun t382 => (if t382 = true then (if a2 > (l0.length : Int) then (some (([] : List ByteArray), false)) else (if 0 ≤ a1 then (if a1 ≤ a2 then (if a2 ≤ (l0.length : Int) then ((spec_l1OwnT.f ((l0.take (a2 : Int).toNat).drop (a1 : Int).toNat)).bind fun t384 => (some (t384, true))) else (none)) else (none)) else (none))) else (some (([] : List ByteArray), false)))) else (some (([] : List ByteArray), false))) = some (r1, r2) := H
 have A4 := am A40
 clear A40
 by_cases c5 : t381 = true
 ·subst c5
  have H1 : ((spec_l1In.f a1 0 a2).bind fun t382 => (if t382 = true then (if a2 > (l0.length : Int) then (some (([] : List ByteArray), false)) else (if 0 ≤ a1 then (if a1 ≤ a2 then (if a2 ≤ (l0.length : Int) then ((spec_l1OwnT.f ((l0.take (a2 : Int).toNat).drop (a1 : Int).toNat)).bind fun t384 => (some (t384, true))) else (none)) else (none)) else (none))) else (some (([] : List ByteArray), false)))) = some (r1, r2) := by rw [if_pos rfl] at H; exact H
  clear H
  have H := H1
  clear H1
  replace H := Option.bind_eq_some_iff.mp H
  obtain ⟨t382, A60, H⟩ := H
  replace H : (if t382 = true then (if a2 > (l0.length : Int) then (some (([] : List ByteArray), false)) else (if 0 ≤ a1 then (if a1 ≤ a2 then (if a2 ≤ (l0.length : Int) then ((spec_l1OwnT.f ((l0.take (a2 : Int).toNat).drop (a1 : Int).toNat)).bind fun t384 => (some (t384, true))) else (none)) else (none)) else (none))) else (some (([] : List ByteArray), false))) = some (r1, r2) := H
  have A6 := am A60
  clear A60
  by_cases c7 : t382 = true
  ·subst c7
   have H1 : (if a2 > (l0.length : Int) then (some (([] : List ByteArray), false)) else (if 0 ≤ a1 then (if a1 ≤ a2 then (if a2 ≤ (l0.length : Int) then ((spec_l1OwnT.f ((l0.take (a2 : Int).toNat).drop (a1 : Int).toNat)).bind fun t384 => (some (t384, true))) else (none)) else (none)) else (none))) = some (r1, r2) := by rw [if_pos rfl] at H; exact H
   clear H
   have H := H1
   clear H1
   by_cases c8 : a2 > (l0.length : Int)
   ·rw [if_pos c8] at H
    have c8b0 : decide ((l0.length : Int) < a2) = true := decide_eq_true c8
    clear c8
    simp only [Option.some.injEq, Prod.mk.injEq] at H
    obtain ⟨rfl, rfl⟩ := H
    go_enter Tryd.func26, Tryd.ntmps26
    go_wp2_with (first | ((with_reducible refine gateC (f := 32) rfl ?_); refine goesL_ (some 9) rfl rfl Tryd.func32 (by kernel_rfl) rfl #[.slice A0 l0.length c0] rfl zm ?_; (with_reducible refine (spec_l1Good.calls k _ _ l0 true _ ?side1 ?side2 A4.out).mono ?_); (case side1 => exact zq HR0.out); (case side2 => exact HC0.out); rintro e w' ⟨rfl, ⟨nd, rfl⟩⟩; refine ⟨_, rfl, ?_⟩) | (go_at_call 52; (with_reducible refine (spec_l1In.calls a1 0 a2 true _ A6.out).mono ?_); rintro e w' ⟨rfl, ⟨nd, rfl⟩⟩))
    go_ret2
    exact ⟨_, by first | rfl | (simp [errW_none, errW_some] <;> rfl) | (simp [*, errW_none, errW_some] <;> rfl), by first | exact Kd.R_nil _ _ _ _ _ | exact Kd.Q_nil _ _ _ _ _ | exact Kd.S_nil _ _ _ _ _, by repeat (first | (with_reducible first | exact HB.out | apply below_alloc | apply pw_below_drewN | apply below_drew1) | exact HB.out)⟩
   ·rw [if_neg c8] at H
    have c8b0 : decide ((l0.length : Int) < a2) = false := decide_eq_false c8
    clear c8
    by_cases c9 : 0 ≤ a1
    ·rw [if_pos c9] at H
     have c9b0 := eq_true c9
     have c9b1 : decide (0 ≤ a1) = true := decide_eq_true c9
     clear c9
     by_cases c10 : a1 ≤ a2
     ·rw [if_pos c10] at H
      have c10b0 := eq_true c10
      have c10b1 : decide (a1 ≤ a2) = true := decide_eq_true c10
      clear c10
      by_cases c11 : a2 ≤ (l0.length : Int)
      ·rw [if_pos c11] at H
       have c11b0 := eq_true c11
       have c11b1 : decide (a2 ≤ (l0.length : Int)) = true := decide_eq_true c11
       clear c11
       replace H := Option.bind_eq_some_iff.mp H
       obtain ⟨t384, A120, H⟩ := H
       replace H : (some (t384, true)) = some (r1, r2) := H
       have A12 := am A120
       clear A120
       simp only [Option.some.injEq, Prod.mk.injEq] at H
       obtain ⟨rfl, rfl⟩ := H
       go_enter Tryd.func26, Tryd.ntmps26
       go_wp2_with (first | ((with_reducible refine gateC (f := 32) rfl ?_); refine goesL_ (some 9) rfl rfl Tryd.func32 (by kernel_rfl) rfl #[.slice A0 l0.length c0] rfl zm ?_; (with_reducible refine (spec_l1Good.calls k _ _ l0 true _ ?side1 ?side2 A4.out).mono ?_); (case side1 => exact zq HR0.out); (case side2 => exact HC0.out); rintro e w' ⟨rfl, ⟨nd, rfl⟩⟩; refine ⟨_, rfl, ?_⟩) | (go_at_call 52; (with_reducible refine (spec_l1In.calls a1 0 a2 true _ A6.out).mono ?_); rintro e w' ⟨rfl, ⟨nd, rfl⟩⟩; obtain ⟨i013, hi013, _, hsz13, _⟩ := info_parts info9; obtain ⟨A13, hcut13, hA13, hC13⟩ := print_mid_of (P := Tryd.prog) Value.string (⟨#[]⟩ : ByteArray) 22 9 .i64 .i64 Tryd.underlying22 hi013 hsz13 A0 c0 l0 a1 a2 oa (by first | omega | exact oa) oa HC0.out; have HR383 := am (Kd.C_of_reads (h1 := fun _ => rfl) (hA13 _ (Kd.reads_of_C HR0.out))); have HC383 := am hC13; clear hA13 hC13 hi013 hsz13) | ((with_reducible refine gateC (f := 53) rfl ?_); refine goesL_ (some 27) rfl rfl Tryd.func53 (by kernel_rfl) rfl #[.slice A13 ((l0.take (a2 : Int).toNat).drop (a1 : Int).toNat).length (c0 - a1.toNat)] rfl (by (try simp only [List.map_toArray, List.map_cons, List.map_nil]); first | done | (rw [show ((l0.take (a2 : Int).toNat).drop (a1 : Int).toNat).length = (a2.toNat - a1.toNat) from (by rw [List.length_drop, List.length_take]; have h_ : (a2 : Int) ≤ (l0.length : Int) := oa; omega)] <;> rfl) | rfl | (simp only [List.length_drop, List.length_take]; rfl)) ?_; (with_reducible refine (spec_l1OwnT.calls _ _ ((l0.take (a2 : Int).toNat).drop (a1 : Int).toNat) t384 _ ?side1 ?side2 A12.out).mono ?_); (case side1 => exact zq HR383.out); (case side2 => exact HC383.out); rintro e w14 ⟨v385, rfl, ho0, hb⟩; refine ⟨_, rfl, ?_⟩; have n0_ := am (Kd.R_lower ho0 (below_size zb)); have n1_ := am (below_step zb hb); clear HB; have HO386 := n0_; have HB := n1_; clear n0_ n1_; (try clear hb); (try clear ho0)))
       go_ret2
       exact ⟨_, by first | rfl | (simp [errW_none, errW_some] <;> rfl) | (simp [*, errW_none, errW_some] <;> rfl), by (with_reducible repeat (first | apply Kd.R_alloc | apply Kd.R_drewN | apply Kd.R_drew)); exact HO386.out, by repeat (first | (with_reducible first | exact HB.out | apply below_alloc | apply pw_below_drewN | apply below_drew1) | exact HB.out)⟩
      ·rw [if_neg c11] at H
       exact absurd H (by simp)
     ·rw [if_neg c10] at H
      exact absurd H (by simp)
    ·rw [if_neg c9] at H
     exact absurd H (by simp)
  ·replace c7 := Bool.eq_false_iff.mpr c7
   subst c7
   have H1 : (some (([] : List ByteArray), false)) = some (r1, r2) := by rw [if_neg (show ¬ (false = true) by decide)] at H; exact H
   clear H
   have H := H1
   clear H1
   simp only [Option.some.injEq, Prod.mk.injEq] at H
   obtain ⟨rfl, rfl⟩ := H
   go_enter Tryd.func26, Tryd.ntmps26
   go_wp2_with (first | ((with_reducible refine gateC (f := 32) rfl ?_); refine goesL_ (some 9) rfl rfl Tryd.func32 (by kernel_rfl) rfl #[.slice A0 l0.length c0] rfl zm ?_; (with_reducible refine (spec_l1Good.calls k _ _ l0 true _ ?side1 ?side2 A4.out).mono ?_); (case side1 => exact zq HR0.out); (case side2 => exact HC0.out); rintro e w' ⟨rfl, ⟨nd, rfl⟩⟩; refine ⟨_, rfl, ?_⟩) | (go_at_call 52; (with_reducible refine (spec_l1In.calls a1 0 a2 false _ A6.out).mono ?_); rintro e w' ⟨rfl, ⟨nd, rfl⟩⟩))
   go_ret2
   exact ⟨_, by first | rfl | (simp [errW_none, errW_some] <;> rfl) | (simp [*, errW_none, errW_some] <;> rfl), by first | exact Kd.R_nil _ _ _ _ _ | exact Kd.Q_nil _ _ _ _ _ | exact Kd.S_nil _ _ _ _ _, by repeat (first | (with_reducible first | exact HB.out | apply below_alloc | apply pw_below_drewN | apply below_drew1) | exact HB.out)⟩
 ·replace c5 := Bool.eq_false_iff.mpr c5
  subst c5
  have H1 : (some (([] : List ByteArray), false)) = some (r1, r2) := by rw [if_neg (show ¬ (false = true) by decide)] at H; exact H
  clear H
  have H := H1
  clear H1
  simp only [Option.some.injEq, Prod.mk.injEq] at H
  obtain ⟨rfl, rfl⟩ := H
  go_enter Tryd.func26, Tryd.ntmps26
  go_wp2_with (first | ((with_reducible refine gateC (f := 32) rfl ?_); refine goesL_ (some 9) rfl rfl Tryd.func32 (by kernel_rfl) rfl #[.slice A0 l0.length c0] rfl zm ?_; (with_reducible refine (spec_l1Good.calls k _ _ l0 false _ ?side1 ?side2 A4.out).mono ?_); (case side1 => exact zq HR0.out); (case side2 => exact HC0.out); rintro e w' ⟨rfl, ⟨nd, rfl⟩⟩; refine ⟨_, rfl, ?_⟩))
  go_ret2
  exact ⟨_, by first | rfl | (simp [errW_none, errW_some] <;> rfl) | (simp [*, errW_none, errW_some] <;> rfl), by first | exact Kd.R_nil _ _ _ _ _ | exact Kd.Q_nil _ _ _ _ _ | exact Kd.S_nil _ _ _ _ _, by repeat (first | (with_reducible first | exact HB.out | apply below_alloc | apply pw_below_drewN | apply below_drew1) | exact HB.out)⟩
end Go.Proofs.YtmcldkobejhaeaaDoor.My
/- Written by this session's program (wip/gen): a plain function with the same answers as the Go function, and the proof that the Go code comes to them. Asked: that the plain function has an answer. -/
namespace Go.Proofs.YtmcldkobejhaeaaDoor.My
open Go.RowKit Go.Proofs.YtmcldkobejhaeaaDoorW.PrintWords Go.Proofs.YtmcldkobejhaeaaDoorW.PrintLast Go.Proofs.YtmcldkobejhaeaaDoorW.PrintMore
attribute [local go_sem] max2_int min2_int max_two min_two max_three min_three max_four min_four
set_option linter.unusedVariables false
set_option linter.unusedSimpArgs false
def spec_PlainOf.f (k : Nat) (a0 : ByteArray) : Option (ByteArray × Bool) := (spec_l1Line.f k a0).bind fun t392 => (if t392 = true then ((spec_l1Plain.f a0).bind fun t393 => (some (t393, true))) else (some ((⟨#[]⟩ : ByteArray), false)))
set_option maxHeartbeats 8000000 in
set_option maxRecDepth 100000 in
theorem spec_PlainOf.calls (k : Nat) (a0 : ByteArray) (r1 : ByteArray) (r2 : Bool) (w : World) (h : spec_PlainOf.f k a0 = some (r1, r2)) :
  Calls Tryd.prog 29 #[.string a0] w fun e w' => e = .returned (.tuple #[.string r1, .bool r2]) ∧ Drawn0 w w' := by
 have H : ((spec_l1Line.f k a0).bind fun t392 => (if t392 = true then ((spec_l1Plain.f a0).bind fun t393 => (some (t393, true))) else (some ((⟨#[]⟩ : ByteArray), false)))) = some (r1, r2) := h
 clear h
 replace H := Option.bind_eq_some_iff.mp H
 obtain ⟨t392, A20, H⟩ := H
 replace H : (if t392 = true then ((spec_l1Plain.f a0).bind fun t393 => (some (t393, true))) else (some ((⟨#[]⟩ : ByteArray), false))) = some (r1, r2) := H
 have A2 := am A20
 clear A20
 by_cases c3 : t392 = true
 ·subst c3
  have H1 : ((spec_l1Plain.f a0).bind fun t393 => (some (t393, true))) = some (r1, r2) := by rw [if_pos rfl] at H; exact H
  clear H
  have H := H1
  clear H1
  replace H := Option.bind_eq_some_iff.mp H
  obtain ⟨t393, A40, H⟩ := H
  replace H : (some (t393, true)) = some (r1, r2) := H
  have A4 := am A40
  clear A40
  simp only [Option.some.injEq, Prod.mk.injEq] at H
  obtain ⟨rfl, rfl⟩ := H
  go_enter Tryd.func29, Tryd.ntmps29
  go_wp2_with (first | ((with_reducible refine gateC (f := 58) rfl ?_); refine goesL_ (some 5) rfl rfl Tryd.func58 (by kernel_rfl) rfl #[.string a0] rfl zm ?_; (with_reducible refine (spec_l1Line.calls k a0 true _ A2.out).mono ?_); rintro e w' ⟨rfl, ⟨nd, rfl⟩⟩; refine ⟨_, rfl, ?_⟩) | ((with_reducible refine gateC (f := 59) rfl ?_); refine goesL_ (some 8) rfl rfl Tryd.func59 (by kernel_rfl) rfl #[.string a0] rfl zm ?_; (with_reducible refine (spec_l1Plain.calls a0 t393 _ A4.out).mono ?_); rintro e w' ⟨rfl, ⟨nd, rfl⟩⟩; refine ⟨_, rfl, ?_⟩))
  go_ret2
  exact ⟨by first | rfl | (simp; done) | (simp [*]; done), by repeat (first | exact Drawn0.refl _ | apply Drawn0.step)⟩
 ·replace c3 := Bool.eq_false_iff.mpr c3
  subst c3
  have H1 : (some ((⟨#[]⟩ : ByteArray), false)) = some (r1, r2) := by rw [if_neg (show ¬ (false = true) by decide)] at H; exact H
  clear H
  have H := H1
  clear H1
  simp only [Option.some.injEq, Prod.mk.injEq] at H
  obtain ⟨rfl, rfl⟩ := H
  go_enter Tryd.func29, Tryd.ntmps29
  go_wp2_with (first | ((with_reducible refine gateC (f := 58) rfl ?_); refine goesL_ (some 5) rfl rfl Tryd.func58 (by kernel_rfl) rfl #[.string a0] rfl zm ?_; (with_reducible refine (spec_l1Line.calls k a0 false _ A2.out).mono ?_); rintro e w' ⟨rfl, ⟨nd, rfl⟩⟩; refine ⟨_, rfl, ?_⟩))
  go_ret2
  exact ⟨by first | rfl | (simp; done) | (simp [*]; done), by repeat (first | exact Drawn0.refl _ | apply Drawn0.step)⟩
end Go.Proofs.YtmcldkobejhaeaaDoor.My
/- Written by this session's program (wip/gen): a plain function with the same answers as the Go function, and the proof that the Go code comes to them. Asked: that the plain function has an answer. -/
namespace Go.Proofs.YtmcldkobejhaeaaDoor.My
open Go.RowKit Go.Proofs.YtmcldkobejhaeaaDoorW.PrintWords Go.Proofs.YtmcldkobejhaeaaDoorW.PrintLast Go.Proofs.YtmcldkobejhaeaaDoorW.PrintMore
attribute [local go_sem] max2_int min2_int max_two min_two max_three min_three max_four min_four
set_option linter.unusedVariables false
set_option linter.unusedSimpArgs false
def spec_l1Ahead.l0 : Nat → List ByteArray → List ByteArray → Int → Option (Int)
 | 0, _, _, _ => none
 | k + 1, x0, x1, x5 => if x5 < (x0.length : Int) then (if x5 < (x1.length : Int) then (if 0 ≤ x5 then (if (rdOf ByteArray.empty x0 x5).toList = (rdOf ByteArray.empty x1 x5).toList then (spec_l1Ahead.l0 k x0 x1 (wrap64 (x5 + 1))) else (some x5)) else (none)) else (some x5)) else (some x5)
def spec_l1Ahead.f (k : Nat) (l0 : List ByteArray) (l1 : List ByteArray) : Option (Int) := spec_l1Ahead.l0 k l0 l1 0
set_option maxHeartbeats 8000000 in
set_option maxRecDepth 100000 in
theorem spec_l1Ahead.calls (k : Nat) (A0 : Option Addr) (c0 : Nat) (l0 : List ByteArray) (A1 : Option Addr) (c1 : Nat) (l1 : List ByteArray) (r : Int) (w : World) (hr0 : Kd.C Kd.string w A0 l0.length l0) (hc0 : l0.length ≤ c0) (hr1 : Kd.C Kd.string w A1 l1.length l1) (hc1 : l1.length ≤ c1) (h : spec_l1Ahead.f k l0 l1 = some r) :
  Calls Tryd.prog 45 #[.slice A0 l0.length c0, .slice A1 l1.length c1] w fun e w' => e = .returned (.int .i64 r) ∧ Drawn0 w w' := by
 have HR0 := am hr0
 have HC0 := am hc0
 clear hr0 hc0
 have HR1 := am hr1
 have HC1 := am hc1
 clear hr1 hc1
 have H : (spec_l1Ahead.l0 k l0 l1 0) = some r := h
 clear h
 have H' := am H
 clear H
 go_enter Tryd.func45, Tryd.ntmps45
 go_wp2
 repeat (go_quiet (fail); try go_wp2)
 go_loopg [5] k (fun kq v5 w' => ∃ (x5_1 : Int), v5 = .int .i64 x5_1 ∧ Aside0 (spec_l1Ahead.l0 kq l0 l1 x5_1 = some r) ∧ Aside0 (kq ≤ k) ∧ Drawn0 w w')
 case atStart => exact ⟨(0), zf, H', ⟨Nat.le_refl _⟩, by repeat (first | exact Drawn0.refl _ | apply Drawn0.step)⟩
 case round =>
  clear H'
  try clear c1
  try clear p2
  obtain ⟨x5_1, rfl, HA, HK1, ⟨m1, rfl⟩⟩ := hrel
  cases gk with
  | zero => exact absurd HA.out (by simp [spec_l1Ahead.l0])
  | succ k1 =>
   have H := HA.out
   clear HA
   simp only [spec_l1Ahead.l0] at H
   by_cases c3 : x5_1 < (l0.length : Int)
   ·rw [if_pos c3] at H
    have c3b0 : decide (x5_1 < (l0.length : Int)) = true := decide_eq_true c3
    clear c3
    by_cases c4 : x5_1 < (l1.length : Int)
    ·rw [if_pos c4] at H
     have c4b0 : decide (x5_1 < (l1.length : Int)) = true := decide_eq_true c4
     clear c4
     by_cases c5 : 0 ≤ x5_1
     ·rw [if_pos c5] at H
      have c5b0 : decide (0 ≤ x5_1) = true := decide_eq_true c5
      clear c5
      by_cases c6 : (rdOf ByteArray.empty l0 x5_1).toList = (rdOf ByteArray.empty l1 x5_1).toList
      ·rw [if_pos c6] at H
       have c6b0 : ((rdOf ByteArray.empty l0 x5_1).toList == (rdOf ByteArray.empty l1 x5_1).toList) = true := beq_iff_eq.mpr c6
       have c6b1 : ((rdOf ByteArray.empty l0 x5_1).toList != (rdOf ByteArray.empty l1 x5_1).toList) = false := bne_eq_false_iff_eq.mpr c6
       clear c6
       have H' := am H
       clear H
       have p342 : 0 ≤ (x5_1 : Int) := oa
       have q342 : x5_1 < (l0.length : Int) := oa
       obtain ⟨ad342, e342, hx342_0⟩ := Kd.at_string HR0.out x5_1 p342 q342
       cases e342
       replace p342 := eq_true p342
       replace q342 := eq_true q342
       have p343 : 0 ≤ (x5_1 : Int) := oa
       have q343 : x5_1 < (l1.length : Int) := oa
       obtain ⟨ad343, e343, hx343_0⟩ := Kd.at_string HR1.out x5_1 p343 q343
       cases e343
       replace p343 := eq_true p343
       replace q343 := eq_true q343
       go_wp2
       repeat (go_quiet (fail); try go_wp2)
       go_roundg k1
       case measure => have := HK1.out; omega
       case rel => exact ⟨(wrap64 (x5_1 + 1)), zf, H', ⟨by have := HK1.out; omega⟩, by repeat (first | exact Drawn0.refl _ | apply Drawn0.step)⟩
      ·rw [if_neg c6] at H
       have c6b0 : ((rdOf ByteArray.empty l0 x5_1).toList == (rdOf ByteArray.empty l1 x5_1).toList) = false := beq_eq_false_iff_ne.mpr c6
       have c6b1 : ((rdOf ByteArray.empty l0 x5_1).toList != (rdOf ByteArray.empty l1 x5_1).toList) = true := bne_iff_ne.mpr c6
       obtain rfl := Option.some.inj H
       have p342 : 0 ≤ (x5_1 : Int) := oa
       have q342 : x5_1 < (l0.length : Int) := oa
       obtain ⟨ad342, e342, hx342_0⟩ := Kd.at_string HR0.out x5_1 p342 q342
       cases e342
       replace p342 := eq_true p342
       replace q342 := eq_true q342
       have p343 : 0 ≤ (x5_1 : Int) := oa
       have q343 : x5_1 < (l1.length : Int) := oa
       obtain ⟨ad343, e343, hx343_0⟩ := Kd.at_string HR1.out x5_1 p343 q343
       cases e343
       replace p343 := eq_true p343
       replace q343 := eq_true q343
       go_wp2
       repeat (go_quiet (fail); try go_wp2)
       go_ret
       exact ⟨by first | rfl | (simp; done) | (simp [*]; done), by repeat (first | exact Drawn0.refl _ | apply Drawn0.step)⟩
     ·rw [if_neg c5] at H
      exact absurd H (by simp)
    ·rw [if_neg c4] at H
     have c4b0 : decide (x5_1 < (l1.length : Int)) = false := decide_eq_false c4
     clear c4
     obtain rfl := Option.some.inj H
     go_wp2
     repeat (go_quiet (fail); try go_wp2)
     go_ret
     exact ⟨by first | rfl | (simp; done) | (simp [*]; done), by repeat (first | exact Drawn0.refl _ | apply Drawn0.step)⟩
   ·rw [if_neg c3] at H
    have c3b0 : decide (x5_1 < (l0.length : Int)) = false := decide_eq_false c3
    clear c3
    obtain rfl := Option.some.inj H
    go_wp2
    repeat (go_quiet (fail); try go_wp2)
    go_ret
    exact ⟨by first | rfl | (simp; done) | (simp [*]; done), by repeat (first | exact Drawn0.refl _ | apply Drawn0.step)⟩
end Go.Proofs.YtmcldkobejhaeaaDoor.My
/- Written by this session's program (wip/gen): a plain function with the same answers as the Go function, and the proof that the Go code comes to them. Asked: that the plain function has an answer. -/
namespace Go.Proofs.YtmcldkobejhaeaaDoor.My
open Go.RowKit Go.Proofs.YtmcldkobejhaeaaDoorW.PrintWords Go.Proofs.YtmcldkobejhaeaaDoorW.PrintLast Go.Proofs.YtmcldkobejhaeaaDoorW.PrintMore
attribute [local go_sem] max2_int min2_int max_two min_two max_three min_three max_four min_four
set_option linter.unusedVariables false
set_option linter.unusedSimpArgs false
def spec_SameAhead.f (k : Nat) (l0 : List ByteArray) (l1 : List ByteArray) : Option (Int × Bool) := (spec_l1Good.f k l0).bind fun t344 => (if t344 = true then ((spec_l1Good.f k l1).bind fun t345 => (if t345 = true then ((spec_l1Ahead.f k l0 l1).bind fun t346 => (some (t346, true))) else (some (0, false)))) else (some (0, false)))
set_option maxHeartbeats 8000000 in
set_option maxRecDepth 100000 in
theorem spec_SameAhead.calls (k : Nat) (A0 : Option Addr) (c0 : Nat) (l0 : List ByteArray) (A1 : Option Addr) (c1 : Nat) (l1 : List ByteArray) (r1 : Int) (r2 : Bool) (w : World) (hr0 : Kd.C Kd.string w A0 l0.length l0) (hc0 : l0.length ≤ c0) (hr1 : Kd.C Kd.string w A1 l1.length l1) (hc1 : l1.length ≤ c1) (h : spec_SameAhead.f k l0 l1 = some (r1, r2)) :
  Calls Tryd.prog 18 #[.slice A0 l0.length c0, .slice A1 l1.length c1] w fun e w' => e = .returned (.tuple #[.int .i64 r1, .bool r2]) ∧ Drawn0 w w' := by
 have HR0 := am hr0
 have HC0 := am hc0
 clear hr0 hc0
 have HR1 := am hr1
 have HC1 := am hc1
 clear hr1 hc1
 have H : ((spec_l1Good.f k l0).bind fun t344 => (if t344 = true then ((spec_l1Good.f k l1).bind fun t345 => (if t345 = true then ((spec_l1Ahead.f k l0 l1).bind fun t346 => (some (t346, true))) else (some (0, false)))) else (some (0, false)))) = some (r1, r2) := h
 clear h
 replace H := Option.bind_eq_some_iff.mp H
 obtain ⟨t344, A30, H⟩ := H
 replace H : (if t344 = true then ((spec_l1Good.f k l1).bind fun t345 => (if t345 = true then ((spec_l1Ahead.f k l0 l1).bind fun t346 => (some (t346, true))) else (some (0, false)))) else (some (0, false))) = some (r1, r2) := H
 have A3 := am A30
 clear A30
 by_cases c4 : t344 = true
 ·subst c4
  have H1 : ((spec_l1Good.f k l1).bind fun t345 => (if t345 = true then ((spec_l1Ahead.f k l0 l1).bind fun t346 => (some (t346, true))) else (some (0, false)))) = some (r1, r2) := by rw [if_pos rfl] at H; exact H
  clear H
  have H := H1
  clear H1
  replace H := Option.bind_eq_some_iff.mp H
  obtain ⟨t345, A50, H⟩ := H
  replace H : (if t345 = true then ((spec_l1Ahead.f k l0 l1).bind fun t346 => (some (t346, true))) else (some (0, false))) = some (r1, r2) := H
  have A5 := am A50
  clear A50
  by_cases c6 : t345 = true
  ·subst c6
   have H1 : ((spec_l1Ahead.f k l0 l1).bind fun t346 => (some (t346, true))) = some (r1, r2) := by rw [if_pos rfl] at H; exact H
   clear H
   have H := H1
   clear H1
   replace H := Option.bind_eq_some_iff.mp H
   obtain ⟨t346, A70, H⟩ := H
   replace H : (some (t346, true)) = some (r1, r2) := H
   have A7 := am A70
   clear A70
   simp only [Option.some.injEq, Prod.mk.injEq] at H
   obtain ⟨rfl, rfl⟩ := H
   go_enter Tryd.func18, Tryd.ntmps18
   go_wp2_with (first | ((with_reducible refine gateC (f := 32) rfl ?_); refine goesL_ (some 7) rfl rfl Tryd.func32 (by kernel_rfl) rfl #[.slice A0 l0.length c0] rfl zm ?_; (with_reducible refine (spec_l1Good.calls k _ _ l0 true _ ?side1 ?side2 A3.out).mono ?_); (case side1 => exact zq HR0.out); (case side2 => exact HC0.out); rintro e w' ⟨rfl, ⟨nd, rfl⟩⟩; refine ⟨_, rfl, ?_⟩) | (go_at_call 32; (with_reducible refine (spec_l1Good.calls k _ _ l1 true _ ?side1 ?side2 A5.out).mono ?_); (case side1 => exact zq HR1.out); (case side2 => exact HC1.out); rintro e w' ⟨rfl, ⟨nd, rfl⟩⟩) | ((with_reducible refine gateC (f := 45) rfl ?_); refine goesL_ (some 16) rfl rfl Tryd.func45 (by kernel_rfl) rfl #[.slice A0 l0.length c0, .slice A1 l1.length c1] rfl zm ?_; (with_reducible refine (spec_l1Ahead.calls k _ _ l0 _ _ l1 t346 _ ?side1 ?side2 ?side3 ?side4 A7.out).mono ?_); (case side1 => exact zq HR0.out); (case side2 => exact HC0.out); (case side3 => exact zq HR1.out); (case side4 => exact HC1.out); rintro e w' ⟨rfl, ⟨nd, rfl⟩⟩; refine ⟨_, rfl, ?_⟩))
   go_ret2
   exact ⟨by first | rfl | (simp; done) | (simp [*]; done), by repeat (first | exact Drawn0.refl _ | apply Drawn0.step)⟩
  ·replace c6 := Bool.eq_false_iff.mpr c6
   subst c6
   have H1 : (some (0, false)) = some (r1, r2) := by rw [if_neg (show ¬ (false = true) by decide)] at H; exact H
   clear H
   have H := H1
   clear H1
   simp only [Option.some.injEq, Prod.mk.injEq] at H
   obtain ⟨rfl, rfl⟩ := H
   go_enter Tryd.func18, Tryd.ntmps18
   go_wp2_with (first | ((with_reducible refine gateC (f := 32) rfl ?_); refine goesL_ (some 7) rfl rfl Tryd.func32 (by kernel_rfl) rfl #[.slice A0 l0.length c0] rfl zm ?_; (with_reducible refine (spec_l1Good.calls k _ _ l0 true _ ?side1 ?side2 A3.out).mono ?_); (case side1 => exact zq HR0.out); (case side2 => exact HC0.out); rintro e w' ⟨rfl, ⟨nd, rfl⟩⟩; refine ⟨_, rfl, ?_⟩) | (go_at_call 32; (with_reducible refine (spec_l1Good.calls k _ _ l1 false _ ?side1 ?side2 A5.out).mono ?_); (case side1 => exact zq HR1.out); (case side2 => exact HC1.out); rintro e w' ⟨rfl, ⟨nd, rfl⟩⟩))
   go_ret2
   exact ⟨by first | rfl | (simp; done) | (simp [*]; done), by repeat (first | exact Drawn0.refl _ | apply Drawn0.step)⟩
 ·replace c4 := Bool.eq_false_iff.mpr c4
  subst c4
  have H1 : (some (0, false)) = some (r1, r2) := by rw [if_neg (show ¬ (false = true) by decide)] at H; exact H
  clear H
  have H := H1
  clear H1
  simp only [Option.some.injEq, Prod.mk.injEq] at H
  obtain ⟨rfl, rfl⟩ := H
  go_enter Tryd.func18, Tryd.ntmps18
  go_wp2_with (first | ((with_reducible refine gateC (f := 32) rfl ?_); refine goesL_ (some 7) rfl rfl Tryd.func32 (by kernel_rfl) rfl #[.slice A0 l0.length c0] rfl zm ?_; (with_reducible refine (spec_l1Good.calls k _ _ l0 false _ ?side1 ?side2 A3.out).mono ?_); (case side1 => exact zq HR0.out); (case side2 => exact HC0.out); rintro e w' ⟨rfl, ⟨nd, rfl⟩⟩; refine ⟨_, rfl, ?_⟩))
  go_ret2
  exact ⟨by first | rfl | (simp; done) | (simp [*]; done), by repeat (first | exact Drawn0.refl _ | apply Drawn0.step)⟩
end Go.Proofs.YtmcldkobejhaeaaDoor.My
/- Written by this session's program (wip/gen): a plain function with the same answers as the Go function, and the proof that the Go code comes to them. Asked: that the plain function has an answer. -/
namespace Go.Proofs.YtmcldkobejhaeaaDoor.My
open Go.RowKit Go.Proofs.YtmcldkobejhaeaaDoorW.PrintWords Go.Proofs.YtmcldkobejhaeaaDoorW.PrintLast Go.Proofs.YtmcldkobejhaeaaDoorW.PrintMore
attribute [local go_sem] max2_int min2_int max_two min_two max_three min_three max_four min_four
set_option linter.unusedVariables false
set_option linter.unusedSimpArgs false
def spec_l1Least.f (a0 : Int) (a1 : Int) : Option (Int) := if a0 < a1 then (some a0) else (some a1)
set_option maxHeartbeats 8000000 in
set_option maxRecDepth 100000 in
theorem spec_l1Least.calls (a0 : Int) (a1 : Int) (r : Int) (w : World) (h : spec_l1Least.f a0 a1 = some r) :
  Calls Tryd.prog 68 #[.int .i64 a0, .int .i64 a1] w fun e w' => e = .returned (.int .i64 r) ∧ Drawn0 w w' := by
 have H : (if a0 < a1 then (some a0) else (some a1)) = some r := h
 clear h
 by_cases c3 : a0 < a1
 ·rw [if_pos c3] at H
  have c3b0 : decide (a0 < a1) = true := decide_eq_true c3
  clear c3
  obtain rfl := Option.some.inj H
  go_enter Tryd.func68, Tryd.ntmps68
  go_wp2
  go_ret
  exact ⟨by first | rfl | (simp; done) | (simp [*]; done), by repeat (first | exact Drawn0.refl _ | apply Drawn0.step)⟩
 ·rw [if_neg c3] at H
  have c3b0 : decide (a0 < a1) = false := decide_eq_false c3
  clear c3
  obtain rfl := Option.some.inj H
  go_enter Tryd.func68, Tryd.ntmps68
  go_wp2
  go_ret
  exact ⟨by first | rfl | (simp; done) | (simp [*]; done), by repeat (first | exact Drawn0.refl _ | apply Drawn0.step)⟩
end Go.Proofs.YtmcldkobejhaeaaDoor.My
/- Written by this session's program (wip/gen): a plain function with the same answers as the Go function, and the proof that the Go code comes to them. Asked: that the plain function has an answer. -/
namespace Go.Proofs.YtmcldkobejhaeaaDoor.My
open Go.RowKit Go.Proofs.YtmcldkobejhaeaaDoorW.PrintWords Go.Proofs.YtmcldkobejhaeaaDoorW.PrintLast Go.Proofs.YtmcldkobejhaeaaDoorW.PrintMore
attribute [local go_sem] max2_int min2_int max_two min_two max_three min_three max_four min_four
set_option linter.unusedVariables false
set_option linter.unusedSimpArgs false
def spec_l1Behind.l0 : Nat → List ByteArray → List ByteArray → Int → Int → Option (Int)
 | 0, _, _, _, _ => none
 | k + 1, x0, x1, x5, x6 => if x6 < x5 then (if 0 ≤ (wrap64 ((wrap64 ((x0.length : Int) - 1)) - x6)) then (if (wrap64 ((wrap64 ((x0.length : Int) - 1)) - x6)) < (x0.length : Int) then (if 0 ≤ (wrap64 ((wrap64 ((x1.length : Int) - 1)) - x6)) then (if (wrap64 ((wrap64 ((x1.length : Int) - 1)) - x6)) < (x1.length : Int) then (if (rdOf ByteArray.empty x0 (wrap64 ((wrap64 ((x0.length : Int) - 1)) - x6))).toList = (rdOf ByteArray.empty x1 (wrap64 ((wrap64 ((x1.length : Int) - 1)) - x6))).toList then (spec_l1Behind.l0 k x0 x1 x5 (wrap64 (x6 + 1))) else (some x6)) else (none)) else (none)) else (none)) else (none)) else (some x6)
def spec_l1Behind.f (k : Nat) (l0 : List ByteArray) (l1 : List ByteArray) : Option (Int) := (spec_l1Least.f (l0.length : Int) (l1.length : Int)).bind fun t354 => ((spec_l1Ahead.f k l0 l1).bind fun t355 => (spec_l1Behind.l0 k l0 l1 (wrap64 (t354 - t355)) 0))
set_option maxHeartbeats 8000000 in
set_option maxRecDepth 100000 in
theorem spec_l1Behind.calls (k : Nat) (A0 : Option Addr) (c0 : Nat) (l0 : List ByteArray) (A1 : Option Addr) (c1 : Nat) (l1 : List ByteArray) (r : Int) (w : World) (hr0 : Kd.C Kd.string w A0 l0.length l0) (hc0 : l0.length ≤ c0) (hr1 : Kd.C Kd.string w A1 l1.length l1) (hc1 : l1.length ≤ c1) (h : spec_l1Behind.f k l0 l1 = some r) :
  Calls Tryd.prog 47 #[.slice A0 l0.length c0, .slice A1 l1.length c1] w fun e w' => e = .returned (.int .i64 r) ∧ Drawn0 w w' := by
 have HR0 := am hr0
 have HC0 := am hc0
 clear hr0 hc0
 have HR1 := am hr1
 have HC1 := am hc1
 clear hr1 hc1
 have H : ((spec_l1Least.f (l0.length : Int) (l1.length : Int)).bind fun t354 => ((spec_l1Ahead.f k l0 l1).bind fun t355 => (spec_l1Behind.l0 k l0 l1 (wrap64 (t354 - t355)) 0))) = some r := h
 clear h
 replace H := Option.bind_eq_some_iff.mp H
 obtain ⟨t354, A30, H⟩ := H
 replace H : ((spec_l1Ahead.f k l0 l1).bind fun t355 => (spec_l1Behind.l0 k l0 l1 (wrap64 (t354 - t355)) 0)) = some r := H
 have A3 := am A30
 clear A30
 replace H := Option.bind_eq_some_iff.mp H
 obtain ⟨t355, A40, H⟩ := H
 replace H : (spec_l1Behind.l0 k l0 l1 (wrap64 (t354 - t355)) 0) = some r := H
 have A4 := am A40
 clear A40
 have H' := am H
 clear H
 go_enter Tryd.func47, Tryd.ntmps47
 go_wp2_with (first | (go_at_call 68; (with_reducible refine (spec_l1Least.calls (l0.length : Int) (l1.length : Int) t354 _ A3.out).mono ?_); rintro e w' ⟨rfl, ⟨nd, rfl⟩⟩; (try exact zd)) | (go_at_call 45; (with_reducible refine (spec_l1Ahead.calls k _ _ l0 _ _ l1 t355 _ ?side1 ?side2 ?side3 ?side4 A4.out).mono ?_); (case side1 => exact zq HR0.out); (case side2 => exact HC0.out); (case side3 => exact zq HR1.out); (case side4 => exact HC1.out); rintro e w' ⟨rfl, ⟨nd, rfl⟩⟩; (try exact zd)))
 repeat (go_quiet (first | (go_at_call 68; (with_reducible refine (spec_l1Least.calls (l0.length : Int) (l1.length : Int) t354 _ A3.out).mono ?_); rintro e w' ⟨rfl, ⟨nd, rfl⟩⟩; (try exact zd)) | (go_at_call 45; (with_reducible refine (spec_l1Ahead.calls k _ _ l0 _ _ l1 t355 _ ?side1 ?side2 ?side3 ?side4 A4.out).mono ?_); (case side1 => exact zq HR0.out); (case side2 => exact HC0.out); (case side3 => exact zq HR1.out); (case side4 => exact HC1.out); rintro e w' ⟨rfl, ⟨nd, rfl⟩⟩; (try exact zd))); try go_wp2_with (first | (go_at_call 68; (with_reducible refine (spec_l1Least.calls (l0.length : Int) (l1.length : Int) t354 _ A3.out).mono ?_); rintro e w' ⟨rfl, ⟨nd, rfl⟩⟩; (try exact zd)) | (go_at_call 45; (with_reducible refine (spec_l1Ahead.calls k _ _ l0 _ _ l1 t355 _ ?side1 ?side2 ?side3 ?side4 A4.out).mono ?_); (case side1 => exact zq HR0.out); (case side2 => exact HC0.out); (case side3 => exact zq HR1.out); (case side4 => exact HC1.out); rintro e w' ⟨rfl, ⟨nd, rfl⟩⟩; (try exact zd))))
 go_loopg [6] k (fun kq v6 w' => ∃ (x6_1 : Int), v6 = .int .i64 x6_1 ∧ Aside0 (spec_l1Behind.l0 kq l0 l1 (wrap64 (t354 - t355)) x6_1 = some r) ∧ Aside0 (kq ≤ k) ∧ Drawn0 w w')
 case atStart => exact ⟨(0), zf, H', ⟨Nat.le_refl _⟩, by repeat (first | exact Drawn0.refl _ | apply Drawn0.step)⟩
 case round =>
  clear H'
  try clear c1
  try clear p2
  try clear c4
  obtain ⟨x6_1, rfl, HA, HK1, ⟨m1, rfl⟩⟩ := hrel
  cases gk with
  | zero => exact absurd HA.out (by simp [spec_l1Behind.l0])
  | succ k1 =>
   have H := HA.out
   clear HA
   simp only [spec_l1Behind.l0] at H
   by_cases c5 : x6_1 < (wrap64 (t354 - t355))
   ·rw [if_pos c5] at H
    have c5b0 : decide (x6_1 < (wrap64 (t354 - t355))) = true := decide_eq_true c5
    clear c5
    obtain ⟨ji6, hji6⟩ : ∃ j_ : Int, (wrap64 ((wrap64 ((l0.length : Int) - 1)) - x6_1)) = j_ := ⟨_, rfl⟩
    replace H : (if 0 ≤ (ji6) then (if (ji6) < (l0.length : Int) then (if 0 ≤ (wrap64 ((wrap64 ((l1.length : Int) - 1)) - x6_1)) then (if (wrap64 ((wrap64 ((l1.length : Int) - 1)) - x6_1)) < (l1.length : Int) then (if (rdOf ByteArray.empty l0 (ji6)).toList = (rdOf ByteArray.empty l1 (wrap64 ((wrap64 ((l1.length : Int) - 1)) - x6_1))).toList then (spec_l1Behind.l0 k1 l0 l1 (wrap64 (t354 - t355)) (wrap64 (x6_1 + 1))) else (some x6_1)) else (none)) else (none)) else (none)) else (none)) = some r := by first | (rw [hji6] at H; exact H) | (simp only [hji6] at H ⊢; exact H)
    have hji6w : (IntKind.i64.wrap ((wrap64 ((l0.length : Int) - 1)) - x6_1)) = ji6 := (i64_w _).trans hji6
    by_cases c7 : 0 ≤ (ji6)
    ·rw [if_pos c7] at H
     have c7b0 : decide (0 ≤ (ji6)) = true := decide_eq_true c7
     clear c7
     by_cases c8 : (ji6) < (l0.length : Int)
     ·rw [if_pos c8] at H
      have c8b0 : decide ((ji6) < (l0.length : Int)) = true := decide_eq_true c8
      clear c8
      obtain ⟨ji9, hji9⟩ : ∃ j_ : Int, (wrap64 ((wrap64 ((l1.length : Int) - 1)) - x6_1)) = j_ := ⟨_, rfl⟩
      replace H : (if 0 ≤ (ji9) then (if (ji9) < (l1.length : Int) then (if (rdOf ByteArray.empty l0 (ji6)).toList = (rdOf ByteArray.empty l1 (ji9)).toList then (spec_l1Behind.l0 k1 l0 l1 (wrap64 (t354 - t355)) (wrap64 (x6_1 + 1))) else (some x6_1)) else (none)) else (none)) = some r := by first | (rw [hji9] at H; exact H) | (simp only [hji9] at H ⊢; exact H)
      have hji9w : (IntKind.i64.wrap ((wrap64 ((l1.length : Int) - 1)) - x6_1)) = ji9 := (i64_w _).trans hji9
      by_cases c10 : 0 ≤ (ji9)
      ·rw [if_pos c10] at H
       have c10b0 : decide (0 ≤ (ji9)) = true := decide_eq_true c10
       clear c10
       by_cases c11 : (ji9) < (l1.length : Int)
       ·rw [if_pos c11] at H
        have c11b0 : decide ((ji9) < (l1.length : Int)) = true := decide_eq_true c11
        clear c11
        by_cases c12 : (rdOf ByteArray.empty l0 (ji6)).toList = (rdOf ByteArray.empty l1 (ji9)).toList
        ·rw [if_pos c12] at H
         have c12b0 : ((rdOf ByteArray.empty l0 (ji6)).toList == (rdOf ByteArray.empty l1 (ji9)).toList) = true := beq_iff_eq.mpr c12
         have c12b1 : ((rdOf ByteArray.empty l0 (ji6)).toList != (rdOf ByteArray.empty l1 (ji9)).toList) = false := bne_eq_false_iff_eq.mpr c12
         clear c12
         have H' := am H
         clear H
         have p356 : 0 ≤ ((ji6) : Int) := oa
         have q356 : (ji6) < (l0.length : Int) := oa
         obtain ⟨ad356, e356, hx356_0⟩ := Kd.at_string HR0.out (ji6) p356 q356
         cases e356
         replace p356 := eq_true p356
         replace q356 := eq_true q356
         have p357 : 0 ≤ ((ji9) : Int) := oa
         have q357 : (ji9) < (l1.length : Int) := oa
         obtain ⟨ad357, e357, hx357_0⟩ := Kd.at_string HR1.out (ji9) p357 q357
         cases e357
         replace p357 := eq_true p357
         replace q357 := eq_true q357
         go_wp2
         repeat (go_quiet (fail); try go_wp2)
         go_roundg k1
         case measure => have := HK1.out; omega
         case rel => exact ⟨(wrap64 (x6_1 + 1)), zf, H', ⟨by have := HK1.out; omega⟩, by repeat (first | exact Drawn0.refl _ | apply Drawn0.step)⟩
        ·rw [if_neg c12] at H
         have c12b0 : ((rdOf ByteArray.empty l0 (ji6)).toList == (rdOf ByteArray.empty l1 (ji9)).toList) = false := beq_eq_false_iff_ne.mpr c12
         have c12b1 : ((rdOf ByteArray.empty l0 (ji6)).toList != (rdOf ByteArray.empty l1 (ji9)).toList) = true := bne_iff_ne.mpr c12
         obtain rfl := Option.some.inj H
         have p356 : 0 ≤ ((ji6) : Int) := oa
         have q356 : (ji6) < (l0.length : Int) := oa
         obtain ⟨ad356, e356, hx356_0⟩ := Kd.at_string HR0.out (ji6) p356 q356
         cases e356
         replace p356 := eq_true p356
         replace q356 := eq_true q356
         have p357 : 0 ≤ ((ji9) : Int) := oa
         have q357 : (ji9) < (l1.length : Int) := oa
         obtain ⟨ad357, e357, hx357_0⟩ := Kd.at_string HR1.out (ji9) p357 q357
         cases e357
         replace p357 := eq_true p357
         replace q357 := eq_true q357
         go_wp2
         repeat (go_quiet (fail); try go_wp2)
         go_ret
         exact ⟨by first | rfl | (simp; done) | (simp only [← hji6, ← hji9] <;> (first | rfl | simp)) | (simp [*]; done), by repeat (first | exact Drawn0.refl _ | apply Drawn0.step)⟩
       ·rw [if_neg c11] at H
        exact absurd H (by simp)
      ·rw [if_neg c10] at H
       exact absurd H (by simp)
     ·rw [if_neg c8] at H
      exact absurd H (by simp)
    ·rw [if_neg c7] at H
     exact absurd H (by simp)
   ·rw [if_neg c5] at H
    have c5b0 : decide (x6_1 < (wrap64 (t354 - t355))) = false := decide_eq_false c5
    clear c5
    obtain rfl := Option.some.inj H
    go_wp2
    repeat (go_quiet (fail); try go_wp2)
    go_ret
    exact ⟨by first | rfl | (simp; done) | (simp [*]; done), by repeat (first | exact Drawn0.refl _ | apply Drawn0.step)⟩
end Go.Proofs.YtmcldkobejhaeaaDoor.My
/- Written by this session's program (wip/gen): a plain function with the same answers as the Go function, and the proof that the Go code comes to them. Asked: that the plain function has an answer. -/
namespace Go.Proofs.YtmcldkobejhaeaaDoor.My
open Go.RowKit Go.Proofs.YtmcldkobejhaeaaDoorW.PrintWords Go.Proofs.YtmcldkobejhaeaaDoorW.PrintLast Go.Proofs.YtmcldkobejhaeaaDoorW.PrintMore
attribute [local go_sem] max2_int min2_int max_two min_two max_three min_three max_four min_four
set_option linter.unusedVariables false
set_option linter.unusedSimpArgs false
def spec_SameBehind.f (k : Nat) (l0 : List ByteArray) (l1 : List ByteArray) : Option (Int × Bool) := (spec_l1Good.f k l0).bind fun t358 => (if t358 = true then ((spec_l1Good.f k l1).bind fun t359 => (if t359 = true then ((spec_l1Behind.f k l0 l1).bind fun t360 => (some (t360, true))) else (some (0, false)))) else (some (0, false)))
set_option maxHeartbeats 8000000 in
set_option maxRecDepth 100000 in
theorem spec_SameBehind.calls (k : Nat) (A0 : Option Addr) (c0 : Nat) (l0 : List ByteArray) (A1 : Option Addr) (c1 : Nat) (l1 : List ByteArray) (r1 : Int) (r2 : Bool) (w : World) (hr0 : Kd.C Kd.string w A0 l0.length l0) (hc0 : l0.length ≤ c0) (hr1 : Kd.C Kd.string w A1 l1.length l1) (hc1 : l1.length ≤ c1) (h : spec_SameBehind.f k l0 l1 = some (r1, r2)) :
  Calls Tryd.prog 20 #[.slice A0 l0.length c0, .slice A1 l1.length c1] w fun e w' => e = .returned (.tuple #[.int .i64 r1, .bool r2]) ∧ Drawn0 w w' := by
 have HR0 := am hr0
 have HC0 := am hc0
 clear hr0 hc0
 have HR1 := am hr1
 have HC1 := am hc1
 clear hr1 hc1
 have H : ((spec_l1Good.f k l0).bind fun t358 => (if t358 = true then ((spec_l1Good.f k l1).bind fun t359 => (if t359 = true then ((spec_l1Behind.f k l0 l1).bind fun t360 => (some (t360, true))) else (some (0, false)))) else (some (0, false)))) = some (r1, r2) := h
 clear h
 replace H := Option.bind_eq_some_iff.mp H
 obtain ⟨t358, A30, H⟩ := H
 replace H : (if t358 = true then ((spec_l1Good.f k l1).bind fun t359 => (if t359 = true then ((spec_l1Behind.f k l0 l1).bind fun t360 => (some (t360, true))) else (some (0, false)))) else (some (0, false))) = some (r1, r2) := H
 have A3 := am A30
 clear A30
 by_cases c4 : t358 = true
 ·subst c4
  have H1 : ((spec_l1Good.f k l1).bind fun t359 => (if t359 = true then ((spec_l1Behind.f k l0 l1).bind fun t360 => (some (t360, true))) else (some (0, false)))) = some (r1, r2) := by rw [if_pos rfl] at H; exact H
  clear H
  have H := H1
  clear H1
  replace H := Option.bind_eq_some_iff.mp H
  obtain ⟨t359, A50, H⟩ := H
  replace H : (if t359 = true then ((spec_l1Behind.f k l0 l1).bind fun t360 => (some (t360, true))) else (some (0, false))) = some (r1, r2) := H
  have A5 := am A50
  clear A50
  by_cases c6 : t359 = true
  ·subst c6
   have H1 : ((spec_l1Behind.f k l0 l1).bind fun t360 => (some (t360, true))) = some (r1, r2) := by rw [if_pos rfl] at H; exact H
   clear H
   have H := H1
   clear H1
   replace H := Option.bind_eq_some_iff.mp H
   obtain ⟨t360, A70, H⟩ := H
   replace H : (some (t360, true)) = some (r1, r2) := H
   have A7 := am A70
   clear A70
   simp only [Option.some.injEq, Prod.mk.injEq] at H
   obtain ⟨rfl, rfl⟩ := H
   go_enter Tryd.func20, Tryd.ntmps20
   go_wp2_with (first | ((with_reducible refine gateC (f := 32) rfl ?_); refine goesL_ (some 7) rfl rfl Tryd.func32 (by kernel_rfl) rfl #[.slice A0 l0.length c0] rfl zm ?_; (with_reducible refine (spec_l1Good.calls k _ _ l0 true _ ?side1 ?side2 A3.out).mono ?_); (case side1 => exact zq HR0.out); (case side2 => exact HC0.out); rintro e w' ⟨rfl, ⟨nd, rfl⟩⟩; refine ⟨_, rfl, ?_⟩) | (go_at_call 32; (with_reducible refine (spec_l1Good.calls k _ _ l1 true _ ?side1 ?side2 A5.out).mono ?_); (case side1 => exact zq HR1.out); (case side2 => exact HC1.out); rintro e w' ⟨rfl, ⟨nd, rfl⟩⟩) | ((with_reducible refine gateC (f := 47) rfl ?_); refine goesL_ (some 16) rfl rfl Tryd.func47 (by kernel_rfl) rfl #[.slice A0 l0.length c0, .slice A1 l1.length c1] rfl zm ?_; (with_reducible refine (spec_l1Behind.calls k _ _ l0 _ _ l1 t360 _ ?side1 ?side2 ?side3 ?side4 A7.out).mono ?_); (case side1 => exact zq HR0.out); (case side2 => exact HC0.out); (case side3 => exact zq HR1.out); (case side4 => exact HC1.out); rintro e w' ⟨rfl, ⟨nd, rfl⟩⟩; refine ⟨_, rfl, ?_⟩))
   go_ret2
   exact ⟨by first | rfl | (simp; done) | (simp [*]; done), by repeat (first | exact Drawn0.refl _ | apply Drawn0.step)⟩
  ·replace c6 := Bool.eq_false_iff.mpr c6
   subst c6
   have H1 : (some (0, false)) = some (r1, r2) := by rw [if_neg (show ¬ (false = true) by decide)] at H; exact H
   clear H
   have H := H1
   clear H1
   simp only [Option.some.injEq, Prod.mk.injEq] at H
   obtain ⟨rfl, rfl⟩ := H
   go_enter Tryd.func20, Tryd.ntmps20
   go_wp2_with (first | ((with_reducible refine gateC (f := 32) rfl ?_); refine goesL_ (some 7) rfl rfl Tryd.func32 (by kernel_rfl) rfl #[.slice A0 l0.length c0] rfl zm ?_; (with_reducible refine (spec_l1Good.calls k _ _ l0 true _ ?side1 ?side2 A3.out).mono ?_); (case side1 => exact zq HR0.out); (case side2 => exact HC0.out); rintro e w' ⟨rfl, ⟨nd, rfl⟩⟩; refine ⟨_, rfl, ?_⟩) | (go_at_call 32; (with_reducible refine (spec_l1Good.calls k _ _ l1 false _ ?side1 ?side2 A5.out).mono ?_); (case side1 => exact zq HR1.out); (case side2 => exact HC1.out); rintro e w' ⟨rfl, ⟨nd, rfl⟩⟩))
   go_ret2
   exact ⟨by first | rfl | (simp; done) | (simp [*]; done), by repeat (first | exact Drawn0.refl _ | apply Drawn0.step)⟩
 ·replace c4 := Bool.eq_false_iff.mpr c4
  subst c4
  have H1 : (some (0, false)) = some (r1, r2) := by rw [if_neg (show ¬ (false = true) by decide)] at H; exact H
  clear H
  have H := H1
  clear H1
  simp only [Option.some.injEq, Prod.mk.injEq] at H
  obtain ⟨rfl, rfl⟩ := H
  go_enter Tryd.func20, Tryd.ntmps20
  go_wp2_with (first | ((with_reducible refine gateC (f := 32) rfl ?_); refine goesL_ (some 7) rfl rfl Tryd.func32 (by kernel_rfl) rfl #[.slice A0 l0.length c0] rfl zm ?_; (with_reducible refine (spec_l1Good.calls k _ _ l0 false _ ?side1 ?side2 A3.out).mono ?_); (case side1 => exact zq HR0.out); (case side2 => exact HC0.out); rintro e w' ⟨rfl, ⟨nd, rfl⟩⟩; refine ⟨_, rfl, ?_⟩))
  go_ret2
  exact ⟨by first | rfl | (simp; done) | (simp [*]; done), by repeat (first | exact Drawn0.refl _ | apply Drawn0.step)⟩
end Go.Proofs.YtmcldkobejhaeaaDoor.My
/- Written by this session's program (wip/gen): a plain function with the same answers as the Go function, and the proof that the Go code comes to them. Asked: that the plain function has an answer. -/
namespace Go.Proofs.YtmcldkobejhaeaaDoor.My
open Go.RowKit Go.Proofs.YtmcldkobejhaeaaDoorW.PrintWords Go.Proofs.YtmcldkobejhaeaaDoorW.PrintLast Go.Proofs.YtmcldkobejhaeaaDoorW.PrintMore
attribute [local go_sem] max2_int min2_int max_two min_two max_three min_three max_four min_four
set_option linter.unusedVariables false
set_option linter.unusedSimpArgs false
def spec_TextOf.f (k : Nat) (l0 : List ByteArray) : Option (ByteArray × Bool) := (spec_l1Good.f k l0).bind fun t377 => (if t377 = true then ((spec_l1Text.f k l0).bind fun t378 => (some (t378, true))) else (some ((⟨#[]⟩ : ByteArray), false)))
set_option maxHeartbeats 8000000 in
set_option maxRecDepth 100000 in
theorem spec_TextOf.calls (k : Nat) (A0 : Option Addr) (c0 : Nat) (l0 : List ByteArray) (r1 : ByteArray) (r2 : Bool) (w : World) (hr0 : Kd.C Kd.string w A0 l0.length l0) (hc0 : l0.length ≤ c0) (h : spec_TextOf.f k l0 = some (r1, r2)) :
  Calls Tryd.prog 23 #[.slice A0 l0.length c0] w fun e w' => e = .returned (.tuple #[.string r1, .bool r2]) ∧ Drawn0 w w' := by
 have HR0 := am hr0
 have HC0 := am hc0
 clear hr0 hc0
 have H : ((spec_l1Good.f k l0).bind fun t377 => (if t377 = true then ((spec_l1Text.f k l0).bind fun t378 => (some (t378, true))) else (some ((⟨#[]⟩ : ByteArray), false)))) = some (r1, r2) := h
 clear h
 replace H := Option.bind_eq_some_iff.mp H
 obtain ⟨t377, A20, H⟩ := H
 replace H : (if t377 = true then ((spec_l1Text.f k l0).bind fun t378 => (some (t378, true))) else (some ((⟨#[]⟩ : ByteArray), false))) = some (r1, r2) := H
 have A2 := am A20
 clear A20
 by_cases c3 : t377 = true
 ·subst c3
  have H1 : ((spec_l1Text.f k l0).bind fun t378 => (some (t378, true))) = some (r1, r2) := by rw [if_pos rfl] at H; exact H
  clear H
  have H := H1
  clear H1
  replace H := Option.bind_eq_some_iff.mp H
  obtain ⟨t378, A40, H⟩ := H
  replace H : (some (t378, true)) = some (r1, r2) := H
  have A4 := am A40
  clear A40
  simp only [Option.some.injEq, Prod.mk.injEq] at H
  obtain ⟨rfl, rfl⟩ := H
  go_enter Tryd.func23, Tryd.ntmps23
  go_wp2_with (first | ((with_reducible refine gateC (f := 32) rfl ?_); refine goesL_ (some 5) rfl rfl Tryd.func32 (by kernel_rfl) rfl #[.slice A0 l0.length c0] rfl zm ?_; (with_reducible refine (spec_l1Good.calls k _ _ l0 true _ ?side1 ?side2 A2.out).mono ?_); (case side1 => exact zq HR0.out); (case side2 => exact HC0.out); rintro e w' ⟨rfl, ⟨nd, rfl⟩⟩; refine ⟨_, rfl, ?_⟩) | ((with_reducible refine gateC (f := 36) rfl ?_); refine goesL_ (some 8) rfl rfl Tryd.func36 (by kernel_rfl) rfl #[.slice A0 l0.length c0] rfl zm ?_; (with_reducible refine (spec_l1Text.calls k _ _ l0 t378 _ ?side1 ?side2 A4.out).mono ?_); (case side1 => exact zq HR0.out); (case side2 => exact HC0.out); rintro e w' ⟨rfl, ⟨nd, rfl⟩⟩; refine ⟨_, rfl, ?_⟩))
  go_ret2
  exact ⟨by first | rfl | (simp; done) | (simp [*]; done), by repeat (first | exact Drawn0.refl _ | apply Drawn0.step)⟩
 ·replace c3 := Bool.eq_false_iff.mpr c3
  subst c3
  have H1 : (some ((⟨#[]⟩ : ByteArray), false)) = some (r1, r2) := by rw [if_neg (show ¬ (false = true) by decide)] at H; exact H
  clear H
  have H := H1
  clear H1
  simp only [Option.some.injEq, Prod.mk.injEq] at H
  obtain ⟨rfl, rfl⟩ := H
  go_enter Tryd.func23, Tryd.ntmps23
  go_wp2_with (first | ((with_reducible refine gateC (f := 32) rfl ?_); refine goesL_ (some 5) rfl rfl Tryd.func32 (by kernel_rfl) rfl #[.slice A0 l0.length c0] rfl zm ?_; (with_reducible refine (spec_l1Good.calls k _ _ l0 false _ ?side1 ?side2 A2.out).mono ?_); (case side1 => exact zq HR0.out); (case side2 => exact HC0.out); rintro e w' ⟨rfl, ⟨nd, rfl⟩⟩; refine ⟨_, rfl, ?_⟩))
  go_ret2
  exact ⟨by first | rfl | (simp; done) | (simp [*]; done), by repeat (first | exact Drawn0.refl _ | apply Drawn0.step)⟩
end Go.Proofs.YtmcldkobejhaeaaDoor.My
/- Written by this session's program (wip/gen): a plain function with the same answers as the Go function, and the proof that the Go code comes to them. Asked: that the plain function has an answer. -/
namespace Go.Proofs.YtmcldkobejhaeaaDoor.My
open Go.RowKit Go.Proofs.YtmcldkobejhaeaaDoorW.PrintWords Go.Proofs.YtmcldkobejhaeaaDoorW.PrintLast Go.Proofs.YtmcldkobejhaeaaDoorW.PrintMore
attribute [local go_sem] max2_int min2_int max_two min_two max_three min_three max_four min_four
set_option linter.unusedVariables false
set_option linter.unusedSimpArgs false
mutual
def laws_FnLines.j0 : Nat → List Int → ByteArray → List ByteArray → Bool → Bool → Option (Bool)
 | 0, _, _, _, _, _ => none
 | k + 1, x1, x5, x6, x7, x72 => if x72 = true then (some false) else (if x7 = true then ((impl_TextOf.f k x6).bind fun bt406 => ((impl_IsWhole.f k x6).bind fun bt408 => ((impl_GoodLines.f k x6).bind fun t410 => (if t410 = true then (if bt406.2 = true then (if bt406.1.toList = x5.toList then (if bt408.2 = true then (if x5.toList = ([] : List UInt8) then (if (bt408.1 != true) = true then (some false) else (laws_FnLines.j1 k x1)) else (if 0 ≤ (wrap64 ((x5.size : Int) - 1)) then (if (wrap64 ((x5.size : Int) - 1)) < (x5.size : Int) then (if (bt408.1 != ((bt x5 (wrap64 ((x5.size : Int) - 1))) == 10)) = true then (some false) else (laws_FnLines.j1 k x1)) else (none)) else (none))) else (some false)) else (some false)) else (some false)) else (some false))))) else (laws_FnLines.j1 k x1))
def laws_FnLines.j1 : Nat → List Int → Option (Bool)
 | 0, _ => none
 | k + 1, x1 => (spec_DrawSameAhead.f k x1).bind fun bt411 => ((impl_SameAhead.f k bt411.1 bt411.2).bind fun bt417 => ((spec_SameAhead.f k bt411.1 bt411.2).bind fun bt419 => ((impl_SameBehind.f k bt411.1 bt411.2).bind fun bt421 => ((spec_SameBehind.f k bt411.1 bt411.2).bind fun bt423 => (if (bt417.2 != bt419.2) = true then (laws_FnLines.j2 k x1 bt411.1 bt411.2 bt417.1 bt417.2 bt421.1 true) else (if bt417.1 = bt419.1 then (if (bt421.2 != bt423.2) = true then (laws_FnLines.j2 k x1 bt411.1 bt411.2 bt417.1 bt417.2 bt421.1 true) else (laws_FnLines.j2 k x1 bt411.1 bt411.2 bt417.1 bt417.2 bt421.1 (bt421.1 != bt423.1))) else (laws_FnLines.j2 k x1 bt411.1 bt411.2 bt417.1 bt417.2 bt421.1 true)))))))
def laws_FnLines.j2 : Nat → List Int → List ByteArray → List ByteArray → Int → Bool → Int → Bool → Option (Bool)
 | 0, _, _, _, _, _, _, _ => none
 | k + 1, x1, x14, x15, x16, x17, x20, x160 => if x160 = true then (some false) else (if x17 = true then ((impl_PartOf.f k x14 0 x16).bind fun bt425 => ((impl_PartOf.f k x15 0 x16).bind fun bt429 => (if bt425.2 = true then (if bt429.2 = true then ((laws_sameTexts.f k bt425.1 bt429.1).bind fun t433 => (if t433 = true then (if (wrap64 (x16 + x20)) > (x14.length : Int) then (some false) else (if (wrap64 (x16 + x20)) > (x15.length : Int) then (some false) else (laws_FnLines.j3 k x1))) else (some false))) else (some false)) else (some false)))) else (laws_FnLines.j3 k x1))
def laws_FnLines.j3 : Nat → List Int → Option (Bool)
 | 0, _ => none
 | k + 1, x1 => (spec_DrawTextOf.f k x1).bind fun t434 => ((impl_TextOf.f k t434).bind fun bt437 => ((spec_TextOf.f k t434).bind fun bt439 => ((impl_IsWhole.f k t434).bind fun bt441 => ((spec_IsWhole.f k t434).bind fun bt443 => ((spec_DrawPartOf.f k x1).bind fun bt445 => ((impl_PartOf.f k bt445.1 bt445.2.1 bt445.2.2).bind fun bt450 => ((spec_PartOf.f k bt445.1 bt445.2.1 bt445.2.2).bind fun bt454 => ((spec_DrawPlainOf.f x1).bind fun t458 => ((impl_PlainOf.f k t458).bind fun bt459 => ((spec_PlainOf.f k t458).bind fun bt461 => (if (bt437.2 == bt439.2) = true then (if bt437.1.toList = bt439.1.toList then (if (bt441.2 == bt443.2) = true then (if (bt441.1 == bt443.1) = true then (if (bt450.2 == bt454.2) = true then ((laws_sameTexts.f k bt450.1 bt454.1).bind fun t463 => (if t463 = true then (if (bt459.2 == bt461.2) = true then (if bt459.1.toList = bt461.1.toList then ((impl_GoodLines.f k t434).bind fun t464 => ((spec_GoodLines.f k t434).bind fun t465 => (some (t464 == t465)))) else (some false)) else (some false)) else (some false))) else (some false)) else (some false)) else (some false)) else (some false)) else (some false))))))))))))
end
def laws_FnLines.f (k : Nat) (l0 : List Int) (l1 : List Int) : Option (Bool) := (laws_big.f l0 l1).bind fun t395 => (if t395 = true then (some true) else ((spec_DrawLinesOf.f k l0).bind fun t396 => ((impl_LinesOf.f k t396).bind fun bt397 => ((spec_LinesOf.f k t396).bind fun bt401 => (if (bt397.2 != bt401.2) = true then (laws_FnLines.j0 k l1 t396 bt397.1 bt397.2 true) else ((laws_sameTexts.f k bt397.1 bt401.1).bind fun t405 => (laws_FnLines.j0 k l1 t396 bt397.1 bt397.2 (!t405))))))))
set_option maxHeartbeats 8000000 in
set_option maxRecDepth 100000 in
theorem laws_FnLines.calls (k : Nat) (A0 : Option Addr) (c0 : Nat) (l0 : List Int) (A1 : Option Addr) (c1 : Nat) (l1 : List Int) (r : Bool) (w : World) (hr0 : Kd.C (Kd.int .u8) w A0 l0.length l0) (hc0 : l0.length ≤ c0) (hr1 : Kd.C (Kd.int .u8) w A1 l1.length l1) (hc1 : l1.length ≤ c1) (h : laws_FnLines.f k l0 l1 = some r) (hr_ : r = true) :
  Calls Tryd.prog 4 #[.slice A0 l0.length c0, .slice A1 l1.length c1] w fun e w' => e = .returned (.bool r) ∧ Below w.heap.size w w' := by
 have HR_ := am hr_
 clear hr_
 have HR0 := am hr0
 have HC0 := am hc0
 clear hr0 hc0
 have HR1 := am hr1
 have HC1 := am hc1
 clear hr1 hc1
 have HB := am (Below.refl w.heap.size w)
 have H : ((laws_big.f l0 l1).bind fun t395 => (if t395 = true then (some true) else ((spec_DrawLinesOf.f k l0).bind fun t396 => ((impl_LinesOf.f k t396).bind fun bt397 => ((spec_LinesOf.f k t396).bind fun bt401 => (if (bt397.2 != bt401.2) = true then (laws_FnLines.j0 k l1 t396 bt397.1 bt397.2 true) else ((laws_sameTexts.f k bt397.1 bt401.1).bind fun t405 => (laws_FnLines.j0 k l1 t396 bt397.1 bt397.2 (!t405))))))))) = some r := h
 clear h
 replace H := Option.bind_eq_some_iff.mp H
 obtain ⟨t395, A30, H⟩ := H
 replace H : (if t395 = true then (some true) else ((spec_DrawLinesOf.f k l0).bind fun t396 => ((impl_LinesOf.f k t396).bind fun bt397 => ((spec_LinesOf.f k t396).bind fun bt401 => (if (bt397.2 != bt401.2) = true then (laws_FnLines.j0 k l1 t396 bt397.1 bt397.2 true) else ((laws_sameTexts.f k bt397.1 bt401.1).bind fun t405 => (laws_FnLines.j0 k l1 t396 bt397.1 bt397.2 (!t405)))))))) = some r := H
 have A3 := am A30
 clear A30
 by_cases c4 : t395 = true
 ·as_aux_lemma =>
    subst c4
    have H1 : (some true) = some r := by rw [if_pos rfl] at H; exact H
    clear H
    have H := H1
    clear H1
    first
    | exact absurd (show false = true from (Option.some.inj H).trans HR_.out) Bool.false_ne_true
    | obtain rfl := Option.some.inj H
      go_enter Tryd.func4, Tryd.ntmps4
      go_wp2_with (first | ((with_reducible refine gateC (f := 10) rfl ?_); refine goesL_ (some 51) rfl rfl Tryd.func10 (by kernel_rfl) rfl #[.slice A0 l0.length c0, .slice A1 l1.length c1] rfl zm ?_; (with_reducible refine (laws_big.calls _ _ l0 _ _ l1 true _ ?side1 ?side2 ?side3 ?side4 A3.out).mono ?_); (case side1 => exact zq HR0.out); (case side2 => exact HC0.out); (case side3 => exact zq HR1.out); (case side4 => exact HC1.out); rintro e w' ⟨rfl, ⟨nd, rfl⟩⟩; refine ⟨_, rfl, ?_⟩))
      go_ret
      exact ⟨by first | rfl | (simp [errW_none, errW_some] <;> rfl) | (simp [*, errW_none, errW_some] <;> rfl), by repeat (first | (with_reducible first | exact HB.out | apply below_alloc | apply pw_below_drewN | apply below_drew1) | exact HB.out)⟩
 ·as_aux_lemma =>
    replace c4 := Bool.eq_false_iff.mpr c4
    subst c4
    have H1 : ((spec_DrawLinesOf.f k l0).bind fun t396 => ((impl_LinesOf.f k t396).bind fun bt397 => ((spec_LinesOf.f k t396).bind fun bt401 => (if (bt397.2 != bt401.2) = true then (laws_FnLines.j0 k l1 t396 bt397.1 bt397.2 true) else ((laws_sameTexts.f k bt397.1 bt401.1).bind fun t405 => (laws_FnLines.j0 k l1 t396 bt397.1 bt397.2 (!t405))))))) = some r := by rw [if_neg (show ¬ (false = true) by decide)] at H; exact H
    clear H
    have H := H1
    clear H1
    replace H := Option.bind_eq_some_iff.mp H
    obtain ⟨t396, A50, H⟩ := H
    replace H : ((impl_LinesOf.f k t396).bind fun bt397 => ((spec_LinesOf.f k t396).bind fun bt401 => (if (bt397.2 != bt401.2) = true then (laws_FnLines.j0 k l1 t396 bt397.1 bt397.2 true) else ((laws_sameTexts.f k bt397.1 bt401.1).bind fun t405 => (laws_FnLines.j0 k l1 t396 bt397.1 bt397.2 (!t405)))))) = some r := H
    have A5 := am A50
    clear A50
    replace H := Option.bind_eq_some_iff.mp H
    obtain ⟨⟨t397, t398⟩, A60, H⟩ := H
    replace H : ((spec_LinesOf.f k t396).bind fun bt401 => (if (t398 != bt401.2) = true then (laws_FnLines.j0 k l1 t396 t397 t398 true) else ((laws_sameTexts.f k t397 bt401.1).bind fun t405 => (laws_FnLines.j0 k l1 t396 t397 t398 (!t405))))) = some r := H
    have A6 := am A60
    clear A60
    replace H := Option.bind_eq_some_iff.mp H
    obtain ⟨⟨t401, t402⟩, A70, H⟩ := H
    replace H : (if (t398 != t402) = true then (laws_FnLines.j0 k l1 t396 t397 t398 true) else ((laws_sameTexts.f k t397 t401).bind fun t405 => (laws_FnLines.j0 k l1 t396 t397 t398 (!t405)))) = some r := H
    have A7 := am A70
    clear A70
    have HC8 := am H
    clear H
    go_enter Tryd.func4, Tryd.ntmps4
    go_upto_region 6 with (first | ((with_reducible refine gateC (f := 10) rfl ?_); refine goesL_ (some 51) rfl rfl Tryd.func10 (by kernel_rfl) rfl #[.slice A0 l0.length c0, .slice A1 l1.length c1] rfl zm ?_; (with_reducible refine (laws_big.calls _ _ l0 _ _ l1 false _ ?side1 ?side2 ?side3 ?side4 A3.out).mono ?_); (case side1 => exact zq HR0.out); (case side2 => exact HC0.out); (case side3 => exact zq HR1.out); (case side4 => exact HC1.out); rintro e w' ⟨rfl, ⟨nd, rfl⟩⟩; refine ⟨_, rfl, ?_⟩) | ((with_reducible refine gateC (f := 11) rfl ?_); refine goesL_ (some 53) rfl rfl Tryd.func11 (by kernel_rfl) rfl #[.slice A0 l0.length c0] rfl zm ?_; (with_reducible refine (spec_DrawLinesOf.calls k _ _ l0 t396 _ ?side1 ?side2 A5.out).mono ?_); (case side1 => exact zq HR0.out); (case side2 => exact HC0.out); rintro e w9 ⟨rfl, hb⟩; refine ⟨_, rfl, ?_⟩; have n0_ := am (below_step zb hb); clear HB; have HB := n0_; clear n0_; (try clear hb)) | ((with_reducible refine gateC (f := 6) rfl ?_); refine goesL_ (some 56) rfl rfl Tryd.func6 (by kernel_rfl) rfl #[.string t396] rfl zm ?_; (with_reducible refine (impl_LinesOf.calls k t396 t397 t398 _ A6.out).mono ?_); rintro e w10 ⟨v399, rfl, ho0, hb⟩; refine ⟨_, rfl, ?_⟩; have n0_ := am (Kd.R_lower ho0 (below_size zb)); have n1_ := am (below_step zb hb); clear HB; have HO400 := n0_; have HB := n1_; clear n0_ n1_; (try clear hb); (try clear ho0)) | ((with_reducible refine gateC (f := 5) rfl ?_); refine goesL_ (some 61) rfl rfl Tryd.func5 (by kernel_rfl) rfl #[.string t396] rfl zm ?_; (with_reducible refine (spec_LinesOf.calls k t396 t401 t402 _ A7.out).mono ?_); rintro e w11 ⟨v403, rfl, ho0, hb⟩; refine ⟨_, rfl, ?_⟩; have n0_ := am (Kd.R_elder' (zr HO400.out) (Kd.R_base ho0) hb); have n1_ := am (Kd.R_lower (Kd.R_new' ho0 (Kd.R_lt (zr HO400.out))) (below_size zb)); have n2_ := am (below_step zb hb); clear HO400; clear HB; have HO400 := n0_; have HO404 := n1_; have HB := n2_; clear n0_ n1_ n2_; (try clear hb); (try clear ho0)))
    (try simp only [Act.put, List.setIfInBounds_toArray, List.set_cons_zero, List.set_cons_succ])
    go_cut [72] (fun v72 wc => ∃ (kq : Nat) (x72_7 : Bool), v72 = .bool x72_7 ∧ Aside0 (laws_FnLines.j0 kq l1 t396 t397 t398 x72_7 = some r) ∧ Aside0 (kq ≤ k) ∧ Aside0 (Kd.R Kd.string 9 wc w.heap.size (fun _ => True) v399 t397) ∧ Aside0 (Below w.heap.size w wc))
    case first =>
     have H := HC8.out
     clear HC8
     by_cases c12 : (t398 != t402) = true
     ·as_aux_lemma =>
        rw [if_pos c12] at H
        have c12b0 : (t398 != t402) = true := c12
        (try (have c12b1 : decide (t398 = t402) = false := by simpa using c12))
        (try (have c12b2 : (t398 == t402) = false := by simpa using c12))
        (try (have c12b3 : ¬ (t398 = t402) := by simpa using c12))
        clear c12
        (first | rw [c12b0] | (simp only [i64_w, i32_w]; rw [c12b0]) | skip)
        have H' := am H
        clear H
        go_wp2
        go_meet
        case rel => exact ⟨_, (true), zf, H', ⟨by first | omega | exact Nat.le_refl _⟩, ⟨by (with_reducible repeat (first | apply Kd.R_alloc | apply Kd.R_drewN | apply Kd.R_drew)); exact Kd.R_mono HO400.out (fun _ hk => trivial)⟩, ⟨by repeat (first | (with_reducible first | exact HB.out | apply below_alloc | apply pw_below_drewN | apply below_drew1) | exact HB.out)⟩⟩
     ·as_aux_lemma =>
        rw [if_neg c12] at H
        have c12b0 : (t398 != t402) = false := by simpa using c12
        (try (have c12b1 : decide (t398 = t402) = true := by simpa using c12))
        (try (have c12b2 : (t398 == t402) = true := by simpa using c12))
        clear c12
        (first | rw [c12b0] | (simp only [i64_w, i32_w]; rw [c12b0]) | skip)
        replace H := Option.bind_eq_some_iff.mp H
        obtain ⟨t405, A130, H⟩ := H
        replace H : (laws_FnLines.j0 k l1 t396 t397 t398 (!t405)) = some r := H
        have A13 := am A130
        clear A130
        have H' := am H
        clear H
        obtain ⟨Ao14, co14, eo14⟩ := Kd.R_slice HO400.out
        subst eo14
        obtain ⟨Ao15, co15, eo15⟩ := Kd.R_slice HO404.out
        subst eo15
        go_wp2_with (first | (go_at_call 12; (with_reducible refine (laws_sameTexts.calls k _ _ t397 _ _ t401 t405 _ ?side1 ?side2 ?side3 ?side4 A13.out).mono ?_); (case side1 => repeat (first | exact (Kd.R_reads' HO400.out).2.2 | (with_reducible refine Kd.C_alloc ?_ _) | (with_reducible refine Kd.C_drewN ?_ _) | (with_reducible refine Kd.C_drew ?_))); (case side2 => exact (Kd.R_reads' HO400.out).2.1); (case side3 => repeat (first | exact (Kd.R_reads' HO404.out).2.2 | (with_reducible refine Kd.C_alloc ?_ _) | (with_reducible refine Kd.C_drewN ?_ _) | (with_reducible refine Kd.C_drew ?_))); (case side4 => exact (Kd.R_reads' HO404.out).2.1); rintro e w' ⟨rfl, ⟨nd, rfl⟩⟩))
        go_meet
        case rel => exact ⟨_, (!t405), zf, H', ⟨by first | omega | exact Nat.le_refl _⟩, ⟨by (with_reducible repeat (first | apply Kd.R_alloc | apply Kd.R_drewN | apply Kd.R_drew)); exact Kd.R_mono HO400.out (fun _ hk => trivial)⟩, ⟨by repeat (first | (with_reducible first | exact HB.out | apply below_alloc | apply pw_below_drewN | apply below_drew1) | exact HB.out)⟩⟩
    case rest =>
     clear HC8
     try clear c1
     try clear p2
     try clear c4
     try clear c5
     try clear c6
     try clear c10
     try clear c11
     try clear c12
     try clear c12b0
     try clear c12b1
     try clear c12b2
     obtain ⟨kq, x72_7, rfl, HA, HJ7, HO_6, HB⟩ := hcut
     cases kq with
     | zero => exact absurd HA.out (by simp [laws_FnLines.j0])
     | succ kj7 =>
      have H := HA.out
      clear HA
      simp only [laws_FnLines.j0] at H
      by_cases c16 : x72_7 = true
      ·as_aux_lemma =>
         subst c16
         have H1 : (some false) = some r := by rw [if_pos rfl] at H; exact H
         clear H
         have H := H1
         clear H1
         exact absurd (show false = true from (Option.some.inj H).trans HR_.out) Bool.false_ne_true
      ·as_aux_lemma =>
         replace c16 := Bool.eq_false_iff.mpr c16
         subst c16
         have H1 : (if t398 = true then ((impl_TextOf.f kj7 t397).bind fun bt406 => ((impl_IsWhole.f kj7 t397).bind fun bt408 => ((impl_GoodLines.f kj7 t397).bind fun t410 => (if t410 = true then (if bt406.2 = true then (if bt406.1.toList = t396.toList then (if bt408.2 = true then (if t396.toList = ([] : List UInt8) then (if (bt408.1 != true) = true then (some false) else (laws_FnLines.j1 kj7 l1)) else (if 0 ≤ (wrap64 ((t396.size : Int) - 1)) then (if (wrap64 ((t396.size : Int) - 1)) < (t396.size : Int) then (if (bt408.1 != ((bt t396 (wrap64 ((t396.size : Int) - 1))) == 10)) = true then (some false) else (laws_FnLines.j1 kj7 l1)) else (none)) else (none))) else (some false)) else (some false)) else (some false)) else (some false))))) else (laws_FnLines.j1 kj7 l1)) = some r := by rw [if_neg (show ¬ (false = true) by decide)] at H; exact H
         clear H
         have H := H1
         clear H1
         have HC17 := am H
         clear H
         go_upto_if 73 with (fail)
         go_cut [] (fun wc => ∃ (kq : Nat), Aside0 (laws_FnLines.j1 kq l1 = some r) ∧ Aside0 (kq ≤ kj7) ∧ Aside0 (Below w.heap.size w wc))
         case first =>
          have H := HC17.out
          clear HC17
          by_cases c18 : t398 = true
          ·as_aux_lemma =>
             subst c18
             have H1 : ((impl_TextOf.f kj7 t397).bind fun bt406 => ((impl_IsWhole.f kj7 t397).bind fun bt408 => ((impl_GoodLines.f kj7 t397).bind fun t410 => (if t410 = true then (if bt406.2 = true then (if bt406.1.toList = t396.toList then (if bt408.2 = true then (if t396.toList = ([] : List UInt8) then (if (bt408.1 != true) = true then (some false) else (laws_FnLines.j1 kj7 l1)) else (if 0 ≤ (wrap64 ((t396.size : Int) - 1)) then (if (wrap64 ((t396.size : Int) - 1)) < (t396.size : Int) then (if (bt408.1 != ((bt t396 (wrap64 ((t396.size : Int) - 1))) == 10)) = true then (some false) else (laws_FnLines.j1 kj7 l1)) else (none)) else (none))) else (some false)) else (some false)) else (some false)) else (some false))))) = some r := by rw [if_pos rfl] at H; exact H
             clear H
             have H := H1
             clear H1
             replace H := Option.bind_eq_some_iff.mp H
             obtain ⟨⟨t406, t407⟩, A190, H⟩ := H
             replace H : ((impl_IsWhole.f kj7 t397).bind fun bt408 => ((impl_GoodLines.f kj7 t397).bind fun t410 => (if t410 = true then (if t407 = true then (if t406.toList = t396.toList then (if bt408.2 = true then (if t396.toList = ([] : List UInt8) then (if (bt408.1 != true) = true then (some false) else (laws_FnLines.j1 kj7 l1)) else (if 0 ≤ (wrap64 ((t396.size : Int) - 1)) then (if (wrap64 ((t396.size : Int) - 1)) < (t396.size : Int) then (if (bt408.1 != ((bt t396 (wrap64 ((t396.size : Int) - 1))) == 10)) = true then (some false) else (laws_FnLines.j1 kj7 l1)) else (none)) else (none))) else (some false)) else (some false)) else (some false)) else (some false)))) = some r := H
             have A19 := am A190
             clear A190
             replace H := Option.bind_eq_some_iff.mp H
             obtain ⟨⟨t408, t409⟩, A200, H⟩ := H
             replace H : ((impl_GoodLines.f kj7 t397).bind fun t410 => (if t410 = true then (if t407 = true then (if t406.toList = t396.toList then (if t409 = true then (if t396.toList = ([] : List UInt8) then (if (t408 != true) = true then (some false) else (laws_FnLines.j1 kj7 l1)) else (if 0 ≤ (wrap64 ((t396.size : Int) - 1)) then (if (wrap64 ((t396.size : Int) - 1)) < (t396.size : Int) then (if (t408 != ((bt t396 (wrap64 ((t396.size : Int) - 1))) == 10)) = true then (some false) else (laws_FnLines.j1 kj7 l1)) else (none)) else (none))) else (some false)) else (some false)) else (some false)) else (some false))) = some r := H
             have A20 := am A200
             clear A200
             replace H := Option.bind_eq_some_iff.mp H
             obtain ⟨t410, A210, H⟩ := H
             replace H : (if t410 = true then (if t407 = true then (if t406.toList = t396.toList then (if t409 = true then (if t396.toList = ([] : List UInt8) then (if (t408 != true) = true then (some false) else (laws_FnLines.j1 kj7 l1)) else (if 0 ≤ (wrap64 ((t396.size : Int) - 1)) then (if (wrap64 ((t396.size : Int) - 1)) < (t396.size : Int) then (if (t408 != ((bt t396 (wrap64 ((t396.size : Int) - 1))) == 10)) = true then (some false) else (laws_FnLines.j1 kj7 l1)) else (none)) else (none))) else (some false)) else (some false)) else (some false)) else (some false)) = some r := H
             have A21 := am A210
             clear A210
             by_cases c22 : t410 = true
             ·as_aux_lemma =>
                subst c22
                have H1 : (if t407 = true then (if t406.toList = t396.toList then (if t409 = true then (if t396.toList = ([] : List UInt8) then (if (t408 != true) = true then (some false) else (laws_FnLines.j1 kj7 l1)) else (if 0 ≤ (wrap64 ((t396.size : Int) - 1)) then (if (wrap64 ((t396.size : Int) - 1)) < (t396.size : Int) then (if (t408 != ((bt t396 (wrap64 ((t396.size : Int) - 1))) == 10)) = true then (some false) else (laws_FnLines.j1 kj7 l1)) else (none)) else (none))) else (some false)) else (some false)) else (some false)) = some r := by rw [if_pos rfl] at H; exact H
                clear H
                have H := H1
                clear H1
                by_cases c23 : t407 = true
                ·as_aux_lemma =>
                   subst c23
                   have H1 : (if t406.toList = t396.toList then (if t409 = true then (if t396.toList = ([] : List UInt8) then (if (t408 != true) = true then (some false) else (laws_FnLines.j1 kj7 l1)) else (if 0 ≤ (wrap64 ((t396.size : Int) - 1)) then (if (wrap64 ((t396.size : Int) - 1)) < (t396.size : Int) then (if (t408 != ((bt t396 (wrap64 ((t396.size : Int) - 1))) == 10)) = true then (some false) else (laws_FnLines.j1 kj7 l1)) else (none)) else (none))) else (some false)) else (some false)) = some r := by rw [if_pos rfl] at H; exact H
                   clear H
                   have H := H1
                   clear H1
                   by_cases c24 : t406.toList = t396.toList
                   ·as_aux_lemma =>
                      rw [if_pos c24] at H
                      have c24b0 : (t406.toList == t396.toList) = true := beq_iff_eq.mpr c24
                      have c24b1 : (t406.toList != t396.toList) = false := bne_eq_false_iff_eq.mpr c24
                      clear c24
                      (first | rw [c24b0] | (simp only [i64_w, i32_w]; rw [c24b0]) | skip)
                      by_cases c25 : t409 = true
                      ·as_aux_lemma =>
                         subst c25
                         have H1 : (if t396.toList = ([] : List UInt8) then (if (t408 != true) = true then (some false) else (laws_FnLines.j1 kj7 l1)) else (if 0 ≤ (wrap64 ((t396.size : Int) - 1)) then (if (wrap64 ((t396.size : Int) - 1)) < (t396.size : Int) then (if (t408 != ((bt t396 (wrap64 ((t396.size : Int) - 1))) == 10)) = true then (some false) else (laws_FnLines.j1 kj7 l1)) else (none)) else (none))) = some r := by rw [if_pos rfl] at H; exact H
                         clear H
                         have H := H1
                         clear H1
                         by_cases c26 : t396.toList = ([] : List UInt8)
                         ·as_aux_lemma =>
                            rw [if_pos c26] at H
                            have c26b0 : (t396.toList == ([] : List UInt8)) = true := beq_iff_eq.mpr c26
                            have c26b1 : (t396.toList != ([] : List UInt8)) = false := bne_eq_false_iff_eq.mpr c26
                            clear c26
                            by_cases c27 : (t408 != true) = true
                            ·as_aux_lemma =>
                               rw [if_pos c27] at H
                               have c27b0 : (t408 != true) = true := c27
                               (try (have c27b1 : decide (t408 = true) = false := by simpa using c27))
                               (try (have c27b2 : (t408 == true) = false := by simpa using c27))
                               (try (have c27b3 : ¬ (t408 = true) := by simpa using c27))
                               clear c27
                               exact absurd (show false = true from (Option.some.inj H).trans HR_.out) Bool.false_ne_true
                            ·as_aux_lemma =>
                               rw [if_neg c27] at H
                               have c27b0 : (t408 != true) = false := by simpa using c27
                               (try (have c27b1 : decide (t408 = true) = true := by simpa using c27))
                               (try (have c27b2 : (t408 == true) = true := by simpa using c27))
                               clear c27
                               have H' := am H
                               clear H
                               obtain ⟨Ao30, co30, eo30⟩ := Kd.R_slice HO_6.out
                               subst eo30
                               go_wp2_with (first | ((with_reducible refine gateC (f := 13) rfl ?_); refine goesL_ (some 76) rfl rfl Tryd.func13 (by kernel_rfl) rfl #[.slice Ao30 t397.length co30] rfl zm ?_; (with_reducible refine (impl_TextOf.calls kj7 _ _ t397 t406 true _ ?side1 ?side2 A19.out).mono ?_); (case side1 => repeat (first | exact (Kd.R_reads' HO_6.out).2.2 | (with_reducible refine Kd.C_alloc ?_ _) | (with_reducible refine Kd.C_drewN ?_ _) | (with_reducible refine Kd.C_drew ?_))); (case side2 => exact (Kd.R_reads' HO_6.out).2.1); rintro e w31 ⟨rfl, hb⟩; refine ⟨_, rfl, ?_⟩; have n0_ := am (Kd.R_below (zr HO_6.out) hb); have n1_ := am (below_step zb hb); clear HO_6; clear HB; have HO_6 := n0_; have HB := n1_; clear n0_ n1_; (try clear hb)) | ((with_reducible refine gateC (f := 14) rfl ?_); refine goesL_ (some 81) rfl rfl Tryd.func14 (by kernel_rfl) rfl #[.slice Ao30 t397.length co30] rfl zm ?_; (with_reducible refine (impl_IsWhole.calls kj7 _ _ t397 t408 true _ ?side1 ?side2 A20.out).mono ?_); (case side1 => repeat (first | exact (Kd.R_reads' HO_6.out).2.2 | (with_reducible refine Kd.C_alloc ?_ _) | (with_reducible refine Kd.C_drewN ?_ _) | (with_reducible refine Kd.C_drew ?_))); (case side2 => exact (Kd.R_reads' HO_6.out).2.1); rintro e w' ⟨rfl, ⟨nd, rfl⟩⟩; refine ⟨_, rfl, ?_⟩) | ((with_reducible refine gateC (f := 15) rfl ?_); refine goesL_ (some 85) rfl rfl Tryd.func15 (by kernel_rfl) rfl #[.slice Ao30 t397.length co30] rfl zm ?_; (with_reducible refine (impl_GoodLines.calls kj7 _ _ t397 true _ ?side1 ?side2 A21.out).mono ?_); (case side1 => repeat (first | exact (Kd.R_reads' HO_6.out).2.2 | (with_reducible refine Kd.C_alloc ?_ _) | (with_reducible refine Kd.C_drewN ?_ _) | (with_reducible refine Kd.C_drew ?_))); (case side2 => exact (Kd.R_reads' HO_6.out).2.1); rintro e w' ⟨rfl, ⟨nd, rfl⟩⟩; refine ⟨_, rfl, ?_⟩))
                               go_meet
                               case rel => exact ⟨_, H', ⟨by have := HJ7.out; first | omega | exact Nat.le_refl _⟩, ⟨by repeat (first | (with_reducible first | exact HB.out | apply below_alloc | apply pw_below_drewN | apply below_drew1) | exact HB.out)⟩⟩
                         ·as_aux_lemma =>
                            rw [if_neg c26] at H
                            have c26b0 : (t396.toList == ([] : List UInt8)) = false := beq_eq_false_iff_ne.mpr c26
                            have c26b1 : (t396.toList != ([] : List UInt8)) = true := bne_iff_ne.mpr c26
                            obtain ⟨ji32, hji32⟩ : ∃ j_ : Int, (wrap64 ((t396.size : Int) - 1)) = j_ := ⟨_, rfl⟩
                            replace H : (if 0 ≤ (ji32) then (if (ji32) < (t396.size : Int) then (if (t408 != ((bt t396 (ji32)) == 10)) = true then (some false) else (laws_FnLines.j1 kj7 l1)) else (none)) else (none)) = some r := by first | (rw [hji32] at H; exact H) | (simp only [hji32] at H ⊢; exact H)
                            (try rw [hji32] at A19)
                            (try rw [hji32] at A20)
                            (try rw [hji32] at A21)
                            have hji32w : (IntKind.i64.wrap ((t396.size : Int) - 1)) = ji32 := (i64_w _).trans hji32
                            by_cases c33 : 0 ≤ (ji32)
                            ·as_aux_lemma =>
                               rw [if_pos c33] at H
                               have c33b0 : decide (0 ≤ (ji32)) = true := decide_eq_true c33
                               clear c33
                               by_cases c34 : (ji32) < (t396.size : Int)
                               ·as_aux_lemma =>
                                  rw [if_pos c34] at H
                                  have c34b0 : decide ((ji32) < (t396.size : Int)) = true := decide_eq_true c34
                                  clear c34
                                  by_cases c36 : (t408 != ((bt t396 (ji32)) == 10)) = true
                                  ·as_aux_lemma =>
                                     rw [if_pos c36] at H
                                     have c36b0 : (t408 != ((bt t396 (ji32)) == 10)) = true := c36
                                     (try (have c36b1 : decide (t408 = ((bt t396 (ji32)) == 10)) = false := by simpa using c36))
                                     (try (have c36b2 : (t408 == ((bt t396 (ji32)) == 10)) = false := by simpa using c36))
                                     (try (have c36b3 : ¬ (t408 = ((bt t396 (ji32)) == 10)) := by simpa using c36))
                                     clear c36
                                     exact absurd (show false = true from (Option.some.inj H).trans HR_.out) Bool.false_ne_true
                                  ·as_aux_lemma =>
                                     rw [if_neg c36] at H
                                     have c36b0 : (t408 != ((bt t396 (ji32)) == 10)) = false := by simpa using c36
                                     (try (have c36b1 : decide (t408 = ((bt t396 (ji32)) == 10)) = true := by simpa using c36))
                                     (try (have c36b2 : (t408 == ((bt t396 (ji32)) == 10)) = true := by simpa using c36))
                                     clear c36
                                     have H' := am H
                                     clear H
                                     obtain ⟨Ao39, co39, eo39⟩ := Kd.R_slice HO_6.out
                                     subst eo39
                                     go_wp2_with (first | ((with_reducible refine gateC (f := 13) rfl ?_); refine goesL_ (some 76) rfl rfl Tryd.func13 (by kernel_rfl) rfl #[.slice Ao39 t397.length co39] rfl zm ?_; (with_reducible refine (impl_TextOf.calls kj7 _ _ t397 t406 true _ ?side1 ?side2 A19.out).mono ?_); (case side1 => repeat (first | exact (Kd.R_reads' HO_6.out).2.2 | (with_reducible refine Kd.C_alloc ?_ _) | (with_reducible refine Kd.C_drewN ?_ _) | (with_reducible refine Kd.C_drew ?_))); (case side2 => exact (Kd.R_reads' HO_6.out).2.1); rintro e w40 ⟨rfl, hb⟩; refine ⟨_, rfl, ?_⟩; have n0_ := am (Kd.R_below (zr HO_6.out) hb); have n1_ := am (below_step zb hb); clear HO_6; clear HB; have HO_6 := n0_; have HB := n1_; clear n0_ n1_; (try clear hb)) | ((with_reducible refine gateC (f := 14) rfl ?_); refine goesL_ (some 81) rfl rfl Tryd.func14 (by kernel_rfl) rfl #[.slice Ao39 t397.length co39] rfl zm ?_; (with_reducible refine (impl_IsWhole.calls kj7 _ _ t397 t408 true _ ?side1 ?side2 A20.out).mono ?_); (case side1 => repeat (first | exact (Kd.R_reads' HO_6.out).2.2 | (with_reducible refine Kd.C_alloc ?_ _) | (with_reducible refine Kd.C_drewN ?_ _) | (with_reducible refine Kd.C_drew ?_))); (case side2 => exact (Kd.R_reads' HO_6.out).2.1); rintro e w' ⟨rfl, ⟨nd, rfl⟩⟩; refine ⟨_, rfl, ?_⟩) | ((with_reducible refine gateC (f := 15) rfl ?_); refine goesL_ (some 85) rfl rfl Tryd.func15 (by kernel_rfl) rfl #[.slice Ao39 t397.length co39] rfl zm ?_; (with_reducible refine (impl_GoodLines.calls kj7 _ _ t397 true _ ?side1 ?side2 A21.out).mono ?_); (case side1 => repeat (first | exact (Kd.R_reads' HO_6.out).2.2 | (with_reducible refine Kd.C_alloc ?_ _) | (with_reducible refine Kd.C_drewN ?_ _) | (with_reducible refine Kd.C_drew ?_))); (case side2 => exact (Kd.R_reads' HO_6.out).2.1); rintro e w' ⟨rfl, ⟨nd, rfl⟩⟩; refine ⟨_, rfl, ?_⟩; have p35 : 0 ≤ ((ji32) : Int) := oa; have q35 : (ji32) < (t396.size : Int) := oa; have hx35 := bt_at t396 (ji32); replace p35 := eq_true p35; replace q35 := eq_true q35))
                                     go_meet
                                     case rel => exact ⟨_, H', ⟨by have := HJ7.out; first | omega | exact Nat.le_refl _⟩, ⟨by repeat (first | (with_reducible first | exact HB.out | apply below_alloc | apply pw_below_drewN | apply below_drew1) | exact HB.out)⟩⟩
                               ·rw [if_neg c34] at H
                                exact absurd H (by simp)
                            ·rw [if_neg c33] at H
                             exact absurd H (by simp)
                      ·as_aux_lemma =>
                         replace c25 := Bool.eq_false_iff.mpr c25
                         subst c25
                         have H1 : (some false) = some r := by rw [if_neg (show ¬ (false = true) by decide)] at H; exact H
                         clear H
                         have H := H1
                         clear H1
                         exact absurd (show false = true from (Option.some.inj H).trans HR_.out) Bool.false_ne_true
                   ·as_aux_lemma =>
                      rw [if_neg c24] at H
                      have c24b0 : (t406.toList == t396.toList) = false := beq_eq_false_iff_ne.mpr c24
                      have c24b1 : (t406.toList != t396.toList) = true := bne_iff_ne.mpr c24
                      (first | rw [c24b0] | (simp only [i64_w, i32_w]; rw [c24b0]) | skip)
                      exact absurd (show false = true from (Option.some.inj H).trans HR_.out) Bool.false_ne_true
                ·as_aux_lemma =>
                   replace c23 := Bool.eq_false_iff.mpr c23
                   subst c23
                   have H1 : (some false) = some r := by rw [if_neg (show ¬ (false = true) by decide)] at H; exact H
                   clear H
                   have H := H1
                   clear H1
                   exact absurd (show false = true from (Option.some.inj H).trans HR_.out) Bool.false_ne_true
             ·as_aux_lemma =>
                replace c22 := Bool.eq_false_iff.mpr c22
                subst c22
                have H1 : (some false) = some r := by rw [if_neg (show ¬ (false = true) by decide)] at H; exact H
                clear H
                have H := H1
                clear H1
                exact absurd (show false = true from (Option.some.inj H).trans HR_.out) Bool.false_ne_true
          ·as_aux_lemma =>
             replace c18 := Bool.eq_false_iff.mpr c18
             subst c18
             have H1 : (laws_FnLines.j1 kj7 l1) = some r := by rw [if_neg (show ¬ (false = true) by decide)] at H; exact H
             clear H
             have H := H1
             clear H1
             have H' := am H
             clear H
             go_wp2
             go_meet
             case rel => exact ⟨_, H', ⟨by have := HJ7.out; first | omega | exact Nat.le_refl _⟩, ⟨by repeat (first | (with_reducible first | exact HB.out | apply below_alloc | apply pw_below_drewN | apply below_drew1) | exact HB.out)⟩⟩
         case rest =>
          clear HC17
          try clear c1
          try clear c2
          try clear p2
          try clear c3
          try clear p3
          try clear q3
          try clear hx3
          try clear c4
          try clear c5
          try clear c6
          try clear p6
          try clear c10
          try clear c11
          try clear c12
          try clear c12b0
          try clear c12b1
          try clear c12b2
          try clear c13
          try clear c14
          try clear c15
          try clear c16
          try clear c18
          try clear c22
          try clear c23
          try clear c24
          try clear c24b0
          try clear c24b1
          try clear c25
          try clear c26
          try clear c26b0
          try clear c26b1
          try clear c27
          try clear c27b0
          try clear c27b1
          try clear c27b2
          try clear c33
          try clear c33b0
          try clear c34
          try clear c34b0
          try clear p35
          try clear q35
          try clear hx35
          try clear c36
          try clear c36b0
          try clear c36b1
          try clear c36b2
          try clear p2
          try clear p35
          try clear q35
          obtain ⟨kq, HA, HJ16, HB⟩ := hcut
          cases kq with
          | zero => exact absurd HA.out (by simp [laws_FnLines.j1])
          | succ kj16 =>
           have H := HA.out
           clear HA
           simp only [laws_FnLines.j1] at H
           replace H := Option.bind_eq_some_iff.mp H
           obtain ⟨⟨t411, t412⟩, A490, H⟩ := H
           replace H : ((impl_SameAhead.f kj16 t411 t412).bind fun bt417 => ((spec_SameAhead.f kj16 t411 t412).bind fun bt419 => ((impl_SameBehind.f kj16 t411 t412).bind fun bt421 => ((spec_SameBehind.f kj16 t411 t412).bind fun bt423 => (if (bt417.2 != bt419.2) = true then (laws_FnLines.j2 kj16 l1 t411 t412 bt417.1 bt417.2 bt421.1 true) else (if bt417.1 = bt419.1 then (if (bt421.2 != bt423.2) = true then (laws_FnLines.j2 kj16 l1 t411 t412 bt417.1 bt417.2 bt421.1 true) else (laws_FnLines.j2 kj16 l1 t411 t412 bt417.1 bt417.2 bt421.1 (bt421.1 != bt423.1))) else (laws_FnLines.j2 kj16 l1 t411 t412 bt417.1 bt417.2 bt421.1 true))))))) = some r := H
           have A49 := am A490
           clear A490
           replace H := Option.bind_eq_some_iff.mp H
           obtain ⟨⟨t417, t418⟩, A500, H⟩ := H
           replace H : ((spec_SameAhead.f kj16 t411 t412).bind fun bt419 => ((impl_SameBehind.f kj16 t411 t412).bind fun bt421 => ((spec_SameBehind.f kj16 t411 t412).bind fun bt423 => (if (t418 != bt419.2) = true then (laws_FnLines.j2 kj16 l1 t411 t412 t417 t418 bt421.1 true) else (if t417 = bt419.1 then (if (bt421.2 != bt423.2) = true then (laws_FnLines.j2 kj16 l1 t411 t412 t417 t418 bt421.1 true) else (laws_FnLines.j2 kj16 l1 t411 t412 t417 t418 bt421.1 (bt421.1 != bt423.1))) else (laws_FnLines.j2 kj16 l1 t411 t412 t417 t418 bt421.1 true)))))) = some r := H
           have A50 := am A500
           clear A500
           replace H := Option.bind_eq_some_iff.mp H
           obtain ⟨⟨t419, t420⟩, A510, H⟩ := H
           replace H : ((impl_SameBehind.f kj16 t411 t412).bind fun bt421 => ((spec_SameBehind.f kj16 t411 t412).bind fun bt423 => (if (t418 != t420) = true then (laws_FnLines.j2 kj16 l1 t411 t412 t417 t418 bt421.1 true) else (if t417 = t419 then (if (bt421.2 != bt423.2) = true then (laws_FnLines.j2 kj16 l1 t411 t412 t417 t418 bt421.1 true) else (laws_FnLines.j2 kj16 l1 t411 t412 t417 t418 bt421.1 (bt421.1 != bt423.1))) else (laws_FnLines.j2 kj16 l1 t411 t412 t417 t418 bt421.1 true))))) = some r := H
           have A51 := am A510
           clear A510
           replace H := Option.bind_eq_some_iff.mp H
           obtain ⟨⟨t421, t422⟩, A520, H⟩ := H
           replace H : ((spec_SameBehind.f kj16 t411 t412).bind fun bt423 => (if (t418 != t420) = true then (laws_FnLines.j2 kj16 l1 t411 t412 t417 t418 t421 true) else (if t417 = t419 then (if (t422 != bt423.2) = true then (laws_FnLines.j2 kj16 l1 t411 t412 t417 t418 t421 true) else (laws_FnLines.j2 kj16 l1 t411 t412 t417 t418 t421 (t421 != bt423.1))) else (laws_FnLines.j2 kj16 l1 t411 t412 t417 t418 t421 true)))) = some r := H
           have A52 := am A520
           clear A520
           replace H := Option.bind_eq_some_iff.mp H
           obtain ⟨⟨t423, t424⟩, A530, H⟩ := H
           replace H : (if (t418 != t420) = true then (laws_FnLines.j2 kj16 l1 t411 t412 t417 t418 t421 true) else (if t417 = t419 then (if (t422 != t424) = true then (laws_FnLines.j2 kj16 l1 t411 t412 t417 t418 t421 true) else (laws_FnLines.j2 kj16 l1 t411 t412 t417 t418 t421 (t421 != t423))) else (laws_FnLines.j2 kj16 l1 t411 t412 t417 t418 t421 true))) = some r := H
           have A53 := am A530
           clear A530
           have HC54 := am H
           clear H
           go_upto_region 18 with (first | ((with_reducible refine gateC (f := 16) rfl ?_); refine goesL_ (some 116) rfl rfl Tryd.func16 (by kernel_rfl) rfl #[.slice A1 l1.length c1] rfl zm ?_; (with_reducible refine (spec_DrawSameAhead.calls kj16 _ _ l1 t411 t412 _ ?side1 ?side2 A49.out).mono ?_); (case side1 => exact zq (Kd.C_below HR1.out HB.out)); (case side2 => exact HC1.out); rintro e w55 ⟨v413, v415, rfl, ho0, ho1, hb⟩; refine ⟨_, rfl, ?_⟩; have n0_ := am (Kd.R_lower ho0 (below_size zb)); have n1_ := am (Kd.R_lower ho1 (below_size zb)); have n2_ := am (below_step zb hb); clear HB; have HO414 := n0_; have HO416 := n1_; have HB := n2_; clear n0_ n1_ n2_; (try clear hb); (try clear ho0); (try clear ho1); obtain ⟨Ao56, co56, eo56⟩ := Kd.R_slice HO414.out; subst eo56; obtain ⟨Ao57, co57, eo57⟩ := Kd.R_slice HO416.out; subst eo57) | ((with_reducible refine gateC (f := 17) rfl ?_); refine goesL_ (some 122) rfl rfl Tryd.func17 (by kernel_rfl) rfl #[.slice Ao56 t411.length co56, .slice Ao57 t412.length co57] rfl zm ?_; (with_reducible refine (impl_SameAhead.calls kj16 _ _ t411 _ _ t412 t417 t418 _ ?side1 ?side2 ?side3 ?side4 A50.out).mono ?_); (case side1 => repeat (first | exact (Kd.R_reads' HO414.out).2.2 | (with_reducible refine Kd.C_alloc ?_ _) | (with_reducible refine Kd.C_drewN ?_ _) | (with_reducible refine Kd.C_drew ?_))); (case side2 => exact (Kd.R_reads' HO414.out).2.1); (case side3 => repeat (first | exact (Kd.R_reads' HO416.out).2.2 | (with_reducible refine Kd.C_alloc ?_ _) | (with_reducible refine Kd.C_drewN ?_ _) | (with_reducible refine Kd.C_drew ?_))); (case side4 => exact (Kd.R_reads' HO416.out).2.1); rintro e w58 ⟨rfl, hb⟩; refine ⟨_, rfl, ?_⟩; have n0_ := am (Kd.R_below (zr HO414.out) hb); have n1_ := am (Kd.R_below (zr HO416.out) hb); have n2_ := am (below_step zb hb); clear HO414; clear HO416; clear HB; have HO414 := n0_; have HO416 := n1_; have HB := n2_; clear n0_ n1_ n2_; (try clear hb)) | ((with_reducible refine gateC (f := 18) rfl ?_); refine goesL_ (some 128) rfl rfl Tryd.func18 (by kernel_rfl) rfl #[.slice Ao56 t411.length co56, .slice Ao57 t412.length co57] rfl zm ?_; (with_reducible refine (spec_SameAhead.calls kj16 _ _ t411 _ _ t412 t419 t420 _ ?side1 ?side2 ?side3 ?side4 A51.out).mono ?_); (case side1 => repeat (first | exact (Kd.R_reads' HO414.out).2.2 | (with_reducible refine Kd.C_alloc ?_ _) | (with_reducible refine Kd.C_drewN ?_ _) | (with_reducible refine Kd.C_drew ?_))); (case side2 => exact (Kd.R_reads' HO414.out).2.1); (case side3 => repeat (first | exact (Kd.R_reads' HO416.out).2.2 | (with_reducible refine Kd.C_alloc ?_ _) | (with_reducible refine Kd.C_drewN ?_ _) | (with_reducible refine Kd.C_drew ?_))); (case side4 => exact (Kd.R_reads' HO416.out).2.1); rintro e w' ⟨rfl, ⟨nd, rfl⟩⟩; refine ⟨_, rfl, ?_⟩) | ((with_reducible refine gateC (f := 19) rfl ?_); refine goesL_ (some 134) rfl rfl Tryd.func19 (by kernel_rfl) rfl #[.slice Ao56 t411.length co56, .slice Ao57 t412.length co57] rfl zm ?_; (with_reducible refine (impl_SameBehind.calls kj16 _ _ t411 _ _ t412 t421 t422 _ ?side1 ?side2 ?side3 ?side4 A52.out).mono ?_); (case side1 => repeat (first | exact (Kd.R_reads' HO414.out).2.2 | (with_reducible refine Kd.C_alloc ?_ _) | (with_reducible refine Kd.C_drewN ?_ _) | (with_reducible refine Kd.C_drew ?_))); (case side2 => exact (Kd.R_reads' HO414.out).2.1); (case side3 => repeat (first | exact (Kd.R_reads' HO416.out).2.2 | (with_reducible refine Kd.C_alloc ?_ _) | (with_reducible refine Kd.C_drewN ?_ _) | (with_reducible refine Kd.C_drew ?_))); (case side4 => exact (Kd.R_reads' HO416.out).2.1); rintro e w59 ⟨rfl, hb⟩; refine ⟨_, rfl, ?_⟩; have n0_ := am (Kd.R_below (zr HO414.out) hb); have n1_ := am (Kd.R_below (zr HO416.out) hb); have n2_ := am (below_step zb hb); clear HO414; clear HO416; clear HB; have HO414 := n0_; have HO416 := n1_; have HB := n2_; clear n0_ n1_ n2_; (try clear hb)) | ((with_reducible refine gateC (f := 20) rfl ?_); refine goesL_ (some 140) rfl rfl Tryd.func20 (by kernel_rfl) rfl #[.slice Ao56 t411.length co56, .slice Ao57 t412.length co57] rfl zm ?_; (with_reducible refine (spec_SameBehind.calls kj16 _ _ t411 _ _ t412 t423 t424 _ ?side1 ?side2 ?side3 ?side4 A53.out).mono ?_); (case side1 => repeat (first | exact (Kd.R_reads' HO414.out).2.2 | (with_reducible refine Kd.C_alloc ?_ _) | (with_reducible refine Kd.C_drewN ?_ _) | (with_reducible refine Kd.C_drew ?_))); (case side2 => exact (Kd.R_reads' HO414.out).2.1); (case side3 => repeat (first | exact (Kd.R_reads' HO416.out).2.2 | (with_reducible refine Kd.C_alloc ?_ _) | (with_reducible refine Kd.C_drewN ?_ _) | (with_reducible refine Kd.C_drew ?_))); (case side4 => exact (Kd.R_reads' HO416.out).2.1); rintro e w' ⟨rfl, ⟨nd, rfl⟩⟩; refine ⟨_, rfl, ?_⟩))
           (try simp only [Act.put, List.setIfInBounds_toArray, List.set_cons_zero, List.set_cons_succ])
           go_cut [160] (fun v160 wc => ∃ (kq : Nat) (x160_53 : Bool), v160 = .bool x160_53 ∧ Aside0 (laws_FnLines.j2 kq l1 t411 t412 t417 t418 t421 x160_53 = some r) ∧ Aside0 (kq ≤ kj16) ∧ Aside0 (Kd.R Kd.string 9 wc w.heap.size (fun k_ => some k_ ≠ ((.slice Ao57 t412.length co57) : Value).ownBlock) (.slice Ao56 t411.length co56) t411) ∧ Aside0 (Kd.R Kd.string 9 wc w.heap.size (fun k_ => some k_ ≠ ((.slice Ao56 t411.length co56) : Value).ownBlock) (.slice Ao57 t412.length co57) t412) ∧ Aside0 (Below w.heap.size w wc))
           case first =>
            have H := HC54.out
            clear HC54
            by_cases c60 : (t418 != t420) = true
            ·as_aux_lemma =>
               rw [if_pos c60] at H
               have c60b0 : (t418 != t420) = true := c60
               (try (have c60b1 : decide (t418 = t420) = false := by simpa using c60))
               (try (have c60b2 : (t418 == t420) = false := by simpa using c60))
               (try (have c60b3 : ¬ (t418 = t420) := by simpa using c60))
               clear c60
               (first | rw [c60b0] | (simp only [i64_w, i32_w]; rw [c60b0]) | skip)
               have H' := am H
               clear H
               go_wp2
               go_meet
               case rel => exact ⟨_, (true), zf, H', ⟨by have := HJ7.out; have := HJ16.out; first | omega | exact Nat.le_refl _⟩, ⟨by (with_reducible repeat (first | apply Kd.R_alloc | apply Kd.R_drewN | apply Kd.R_drew)); exact HO414.out⟩, ⟨by (with_reducible repeat (first | apply Kd.R_alloc | apply Kd.R_drewN | apply Kd.R_drew)); exact HO416.out⟩, ⟨by repeat (first | (with_reducible first | exact HB.out | apply below_alloc | apply pw_below_drewN | apply below_drew1) | exact HB.out)⟩⟩
            ·as_aux_lemma =>
               rw [if_neg c60] at H
               have c60b0 : (t418 != t420) = false := by simpa using c60
               (try (have c60b1 : decide (t418 = t420) = true := by simpa using c60))
               (try (have c60b2 : (t418 == t420) = true := by simpa using c60))
               clear c60
               (first | rw [c60b0] | (simp only [i64_w, i32_w]; rw [c60b0]) | skip)
               by_cases c61 : t417 = t419
               ·as_aux_lemma =>
                  rw [if_pos c61] at H
                  have c61b0 : (t417 == t419) = true := beq_iff_eq.mpr c61
                  have c61b1 : (t417 != t419) = false := bne_eq_false_iff_eq.mpr c61
                  clear c61
                  by_cases c62 : (t422 != t424) = true
                  ·as_aux_lemma =>
                     rw [if_pos c62] at H
                     have c62b0 : (t422 != t424) = true := c62
                     (try (have c62b1 : decide (t422 = t424) = false := by simpa using c62))
                     (try (have c62b2 : (t422 == t424) = false := by simpa using c62))
                     (try (have c62b3 : ¬ (t422 = t424) := by simpa using c62))
                     clear c62
                     have H' := am H
                     clear H
                     go_wp2
                     go_meet
                     case rel => exact ⟨_, (true), zf, H', ⟨by have := HJ7.out; have := HJ16.out; first | omega | exact Nat.le_refl _⟩, ⟨by (with_reducible repeat (first | apply Kd.R_alloc | apply Kd.R_drewN | apply Kd.R_drew)); exact HO414.out⟩, ⟨by (with_reducible repeat (first | apply Kd.R_alloc | apply Kd.R_drewN | apply Kd.R_drew)); exact HO416.out⟩, ⟨by repeat (first | (with_reducible first | exact HB.out | apply below_alloc | apply pw_below_drewN | apply below_drew1) | exact HB.out)⟩⟩
                  ·as_aux_lemma =>
                     rw [if_neg c62] at H
                     have c62b0 : (t422 != t424) = false := by simpa using c62
                     (try (have c62b1 : decide (t422 = t424) = true := by simpa using c62))
                     (try (have c62b2 : (t422 == t424) = true := by simpa using c62))
                     clear c62
                     have H' := am H
                     clear H
                     go_wp2
                     go_meet
                     case rel => exact ⟨_, ((t421 != t423)), zf, H', ⟨by have := HJ7.out; have := HJ16.out; first | omega | exact Nat.le_refl _⟩, ⟨by (with_reducible repeat (first | apply Kd.R_alloc | apply Kd.R_drewN | apply Kd.R_drew)); exact HO414.out⟩, ⟨by (with_reducible repeat (first | apply Kd.R_alloc | apply Kd.R_drewN | apply Kd.R_drew)); exact HO416.out⟩, ⟨by repeat (first | (with_reducible first | exact HB.out | apply below_alloc | apply pw_below_drewN | apply below_drew1) | exact HB.out)⟩⟩
               ·as_aux_lemma =>
                  rw [if_neg c61] at H
                  have c61b0 : (t417 == t419) = false := beq_eq_false_iff_ne.mpr c61
                  have c61b1 : (t417 != t419) = true := bne_iff_ne.mpr c61
                  have H' := am H
                  clear H
                  go_wp2
                  go_meet
                  case rel => exact ⟨_, (true), zf, H', ⟨by have := HJ7.out; have := HJ16.out; first | omega | exact Nat.le_refl _⟩, ⟨by (with_reducible repeat (first | apply Kd.R_alloc | apply Kd.R_drewN | apply Kd.R_drew)); exact HO414.out⟩, ⟨by (with_reducible repeat (first | apply Kd.R_alloc | apply Kd.R_drewN | apply Kd.R_drew)); exact HO416.out⟩, ⟨by repeat (first | (with_reducible first | exact HB.out | apply below_alloc | apply pw_below_drewN | apply below_drew1) | exact HB.out)⟩⟩
           case rest =>
            clear HC54
            try clear c1
            try clear c2
            try clear p2
            try clear c3
            try clear p3
            try clear q3
            try clear hx3
            try clear c4
            try clear c5
            try clear c6
            try clear p6
            try clear c10
            try clear c11
            try clear c12
            try clear c12b0
            try clear c12b1
            try clear c12b2
            try clear c13
            try clear c14
            try clear c15
            try clear c16
            try clear c17
            try clear c18
            try clear c19
            try clear c20
            try clear c22
            try clear c23
            try clear c24
            try clear c24b0
            try clear c24b1
            try clear c25
            try clear c26
            try clear c26b0
            try clear c26b1
            try clear c27
            try clear c27b0
            try clear c27b1
            try clear c27b2
            try clear c33
            try clear c33b0
            try clear c34
            try clear c34b0
            try clear p35
            try clear q35
            try clear hx35
            try clear c36
            try clear c36b0
            try clear c36b1
            try clear c36b2
            try clear c60
            try clear c60b0
            try clear c60b1
            try clear c60b2
            try clear c61
            try clear c61b0
            try clear c61b1
            try clear c62
            try clear c62b0
            try clear c62b1
            try clear c62b2
            try clear p2
            try clear p3
            try clear p35
            try clear p6
            try clear q3
            try clear q35
            obtain ⟨kq, x160_53, rfl, HA, HJ53, HO_14, HO_15, HB⟩ := hcut
            cases kq with
            | zero => exact absurd HA.out (by simp [laws_FnLines.j2])
            | succ kj53 =>
             have H := HA.out
             clear HA
             simp only [laws_FnLines.j2] at H
             by_cases c63 : x160_53 = true
             ·as_aux_lemma =>
                subst c63
                have H1 : (some false) = some r := by rw [if_pos rfl] at H; exact H
                clear H
                have H := H1
                clear H1
                exact absurd (show false = true from (Option.some.inj H).trans HR_.out) Bool.false_ne_true
             ·as_aux_lemma =>
                replace c63 := Bool.eq_false_iff.mpr c63
                subst c63
                have H1 : (if t418 = true then ((impl_PartOf.f kj53 t411 0 t417).bind fun bt425 => ((impl_PartOf.f kj53 t412 0 t417).bind fun bt429 => (if bt425.2 = true then (if bt429.2 = true then ((laws_sameTexts.f kj53 bt425.1 bt429.1).bind fun t433 => (if t433 = true then (if (wrap64 (t417 + t421)) > (t411.length : Int) then (some false) else (if (wrap64 (t417 + t421)) > (t412.length : Int) then (some false) else (laws_FnLines.j3 kj53 l1))) else (some false))) else (some false)) else (some false)))) else (laws_FnLines.j3 kj53 l1)) = some r := by rw [if_neg (show ¬ (false = true) by decide)] at H; exact H
                clear H
                have H := H1
                clear H1
                have HC64 := am H
                clear H
                go_upto_if 161 with (fail)
                go_cut [] (fun wc => ∃ (kq : Nat), Aside0 (laws_FnLines.j3 kq l1 = some r) ∧ Aside0 (kq ≤ kj53) ∧ Aside0 (Below w.heap.size w wc))
                case first =>
                 have H := HC64.out
                 clear HC64
                 by_cases c65 : t418 = true
                 ·as_aux_lemma =>
                    subst c65
                    have H1 : ((impl_PartOf.f kj53 t411 0 t417).bind fun bt425 => ((impl_PartOf.f kj53 t412 0 t417).bind fun bt429 => (if bt425.2 = true then (if bt429.2 = true then ((laws_sameTexts.f kj53 bt425.1 bt429.1).bind fun t433 => (if t433 = true then (if (wrap64 (t417 + t421)) > (t411.length : Int) then (some false) else (if (wrap64 (t417 + t421)) > (t412.length : Int) then (some false) else (laws_FnLines.j3 kj53 l1))) else (some false))) else (some false)) else (some false)))) = some r := by rw [if_pos rfl] at H; exact H
                    clear H
                    have H := H1
                    clear H1
                    replace H := Option.bind_eq_some_iff.mp H
                    obtain ⟨⟨t425, t426⟩, A660, H⟩ := H
                    replace H : ((impl_PartOf.f kj53 t412 0 t417).bind fun bt429 => (if t426 = true then (if bt429.2 = true then ((laws_sameTexts.f kj53 t425 bt429.1).bind fun t433 => (if t433 = true then (if (wrap64 (t417 + t421)) > (t411.length : Int) then (some false) else (if (wrap64 (t417 + t421)) > (t412.length : Int) then (some false) else (laws_FnLines.j3 kj53 l1))) else (some false))) else (some false)) else (some false))) = some r := H
                    have A66 := am A660
                    clear A660
                    replace H := Option.bind_eq_some_iff.mp H
                    obtain ⟨⟨t429, t430⟩, A670, H⟩ := H
                    replace H : (if t426 = true then (if t430 = true then ((laws_sameTexts.f kj53 t425 t429).bind fun t433 => (if t433 = true then (if (wrap64 (t417 + t421)) > (t411.length : Int) then (some false) else (if (wrap64 (t417 + t421)) > (t412.length : Int) then (some false) else (laws_FnLines.j3 kj53 l1))) else (some false))) else (some false)) else (some false)) = some r := H
                    have A67 := am A670
                    clear A670
                    by_cases c68 : t426 = true
                    ·as_aux_lemma =>
                       subst c68
                       have H1 : (if t430 = true then ((laws_sameTexts.f kj53 t425 t429).bind fun t433 => (if t433 = true then (if (wrap64 (t417 + t421)) > (t411.length : Int) then (some false) else (if (wrap64 (t417 + t421)) > (t412.length : Int) then (some false) else (laws_FnLines.j3 kj53 l1))) else (some false))) else (some false)) = some r := by rw [if_pos rfl] at H; exact H
                       clear H
                       have H := H1
                       clear H1
                       by_cases c69 : t430 = true
                       ·as_aux_lemma =>
                          subst c69
                          have H1 : ((laws_sameTexts.f kj53 t425 t429).bind fun t433 => (if t433 = true then (if (wrap64 (t417 + t421)) > (t411.length : Int) then (some false) else (if (wrap64 (t417 + t421)) > (t412.length : Int) then (some false) else (laws_FnLines.j3 kj53 l1))) else (some false))) = some r := by rw [if_pos rfl] at H; exact H
                          clear H
                          have H := H1
                          clear H1
                          replace H := Option.bind_eq_some_iff.mp H
                          obtain ⟨t433, A700, H⟩ := H
                          replace H : (if t433 = true then (if (wrap64 (t417 + t421)) > (t411.length : Int) then (some false) else (if (wrap64 (t417 + t421)) > (t412.length : Int) then (some false) else (laws_FnLines.j3 kj53 l1))) else (some false)) = some r := H
                          have A70 := am A700
                          clear A700
                          by_cases c71 : t433 = true
                          ·as_aux_lemma =>
                             subst c71
                             have H1 : (if (wrap64 (t417 + t421)) > (t411.length : Int) then (some false) else (if (wrap64 (t417 + t421)) > (t412.length : Int) then (some false) else (laws_FnLines.j3 kj53 l1))) = some r := by rw [if_pos rfl] at H; exact H
                             clear H
                             have H := H1
                             clear H1
                             by_cases c72 : (wrap64 (t417 + t421)) > (t411.length : Int)
                             ·as_aux_lemma =>
                                rw [if_pos c72] at H
                                have c72b0 : decide ((t411.length : Int) < (wrap64 (t417 + t421))) = true := decide_eq_true c72
                                clear c72
                                (first | rw [c72b0] | (simp only [i64_w, i32_w]; rw [c72b0]) | skip)
                                exact absurd (show false = true from (Option.some.inj H).trans HR_.out) Bool.false_ne_true
                             ·as_aux_lemma =>
                                rw [if_neg c72] at H
                                have c72b0 : decide ((t411.length : Int) < (wrap64 (t417 + t421))) = false := decide_eq_false c72
                                clear c72
                                (first | rw [c72b0] | (simp only [i64_w, i32_w]; rw [c72b0]) | skip)
                                by_cases c77 : (wrap64 (t417 + t421)) > (t412.length : Int)
                                ·as_aux_lemma =>
                                   rw [if_pos c77] at H
                                   have c77b0 : decide ((t412.length : Int) < (wrap64 (t417 + t421))) = true := decide_eq_true c77
                                   clear c77
                                   exact absurd (show false = true from (Option.some.inj H).trans HR_.out) Bool.false_ne_true
                                ·as_aux_lemma =>
                                   rw [if_neg c77] at H
                                   have c77b0 : decide ((t412.length : Int) < (wrap64 (t417 + t421))) = false := decide_eq_false c77
                                   clear c77
                                   have H' := am H
                                   clear H
                                   go_wp2_with (first | ((with_reducible refine gateC (f := 21) rfl ?_); refine goesL_ (some 165) rfl rfl Tryd.func21 (by kernel_rfl) rfl #[.slice Ao56 t411.length co56, .int .i64 0, .int .i64 t417] rfl zm ?_; (with_reducible refine (impl_PartOf.calls kj53 _ _ t411 0 t417 t425 true _ ?side1 ?side2 A66.out).mono ?_); (case side1 => repeat (first | exact (Kd.R_reads' HO_14.out).2.2 | (with_reducible refine Kd.C_alloc ?_ _) | (with_reducible refine Kd.C_drewN ?_ _) | (with_reducible refine Kd.C_drew ?_))); (case side2 => exact (Kd.R_reads' HO_14.out).2.1); rintro e w82 ⟨v427, rfl, ho0, hb⟩; refine ⟨_, rfl, ?_⟩; have n0_ := am (Kd.R_elder' (zr HO_14.out) (Kd.R_base ho0) hb); have n1_ := am (Kd.R_elder' (zr HO_15.out) (Kd.R_base ho0) hb); have n2_ := am (Kd.R_lower (Kd.R_new' (Kd.R_new' ho0 (Kd.R_lt (zr HO_14.out))) (Kd.R_lt (zr HO_15.out))) (below_size zb)); have n3_ := am (below_step zb hb); clear HO_14; clear HO_15; clear HB; have HO_14 := n0_; have HO_15 := n1_; have HO428 := n2_; have HB := n3_; clear n0_ n1_ n2_ n3_; (try clear hb); (try clear ho0)) | ((with_reducible refine gateC (f := 21) rfl ?_); refine goesL_ (some 171) rfl rfl Tryd.func21 (by kernel_rfl) rfl #[.slice Ao57 t412.length co57, .int .i64 0, .int .i64 t417] rfl zm ?_; (with_reducible refine (impl_PartOf.calls kj53 _ _ t412 0 t417 t429 true _ ?side1 ?side2 A67.out).mono ?_); (case side1 => repeat (first | exact (Kd.R_reads' HO_15.out).2.2 | (with_reducible refine Kd.C_alloc ?_ _) | (with_reducible refine Kd.C_drewN ?_ _) | (with_reducible refine Kd.C_drew ?_))); (case side2 => exact (Kd.R_reads' HO_15.out).2.1); rintro e w83 ⟨v431, rfl, ho0, hb⟩; refine ⟨_, rfl, ?_⟩; have n0_ := am (Kd.R_elder' (zr HO_14.out) (Kd.R_base ho0) hb); have n1_ := am (Kd.R_elder' (zr HO_15.out) (Kd.R_base ho0) hb); have n2_ := am (Kd.R_elder' (zr HO428.out) (Kd.R_base ho0) hb); have n3_ := am (Kd.R_lower (Kd.R_new' (Kd.R_new' (Kd.R_new' ho0 (Kd.R_lt (zr HO_14.out))) (Kd.R_lt (zr HO_15.out))) (Kd.R_lt (zr HO428.out))) (below_size zb)); have n4_ := am (below_step zb hb); clear HO_14; clear HO_15; clear HO428; clear HB; have HO_14 := n0_; have HO_15 := n1_; have HO428 := n2_; have HO432 := n3_; have HB := n4_; clear n0_ n1_ n2_ n3_ n4_; (try clear hb); (try clear ho0); obtain ⟨Ao84, co84, eo84⟩ := Kd.R_slice HO428.out; subst eo84; obtain ⟨Ao85, co85, eo85⟩ := Kd.R_slice HO432.out; subst eo85) | (go_at_call 12; (with_reducible refine (laws_sameTexts.calls kj53 _ _ t425 _ _ t429 true _ ?side1 ?side2 ?side3 ?side4 A70.out).mono ?_); (case side1 => repeat (first | exact (Kd.R_reads' HO428.out).2.2 | (with_reducible refine Kd.C_alloc ?_ _) | (with_reducible refine Kd.C_drewN ?_ _) | (with_reducible refine Kd.C_drew ?_))); (case side2 => exact (Kd.R_reads' HO428.out).2.1); (case side3 => repeat (first | exact (Kd.R_reads' HO432.out).2.2 | (with_reducible refine Kd.C_alloc ?_ _) | (with_reducible refine Kd.C_drewN ?_ _) | (with_reducible refine Kd.C_drew ?_))); (case side4 => exact (Kd.R_reads' HO432.out).2.1); rintro e w' ⟨rfl, ⟨nd, rfl⟩⟩))
                                   go_meet
                                   case rel => exact ⟨_, H', ⟨by have := HJ7.out; have := HJ16.out; have := HJ53.out; first | omega | exact Nat.le_refl _⟩, ⟨by repeat (first | (with_reducible first | exact HB.out | apply below_alloc | apply pw_below_drewN | apply below_drew1) | exact HB.out)⟩⟩
                          ·as_aux_lemma =>
                             replace c71 := Bool.eq_false_iff.mpr c71
                             subst c71
                             have H1 : (some false) = some r := by rw [if_neg (show ¬ (false = true) by decide)] at H; exact H
                             clear H
                             have H := H1
                             clear H1
                             exact absurd (show false = true from (Option.some.inj H).trans HR_.out) Bool.false_ne_true
                       ·as_aux_lemma =>
                          replace c69 := Bool.eq_false_iff.mpr c69
                          subst c69
                          have H1 : (some false) = some r := by rw [if_neg (show ¬ (false = true) by decide)] at H; exact H
                          clear H
                          have H := H1
                          clear H1
                          exact absurd (show false = true from (Option.some.inj H).trans HR_.out) Bool.false_ne_true
                    ·as_aux_lemma =>
                       replace c68 := Bool.eq_false_iff.mpr c68
                       subst c68
                       have H1 : (some false) = some r := by rw [if_neg (show ¬ (false = true) by decide)] at H; exact H
                       clear H
                       have H := H1
                       clear H1
                       exact absurd (show false = true from (Option.some.inj H).trans HR_.out) Bool.false_ne_true
                 ·as_aux_lemma =>
                    replace c65 := Bool.eq_false_iff.mpr c65
                    subst c65
                    have H1 : (laws_FnLines.j3 kj53 l1) = some r := by rw [if_neg (show ¬ (false = true) by decide)] at H; exact H
                    clear H
                    have H := H1
                    clear H1
                    have H' := am H
                    clear H
                    go_wp2
                    go_meet
                    case rel => exact ⟨_, H', ⟨by have := HJ7.out; have := HJ16.out; have := HJ53.out; first | omega | exact Nat.le_refl _⟩, ⟨by repeat (first | (with_reducible first | exact HB.out | apply below_alloc | apply pw_below_drewN | apply below_drew1) | exact HB.out)⟩⟩
                case rest =>
                 clear HC64
                 try clear c1
                 try clear c2
                 try clear p2
                 try clear c3
                 try clear p3
                 try clear q3
                 try clear hx3
                 try clear c4
                 try clear c5
                 try clear c6
                 try clear p6
                 try clear c7
                 try clear c10
                 try clear c11
                 try clear c12
                 try clear c12b0
                 try clear c12b1
                 try clear c12b2
                 try clear c13
                 try clear c14
                 try clear c15
                 try clear c16
                 try clear c17
                 try clear c18
                 try clear c19
                 try clear c20
                 try clear c21
                 try clear c22
                 try clear c23
                 try clear c24
                 try clear c24b0
                 try clear c24b1
                 try clear c25
                 try clear c26
                 try clear c26b0
                 try clear c26b1
                 try clear c27
                 try clear c27b0
                 try clear c27b1
                 try clear c27b2
                 try clear c33
                 try clear c33b0
                 try clear c34
                 try clear c34b0
                 try clear p35
                 try clear q35
                 try clear hx35
                 try clear c36
                 try clear c36b0
                 try clear c36b1
                 try clear c36b2
                 try clear c60
                 try clear c60b0
                 try clear c60b1
                 try clear c60b2
                 try clear c61
                 try clear c61b0
                 try clear c61b1
                 try clear c62
                 try clear c62b0
                 try clear c62b1
                 try clear c62b2
                 try clear c63
                 try clear p64
                 try clear c65
                 try clear c68
                 try clear c69
                 try clear c71
                 try clear c72
                 try clear c72b0
                 try clear c77
                 try clear c77b0
                 try clear p2
                 try clear p3
                 try clear p35
                 try clear p6
                 try clear q3
                 try clear q35
                 obtain ⟨kq, HA, HJ63, HB⟩ := hcut
                 cases kq with
                 | zero => exact absurd HA.out (by simp [laws_FnLines.j3])
                 | succ kj63 =>
                  have H := HA.out
                  clear HA
                  simp only [laws_FnLines.j3] at H
                  replace H := Option.bind_eq_some_iff.mp H
                  obtain ⟨t434, A940, H⟩ := H
                  replace H : ((impl_TextOf.f kj63 t434).bind fun bt437 => ((spec_TextOf.f kj63 t434).bind fun bt439 => ((impl_IsWhole.f kj63 t434).bind fun bt441 => ((spec_IsWhole.f kj63 t434).bind fun bt443 => ((spec_DrawPartOf.f kj63 l1).bind fun bt445 => ((impl_PartOf.f kj63 bt445.1 bt445.2.1 bt445.2.2).bind fun bt450 => ((spec_PartOf.f kj63 bt445.1 bt445.2.1 bt445.2.2).bind fun bt454 => ((spec_DrawPlainOf.f l1).bind fun t458 => ((impl_PlainOf.f kj63 t458).bind fun bt459 => ((spec_PlainOf.f kj63 t458).bind fun bt461 => (if (bt437.2 == bt439.2) = true then (if bt437.1.toList = bt439.1.toList then (if (bt441.2 == bt443.2) = true then (if (bt441.1 == bt443.1) = true then (if (bt450.2 == bt454.2) = true then ((laws_sameTexts.f kj63 bt450.1 bt454.1).bind fun t463 => (if t463 = true then (if (bt459.2 == bt461.2) = true then (if bt459.1.toList = bt461.1.toList then ((impl_GoodLines.f kj63 t434).bind fun t464 => ((spec_GoodLines.f kj63 t434).bind fun t465 => (some (t464 == t465)))) else (some false)) else (some false)) else (some false))) else (some false)) else (some false)) else (some false)) else (some false)) else (some false)))))))))))) = some r := H
                  have A94 := am A940
                  clear A940
                  replace H := Option.bind_eq_some_iff.mp H
                  obtain ⟨⟨t437, t438⟩, A950, H⟩ := H
                  replace H : ((spec_TextOf.f kj63 t434).bind fun bt439 => ((impl_IsWhole.f kj63 t434).bind fun bt441 => ((spec_IsWhole.f kj63 t434).bind fun bt443 => ((spec_DrawPartOf.f kj63 l1).bind fun bt445 => ((impl_PartOf.f kj63 bt445.1 bt445.2.1 bt445.2.2).bind fun bt450 => ((spec_PartOf.f kj63 bt445.1 bt445.2.1 bt445.2.2).bind fun bt454 => ((spec_DrawPlainOf.f l1).bind fun t458 => ((impl_PlainOf.f kj63 t458).bind fun bt459 => ((spec_PlainOf.f kj63 t458).bind fun bt461 => (if (t438 == bt439.2) = true then (if t437.toList = bt439.1.toList then (if (bt441.2 == bt443.2) = true then (if (bt441.1 == bt443.1) = true then (if (bt450.2 == bt454.2) = true then ((laws_sameTexts.f kj63 bt450.1 bt454.1).bind fun t463 => (if t463 = true then (if (bt459.2 == bt461.2) = true then (if bt459.1.toList = bt461.1.toList then ((impl_GoodLines.f kj63 t434).bind fun t464 => ((spec_GoodLines.f kj63 t434).bind fun t465 => (some (t464 == t465)))) else (some false)) else (some false)) else (some false))) else (some false)) else (some false)) else (some false)) else (some false)) else (some false))))))))))) = some r := H
                  have A95 := am A950
                  clear A950
                  replace H := Option.bind_eq_some_iff.mp H
                  obtain ⟨⟨t439, t440⟩, A960, H⟩ := H
                  replace H : ((impl_IsWhole.f kj63 t434).bind fun bt441 => ((spec_IsWhole.f kj63 t434).bind fun bt443 => ((spec_DrawPartOf.f kj63 l1).bind fun bt445 => ((impl_PartOf.f kj63 bt445.1 bt445.2.1 bt445.2.2).bind fun bt450 => ((spec_PartOf.f kj63 bt445.1 bt445.2.1 bt445.2.2).bind fun bt454 => ((spec_DrawPlainOf.f l1).bind fun t458 => ((impl_PlainOf.f kj63 t458).bind fun bt459 => ((spec_PlainOf.f kj63 t458).bind fun bt461 => (if (t438 == t440) = true then (if t437.toList = t439.toList then (if (bt441.2 == bt443.2) = true then (if (bt441.1 == bt443.1) = true then (if (bt450.2 == bt454.2) = true then ((laws_sameTexts.f kj63 bt450.1 bt454.1).bind fun t463 => (if t463 = true then (if (bt459.2 == bt461.2) = true then (if bt459.1.toList = bt461.1.toList then ((impl_GoodLines.f kj63 t434).bind fun t464 => ((spec_GoodLines.f kj63 t434).bind fun t465 => (some (t464 == t465)))) else (some false)) else (some false)) else (some false))) else (some false)) else (some false)) else (some false)) else (some false)) else (some false)))))))))) = some r := H
                  have A96 := am A960
                  clear A960
                  replace H := Option.bind_eq_some_iff.mp H
                  obtain ⟨⟨t441, t442⟩, A970, H⟩ := H
                  replace H : ((spec_IsWhole.f kj63 t434).bind fun bt443 => ((spec_DrawPartOf.f kj63 l1).bind fun bt445 => ((impl_PartOf.f kj63 bt445.1 bt445.2.1 bt445.2.2).bind fun bt450 => ((spec_PartOf.f kj63 bt445.1 bt445.2.1 bt445.2.2).bind fun bt454 => ((spec_DrawPlainOf.f l1).bind fun t458 => ((impl_PlainOf.f kj63 t458).bind fun bt459 => ((spec_PlainOf.f kj63 t458).bind fun bt461 => (if (t438 == t440) = true then (if t437.toList = t439.toList then (if (t442 == bt443.2) = true then (if (t441 == bt443.1) = true then (if (bt450.2 == bt454.2) = true then ((laws_sameTexts.f kj63 bt450.1 bt454.1).bind fun t463 => (if t463 = true then (if (bt459.2 == bt461.2) = true then (if bt459.1.toList = bt461.1.toList then ((impl_GoodLines.f kj63 t434).bind fun t464 => ((spec_GoodLines.f kj63 t434).bind fun t465 => (some (t464 == t465)))) else (some false)) else (some false)) else (some false))) else (some false)) else (some false)) else (some false)) else (some false)) else (some false))))))))) = some r := H
                  have A97 := am A970
                  clear A970
                  replace H := Option.bind_eq_some_iff.mp H
                  obtain ⟨⟨t443, t444⟩, A980, H⟩ := H
                  replace H : ((spec_DrawPartOf.f kj63 l1).bind fun bt445 => ((impl_PartOf.f kj63 bt445.1 bt445.2.1 bt445.2.2).bind fun bt450 => ((spec_PartOf.f kj63 bt445.1 bt445.2.1 bt445.2.2).bind fun bt454 => ((spec_DrawPlainOf.f l1).bind fun t458 => ((impl_PlainOf.f kj63 t458).bind fun bt459 => ((spec_PlainOf.f kj63 t458).bind fun bt461 => (if (t438 == t440) = true then (if t437.toList = t439.toList then (if (t442 == t444) = true then (if (t441 == t443) = true then (if (bt450.2 == bt454.2) = true then ((laws_sameTexts.f kj63 bt450.1 bt454.1).bind fun t463 => (if t463 = true then (if (bt459.2 == bt461.2) = true then (if bt459.1.toList = bt461.1.toList then ((impl_GoodLines.f kj63 t434).bind fun t464 => ((spec_GoodLines.f kj63 t434).bind fun t465 => (some (t464 == t465)))) else (some false)) else (some false)) else (some false))) else (some false)) else (some false)) else (some false)) else (some false)) else (some false)))))))) = some r := H
                  have A98 := am A980
                  clear A980
                  replace H := Option.bind_eq_some_iff.mp H
                  obtain ⟨⟨t445, t446, t447⟩, A990, H⟩ := H
                  replace H : ((impl_PartOf.f kj63 t445 t446 t447).bind fun bt450 => ((spec_PartOf.f kj63 t445 t446 t447).bind fun bt454 => ((spec_DrawPlainOf.f l1).bind fun t458 => ((impl_PlainOf.f kj63 t458).bind fun bt459 => ((spec_PlainOf.f kj63 t458).bind fun bt461 => (if (t438 == t440) = true then (if t437.toList = t439.toList then (if (t442 == t444) = true then (if (t441 == t443) = true then (if (bt450.2 == bt454.2) = true then ((laws_sameTexts.f kj63 bt450.1 bt454.1).bind fun t463 => (if t463 = true then (if (bt459.2 == bt461.2) = true then (if bt459.1.toList = bt461.1.toList then ((impl_GoodLines.f kj63 t434).bind fun t464 => ((spec_GoodLines.f kj63 t434).bind fun t465 => (some (t464 == t465)))) else (some false)) else (some false)) else (some false))) else (some false)) else (some false)) else (some false)) else (some false)) else (some false))))))) = some r := H
                  have A99 := am A990
                  clear A990
                  replace H := Option.bind_eq_some_iff.mp H
                  obtain ⟨⟨t450, t451⟩, A1000, H⟩ := H
                  replace H : ((spec_PartOf.f kj63 t445 t446 t447).bind fun bt454 => ((spec_DrawPlainOf.f l1).bind fun t458 => ((impl_PlainOf.f kj63 t458).bind fun bt459 => ((spec_PlainOf.f kj63 t458).bind fun bt461 => (if (t438 == t440) = true then (if t437.toList = t439.toList then (if (t442 == t444) = true then (if (t441 == t443) = true then (if (t451 == bt454.2) = true then ((laws_sameTexts.f kj63 t450 bt454.1).bind fun t463 => (if t463 = true then (if (bt459.2 == bt461.2) = true then (if bt459.1.toList = bt461.1.toList then ((impl_GoodLines.f kj63 t434).bind fun t464 => ((spec_GoodLines.f kj63 t434).bind fun t465 => (some (t464 == t465)))) else (some false)) else (some false)) else (some false))) else (some false)) else (some false)) else (some false)) else (some false)) else (some false)))))) = some r := H
                  have A100 := am A1000
                  clear A1000
                  replace H := Option.bind_eq_some_iff.mp H
                  obtain ⟨⟨t454, t455⟩, A1010, H⟩ := H
                  replace H : ((spec_DrawPlainOf.f l1).bind fun t458 => ((impl_PlainOf.f kj63 t458).bind fun bt459 => ((spec_PlainOf.f kj63 t458).bind fun bt461 => (if (t438 == t440) = true then (if t437.toList = t439.toList then (if (t442 == t444) = true then (if (t441 == t443) = true then (if (t451 == t455) = true then ((laws_sameTexts.f kj63 t450 t454).bind fun t463 => (if t463 = true then (if (bt459.2 == bt461.2) = true then (if bt459.1.toList = bt461.1.toList then ((impl_GoodLines.f kj63 t434).bind fun t464 => ((spec_GoodLines.f kj63 t434).bind fun t465 => (some (t464 == t465)))) else (some false)) else (some false)) else (some false))) else (some false)) else (some false)) else (some false)) else (some false)) else (some false))))) = some r := H
                  have A101 := am A1010
                  clear A1010
                  replace H := Option.bind_eq_some_iff.mp H
                  obtain ⟨t458, A1020, H⟩ := H
                  replace H : ((impl_PlainOf.f kj63 t458).bind fun bt459 => ((spec_PlainOf.f kj63 t458).bind fun bt461 => (if (t438 == t440) = true then (if t437.toList = t439.toList then (if (t442 == t444) = true then (if (t441 == t443) = true then (if (t451 == t455) = true then ((laws_sameTexts.f kj63 t450 t454).bind fun t463 => (if t463 = true then (if (bt459.2 == bt461.2) = true then (if bt459.1.toList = bt461.1.toList then ((impl_GoodLines.f kj63 t434).bind fun t464 => ((spec_GoodLines.f kj63 t434).bind fun t465 => (some (t464 == t465)))) else (some false)) else (some false)) else (some false))) else (some false)) else (some false)) else (some false)) else (some false)) else (some false)))) = some r := H
                  have A102 := am A1020
                  clear A1020
                  replace H := Option.bind_eq_some_iff.mp H
                  obtain ⟨⟨t459, t460⟩, A1030, H⟩ := H
                  replace H : ((spec_PlainOf.f kj63 t458).bind fun bt461 => (if (t438 == t440) = true then (if t437.toList = t439.toList then (if (t442 == t444) = true then (if (t441 == t443) = true then (if (t451 == t455) = true then ((laws_sameTexts.f kj63 t450 t454).bind fun t463 => (if t463 = true then (if (t460 == bt461.2) = true then (if t459.toList = bt461.1.toList then ((impl_GoodLines.f kj63 t434).bind fun t464 => ((spec_GoodLines.f kj63 t434).bind fun t465 => (some (t464 == t465)))) else (some false)) else (some false)) else (some false))) else (some false)) else (some false)) else (some false)) else (some false)) else (some false))) = some r := H
                  have A103 := am A1030
                  clear A1030
                  replace H := Option.bind_eq_some_iff.mp H
                  obtain ⟨⟨t461, t462⟩, A1040, H⟩ := H
                  replace H : (if (t438 == t440) = true then (if t437.toList = t439.toList then (if (t442 == t444) = true then (if (t441 == t443) = true then (if (t451 == t455) = true then ((laws_sameTexts.f kj63 t450 t454).bind fun t463 => (if t463 = true then (if (t460 == t462) = true then (if t459.toList = t461.toList then ((impl_GoodLines.f kj63 t434).bind fun t464 => ((spec_GoodLines.f kj63 t434).bind fun t465 => (some (t464 == t465)))) else (some false)) else (some false)) else (some false))) else (some false)) else (some false)) else (some false)) else (some false)) else (some false)) = some r := H
                  have A104 := am A1040
                  clear A1040
                  by_cases c105 : (t438 == t440) = true
                  ·as_aux_lemma =>
                     rw [if_pos c105] at H
                     have c105b0 : (t438 == t440) = true := c105
                     (try (have c105b1 : decide (t438 = t440) = true := by simpa using c105))
                     (try (have c105b2 : (t438 == t440) = true := by simpa using c105))
                     clear c105
                     by_cases c106 : t437.toList = t439.toList
                     ·as_aux_lemma =>
                        rw [if_pos c106] at H
                        have c106b0 : (t437.toList == t439.toList) = true := beq_iff_eq.mpr c106
                        have c106b1 : (t437.toList != t439.toList) = false := bne_eq_false_iff_eq.mpr c106
                        clear c106
                        by_cases c107 : (t442 == t444) = true
                        ·as_aux_lemma =>
                           rw [if_pos c107] at H
                           have c107b0 : (t442 == t444) = true := c107
                           (try (have c107b1 : decide (t442 = t444) = true := by simpa using c107))
                           (try (have c107b2 : (t442 == t444) = true := by simpa using c107))
                           clear c107
                           by_cases c108 : (t441 == t443) = true
                           ·as_aux_lemma =>
                              rw [if_pos c108] at H
                              have c108b0 : (t441 == t443) = true := c108
                              (try (have c108b1 : decide (t441 = t443) = true := by simpa using c108))
                              (try (have c108b2 : (t441 == t443) = true := by simpa using c108))
                              clear c108
                              by_cases c109 : (t451 == t455) = true
                              ·as_aux_lemma =>
                                 rw [if_pos c109] at H
                                 have c109b0 : (t451 == t455) = true := c109
                                 (try (have c109b1 : decide (t451 = t455) = true := by simpa using c109))
                                 (try (have c109b2 : (t451 == t455) = true := by simpa using c109))
                                 clear c109
                                 replace H := Option.bind_eq_some_iff.mp H
                                 obtain ⟨t463, A1100, H⟩ := H
                                 replace H : (if t463 = true then (if (t460 == t462) = true then (if t459.toList = t461.toList then ((impl_GoodLines.f kj63 t434).bind fun t464 => ((spec_GoodLines.f kj63 t434).bind fun t465 => (some (t464 == t465)))) else (some false)) else (some false)) else (some false)) = some r := H
                                 have A110 := am A1100
                                 clear A1100
                                 by_cases c111 : t463 = true
                                 ·as_aux_lemma =>
                                    subst c111
                                    have H1 : (if (t460 == t462) = true then (if t459.toList = t461.toList then ((impl_GoodLines.f kj63 t434).bind fun t464 => ((spec_GoodLines.f kj63 t434).bind fun t465 => (some (t464 == t465)))) else (some false)) else (some false)) = some r := by rw [if_pos rfl] at H; exact H
                                    clear H
                                    have H := H1
                                    clear H1
                                    by_cases c112 : (t460 == t462) = true
                                    ·as_aux_lemma =>
                                       rw [if_pos c112] at H
                                       have c112b0 : (t460 == t462) = true := c112
                                       (try (have c112b1 : decide (t460 = t462) = true := by simpa using c112))
                                       (try (have c112b2 : (t460 == t462) = true := by simpa using c112))
                                       clear c112
                                       by_cases c113 : t459.toList = t461.toList
                                       ·as_aux_lemma =>
                                          rw [if_pos c113] at H
                                          have c113b0 : (t459.toList == t461.toList) = true := beq_iff_eq.mpr c113
                                          have c113b1 : (t459.toList != t461.toList) = false := bne_eq_false_iff_eq.mpr c113
                                          clear c113
                                          replace H := Option.bind_eq_some_iff.mp H
                                          obtain ⟨t464, A1140, H⟩ := H
                                          replace H : ((spec_GoodLines.f kj63 t434).bind fun t465 => (some (t464 == t465))) = some r := H
                                          have A114 := am A1140
                                          clear A1140
                                          replace H := Option.bind_eq_some_iff.mp H
                                          obtain ⟨t465, A1150, H⟩ := H
                                          replace H : (some (t464 == t465)) = some r := H
                                          have A115 := am A1150
                                          clear A1150
                                          first
                                          | exact absurd (show false = true from (Option.some.inj H).trans HR_.out) Bool.false_ne_true
                                          | obtain rfl := Option.some.inj H
                                            go_wp2_with (first | ((with_reducible refine gateC (f := 22) rfl ?_); refine goesL_ (some 203) rfl rfl Tryd.func22 (by kernel_rfl) rfl #[.slice A1 l1.length c1] rfl zm ?_; (with_reducible refine (spec_DrawTextOf.calls kj63 _ _ l1 t434 _ ?side1 ?side2 A94.out).mono ?_); (case side1 => exact zq (Kd.C_below HR1.out HB.out)); (case side2 => exact HC1.out); rintro e w116 ⟨v435, rfl, ho0, hb⟩; refine ⟨_, rfl, ?_⟩; have n0_ := am (Kd.R_lower ho0 (below_size zb)); have n1_ := am (below_step zb hb); clear HB; have HO436 := n0_; have HB := n1_; clear n0_ n1_; (try clear hb); (try clear ho0); obtain ⟨Ao117, co117, eo117⟩ := Kd.R_slice HO436.out; subst eo117) | ((with_reducible refine gateC (f := 13) rfl ?_); refine goesL_ (some 206) rfl rfl Tryd.func13 (by kernel_rfl) rfl #[.slice Ao117 t434.length co117] rfl zm ?_; (with_reducible refine (impl_TextOf.calls kj63 _ _ t434 t437 t438 _ ?side1 ?side2 A95.out).mono ?_); (case side1 => repeat (first | exact (Kd.R_reads' HO436.out).2.2 | (with_reducible refine Kd.C_alloc ?_ _) | (with_reducible refine Kd.C_drewN ?_ _) | (with_reducible refine Kd.C_drew ?_))); (case side2 => exact (Kd.R_reads' HO436.out).2.1); rintro e w118 ⟨rfl, hb⟩; refine ⟨_, rfl, ?_⟩; have n0_ := am (Kd.R_below (zr HO436.out) hb); have n1_ := am (below_step zb hb); clear HO436; clear HB; have HO436 := n0_; have HB := n1_; clear n0_ n1_; (try clear hb)) | ((with_reducible refine gateC (f := 23) rfl ?_); refine goesL_ (some 211) rfl rfl Tryd.func23 (by kernel_rfl) rfl #[.slice Ao117 t434.length co117] rfl zm ?_; (with_reducible refine (spec_TextOf.calls kj63 _ _ t434 t439 t440 _ ?side1 ?side2 A96.out).mono ?_); (case side1 => repeat (first | exact (Kd.R_reads' HO436.out).2.2 | (with_reducible refine Kd.C_alloc ?_ _) | (with_reducible refine Kd.C_drewN ?_ _) | (with_reducible refine Kd.C_drew ?_))); (case side2 => exact (Kd.R_reads' HO436.out).2.1); rintro e w' ⟨rfl, ⟨nd, rfl⟩⟩; refine ⟨_, rfl, ?_⟩) | ((with_reducible refine gateC (f := 14) rfl ?_); refine goesL_ (some 216) rfl rfl Tryd.func14 (by kernel_rfl) rfl #[.slice Ao117 t434.length co117] rfl zm ?_; (with_reducible refine (impl_IsWhole.calls kj63 _ _ t434 t441 t442 _ ?side1 ?side2 A97.out).mono ?_); (case side1 => repeat (first | exact (Kd.R_reads' HO436.out).2.2 | (with_reducible refine Kd.C_alloc ?_ _) | (with_reducible refine Kd.C_drewN ?_ _) | (with_reducible refine Kd.C_drew ?_))); (case side2 => exact (Kd.R_reads' HO436.out).2.1); rintro e w' ⟨rfl, ⟨nd, rfl⟩⟩; refine ⟨_, rfl, ?_⟩) | ((with_reducible refine gateC (f := 24) rfl ?_); refine goesL_ (some 221) rfl rfl Tryd.func24 (by kernel_rfl) rfl #[.slice Ao117 t434.length co117] rfl zm ?_; (with_reducible refine (spec_IsWhole.calls kj63 _ _ t434 t443 t444 _ ?side1 ?side2 A98.out).mono ?_); (case side1 => repeat (first | exact (Kd.R_reads' HO436.out).2.2 | (with_reducible refine Kd.C_alloc ?_ _) | (with_reducible refine Kd.C_drewN ?_ _) | (with_reducible refine Kd.C_drew ?_))); (case side2 => exact (Kd.R_reads' HO436.out).2.1); rintro e w' ⟨rfl, ⟨nd, rfl⟩⟩; refine ⟨_, rfl, ?_⟩) | ((with_reducible refine gateC (f := 25) rfl ?_); refine goesL_ (some 226) rfl rfl Tryd.func25 (by kernel_rfl) rfl #[.slice A1 l1.length c1] rfl zm ?_; (with_reducible refine (spec_DrawPartOf.calls kj63 _ _ l1 t445 t446 t447 _ ?side1 ?side2 A99.out).mono ?_); (case side1 => repeat (first | exact (Kd.C_below HR1.out zb) | (with_reducible refine Kd.C_alloc ?_ _) | (with_reducible refine Kd.C_drewN ?_ _) | (with_reducible refine Kd.C_drew ?_))); (case side2 => exact HC1.out); rintro e w119 ⟨v448, rfl, ho0, hb⟩; refine ⟨_, rfl, ?_⟩; have n0_ := am (Kd.R_elder' (zr HO436.out) (Kd.R_base ho0) hb); have n1_ := am (Kd.R_lower (Kd.R_new' ho0 (Kd.R_lt (zr HO436.out))) (below_size zb)); have n2_ := am (below_step zb hb); clear HO436; clear HB; have HO436 := n0_; have HO449 := n1_; have HB := n2_; clear n0_ n1_ n2_; (try clear hb); (try clear ho0); obtain ⟨Ao120, co120, eo120⟩ := Kd.R_slice HO449.out; subst eo120) | ((with_reducible refine gateC (f := 21) rfl ?_); refine goesL_ (some 234) rfl rfl Tryd.func21 (by kernel_rfl) rfl #[.slice Ao120 t445.length co120, .int .i64 t446, .int .i64 t447] rfl zm ?_; (with_reducible refine (impl_PartOf.calls kj63 _ _ t445 t446 t447 t450 t451 _ ?side1 ?side2 A100.out).mono ?_); (case side1 => repeat (first | exact (Kd.R_reads' HO449.out).2.2 | (with_reducible refine Kd.C_alloc ?_ _) | (with_reducible refine Kd.C_drewN ?_ _) | (with_reducible refine Kd.C_drew ?_))); (case side2 => exact (Kd.R_reads' HO449.out).2.1); rintro e w121 ⟨v452, rfl, ho0, hb⟩; refine ⟨_, rfl, ?_⟩; have n0_ := am (Kd.R_elder' (zr HO436.out) (Kd.R_base ho0) hb); have n1_ := am (Kd.R_elder' (zr HO449.out) (Kd.R_base ho0) hb); have n2_ := am (Kd.R_lower (Kd.R_new' (Kd.R_new' ho0 (Kd.R_lt (zr HO436.out))) (Kd.R_lt (zr HO449.out))) (below_size zb)); have n3_ := am (below_step zb hb); clear HO436; clear HO449; clear HB; have HO436 := n0_; have HO449 := n1_; have HO453 := n2_; have HB := n3_; clear n0_ n1_ n2_ n3_; (try clear hb); (try clear ho0)) | ((with_reducible refine gateC (f := 26) rfl ?_); refine goesL_ (some 241) rfl rfl Tryd.func26 (by kernel_rfl) rfl #[.slice Ao120 t445.length co120, .int .i64 t446, .int .i64 t447] rfl zm ?_; (with_reducible refine (spec_PartOf.calls kj63 _ _ t445 t446 t447 t454 t455 _ ?side1 ?side2 A101.out).mono ?_); (case side1 => repeat (first | exact (Kd.R_reads' HO449.out).2.2 | (with_reducible refine Kd.C_alloc ?_ _) | (with_reducible refine Kd.C_drewN ?_ _) | (with_reducible refine Kd.C_drew ?_))); (case side2 => exact (Kd.R_reads' HO449.out).2.1); rintro e w122 ⟨v456, rfl, ho0, hb⟩; refine ⟨_, rfl, ?_⟩; have n0_ := am (Kd.R_elder' (zr HO436.out) (Kd.R_base ho0) hb); have n1_ := am (Kd.R_elder' (zr HO449.out) (Kd.R_base ho0) hb); have n2_ := am (Kd.R_elder' (zr HO453.out) (Kd.R_base ho0) hb); have n3_ := am (Kd.R_lower (Kd.R_new' (Kd.R_new' (Kd.R_new' ho0 (Kd.R_lt (zr HO436.out))) (Kd.R_lt (zr HO449.out))) (Kd.R_lt (zr HO453.out))) (below_size zb)); have n4_ := am (below_step zb hb); clear HO436; clear HO449; clear HO453; clear HB; have HO436 := n0_; have HO449 := n1_; have HO453 := n2_; have HO457 := n3_; have HB := n4_; clear n0_ n1_ n2_ n3_ n4_; (try clear hb); (try clear ho0)) | ((with_reducible refine gateC (f := 27) rfl ?_); refine goesL_ (some 245) rfl rfl Tryd.func27 (by kernel_rfl) rfl #[.slice A1 l1.length c1] rfl zm ?_; (with_reducible refine (spec_DrawPlainOf.calls _ _ l1 t458 _ ?side1 ?side2 A102.out).mono ?_); (case side1 => exact zq (Kd.C_below HR1.out HB.out)); (case side2 => exact HC1.out); rintro e w123 ⟨rfl, hb⟩; refine ⟨_, rfl, ?_⟩; have n0_ := am (Kd.R_below (zr HO436.out) hb); have n1_ := am (Kd.R_below (zr HO449.out) hb); have n2_ := am (Kd.R_below (zr HO453.out) hb); have n3_ := am (Kd.R_below (zr HO457.out) hb); have n4_ := am (below_step zb hb); clear HO436; clear HO449; clear HO453; clear HO457; clear HB; have HO436 := n0_; have HO449 := n1_; have HO453 := n2_; have HO457 := n3_; have HB := n4_; clear n0_ n1_ n2_ n3_ n4_; (try clear hb)) | ((with_reducible refine gateC (f := 28) rfl ?_); refine goesL_ (some 248) rfl rfl Tryd.func28 (by kernel_rfl) rfl #[.string t458] rfl zm ?_; (with_reducible refine (impl_PlainOf.calls kj63 t458 t459 t460 _ A103.out).mono ?_); rintro e w' ⟨rfl, ⟨nd, rfl⟩⟩; refine ⟨_, rfl, ?_⟩) | ((with_reducible refine gateC (f := 29) rfl ?_); refine goesL_ (some 253) rfl rfl Tryd.func29 (by kernel_rfl) rfl #[.string t458] rfl zm ?_; (with_reducible refine (spec_PlainOf.calls kj63 t458 t461 t462 _ A104.out).mono ?_); rintro e w' ⟨rfl, ⟨nd, rfl⟩⟩; refine ⟨_, rfl, ?_⟩; obtain ⟨Ao124, co124, eo124⟩ := Kd.R_slice HO453.out; subst eo124; obtain ⟨Ao125, co125, eo125⟩ := Kd.R_slice HO457.out; subst eo125) | (go_at_call 12; (with_reducible refine (laws_sameTexts.calls kj63 _ _ t450 _ _ t454 true _ ?side1 ?side2 ?side3 ?side4 A110.out).mono ?_); (case side1 => repeat (first | exact (Kd.R_reads' HO453.out).2.2 | (with_reducible refine Kd.C_alloc ?_ _) | (with_reducible refine Kd.C_drewN ?_ _) | (with_reducible refine Kd.C_drew ?_))); (case side2 => exact (Kd.R_reads' HO453.out).2.1); (case side3 => repeat (first | exact (Kd.R_reads' HO457.out).2.2 | (with_reducible refine Kd.C_alloc ?_ _) | (with_reducible refine Kd.C_drewN ?_ _) | (with_reducible refine Kd.C_drew ?_))); (case side4 => exact (Kd.R_reads' HO457.out).2.1); rintro e w' ⟨rfl, ⟨nd, rfl⟩⟩) | (go_at_call 15; (with_reducible refine (impl_GoodLines.calls kj63 _ _ t434 t464 _ ?side1 ?side2 A114.out).mono ?_); (case side1 => repeat (first | exact (Kd.R_reads' HO436.out).2.2 | (with_reducible refine Kd.C_alloc ?_ _) | (with_reducible refine Kd.C_drewN ?_ _) | (with_reducible refine Kd.C_drew ?_))); (case side2 => exact (Kd.R_reads' HO436.out).2.1); rintro e w' ⟨rfl, ⟨nd, rfl⟩⟩) | (go_at_call 30; (with_reducible refine (spec_GoodLines.calls kj63 _ _ t434 t465 _ ?side1 ?side2 A115.out).mono ?_); (case side1 => repeat (first | exact (Kd.R_reads' HO436.out).2.2 | (with_reducible refine Kd.C_alloc ?_ _) | (with_reducible refine Kd.C_drewN ?_ _) | (with_reducible refine Kd.C_drew ?_))); (case side2 => exact (Kd.R_reads' HO436.out).2.1); rintro e w' ⟨rfl, ⟨nd, rfl⟩⟩))
                                            go_ret
                                            exact ⟨by first | rfl | (simp [errW_none, errW_some] <;> rfl) | (simp [*, errW_none, errW_some] <;> rfl), by repeat (first | (with_reducible first | exact HB.out | apply below_alloc | apply pw_below_drewN | apply below_drew1) | exact HB.out)⟩
                                       ·as_aux_lemma =>
                                          rw [if_neg c113] at H
                                          have c113b0 : (t459.toList == t461.toList) = false := beq_eq_false_iff_ne.mpr c113
                                          have c113b1 : (t459.toList != t461.toList) = true := bne_iff_ne.mpr c113
                                          exact absurd (show false = true from (Option.some.inj H).trans HR_.out) Bool.false_ne_true
                                    ·as_aux_lemma =>
                                       rw [if_neg c112] at H
                                       have c112b0 : (t460 == t462) = false := by simpa using c112
                                       (try (have c112b1 : decide (t460 = t462) = false := by simpa using c112))
                                       (try (have c112b2 : (t460 == t462) = false := by simpa using c112))
                                       (try (have c112b3 : ¬ (t460 = t462) := by simpa using c112))
                                       clear c112
                                       exact absurd (show false = true from (Option.some.inj H).trans HR_.out) Bool.false_ne_true
                                 ·as_aux_lemma =>
                                    replace c111 := Bool.eq_false_iff.mpr c111
                                    subst c111
                                    have H1 : (some false) = some r := by rw [if_neg (show ¬ (false = true) by decide)] at H; exact H
                                    clear H
                                    have H := H1
                                    clear H1
                                    exact absurd (show false = true from (Option.some.inj H).trans HR_.out) Bool.false_ne_true
                              ·as_aux_lemma =>
                                 rw [if_neg c109] at H
                                 have c109b0 : (t451 == t455) = false := by simpa using c109
                                 (try (have c109b1 : decide (t451 = t455) = false := by simpa using c109))
                                 (try (have c109b2 : (t451 == t455) = false := by simpa using c109))
                                 (try (have c109b3 : ¬ (t451 = t455) := by simpa using c109))
                                 clear c109
                                 exact absurd (show false = true from (Option.some.inj H).trans HR_.out) Bool.false_ne_true
                           ·as_aux_lemma =>
                              rw [if_neg c108] at H
                              have c108b0 : (t441 == t443) = false := by simpa using c108
                              (try (have c108b1 : decide (t441 = t443) = false := by simpa using c108))
                              (try (have c108b2 : (t441 == t443) = false := by simpa using c108))
                              (try (have c108b3 : ¬ (t441 = t443) := by simpa using c108))
                              clear c108
                              exact absurd (show false = true from (Option.some.inj H).trans HR_.out) Bool.false_ne_true
                        ·as_aux_lemma =>
                           rw [if_neg c107] at H
                           have c107b0 : (t442 == t444) = false := by simpa using c107
                           (try (have c107b1 : decide (t442 = t444) = false := by simpa using c107))
                           (try (have c107b2 : (t442 == t444) = false := by simpa using c107))
                           (try (have c107b3 : ¬ (t442 = t444) := by simpa using c107))
                           clear c107
                           exact absurd (show false = true from (Option.some.inj H).trans HR_.out) Bool.false_ne_true
                     ·as_aux_lemma =>
                        rw [if_neg c106] at H
                        have c106b0 : (t437.toList == t439.toList) = false := beq_eq_false_iff_ne.mpr c106
                        have c106b1 : (t437.toList != t439.toList) = true := bne_iff_ne.mpr c106
                        exact absurd (show false = true from (Option.some.inj H).trans HR_.out) Bool.false_ne_true
                  ·as_aux_lemma =>
                     rw [if_neg c105] at H
                     have c105b0 : (t438 == t440) = false := by simpa using c105
                     (try (have c105b1 : decide (t438 = t440) = false := by simpa using c105))
                     (try (have c105b2 : (t438 == t440) = false := by simpa using c105))
                     (try (have c105b3 : ¬ (t438 = t440) := by simpa using c105))
                     clear c105
                     exact absurd (show false = true from (Option.some.inj H).trans HR_.out) Bool.false_ne_true
end Go.Proofs.YtmcldkobejhaeaaDoor.My
/- Written by this session's program (wip/gen): the law's pure statement. -/
namespace Go.Proofs.YtmcldkobejhaeaaDoor.My
open Go.RowKit Go.Proofs.YtmcldkobejhaeaaDoorW.PrintWords Go.Proofs.YtmcldkobejhaeaaDoorW.PrintLast Go.Proofs.YtmcldkobejhaeaaDoorW.PrintMore
attribute [local go_sem] max2_int min2_int max_two min_two max_three min_three max_four min_four
set_option linter.unusedVariables false
set_option linter.unusedSimpArgs false
def laws_FnLines.Pure : Prop := ∀ (l0 : List Int) (l1 : List Int), (WL Wu8) l0 → (WL Wu8) l1 → ∃ k, laws_FnLines.f k l0 l1 = some true
end Go.Proofs.YtmcldkobejhaeaaDoor.My
/- Plain Lean, no program in sight: what holds from some number of rounds on, whole numbers that do not wrap, lists by an index. -/
namespace Go.Proofs.YtmcldkobejhaeaaDoor.Pl
open Go.RowKit Go.Proofs.YtmcldkobejhaeaaDoorW.PrintWords Go.Proofs.YtmcldkobejhaeaaDoorW.PrintLast
set_option linter.unusedVariables false
set_option linter.unusedSimpArgs false
section
variable {α β : Type}
theorem ev_pos {c : Prop} [Decidable c] {g g' : Nat → Option α} {r : α} (hc : c) (h : Ev g r) : Ev (fun k => if c then g k else g' k) r :=
  Ev.congr (fun _ => if_pos hc) h
theorem ev_neg {c : Prop} [Decidable c] {g g' : Nat → Option α} {r : α} (hc : ¬ c) (h : Ev g' r) : Ev (fun k => if c then g k else g' k) r :=
  Ev.congr (fun _ => if_neg hc) h
theorem ev_ite {c : Prop} [Decidable c] {g g' : Nat → Option α} {r : α} (h : c → Ev g r) (h' : ¬ c → Ev g' r) : Ev (fun k => if c then g k else g' k) r := by
  by_cases hc : c
  · exact ev_pos hc (h hc)
  · exact ev_neg hc (h' hc)
theorem ev_some {r r' : α} (h : r = r') : Ev (fun _ => some r) r' := h ▸ Ev.now r
theorem ev_const {o : Option α} {r : α} (h : o = some r) : Ev (fun _ => o) r := ⟨0, fun _ _ => h⟩
theorem ev_to {g : Nat → Option α} {r r' : α} (h : Ev g r) (e : r = r') : Ev g r' := e ▸ h
theorem ev_bind {g : Nat → Option α} {f : Nat → α → Option β} {a : α} {r : β} (h : Ev g a) (k : Ev (fun n => f n a) r) : Ev (fun n => (g n).bind fun t => f n t) r := Ev.bind h k
end
theorem wrap64_id {x : Int} (h : -9223372036854775808 ≤ x) (h' : x ≤ 9223372036854775807) : wrap64 x = x := by
  unfold wrap64
  omega
theorem wrap_succ (i : Nat) (h : i < 9223372036854775807) : wrap64 ((i : Int) + 1) = ((i + 1 : Nat) : Int) := by
  rw [wrap64_id (by omega) (by omega)]
  omega
theorem wrap_pred (n : Nat) (h0 : 0 < n) (h : n ≤ 9223372036854775807) : wrap64 ((n : Int) - 1) = ((n - 1 : Nat) : Int) := by
  rw [wrap64_id (by omega) (by omega)]
  omega
theorem wrap_sub (n m : Nat) (h0 : m ≤ n) (h : n ≤ 9223372036854775807) : wrap64 ((n : Int) - (m : Int)) = ((n - m : Nat) : Int) := by
  rw [wrap64_id (by omega) (by omega)]
  omega
theorem getD_lt {α : Type} (xs : List α) (d : α) (i : Nat) (h : i < xs.length) : xs.getD i d = xs[i] := by
  simp [List.getD_eq_getElem?_getD, List.getElem?_eq_getElem h]
theorem rdOf_lt {α : Type} (d : α) (xs : List α) (i : Nat) (h : i < xs.length) : rdOf d xs (i : Int) = xs[i] := getD_lt xs d i h
theorem ba_ext {a b : ByteArray} (h : a.toList = b.toList) : a = b := by
  rw [Lib.toList_data, Lib.toList_data] at h
  cases a with | mk a => cases b with | mk b =>
  cases a with | mk a => cases b with | mk b =>
  simp_all
theorem drop_cons {α : Type} (xs : List α) (i : Nat) (h : i < xs.length) : xs.drop i = xs[i] :: xs.drop (i + 1) := List.drop_eq_getElem_cons h
theorem bt_nat (s : ByteArray) (i : Nat) (h : i < s.size) : bt s (i : Int) = ((s.data.toList[i]'(by rw [data_length]; exact h)).toNat : Int) := by
  unfold bt
  rw [dif_pos (by simpa using h)]
  simp [ByteArray.getElem_eq_getElem_data]
theorem u8_eq {b c : UInt8} (h : (b.toNat : Int) = (c.toNat : Int)) : b = c := UInt8.toNat_inj.1 (by omega)
theorem u8_ne {b c : UInt8} (h : ¬ (b.toNat : Int) = (c.toNat : Int)) : ¬ c = b := fun e => h (by rw [e])
end Go.Proofs.YtmcldkobejhaeaaDoor.Pl
/- Plain Lean: whether a number lies between two. No condition. -/
namespace Go.Proofs.YtmcldkobejhaeaaDoor.Pl
open Go.RowKit Go.Proofs.YtmcldkobejhaeaaDoorW.PrintWords Go.Proofs.YtmcldkobejhaeaaDoorW.PrintLast Go.Proofs.YtmcldkobejhaeaaDoor.My
set_option linter.unusedVariables false
set_option linter.unusedSimpArgs false
def inB (n lo hi : Int) : Bool := decide (lo ≤ n) && decide (n ≤ hi)
theorem impl_in_eq (a b c : Int) : impl_in.f a b c = some (inB a b c) := by
  unfold impl_in.f inB
  by_cases h : b ≤ a
  · rw [if_pos h]; simp [h]
  · rw [if_neg (by omega)]; simp [h]
theorem spec_l1In_eq (a b c : Int) : spec_l1In.f a b c = some (inB a b c) := by
  unfold spec_l1In.f inB
  by_cases h : b ≤ a
  · rw [if_pos h]; simp [h]
  · rw [if_neg (by omega)]; simp [h]
end Go.Proofs.YtmcldkobejhaeaaDoor.Pl
/- Plain Lean: texts that fit. No condition. -/
namespace Go.Proofs.YtmcldkobejhaeaaDoor.Pl
open Go.RowKit Go.Proofs.YtmcldkobejhaeaaDoorW.PrintWords Go.Proofs.YtmcldkobejhaeaaDoorW.PrintLast
set_option linter.unusedVariables false
set_option linter.unusedSimpArgs false
def FitS (l : List ByteArray) : Prop := l.length ≤ 9223372036854775807 ∧ ∀ s ∈ l, s.size ≤ 9223372036854775807
end Go.Proofs.YtmcldkobejhaeaaDoor.Pl
/- Plain Lean: chapter 1: what a line and good lines are, for the program and the reference. Conditions: lengths and sizes below 2^63. -/
namespace Go.Proofs.YtmcldkobejhaeaaDoor.Pl
open Go.RowKit Go.Proofs.YtmcldkobejhaeaaDoorW.PrintWords Go.Proofs.YtmcldkobejhaeaaDoorW.PrintLast Go.Proofs.YtmcldkobejhaeaaDoor.My
set_option linter.unusedVariables false
set_option linter.unusedSimpArgs false
def isLn (s : ByteArray) : Bool := !(s.data.toList.dropLast.contains 10) && inB s.size 1 30
def ends (s : ByteArray) : Bool := s.data.toList.getLast? == some 10
def good (l : List ByteArray) : Bool := decide (l.length ≤ 40) && (l.all isLn && l.dropLast.all ends)
theorem toList_one (c : UInt8) : (⟨#[c]⟩ : ByteArray).toList = [c] := by rw [Lib.toList_data]
theorem size_one (c : UInt8) : (⟨#[c]⟩ : ByteArray).size = 1 := rfl
theorem bt_one (c : UInt8) : bt ⟨#[c]⟩ 0 = (c.toNat : Int) := rfl
theorem index_ev (s : ByteArray) (c : UInt8) : Ev (fun k => strings_Index.f k s ⟨#[c]⟩) (Lib.indexByte s.data.toList c) := by
  have hj : ∀ b : Bool, (b = true → Lib.indexByte s.data.toList c = 0) → Ev (fun k => stringslite_Index.j0 k s ⟨#[c]⟩ 1 b) (Lib.indexByte s.data.toList c) := by
    intro b hb
    refine Ev.step (fun k => stringslite_Index.j0.eq_2 ..) ?_
    refine ev_ite (fun h => ev_some (hb h).symm) (fun _ => ?_)
    refine ev_pos rfl (ev_pos (by rw [size_one]; decide) ?_)
    refine ev_const ?_
    rw [bt_one]
    simp [stringslite_IndexByte.f]
  have h2 : Ev (fun k => stringslite_Index.f k s ⟨#[c]⟩) (Lib.indexByte s.data.toList c) := by
    simp only [stringslite_Index.f]
    refine ev_neg (by rw [size_one]; decide) ?_
    refine hj _ (fun h => ?_)
    have e : s.data.toList = [c] := by
      have := beq_iff_eq.1 h
      rw [toList_one, Lib.toList_data] at this
      exact this.symm
    rw [e]
    simp [Lib.indexByte]
  simp only [strings_Index.f]
  exact ev_bind h2 (ev_some rfl)
theorem indexByte_nonneg (l : List UInt8) (c : UInt8) : decide (Lib.indexByte l c ≥ 0) = l.contains c := by
  induction l with
  | nil => simp [Lib.indexByte]
  | cons b l ih =>
    have hge := Lib.indexByte_ge l c
    unfold Lib.indexByte
    by_cases h : (b == c) = true
    · have : b = c := beq_iff_eq.1 h
      simp [this]
    · have hb : (b == c) = false := by simpa using h
      have hne : ¬ c = b := fun e => h (by simp [e])
      rw [List.contains_cons, ← ih]
      simp only [hb]
      by_cases h2 : Lib.indexByte l c = -1
      · simp [h2, hne]
      · have h3 : (Lib.indexByte l c == -1) = false := by simpa using h2
        simp only [h3]
        have : Lib.indexByte l c ≥ 0 := by omega
        simp [hne, this]
        omega
theorem contains_ev (s : ByteArray) (c : UInt8) : Ev (fun k => strings_Contains.f k s ⟨#[c]⟩) (s.data.toList.contains c) := by
  simp only [strings_Contains.f]
  exact ev_bind (index_ev s c) (ev_some (indexByte_nonneg _ _))
theorem extract_data (s : ByteArray) (a b : Nat) : (s.extract a b).data.toList = (s.data.toList.take b).drop a := by
  rw [ByteArray.data_extract, Array.toList_extract, List.extract_eq_take_drop, ← List.drop_take]
theorem isLine_ev (s : ByteArray) (hs : s.size ≤ 9223372036854775807) : Ev (fun k => impl_isLine.f k s) (isLn s) := by
  simp only [impl_isLine.f, impl_in_eq, Option.bind_some]
  refine ev_ite (fun h => ?_) (fun h => ev_some (by unfold isLn; simp at h; simp [h]))
  have h1 : 1 ≤ s.size ∧ s.size ≤ 30 := by
    simp [inB] at h
    omega
  rw [wrap_pred s.size (by omega) hs]
  refine ev_pos (by omega) (ev_pos (by omega) ?_)
  refine ev_bind (contains_ev _ 10) (ev_some ?_)
  rw [Int.toNat_natCast, extract_data, List.drop_zero, ← data_length, ← List.dropLast_eq_take]
  unfold isLn
  rw [h]
  simp
theorem l1Line_l0 (s : ByteArray) (hs : s.size ≤ 9223372036854775807) : ∀ d i, i + d = s.size - 1 → Ev (fun k => spec_l1Line.l0 k s (i : Int)) (!((s.data.toList.dropLast.drop i).contains 10) && inB s.size 1 30) := by
  intro d
  have hl : s.data.toList.length = s.size := data_length s
  induction d with
  | zero =>
    intro i hi
    refine Ev.step (fun k => spec_l1Line.l0.eq_2 ..) ?_
    refine ev_neg (by rw [wrap64_id (by omega) (by omega)]; omega) ?_
    refine ev_const ?_
    rw [spec_l1In_eq, List.drop_of_length_le (by rw [List.length_dropLast]; omega)]
    rfl
  | succ d ih =>
    intro i hi
    refine Ev.step (fun k => spec_l1Line.l0.eq_2 ..) ?_
    refine ev_pos (by rw [wrap64_id (by omega) (by omega)]; omega) (ev_pos (by omega) (ev_pos (by omega) ?_))
    have hd : s.data.toList.dropLast.drop i = s.data.toList[i] :: s.data.toList.dropLast.drop (i + 1) := by
      rw [List.drop_eq_getElem_cons (by rw [List.length_dropLast]; omega), List.getElem_dropLast]
    rw [hd, List.contains_cons, bt_nat s i (by omega)]
    refine ev_ite (fun h => ev_some ?_) (fun h => ?_)
    · have : s.data.toList[i] = 10 := u8_eq h
      rw [this]
      simp
    · rw [wrap_succ i (by omega)]
      refine ev_to (ih (i + 1) (by omega)) ?_
      have : ((10 : UInt8) == s.data.toList[i]) = false := by
        rw [beq_eq_false_iff_ne]
        exact u8_ne h
      rw [this, Bool.false_or]
theorem l1Line_ev (s : ByteArray) (hs : s.size ≤ 9223372036854775807) : Ev (fun k => spec_l1Line.f k s) (isLn s) := by
  simp only [spec_l1Line.f]
  exact l1Line_l0 s hs (s.size - 1) 0 (by omega)
theorem isLn_size {s : ByteArray} (h : isLn s = true) : 1 ≤ s.size ∧ s.size ≤ 30 := by
  simp [isLn, inB] at h
  omega
theorem ends_last {s : ByteArray} (h : 1 ≤ s.size) : ends s = (bt s ((s.size - 1 : Nat) : Int) == 10) := by
  have hl : s.data.toList.length = s.size := data_length s
  have hq : s.data.toList.getLast? = some (s.data.toList[s.size - 1]'(by omega)) := by
    rw [List.getLast?_eq_getElem?, List.getElem?_eq_getElem (by omega)]
    simp only [hl]
  unfold ends
  rw [bt_nat s _ (by omega), hq]
  rw [Bool.eq_iff_iff]
  simp only [beq_iff_eq, Option.some.injEq]
  constructor
  · intro e; rw [e]; rfl
  · intro e; exact u8_eq e
theorem l1Ends_eq (s : ByteArray) (h : 1 ≤ s.size) (hs : s.size ≤ 9223372036854775807) : spec_l1Ends.f s = some (ends s) := by
  unfold spec_l1Ends.f
  rw [wrap_pred s.size (by omega) hs, if_pos (by omega), if_pos (by omega), ends_last h]
theorem hasSuffix_eq (s : ByteArray) (c : UInt8) (hs : s.size ≤ 9223372036854775807) : strings_HasSuffix.f s ⟨#[c]⟩ = some (s.data.toList.getLast? == some c) := by
  have hl : s.data.toList.length = s.size := data_length s
  unfold strings_HasSuffix.f stringslite_HasSuffix.f
  rw [size_one]
  by_cases h : 1 ≤ s.size
  · rw [if_pos (by omega), show ((1 : Nat) : Int) = 1 from rfl, wrap_pred s.size (by omega) hs, if_pos (by omega), if_pos (by omega), Option.bind_some, toList_one, Lib.toList_data, Int.toNat_natCast, extract_data, ← hl, List.take_length]
    have e : s.data.toList.drop (s.data.toList.length - 1) = [s.data.toList[s.data.toList.length - 1]'(by omega)] := by
      rw [List.drop_eq_getElem_cons (by omega), List.drop_of_length_le (by omega)]
    rw [e, List.getLast?_eq_getElem?, List.getElem?_eq_getElem (by omega)]
    congr 1
    rw [Bool.eq_iff_iff]
    simp
  · rw [if_neg (by omega), Option.bind_some]
    have : s.data.toList = [] := List.eq_nil_of_length_eq_zero (by omega)
    simp [this]
theorem isEnded_eq (s : ByteArray) (hs : s.size ≤ 9223372036854775807) : impl_isEnded.f s = some (ends s) := by
  unfold impl_isEnded.f
  rw [hasSuffix_eq s 10 hs]
  rfl
theorem areLines_l0 (l : List ByteArray) (hf : FitS l) : ∀ d i, i + d = l.length → ∃ j : Int, Ev (fun k => slices_IndexFunc_string_string__impl_areLines_1.l0 k l (l.length : Int) (i : Int)) j ∧ decide (j ≥ 0) = !((l.drop i).all isLn) := by
  intro d
  induction d with
  | zero =>
    intro i hi
    refine ⟨-1, Ev.step (fun k => slices_IndexFunc_string_string__impl_areLines_1.l0.eq_2 ..) (ev_neg (by omega) (ev_some rfl)), ?_⟩
    rw [List.drop_of_length_le (by omega)]
    rfl
  | succ d ih =>
    intro i hi
    have hlt : i < l.length := by omega
    have hev : Ev (fun k => impl_areLines_1.f k (rdOf ByteArray.empty l (i : Int))) (!isLn l[i]) := by
      rw [rdOf_lt _ _ _ hlt]
      simp only [impl_areLines_1.f]
      exact ev_bind (isLine_ev _ (hf.2 _ (List.getElem_mem _))) (ev_some rfl)
    obtain ⟨j, hj, hjj⟩ := ih (i + 1) (by omega)
    rw [drop_cons l i hlt, List.all_cons]
    by_cases h : isLn l[i] = true
    · refine ⟨j, Ev.step (fun k => slices_IndexFunc_string_string__impl_areLines_1.l0.eq_2 ..) (ev_pos (by omega) (ev_pos (by omega) (ev_pos (by omega) (ev_bind hev (ev_neg (by simp [h]) ?_))))), by rw [hjj, h]; simp⟩
      rw [wrap_succ i (by have := hf.1; omega)]
      exact hj
    · refine ⟨(i : Int), Ev.step (fun k => slices_IndexFunc_string_string__impl_areLines_1.l0.eq_2 ..) (ev_pos (by omega) (ev_pos (by omega) (ev_pos (by omega) (ev_bind hev (ev_pos (by simp [h]) (ev_some rfl)))))), ?_⟩
      simp [h]
theorem areLines_ev (l : List ByteArray) (hf : FitS l) : Ev (fun k => impl_areLines.f k l) (decide (l.length ≤ 40) && l.all isLn) := by
  simp only [impl_areLines.f]
  refine ev_ite (fun h => ?_) (fun h => ev_some ?_)
  · obtain ⟨j, hj, hjj⟩ := areLines_l0 l hf l.length 0 (by omega)
    simp only [slices_ContainsFunc_string_string__impl_areLines_1.f, slices_IndexFunc_string_string__impl_areLines_1.f]
    refine ev_bind (ev_bind hj (ev_some rfl)) (ev_some ?_)
    have : l.length ≤ 40 := by omega
    rw [hjj]
    simp [this]
  · have : ¬ l.length ≤ 40 := by omega
    simp [this]
theorem goodLines_l0 (l : List ByteArray) (hf : FitS l) : ∀ d i, i + d = l.length → Ev (fun k => impl_goodLines.l0 k l l (l.length : Int) (i : Int)) ((l.dropLast.drop i).all ends) := by
  intro d
  have hL := hf.1
  induction d with
  | zero =>
    intro i hi
    refine Ev.step (fun k => impl_goodLines.l0.eq_2 ..) (ev_neg (by omega) (ev_some ?_))
    rw [List.drop_of_length_le (by rw [List.length_dropLast]; omega)]
    rfl
  | succ d ih =>
    intro i hi
    have hlt : i < l.length := by omega
    refine Ev.step (fun k => impl_goodLines.l0.eq_2 ..) (ev_pos (by omega) (ev_pos (by omega) (ev_pos (by omega) ?_)))
    rw [wrap_pred l.length (by omega) hL, rdOf_lt _ _ _ hlt, isEnded_eq _ (hf.2 _ (List.getElem_mem _)), wrap_succ i (by omega)]
    simp only [Option.bind_some]
    refine ev_ite (fun h => ?_) (fun h => ?_)
    · have hd : l.dropLast.drop i = l[i] :: l.dropLast.drop (i + 1) := by
        rw [List.drop_eq_getElem_cons (by rw [List.length_dropLast]; omega), List.getElem_dropLast]
      rw [hd, List.all_cons]
      refine ev_ite (fun h => ?_) (fun h => ev_some (by simp [h]))
      rw [h, Bool.true_and]
      exact ih (i + 1) (by omega)
    · have e1 : l.dropLast.drop i = [] := List.drop_of_length_le (by rw [List.length_dropLast]; omega)
      have e2 : l.dropLast.drop (i + 1) = [] := List.drop_of_length_le (by rw [List.length_dropLast]; omega)
      have := ih (i + 1) (by omega)
      rw [e2] at this
      rw [e1]
      exact this
theorem goodLines_ev (l : List ByteArray) (hf : FitS l) : Ev (fun k => impl_goodLines.f k l) (good l) := by
  simp only [impl_goodLines.f]
  refine ev_bind (areLines_ev l hf) (ev_ite (fun h => ?_) (fun h => ev_some ?_))
  · refine ev_to (goodLines_l0 l hf l.length 0 (by omega)) ?_
    rw [List.drop_zero]
    unfold good
    rw [← Bool.and_assoc, h, Bool.true_and]
  · unfold good
    rw [← Bool.and_assoc]
    simp at h
    simp
    intro h1 h2
    exact absurd (h h1) (by simpa using h2)
theorem l1Good_l0 (l : List ByteArray) (hf : FitS l) : ∀ d i, i + d = l.length → Ev (fun k => spec_l1Good.l0 k l l (l.length : Int) (i : Int)) ((l.drop i).all isLn && (l.dropLast.drop i).all ends && decide (l.length ≤ 40)) := by
  intro d
  have hL := hf.1
  induction d with
  | zero =>
    intro i hi
    refine Ev.step (fun k => spec_l1Good.l0.eq_2 ..) (ev_neg (by omega) (ev_some ?_))
    rw [List.drop_of_length_le (by omega), List.drop_of_length_le (by rw [List.length_dropLast]; omega)]
    simp
    omega
  | succ d ih =>
    intro i hi
    have hlt : i < l.length := by omega
    refine Ev.step (fun k => spec_l1Good.l0.eq_2 ..) (ev_pos (by omega) (ev_pos (by omega) (ev_pos (by omega) ?_)))
    simp only [rdOf_lt _ _ _ hlt]
    rw [wrap_pred l.length (by omega) hL, wrap_succ i (by omega), drop_cons l i hlt, List.all_cons]
    refine ev_bind (l1Line_ev _ (hf.2 _ (List.getElem_mem _))) (ev_ite (fun h => ?_) (fun h => ev_some (by simp [h])))
    rw [h, Bool.true_and, l1Ends_eq _ (isLn_size h).1 (hf.2 _ (List.getElem_mem _))]
    simp only [Option.bind_some]
    refine ev_ite (fun h => ?_) (fun h => ?_)
    · have hd : l.dropLast.drop i = l[i] :: l.dropLast.drop (i + 1) := by
        rw [List.drop_eq_getElem_cons (by rw [List.length_dropLast]; omega), List.getElem_dropLast]
      rw [hd, List.all_cons]
      refine ev_ite (fun h => ?_) (fun h => ev_some (by simp [h]))
      rw [h, Bool.true_and]
      exact ih (i + 1) (by omega)
    · have e1 : l.dropLast.drop i = [] := List.drop_of_length_le (by rw [List.length_dropLast]; omega)
      have e2 : l.dropLast.drop (i + 1) = [] := List.drop_of_length_le (by rw [List.length_dropLast]; omega)
      have := ih (i + 1) (by omega)
      rw [e2] at this
      rw [e1]
      exact this
theorem l1Good_ev (l : List ByteArray) (hf : FitS l) : Ev (fun k => spec_l1Good.f k l) (good l) := by
  simp only [spec_l1Good.f]
  refine ev_to (l1Good_l0 l hf l.length 0 (by omega)) ?_
  rw [List.drop_zero, List.drop_zero]
  unfold good
  rw [Bool.and_comm]
end Go.Proofs.YtmcldkobejhaeaaDoor.Pl
/- Plain Lean: how many lines are the same ahead and behind. Condition: lengths below 2^62. -/
namespace Go.Proofs.YtmcldkobejhaeaaDoor.Pl
open Go.RowKit Go.Proofs.YtmcldkobejhaeaaDoorW.PrintWords Go.Proofs.YtmcldkobejhaeaaDoorW.PrintLast Go.Proofs.YtmcldkobejhaeaaDoorW.PrintMore Go.Proofs.YtmcldkobejhaeaaDoor.My
set_option linter.unusedVariables false
set_option linter.unusedSimpArgs false
def ahead : List ByteArray → List ByteArray → Nat
  | a :: s, b :: t => if a = b then ahead s t + 1 else 0
  | _, _ => 0
def behind (a b : List ByteArray) : Nat := min (ahead a.reverse b.reverse) (min a.length b.length - ahead a b)
theorem ahead_le (a b : List ByteArray) : ahead a b ≤ a.length ∧ ahead a b ≤ b.length := by
  induction a generalizing b with
  | nil => simp [ahead]
  | cons x a ih =>
    cases b with
    | nil => simp [ahead]
    | cons y b =>
      unfold ahead
      have := ih b
      split <;> simp <;> omega
theorem ahead_drop_of_ge (a b : List ByteArray) (i : Nat) (h : a.length ≤ i ∨ b.length ≤ i) : ahead (a.drop i) (b.drop i) = 0 := by
  have := ahead_le (a.drop i) (b.drop i)
  simp only [List.length_drop] at this
  omega
theorem ahead_drop (a b : List ByteArray) (i : Nat) (h1 : i < a.length) (h2 : i < b.length) : ahead (a.drop i) (b.drop i) = if a[i] = b[i] then ahead (a.drop (i + 1)) (b.drop (i + 1)) + 1 else 0 := by
  rw [drop_cons a i h1, drop_cons b i h2, ahead]
theorem mn_nat (a b : Nat) : mn (a : Int) (b : Int) = ((min a b : Nat) : Int) := by
  unfold mn
  split <;> omega
theorem sameAhead_l0 (a b : List ByteArray) (hL : a.length ≤ 4611686018427387904) (hL' : b.length ≤ 4611686018427387904) : ∀ d i, i + d = min a.length b.length → Ev (fun k => impl_sameAhead.l0 k a b (i : Int)) ((i + ahead (a.drop i) (b.drop i) : Nat) : Int) := by
  intro d
  induction d with
  | zero =>
    intro i hi
    refine Ev.step (fun k => impl_sameAhead.l0.eq_2 ..) ?_
    rw [ahead_drop_of_ge a b i (by omega)]
    exact ev_ite (fun h => ev_neg (by omega) (ev_some rfl)) (fun h => ev_neg (by omega) (ev_some rfl))
  | succ d ih =>
    intro i hi
    have h1 : i < a.length := by omega
    have h2 : i < b.length := by omega
    have hgo : Ev (fun k => if (rdOf ByteArray.empty a (i : Int)).toList = (rdOf ByteArray.empty b (i : Int)).toList then impl_sameAhead.l0 k a b (wrap64 ((i : Int) + 1)) else some (i : Int)) ((i + ahead (a.drop i) (b.drop i) : Nat) : Int) := by
      rw [rdOf_lt _ _ _ h1, rdOf_lt _ _ _ h2, ahead_drop a b i h1 h2]
      refine ev_ite (fun h => ?_) (fun h => ev_some ?_)
      · rw [if_pos (ba_ext h), wrap_succ i (by omega)]
        refine ev_to (ih (i + 1) (by omega)) ?_
        omega
      · rw [if_neg (fun e => h (by rw [e]))]
        rfl
    refine Ev.step (fun k => impl_sameAhead.l0.eq_2 ..) ?_
    refine ev_ite (fun h => ?_) (fun h => ?_)
    · exact ev_pos (by omega) (ev_pos (by omega) (ev_pos (by omega) hgo))
    · exact ev_pos (by omega) (ev_pos (by omega) (ev_pos (by omega) hgo))
theorem sameAhead_ev (a b : List ByteArray) (hL : a.length ≤ 4611686018427387904) (hL' : b.length ≤ 4611686018427387904) : Ev (fun k => impl_sameAhead.f k a b) ((ahead a b : Nat) : Int) := by
  simp only [impl_sameAhead.f]
  refine ev_to (sameAhead_l0 a b hL hL' (min a.length b.length) 0 (by omega)) ?_
  simp
theorem l1Ahead_l0 (a b : List ByteArray) (hL : a.length ≤ 4611686018427387904) : ∀ d i, i + d = a.length → Ev (fun k => spec_l1Ahead.l0 k a b (i : Int)) ((i + ahead (a.drop i) (b.drop i) : Nat) : Int) := by
  intro d
  induction d with
  | zero =>
    intro i hi
    refine Ev.step (fun k => spec_l1Ahead.l0.eq_2 ..) (ev_neg (by omega) (ev_some ?_))
    rw [ahead_drop_of_ge a b i (.inl (by omega))]
    rfl
  | succ d ih =>
    intro i hi
    refine Ev.step (fun k => spec_l1Ahead.l0.eq_2 ..) (ev_pos (by omega) ?_)
    refine ev_ite (fun h => ?_) (fun h => ev_some ?_)
    · refine ev_pos (by omega) ?_
      rw [rdOf_lt _ _ _ (by omega : i < a.length), rdOf_lt _ _ _ (by omega : i < b.length), ahead_drop a b i (by omega) (by omega)]
      refine ev_ite (fun h => ?_) (fun h => ev_some ?_)
      · rw [if_pos (ba_ext h), wrap_succ i (by omega)]
        refine ev_to (ih (i + 1) (by omega)) ?_
        omega
      · rw [if_neg (fun e => h (by rw [e]))]
        rfl
    · rw [ahead_drop_of_ge a b i (by omega)]
      rfl
theorem l1Ahead_ev (a b : List ByteArray) (hL : a.length ≤ 4611686018427387904) : Ev (fun k => spec_l1Ahead.f k a b) ((ahead a b : Nat) : Int) := by
  simp only [spec_l1Ahead.f]
  refine ev_to (l1Ahead_l0 a b hL a.length 0 (by omega)) ?_
  simp
theorem wrap_back (n i : Nat) (h : i < n) (hn : n ≤ 4611686018427387904) : wrap64 (wrap64 ((n : Int) - 1) - (i : Int)) = ((n - 1 - i : Nat) : Int) := by
  rw [wrap_pred n (by omega) (by omega), wrap_sub (n - 1) i (by omega) (by omega)]
theorem sameBehind_l0 (a b : List ByteArray) (hL : a.length ≤ 4611686018427387904) (hL' : b.length ≤ 4611686018427387904) (m : Nat) (hm : m ≤ min a.length b.length) : ∀ d i, i + d = m →
    Ev (fun k => impl_sameBehind.l0 k a b (i : Int) (m : Int)) ((i + min (ahead (a.reverse.drop i) (b.reverse.drop i)) (m - i) : Nat) : Int) := by
  intro d
  induction d with
  | zero =>
    intro i hi
    refine Ev.step (fun k => impl_sameBehind.l0.eq_2 ..) (ev_neg (by omega) (ev_some ?_))
    omega
  | succ d ih =>
    intro i hi
    refine Ev.step (fun k => impl_sameBehind.l0.eq_2 ..) (ev_pos (by omega) ?_)
    rw [wrap_back a.length i (by omega) hL, wrap_back b.length i (by omega) hL']
    refine ev_pos (by omega) (ev_pos (by omega) (ev_pos (by omega) (ev_pos (by omega) ?_)))
    rw [rdOf_lt _ _ _ (by omega : a.length - 1 - i < a.length), rdOf_lt _ _ _ (by omega : b.length - 1 - i < b.length), ahead_drop a.reverse b.reverse i (by simp; omega) (by simp; omega), List.getElem_reverse, List.getElem_reverse]
    refine ev_ite (fun h => ?_) (fun h => ev_some ?_)
    · rw [if_pos (ba_ext h), wrap_succ i (by omega)]
      refine ev_to (ih (i + 1) (by omega)) ?_
      omega
    · rw [if_neg (fun e => h (by rw [e]))]
      omega
theorem sameBehind_ev (a b : List ByteArray) (hL : a.length ≤ 4611686018427387904) (hL' : b.length ≤ 4611686018427387904) : Ev (fun k => impl_sameBehind.f k a b) ((behind a b : Nat) : Int) := by
  simp only [impl_sameBehind.f]
  have h := ahead_le a b
  have hgo : Ev (fun k => impl_sameBehind.l0 k a b 0 ((min a.length b.length - ahead a b : Nat) : Int)) ((behind a b : Nat) : Int) := by
    refine ev_to (sameBehind_l0 a b hL hL' (min a.length b.length - ahead a b) (by omega) _ 0 (Nat.zero_add _)) ?_
    simp [behind]
  refine ev_ite (fun hc => ev_bind (sameAhead_ev a b hL hL') ?_) (fun hc => ev_bind (sameAhead_ev a b hL hL') ?_)
  · rw [wrap_sub _ _ (by omega) (by omega), show b.length = min a.length b.length from by omega]
    exact hgo
  · rw [wrap_sub _ _ (by omega) (by omega), show a.length = min a.length b.length from by omega]
    exact hgo
theorem l1Behind_l0 (a b : List ByteArray) (hL : a.length ≤ 4611686018427387904) (hL' : b.length ≤ 4611686018427387904) (m : Nat) (hm : m ≤ min a.length b.length) : ∀ d i, i + d = m →
    Ev (fun k => spec_l1Behind.l0 k a b (m : Int) (i : Int)) ((i + min (ahead (a.reverse.drop i) (b.reverse.drop i)) (m - i) : Nat) : Int) := by
  intro d
  induction d with
  | zero =>
    intro i hi
    refine Ev.step (fun k => spec_l1Behind.l0.eq_2 ..) (ev_neg (by omega) (ev_some ?_))
    omega
  | succ d ih =>
    intro i hi
    refine Ev.step (fun k => spec_l1Behind.l0.eq_2 ..) (ev_pos (by omega) ?_)
    rw [wrap_back a.length i (by omega) hL, wrap_back b.length i (by omega) hL']
    refine ev_pos (by omega) (ev_pos (by omega) (ev_pos (by omega) (ev_pos (by omega) ?_)))
    rw [rdOf_lt _ _ _ (by omega : a.length - 1 - i < a.length), rdOf_lt _ _ _ (by omega : b.length - 1 - i < b.length), ahead_drop a.reverse b.reverse i (by simp; omega) (by simp; omega), List.getElem_reverse, List.getElem_reverse]
    refine ev_ite (fun h => ?_) (fun h => ev_some ?_)
    · rw [if_pos (ba_ext h), wrap_succ i (by omega)]
      refine ev_to (ih (i + 1) (by omega)) ?_
      omega
    · rw [if_neg (fun e => h (by rw [e]))]
      omega
theorem l1Least_eq (a b : Int) : spec_l1Least.f a b = some (min a b) := by
  unfold spec_l1Least.f
  split <;> simp <;> omega
theorem l1Behind_ev (a b : List ByteArray) (hL : a.length ≤ 4611686018427387904) (hL' : b.length ≤ 4611686018427387904) : Ev (fun k => spec_l1Behind.f k a b) ((behind a b : Nat) : Int) := by
  simp only [spec_l1Behind.f, l1Least_eq, Option.bind_some]
  refine ev_bind (l1Ahead_ev a b hL) ?_
  have h := ahead_le a b
  have e : min (a.length : Int) (b.length : Int) = ((min a.length b.length : Nat) : Int) := by omega
  rw [e, wrap_sub _ _ (by omega) (by omega)]
  refine ev_to (l1Behind_l0 a b hL hL' (min a.length b.length - ahead a b) (by omega) _ 0 (Nat.zero_add _)) ?_
  simp [behind]
end Go.Proofs.YtmcldkobejhaeaaDoor.Pl
/- Plain Lean: the lines that make a text, told by both. Asked: a text below 2^40 bytes. -/
namespace Go.Proofs.YtmcldkobejhaeaaDoor.Pl
open Go.RowKit Go.Proofs.YtmcldkobejhaeaaDoorW.PrintWords Go.Proofs.YtmcldkobejhaeaaDoorW.PrintLast Go.Proofs.YtmcldkobejhaeaaDoor.My
set_option linter.unusedVariables false
set_option linter.unusedSimpArgs false
def cutS : List UInt8 → List UInt8 → List (List UInt8)
  | acc, [] => if acc = [] then [] else [acc]
  | acc, b :: t => if b = 10 then (acc ++ [b]) :: cutS [] t else cutS (acc ++ [b]) t
def splS : List UInt8 → List UInt8 → List (List UInt8)
  | acc, [] => [acc]
  | acc, b :: t => if b = 10 then (acc ++ [b]) :: splS [] t else splS (acc ++ [b]) t
theorem splS_ne : ∀ (l acc : List UInt8), splS acc l ≠ []
  | [], acc => by simp [splS]
  | b :: t, acc => by
    simp only [splS]
    split
    · simp
    · exact splS_ne t _
theorem cutS_spl : ∀ (l acc : List UInt8), cutS acc l = if (splS acc l).getLast? = some [] then (splS acc l).dropLast else splS acc l
  | [], acc => by
    simp only [cutS, splS]
    by_cases h : acc = []
    · simp [h]
    · simp [h]
  | b :: t, acc => by
    simp only [cutS, splS]
    split
    · rw [cutS_spl t []]
      have hn := splS_ne t []
      generalize splS [] t = r at *
      cases r with
      | nil => exact absurd rfl hn
      | cons y r => 
        simp only [List.getLast?_cons_cons, List.dropLast_cons_cons]
        split <;> rfl
    · exact cutS_spl t _
theorem cutS_flat : ∀ (l acc : List UInt8), (cutS acc l).flatten = acc ++ l
  | [], acc => by
    simp only [cutS]
    by_cases h : acc = []
    · simp [h]
    · simp [h]
  | b :: t, acc => by
    simp only [cutS]
    split
    · rw [List.flatten_cons, cutS_flat t []]; simp
    · rw [cutS_flat t _]; simp
theorem cutS_len : ∀ (l acc : List UInt8), (cutS acc l).length ≤ l.length + 1
  | [], acc => by simp only [cutS]; split <;> simp
  | b :: t, acc => by
    simp only [cutS, List.length_cons]
    split
    · have := cutS_len t []; simp only [List.length_cons]; omega
    · have := cutS_len t (acc ++ [b]); omega
theorem cutS_size : ∀ (l acc : List UInt8), ∀ x ∈ cutS acc l, x.length ≤ acc.length + l.length
  | [], acc, x, hx => by
    simp only [cutS] at hx
    split at hx
    · cases hx
    · rw [List.mem_singleton.1 hx]; simp
  | b :: t, acc, x, hx => by
    simp only [cutS] at hx
    split at hx
    · rcases List.mem_cons.1 hx with rfl | hx
      · simp only [List.length_append, List.length_singleton, List.length_cons, List.length_nil]; omega
      · have := cutS_size t [] x hx; simp only [List.length_nil, List.length_cons] at this ⊢; omega
    · have := cutS_size t _ x hx; simp only [List.length_append, List.length_singleton, List.length_cons, List.length_nil] at this ⊢; omega
theorem idx_split : ∀ (l acc : List UInt8), l.count 10 > 0 → ∃ m : Nat, Lib.indexByte l 10 = (m : Int) ∧ m < l.length ∧ splS acc l = (acc ++ l.take (m + 1)) :: splS [] (l.drop (m + 1)) ∧ (l.drop (m + 1)).count 10 + 1 = l.count 10
  | [], acc, h => by simp at h
  | b :: t, acc, h => by
    by_cases e : b = 10
    · subst e
      refine ⟨0, by simp [Lib.indexByte], by simp, by simp [splS], by simp⟩
    · have hb : (b == 10) = false := by simpa using e
      have hc : t.count 10 > 0 := by rw [List.count_cons, hb] at h; simpa using h
      obtain ⟨m, h1, h2, h3, h4⟩ := idx_split t (acc ++ [b]) hc
      refine ⟨m + 1, ?_, by simp only [List.length_cons]; omega, ?_, ?_⟩
      · unfold Lib.indexByte
        rw [hb, h1]
        have : ((m : Int) == -1) = false := by rw [beq_eq_false_iff_ne]; omega
        rw [this]
        simp
      · simp only [splS, if_neg e, List.take_succ_cons, List.drop_succ_cons]
        rw [h3]
        simp
      · rw [List.drop_succ_cons, h4, List.count_cons, hb]
        simp
theorem splS_none : ∀ (l acc : List UInt8), l.count 10 = 0 → splS acc l = [acc ++ l]
  | [], acc, _ => by simp [splS]
  | b :: t, acc, h => by
    have e : b ≠ 10 := by rintro rfl; simp at h
    have hb : (b == 10) = false := by simpa using e
    have hc : t.count 10 = 0 := by rw [List.count_cons, hb] at h; simpa using h
    simp only [splS, if_neg e]
    rw [splS_none t _ hc]
    simp
theorem splS_len : ∀ (l acc : List UInt8), (splS acc l).length = l.count 10 + 1
  | [], acc => by simp [splS]
  | b :: t, acc => by
    simp only [splS]
    split
    · rename_i e; subst e; rw [List.length_cons, splS_len t []]; simp
    · rename_i e
      have hb : (b == 10) = false := by simpa using e
      rw [splS_len t _, List.count_cons, hb]; simp
def mkB (l : List UInt8) : ByteArray := ⟨l.toArray⟩
theorem mkB_list (l : List UInt8) : (mkB l).data.toList = l := rfl
theorem mkB_size (l : List UInt8) : (mkB l).size = l.length := by rw [← data_length]; rfl
theorem mkB_of (s : ByteArray) : mkB s.data.toList = s := ba_ext (by rw [Lib.toList_data, Lib.toList_data]; rfl)
theorem mkB_nil {l : List UInt8} : (mkB l).toList = [] ↔ l = [] := by rw [Lib.toList_data]; exact Iff.rfl
theorem extract_mk (s : ByteArray) (a b : Nat) : s.extract a b = mkB ((s.data.toList.take b).drop a) := by
  refine ba_ext ?_
  rw [Lib.toList_data, Lib.toList_data, ByteArray.data_extract, Array.toList_extract, List.extract_eq_take_drop, ← List.drop_take]
  rfl
def linesB (s : ByteArray) : List ByteArray := (cutS [] s.data.toList).map mkB
theorem linesB_len (s : ByteArray) : (linesB s).length ≤ s.size + 1 := by
  unfold linesB
  rw [List.length_map]
  have := cutS_len s.data.toList []
  rwa [data_length] at this
theorem linesB_size (s : ByteArray) : ∀ x ∈ linesB s, x.size ≤ s.size := fun x hx => by
  obtain ⟨y, hy, rfl⟩ := List.mem_map.1 hx
  have := cutS_size s.data.toList [] y hy
  rw [mkB_size]
  rw [data_length] at this
  simpa using this
theorem l1Cut_l0 (s : ByteArray) (hs : s.size ≤ 1099511627776) : ∀ d (from_ i : Nat) (acc : List ByteArray), i + d = s.size → from_ ≤ i → acc.length ≤ i →
    Ev (fun k => spec_l1Cut.l0 k s acc (from_ : Int) (i : Int)) (acc ++ (cutS ((s.data.toList.take i).drop from_) (s.data.toList.drop i)).map mkB) := by
  intro d
  induction d with
  | zero =>
    intro from_ i acc hi hf ha
    have hd : s.data.toList.drop i = [] := List.drop_of_length_le (by rw [data_length]; omega)
    have ht : s.data.toList.take i = s.data.toList := List.take_of_length_le (by rw [data_length]; omega)
    rw [hd, ht]
    simp only [cutS]
    by_cases c : from_ < s.size
    · have hne : ¬ s.data.toList.drop from_ = [] := fun e => by
        have := congrArg List.length e
        rw [List.length_drop, data_length, List.length_nil] at this
        omega
      rw [if_neg hne]
      refine Ev.step (fun k => spec_l1Cut.l0.eq_2 ..) (ev_neg (by omega) (ev_pos (by omega) (ev_pos (by omega) (ev_pos (by omega) (ev_pos (by omega) (ev_some ?_))))))
      rw [extract_mk, Int.toNat_natCast, List.take_of_length_le (by rw [data_length]; exact Nat.le_refl _)]
      rfl
    · have he : s.data.toList.drop from_ = [] := List.drop_of_length_le (by rw [data_length]; omega)
      rw [he, if_pos rfl]
      exact Ev.step (fun k => spec_l1Cut.l0.eq_2 ..) (ev_neg (by omega) (ev_neg (by omega) (ev_some (by simp))))
  | succ d ih =>
    intro from_ i acc hi hf ha
    have hlt : i < s.size := by omega
    have hl : i < s.data.toList.length := by rw [data_length]; exact hlt
    have hb := bt_nat s i hlt
    have hsp : s.data.toList.take (i + 1) = s.data.toList.take i ++ [s.data.toList[i]] := (List.take_succ_eq_append_getElem hl)
    have hdr : (s.data.toList.take (i + 1)).drop from_ = (s.data.toList.take i).drop from_ ++ [s.data.toList[i]] := by
      rw [hsp, List.drop_append_of_le_length (by rw [List.length_take, data_length]; omega)]
    refine Ev.step (fun k => spec_l1Cut.l0.eq_2 ..) (ev_pos (by omega) (ev_pos (by omega) ?_))
    rw [hb, wrap_succ i (by omega), List.drop_eq_getElem_cons hl]
    simp only [cutS]
    by_cases c : s.data.toList[i] = 10
    · rw [if_pos c, ← hdr]
      refine ev_pos (by rw [c]; rfl) (ev_pos (by omega) (ev_pos (by omega) (ev_pos (by omega) (ev_pos (by omega) ?_))))
      refine ev_to (ih (i + 1) (i + 1) _ (by omega) (Nat.le_refl _) (by rw [List.length_append, List.length_singleton]; omega)) ?_
      rw [extract_mk, Int.toNat_natCast, Int.toNat_natCast, List.append_assoc, List.map_cons, List.singleton_append]
      rw [show (s.data.toList.take (i + 1)).drop (i + 1) = [] from List.drop_of_length_le (by rw [List.length_take]; omega)]
    · rw [if_neg c, ← hdr]
      refine ev_neg (fun e => c (u8_eq (by rw [e]; rfl))) ?_
      exact ih from_ (i + 1) acc (by omega) (by omega) (by omega)
theorem l1Cut_ev (s : ByteArray) (hs : s.size ≤ 1099511627776) : Ev (fun k => spec_l1Cut.f k s) (linesB s) := by
  simp only [spec_l1Cut.f]
  exact ev_to (l1Cut_l0 s hs s.size 0 0 [] (by omega) (Nat.le_refl _) (Nat.zero_le _)) (by simp [linesB])
theorem set_take {α : Type} {xs : List α} {i : Nat} (v : α) (h : i < xs.length) : (xs.set i v).take (i + 1) = xs.take i ++ [v] := by
  rw [List.take_succ_eq_append_getElem (by rw [List.length_set]; exact h), List.getElem_set_self, List.take_set_of_le (Nat.le_refl i)]
theorem genSplit_l0 (N : Nat) (hN : N ≤ 1099511627776) : ∀ c (l : List UInt8) (i : Nat) (x : List ByteArray), l.count 10 = c → i + c + 1 = x.length → x.length = N + 1 → l.length ≤ 1099511627776 →
    Ev (fun k => strings_genSplit.l0 k (mkB l) ⟨#[10]⟩ 1 (N : Int) x (i : Int)) (x.take i ++ (splS [] l).map mkB) := by
  intro c
  induction c with
  | zero =>
    intro l i x hc hi hx hl
    rw [splS_none l [] hc, List.nil_append, List.map_cons, List.map_nil]
    refine Ev.step (fun k => strings_genSplit.l0.eq_2 ..) (ev_neg (by omega) (ev_pos (by omega) (ev_pos (by omega) ?_)))
    rw [wrap_succ i (by omega)]
    refine ev_pos (by omega) (ev_pos (by omega) (ev_some ?_))
    rw [Int.toNat_natCast, Int.toNat_natCast, set_take _ (by omega)]
  | succ c ih =>
    intro l i x hc hi hx hl
    obtain ⟨m, h1, h2, h3, h4⟩ := idx_split l [] (by omega)
    have hix := index_ev (mkB l) 10
    rw [mkB_list, h1] at hix
    have e1 : wrap64 ((m : Int) + 1) = ((m + 1 : Nat) : Int) := wrap_succ m (by omega)
    refine Ev.step (fun k => strings_genSplit.l0.eq_2 ..) (ev_pos (by omega) (ev_bind hix (ev_neg (by omega) ?_)))
    rw [show (((⟨#[10]⟩ : ByteArray).size : Nat) : Int) = 1 from rfl, e1, wrap_succ i (by omega), mkB_size]
    refine ev_pos (by omega) (ev_pos (by omega) (ev_pos (by omega) (ev_pos (by omega) (ev_pos (by omega) (ev_pos (by omega) ?_)))))
    rw [extract_mk, extract_mk, mkB_list, Int.toNat_natCast, Int.toNat_natCast, List.take_of_length_le (l := l) (Nat.le_refl _), List.drop_zero]
    refine ev_to (ih (l.drop (m + 1)) (i + 1) _ (by omega) (by rw [List.length_set]; omega) (by rw [List.length_set]; exact hx) (by rw [List.length_drop]; omega)) ?_
    rw [set_take _ (by omega), h3, List.nil_append, List.map_cons, List.append_assoc]
    rfl
theorem splitAfter_ev (s : ByteArray) (hs : s.size ≤ 1099511627776) : Ev (fun k => strings_SplitAfter.f k s ⟨#[10]⟩) ((splS [] s.data.toList).map mkB) := by
  simp only [strings_SplitAfter.f, strings_genSplit.f]
  refine ev_bind (ev_neg (by decide) (ev_neg (by rw [toList_one]; simp) (ev_pos (by decide) ?_))) (ev_some rfl)
  have hct : strings_Count.f s ⟨#[10]⟩ = some ((s.data.toList.count 10 : Nat) : Int) := by
    unfold strings_Count.f
    rw [if_pos (show (⟨#[10]⟩ : ByteArray).size = 1 from rfl)]
    rfl
  have hle : s.data.toList.count 10 ≤ s.size := by
    have := List.count_le_length (a := (10 : UInt8)) (l := s.data.toList)
    rwa [data_length] at this
  refine ev_bind (ev_const hct) (Ev.step (fun k => strings_genSplit.j0.eq_2 ..) ?_)
  rw [wrap_succ _ (by omega), wrap_succ s.size (by omega), mn_nat, Nat.min_eq_left (by omega)]
  refine ev_pos (by omega) (ev_pos (by rw [Int.toNat_natCast]; omega) ?_)
  rw [Int.toNat_natCast, wrap64_id (by omega) (by omega), show (((s.data.toList.count 10 + 1 : Nat) : Int) - 1) = ((s.data.toList.count 10 : Nat) : Int) from by omega]
  have h := genSplit_l0 (s.data.toList.count 10) (by omega) (s.data.toList.count 10) s.data.toList 0 (List.replicate (s.data.toList.count 10 + 1) (⟨#[]⟩ : ByteArray)) rfl (by rw [List.length_replicate]; omega) (by rw [List.length_replicate]) (by rw [data_length]; exact hs)
  rw [mkB_of] at h
  exact ev_to h (by simp)
theorem linesOf_ev (s : ByteArray) (hs : s.size ≤ 1099511627776) : Ev (fun k => impl_linesOf.f k s) (linesB s) := by
  simp only [impl_linesOf.f]
  have hz := cutS_spl s.data.toList []
  unfold linesB
  rw [hz]
  by_cases h0 : s.toList = ([] : List UInt8)
  · have e : s.data.toList = [] := by rw [← Lib.toList_data]; exact h0
    rw [e]
    exact ev_pos h0 (ev_some (by simp [splS]))
  · refine ev_neg h0 (ev_bind (splitAfter_ev s hs) ?_)
    have hn := splS_ne s.data.toList []
    have hlen := splS_len s.data.toList []
    have hle : s.data.toList.count 10 ≤ s.size := by
      have := List.count_le_length (a := (10 : UInt8)) (l := s.data.toList)
      rwa [data_length] at this
    generalize splS [] s.data.toList = r at *
    have hr : 0 < r.length := List.length_pos_iff.mpr hn
    rw [List.length_map, wrap_pred r.length hr (by omega)]
    have hrd : rdOf ByteArray.empty (r.map mkB) ((r.length - 1 : Nat) : Int) = mkB (r[r.length - 1]'(by omega)) := by
      rw [rdOf_lt _ _ _ (by rw [List.length_map]; omega), List.getElem_map]
    have hlast : r.getLast? = some (r[r.length - 1]'(by omega)) := by rw [List.getLast?_eq_getElem?, List.getElem?_eq_getElem (by omega)]
    rw [hrd, hlast]
    refine ev_pos (by omega) (ev_pos (by omega) (ev_ite (fun c => ev_pos (by omega) (ev_some ?_)) (fun c => ev_some ?_)))
    · rw [if_pos (by rw [mkB_nil.1 c]), Int.toNat_natCast, List.dropLast_eq_take, List.map_take]
    · rw [if_neg (fun e => c (mkB_nil.2 (Option.some.inj e)))]
end Go.Proofs.YtmcldkobejhaeaaDoor.Pl
/- Plain Lean: all lines behind one another. Asked: good lines. -/
namespace Go.Proofs.YtmcldkobejhaeaaDoor.Pl
open Go.RowKit Go.Proofs.YtmcldkobejhaeaaDoorW.PrintWords Go.Proofs.YtmcldkobejhaeaaDoorW.PrintLast Go.Proofs.YtmcldkobejhaeaaDoor.My
set_option linter.unusedVariables false
set_option linter.unusedSimpArgs false
def catV : List ByteArray → ByteArray
  | [] => ⟨#[]⟩
  | s :: t => s ++ catV t
theorem catV_size : ∀ (l : List ByteArray), (∀ s ∈ l, isLn s = true) → (catV l).size ≤ 30 * l.length
  | [], _ => Nat.zero_le _
  | s :: t, h => by
    have h1 := (isLn_size (h s (List.mem_cons_self ..))).2
    have h2 := catV_size t (fun x hx => h x (List.mem_cons_of_mem _ hx))
    simp only [catV, ByteArray.size_append, List.length_cons]
    omega
theorem catV_data : ∀ (l : List ByteArray), (catV l).data.toList = Lib.join (l.map (·.data.toList)) []
  | [] => rfl
  | [s] => by
    show (s ++ (⟨#[]⟩ : ByteArray)).data.toList = _
    simp [Lib.join_one]
  | s :: s2 :: t => by
    have ih := catV_data (s2 :: t)
    show (s ++ catV (s2 :: t)).data.toList = _
    have e : (s ++ catV (s2 :: t)).data.toList = s.data.toList ++ (catV (s2 :: t)).data.toList := by simp
    rw [e, ih]
    simp [Lib.join, List.intercalate, List.intersperse]
theorem good_lnT {l : List ByteArray} (h : good l = true) : l.length ≤ 40 ∧ ∀ s ∈ l, isLn s = true := by
  unfold good at h
  rw [Bool.and_eq_true, Bool.and_eq_true, decide_eq_true_eq] at h
  exact ⟨h.1, fun s hs => List.all_eq_true.1 h.2.1 s hs⟩
def textR (l : List ByteArray) : ByteArray × Bool := if good l = true then (catV l, true) else (⟨#[]⟩, false)
theorem impl_TextOf_ev (l : List ByteArray) (fl : FitS l) : Ev (fun k => impl_TextOf.f k l) (textR l) := by
  simp only [impl_TextOf.f]
  unfold textR
  refine ev_bind (goodLines_ev l fl) (ev_ite (fun c => ?_) (fun c => ev_some ?_))
  · rw [if_pos c]
    obtain ⟨h1, h2⟩ := good_lnT c
    have hs := catV_size l h2
    have hl : (strings_Join.v l ⟨#[]⟩).length = (catV l).size := by
      unfold strings_Join.v
      rw [show (⟨#[]⟩ : ByteArray).data.toList = [] from rfl, ← catV_data, data_length]
    refine ev_bind (a := catV l) (ev_const ?_) (ev_some rfl)
    unfold strings_Join.f
    rw [if_pos (by omega)]
    unfold strings_Join.v
    rw [show (⟨#[]⟩ : ByteArray).data.toList = [] from rfl, ← catV_data]
  · rw [if_neg c]
theorem l1Text_l0 (l : List ByteArray) (hl : l.length ≤ 40) (h : ∀ s ∈ l, isLn s = true) : ∀ d i (acc : ByteArray), i + d = l.length → acc.size ≤ 30 * i →
    Ev (fun k => spec_l1Text.l0 k acc l (l.length : Int) (i : Int)) (acc ++ catV (l.drop i)) := by
  intro d
  induction d with
  | zero =>
    intro i acc hi ha
    refine Ev.step (fun k => spec_l1Text.l0.eq_2 ..) (ev_neg (by omega) (ev_some ?_))
    rw [List.drop_of_length_le (by omega)]
    exact ba_ext (by simp [Lib.toList_data, catV])
  | succ d ih =>
    intro i acc hi ha
    have hlt : i < l.length := by omega
    have hs := (isLn_size (h _ (List.getElem_mem hlt))).2
    refine Ev.step (fun k => spec_l1Text.l0.eq_2 ..) (ev_pos (by omega) (ev_pos (by omega) (ev_pos (by omega) ?_)))
    rw [rdOf_lt _ l i hlt, wrap_succ i (by omega)]
    refine ev_pos (by omega) (ev_to (ih (i + 1) _ (by omega) (by rw [ByteArray.size_append]; omega)) ?_)
    rw [List.drop_eq_getElem_cons hlt]
    simp only [catV, ByteArray.append_assoc]
theorem spec_TextOf_ev (l : List ByteArray) (fl : FitS l) : Ev (fun k => spec_TextOf.f k l) (textR l) := by
  simp only [spec_TextOf.f, spec_l1Text.f]
  unfold textR
  refine ev_bind (l1Good_ev l fl) (ev_ite (fun c => ?_) (fun c => ev_some ?_))
  · rw [if_pos c]
    obtain ⟨h1, h2⟩ := good_lnT c
    refine ev_bind (a := catV l) (ev_to (l1Text_l0 l h1 h2 l.length 0 _ (by omega) (by show (0 : Nat) ≤ _; omega)) ?_) (ev_some rfl)
    rw [List.drop_zero]
    exact ba_ext (by simp [Lib.toList_data])
  · rw [if_neg c]
end Go.Proofs.YtmcldkobejhaeaaDoor.Pl
/- Plain Lean: chapter 1: whether the last line has its end, for the program and the reference. Conditions: lengths and sizes below 2^63. -/
namespace Go.Proofs.YtmcldkobejhaeaaDoor.Pl
open Go.RowKit Go.Proofs.YtmcldkobejhaeaaDoorW.PrintWords Go.Proofs.YtmcldkobejhaeaaDoorW.PrintLast Go.Proofs.YtmcldkobejhaeaaDoor.My
set_option linter.unusedVariables false
set_option linter.unusedSimpArgs false
def whole (l : List ByteArray) : Bool := match l.getLast? with | some s => ends s | none => true
theorem getLast_lt (l : List ByteArray) (h : 0 < l.length) : l.getLast? = some (l[l.length - 1]'(by omega)) := by
  rw [List.getLast?_eq_getElem?, List.getElem?_eq_getElem (by omega)]
theorem isWhole_eq (l : List ByteArray) (hf : FitS l) : impl_isWhole.f l = some (whole l) := by
  unfold impl_isWhole.f whole
  by_cases h : l.length = 0
  · rw [if_pos (by omega), List.eq_nil_of_length_eq_zero h]
    rfl
  · rw [if_neg (by omega), wrap_pred l.length (by omega) hf.1, if_pos (by omega), if_pos (by omega), rdOf_lt _ _ _ (by omega), isEnded_eq _ (hf.2 _ (List.getElem_mem _)), getLast_lt l (by omega)]
    rfl
theorem l1Whole_eq (l : List ByteArray) (hf : FitS l) (hg : good l = true) : spec_l1Whole.f l = some (whole l) := by
  unfold spec_l1Whole.f whole
  by_cases h : l.length = 0
  · rw [if_pos (by omega), List.eq_nil_of_length_eq_zero h]
    rfl
  · have h1 : isLn (l[l.length - 1]'(by omega)) = true := by
      unfold good at hg
      simp only [Bool.and_eq_true, List.all_eq_true] at hg
      exact hg.2.1 _ (List.getElem_mem _)
    rw [if_neg (by omega), wrap_pred l.length (by omega) hf.1, if_pos (by omega), if_pos (by omega), rdOf_lt _ _ _ (by omega), l1Ends_eq _ (isLn_size h1).1 (hf.2 _ (List.getElem_mem _)), getLast_lt l (by omega)]
    rfl
end Go.Proofs.YtmcldkobejhaeaaDoor.Pl
/- Plain Lean: a text is made of its lines again, and is whole where its last line is. No condition. -/
namespace Go.Proofs.YtmcldkobejhaeaaDoor.Pl
open Go.RowKit Go.Proofs.YtmcldkobejhaeaaDoorW.PrintWords Go.Proofs.YtmcldkobejhaeaaDoorW.PrintLast Go.Proofs.YtmcldkobejhaeaaDoor.My
set_option linter.unusedVariables false
set_option linter.unusedSimpArgs false
theorem catV_mk : ∀ (ls : List (List UInt8)), catV (ls.map mkB) = mkB ls.flatten
  | [] => rfl
  | x :: t => by
    rw [List.map_cons, List.flatten_cons]
    show mkB x ++ catV (t.map mkB) = _
    rw [catV_mk t]
    exact ba_ext (by rw [Lib.toList_data, Lib.toList_data, ByteArray.data_append, Array.toList_append]; rfl)
theorem catV_lines (s : ByteArray) : catV (linesB s) = s := by
  unfold linesB
  rw [catV_mk, cutS_flat, List.nil_append, mkB_of]
theorem cutS_last : ∀ (l acc : List UInt8), acc ++ l ≠ [] → ∃ x, (cutS acc l).getLast? = some x ∧ x.getLast? = (acc ++ l).getLast?
  | [], acc, h => by
    rw [List.append_nil] at h
    simp only [cutS, if_neg h, List.append_nil]
    exact ⟨acc, rfl, rfl⟩
  | b :: t, acc, h => by
    simp only [cutS]
    by_cases c : b = 10
    · rw [if_pos c]
      by_cases ht : t = []
      · subst ht
        exact ⟨acc ++ [b], by simp [cutS], rfl⟩
      · obtain ⟨x, h1, h2⟩ := cutS_last t [] (by simpa using ht)
        refine ⟨x, ?_, ?_⟩
        · cases hr : cutS [] t with
          | nil => rw [hr] at h1; cases h1
          | cons y r => rw [List.getLast?_cons_cons, ← hr]; exact h1
        · rw [h2, List.nil_append, List.getLast?_append]
          cases t with
          | nil => exact absurd rfl ht
          | cons z t =>
            rw [List.getLast?_cons_cons, List.getLast?_eq_some_getLast (by simp : z :: t ≠ [])]
            rfl
    · rw [if_neg c]
      obtain ⟨x, h1, h2⟩ := cutS_last t (acc ++ [b]) (by simp)
      exact ⟨x, h1, by rw [h2, List.append_assoc]; rfl⟩
theorem whole_lines (s : ByteArray) (h : s.data.toList ≠ []) : whole (linesB s) = (s.data.toList.getLast? == some 10) := by
  obtain ⟨x, h1, h2⟩ := cutS_last s.data.toList [] (by simpa using h)
  unfold whole linesB
  rw [List.getLast?_map, h1]
  show ends (mkB x) = _
  unfold ends
  rw [mkB_list, h2]
  rfl
theorem whole_none (s : ByteArray) (h : s.data.toList = []) : whole (linesB s) = true := by
  unfold linesB
  rw [h]
  rfl
theorem last_byte (s : ByteArray) (h : 0 < s.size) : (bt s ((s.size - 1 : Nat) : Int) == 10) = (s.data.toList.getLast? == some 10) := by
  have hl : s.size - 1 < s.data.toList.length := by rw [data_length]; omega
  have e : s.data.toList.getLast? = some (s.data.toList[s.size - 1]'hl) := by
    rw [List.getLast?_eq_getElem?]
    simp only [data_length]
    exact List.getElem?_eq_getElem hl
  rw [bt_nat s (s.size - 1) (by omega), e]
  rw [Bool.eq_iff_iff, beq_iff_eq, beq_iff_eq, Option.some.injEq]
  exact ⟨fun e => u8_eq (by rw [e]; rfl), fun e => by rw [e]; rfl⟩
end Go.Proofs.YtmcldkobejhaeaaDoor.Pl
/- Plain Lean: LinesOf, for the program and the reference. Asked: a text below 2^40 bytes. -/
namespace Go.Proofs.YtmcldkobejhaeaaDoor.Pl
open Go.RowKit Go.Proofs.YtmcldkobejhaeaaDoorW.PrintWords Go.Proofs.YtmcldkobejhaeaaDoorW.PrintLast Go.Proofs.YtmcldkobejhaeaaDoor.My
set_option linter.unusedVariables false
set_option linter.unusedSimpArgs false
def LinesOf' (s : ByteArray) : List ByteArray × Bool := if good (linesB s) = true then (linesB s, true) else ([], false)
theorem fitS_lines (s : ByteArray) (hs : s.size ≤ 1099511627776) : FitS (linesB s) := ⟨by have := linesB_len s; omega, fun x hx => by have := linesB_size s x hx; omega⟩
theorem impl_LinesOf_ev (s : ByteArray) (hs : s.size ≤ 1099511627776) : Ev (fun k => impl_LinesOf.f k s) (LinesOf' s) := by
  simp only [impl_LinesOf.f]
  unfold LinesOf'
  refine ev_bind (linesOf_ev s hs) (ev_bind (goodLines_ev _ (fitS_lines s hs)) (ev_ite (fun h => ev_some (by rw [if_pos h])) (fun h => ev_some (by rw [if_neg h]))))
theorem spec_LinesOf_ev (s : ByteArray) (hs : s.size ≤ 1099511627776) : Ev (fun k => spec_LinesOf.f k s) (LinesOf' s) := by
  simp only [spec_LinesOf.f]
  unfold LinesOf'
  refine ev_bind (l1Cut_ev s hs) (ev_bind (l1Good_ev _ (fitS_lines s hs)) (ev_ite (fun h => ev_some (by rw [if_pos h])) (fun h => ev_some (by rw [if_neg h]))))
theorem LinesOf_len (s : ByteArray) (hs : s.size ≤ 1048576) : (LinesOf' s).1.length ≤ 1048577 := by
  unfold LinesOf'
  split
  · have := linesB_len s; dsimp only; omega
  · simp
end Go.Proofs.YtmcldkobejhaeaaDoor.Pl
/- Plain Lean: what IsWhole comes to, the program's and the reference's. Conditions: lengths and sizes below 2^63. -/
namespace Go.Proofs.YtmcldkobejhaeaaDoor.Pl
open Go.RowKit Go.Proofs.YtmcldkobejhaeaaDoorW.PrintWords Go.Proofs.YtmcldkobejhaeaaDoorW.PrintLast Go.Proofs.YtmcldkobejhaeaaDoor.My
set_option linter.unusedVariables false
set_option linter.unusedSimpArgs false
def IsWhole' (l : List ByteArray) : Bool × Bool := if good l = true then (whole l, true) else (false, false)
theorem impl_IsWhole_ev (l : List ByteArray) (hf : FitS l) : Ev (fun k => impl_IsWhole.f k l) (IsWhole' l) := by
  simp only [impl_IsWhole.f, isWhole_eq l hf, Option.bind_some, IsWhole']
  exact ev_bind (goodLines_ev l hf) (ev_ite (fun h => ev_some (by rw [if_pos h])) (fun h => ev_some (by rw [if_neg h])))
theorem spec_IsWhole_ev (l : List ByteArray) (hf : FitS l) : Ev (fun k => spec_IsWhole.f k l) (IsWhole' l) := by
  simp only [spec_IsWhole.f, IsWhole']
  refine ev_bind (l1Good_ev l hf) (ev_ite (fun h => ?_) (fun h => ev_some (by rw [if_neg h])))
  rw [l1Whole_eq l hf h]
  exact ev_some (by rw [if_pos h])
end Go.Proofs.YtmcldkobejhaeaaDoor.Pl
/- Plain Lean: answers where both are good lines. No condition. -/
namespace Go.Proofs.YtmcldkobejhaeaaDoor.Pl
open Go.RowKit Go.Proofs.YtmcldkobejhaeaaDoorW.PrintWords Go.Proofs.YtmcldkobejhaeaaDoorW.PrintLast Go.Proofs.YtmcldkobejhaeaaDoor.My
set_option linter.unusedVariables false
set_option linter.unusedSimpArgs false
def both {α : Type} (a b : List ByteArray) (z v : α) : α × Bool := if good a = true then (if good b = true then (v, true) else (z, false)) else (z, false)
theorem both_ev {α : Type} {G : Nat → List ByteArray → Option Bool} {F : Nat → Option α} {a b : List ByteArray} {z v : α} (hg : ∀ l, FitS l → Ev (fun k => G k l) (good l)) (fa : FitS a) (fb : FitS b) (hF : good a = true → good b = true → Ev F v) :
    Ev (fun k => (G k a).bind fun t => (if t = true then ((G k b).bind fun t' => (if t' = true then ((F k).bind fun x => (some (x, true))) else (some (z, false)))) else (some (z, false)))) (both a b z v) := by
  unfold both
  refine ev_bind (hg a fa) (ev_ite (fun h => ?_) (fun h => ev_some (by rw [if_neg h])))
  rw [if_pos h]
  refine ev_bind (hg b fb) (ev_ite (fun h' => ?_) (fun h' => ev_some (by rw [if_neg h'])))
  rw [if_pos h']
  exact ev_bind (hF h h') (ev_some rfl)
end Go.Proofs.YtmcldkobejhaeaaDoor.Pl
/- Plain Lean: what SameAhead and SameBehind come to, the program's and the reference's. Conditions: lengths and sizes below 2^62. -/
namespace Go.Proofs.YtmcldkobejhaeaaDoor.Pl
open Go.RowKit Go.Proofs.YtmcldkobejhaeaaDoorW.PrintWords Go.Proofs.YtmcldkobejhaeaaDoorW.PrintLast Go.Proofs.YtmcldkobejhaeaaDoor.My
set_option linter.unusedVariables false
set_option linter.unusedSimpArgs false
theorem impl_SameAhead_ev (a b : List ByteArray) (fa : FitS a) (fb : FitS b) (ha : a.length ≤ 4611686018427387904) (hb : b.length ≤ 4611686018427387904) : Ev (fun k => impl_SameAhead.f k a b) (both a b 0 ((ahead a b : Nat) : Int)) := by
  simp only [impl_SameAhead.f]
  exact both_ev goodLines_ev fa fb (fun _ _ => sameAhead_ev a b ha hb)
theorem spec_SameAhead_ev (a b : List ByteArray) (fa : FitS a) (fb : FitS b) (ha : a.length ≤ 4611686018427387904) (hb : b.length ≤ 4611686018427387904) : Ev (fun k => spec_SameAhead.f k a b) (both a b 0 ((ahead a b : Nat) : Int)) := by
  simp only [spec_SameAhead.f]
  exact both_ev l1Good_ev fa fb (fun _ _ => l1Ahead_ev a b ha)
theorem impl_SameBehind_ev (a b : List ByteArray) (fa : FitS a) (fb : FitS b) (ha : a.length ≤ 4611686018427387904) (hb : b.length ≤ 4611686018427387904) : Ev (fun k => impl_SameBehind.f k a b) (both a b 0 ((behind a b : Nat) : Int)) := by
  simp only [impl_SameBehind.f]
  exact both_ev goodLines_ev fa fb (fun _ _ => sameBehind_ev a b ha hb)
theorem spec_SameBehind_ev (a b : List ByteArray) (fa : FitS a) (fb : FitS b) (ha : a.length ≤ 4611686018427387904) (hb : b.length ≤ 4611686018427387904) : Ev (fun k => spec_SameBehind.f k a b) (both a b 0 ((behind a b : Nat) : Int)) := by
  simp only [spec_SameBehind.f]
  exact both_ev l1Good_ev fa fb (fun _ _ => l1Behind_ev a b ha hb)
end Go.Proofs.YtmcldkobejhaeaaDoor.Pl
/- Plain Lean: what GoodLines comes to, the program's and the reference's. Conditions: lengths and sizes below 2^63. -/
namespace Go.Proofs.YtmcldkobejhaeaaDoor.Pl
open Go.RowKit Go.Proofs.YtmcldkobejhaeaaDoorW.PrintWords Go.Proofs.YtmcldkobejhaeaaDoorW.PrintLast Go.Proofs.YtmcldkobejhaeaaDoor.My
set_option linter.unusedVariables false
set_option linter.unusedSimpArgs false
theorem impl_GoodLines_ev (l : List ByteArray) (hf : FitS l) : Ev (fun k => impl_GoodLines.f k l) (good l) := by
  simp only [impl_GoodLines.f]
  exact ev_bind (goodLines_ev l hf) (ev_some rfl)
theorem spec_GoodLines_ev (l : List ByteArray) (hf : FitS l) : Ev (fun k => spec_GoodLines.f k l) (good l) := by
  simp only [spec_GoodLines.f]
  exact ev_bind (l1Good_ev l hf) (ev_some rfl)
end Go.Proofs.YtmcldkobejhaeaaDoor.Pl
/- Plain Lean: chapter 1: a line without its end, for the program and the reference. Conditions: sizes below 2^63. -/
namespace Go.Proofs.YtmcldkobejhaeaaDoor.Pl
open Go.RowKit Go.Proofs.YtmcldkobejhaeaaDoorW.PrintWords Go.Proofs.YtmcldkobejhaeaaDoorW.PrintLast Go.Proofs.YtmcldkobejhaeaaDoor.My
set_option linter.unusedVariables false
set_option linter.unusedSimpArgs false
def plainB (s : ByteArray) : ByteArray := if ends s = true then s.extract 0 (s.size - 1) else s
theorem plain_eq (s : ByteArray) (hs : s.size ≤ 9223372036854775807) : impl_plain.f s = some (plainB s) := by
  unfold impl_plain.f strings_TrimSuffix.f stringslite_TrimSuffix.f
  have h1 : stringslite_HasSuffix.f s ⟨#[10]⟩ = some (ends s) := by
    have := hasSuffix_eq s 10 hs
    unfold strings_HasSuffix.f at this
    obtain ⟨b, hb, e⟩ := Option.bind_eq_some_iff.1 this
    rw [hb, e]
    rfl
  rw [h1, Option.bind_some]
  unfold plainB
  by_cases h : ends s = true
  · have hz : 1 ≤ s.size := by
      rcases Nat.eq_zero_or_pos s.size with h0 | h0
      · have : s.data.toList = [] := List.eq_nil_of_length_eq_zero (by rw [data_length]; exact h0)
        simp [ends, this] at h
      · exact h0
    rw [if_pos h, if_pos h, size_one, show ((1 : Nat) : Int) = 1 from rfl, wrap_pred s.size (by omega) hs, if_pos (by omega), if_pos (by omega)]
    rfl
  · rw [if_neg h, if_neg h]
    rfl
theorem l1Plain_eq (s : ByteArray) (h : 1 ≤ s.size) (hs : s.size ≤ 9223372036854775807) : spec_l1Plain.f s = some (plainB s) := by
  unfold spec_l1Plain.f plainB
  rw [l1Ends_eq s h hs, Option.bind_some]
  by_cases h1 : ends s = true
  · rw [if_pos h1, if_pos h1, wrap_pred s.size (by omega) hs, if_pos (by omega), if_pos (by omega)]
    rfl
  · rw [if_neg h1, if_neg h1]
end Go.Proofs.YtmcldkobejhaeaaDoor.Pl
/- Plain Lean: what PlainOf comes to, the program's and the reference's. Conditions: sizes below 2^63. -/
namespace Go.Proofs.YtmcldkobejhaeaaDoor.Pl
open Go.RowKit Go.Proofs.YtmcldkobejhaeaaDoorW.PrintWords Go.Proofs.YtmcldkobejhaeaaDoorW.PrintLast Go.Proofs.YtmcldkobejhaeaaDoor.My
set_option linter.unusedVariables false
set_option linter.unusedSimpArgs false
def PlainOf' (s : ByteArray) : ByteArray × Bool := if isLn s = true then (plainB s, true) else (⟨#[]⟩, false)
theorem impl_PlainOf_ev (s : ByteArray) (hs : s.size ≤ 9223372036854775807) : Ev (fun k => impl_PlainOf.f k s) (PlainOf' s) := by
  simp only [impl_PlainOf.f, plain_eq s hs, Option.bind_some, PlainOf']
  exact ev_bind (isLine_ev s hs) (ev_ite (fun h => ev_some (by rw [if_pos h])) (fun h => ev_some (by rw [if_neg h])))
theorem spec_PlainOf_ev (s : ByteArray) (hs : s.size ≤ 9223372036854775807) : Ev (fun k => spec_PlainOf.f k s) (PlainOf' s) := by
  simp only [spec_PlainOf.f, PlainOf']
  refine ev_bind (l1Line_ev s hs) (ev_ite (fun h => ?_) (fun h => ev_some (by rw [if_neg h])))
  rw [l1Plain_eq s (isLn_size h).1 hs]
  exact ev_some (by rw [if_pos h])
end Go.Proofs.YtmcldkobejhaeaaDoor.Pl
/- Plain Lean: copies of lists of strings. Condition: lengths below 2^43. -/
namespace Go.Proofs.YtmcldkobejhaeaaDoor.Pl
open Go.RowKit Go.Proofs.YtmcldkobejhaeaaDoorW.PrintWords Go.Proofs.YtmcldkobejhaeaaDoorW.PrintLast Go.Proofs.YtmcldkobejhaeaaDoor.My
set_option linter.unusedVariables false
set_option linter.unusedSimpArgs false
theorem cloneT_eq (l : List ByteArray) (h : l.length < 8796093022208) : slices_Clone_string_string.f l = some l := by
  unfold slices_Clone_string_string.f
  simp [h]
theorem ownT_eq (l : List ByteArray) (h : l.length < 8796093022208) : spec_l1OwnT.f l = some l := by
  unfold spec_l1OwnT.f
  simp [h]
end Go.Proofs.YtmcldkobejhaeaaDoor.Pl
/- Plain Lean: a part of lines, the program's and the reference's. Conditions: lengths and sizes below 2^43. -/
namespace Go.Proofs.YtmcldkobejhaeaaDoor.Pl
open Go.RowKit Go.Proofs.YtmcldkobejhaeaaDoorW.PrintWords Go.Proofs.YtmcldkobejhaeaaDoorW.PrintLast Go.Proofs.YtmcldkobejhaeaaDoor.My
set_option linter.unusedVariables false
set_option linter.unusedSimpArgs false
def PartOf' (l : List ByteArray) (a b : Int) : List ByteArray × Bool :=
  if good l = true then (if 0 ≤ a ∧ a ≤ b ∧ b ≤ (l.length : Int) then ((l.take b.toNat).drop a.toNat, true) else ([], false)) else ([], false)
theorem impl_PartOf_ev (l : List ByteArray) (a b : Int) (hf : FitS l) (hL : l.length < 8796093022208) : Ev (fun k => impl_PartOf.f k l a b) (PartOf' l a b) := by
  simp only [impl_PartOf.f, impl_in_eq, Option.bind_some, PartOf']
  refine ev_bind (goodLines_ev l hf) (ev_ite (fun h => ?_) (fun h => ev_some (by rw [if_neg h])))
  rw [if_pos h]
  refine ev_ite (fun h1 => ev_ite (fun h2 => ?_) (fun h2 => ev_some ?_)) (fun h1 => ev_some ?_)
  · simp only [inB, Bool.and_eq_true, decide_eq_true_eq] at h1 h2
    have hc : 0 ≤ a ∧ a ≤ b ∧ b ≤ (l.length : Int) := ⟨by omega, by omega, by omega⟩
    refine ev_pos hc.1 (ev_pos hc.2.1 (ev_pos hc.2.2 ?_))
    rw [cloneT_eq _ (by rw [List.length_drop, List.length_take]; omega)]
    exact ev_some (by rw [if_pos hc])
  · simp only [inB, Bool.and_eq_true, decide_eq_true_eq] at h1 h2
    rw [if_neg (by omega)]
  · simp only [inB, Bool.and_eq_true, decide_eq_true_eq] at h1
    rw [if_neg (by omega)]
theorem spec_PartOf_ev (l : List ByteArray) (a b : Int) (hf : FitS l) (hL : l.length < 8796093022208) : Ev (fun k => spec_PartOf.f k l a b) (PartOf' l a b) := by
  simp only [spec_PartOf.f, spec_l1In_eq, Option.bind_some, PartOf']
  refine ev_bind (l1Good_ev l hf) (ev_ite (fun h => ?_) (fun h => ev_some (by rw [if_neg h])))
  rw [if_pos h]
  refine ev_ite (fun h1 => ev_ite (fun h2 => ev_some ?_) (fun h2 => ?_)) (fun h1 => ev_some ?_)
  · rw [if_neg (by omega)]
  · simp only [inB, Bool.and_eq_true, decide_eq_true_eq] at h1
    have hc : 0 ≤ a ∧ a ≤ b ∧ b ≤ (l.length : Int) := ⟨by omega, by omega, by omega⟩
    refine ev_pos hc.1 (ev_pos hc.2.1 (ev_pos hc.2.2 ?_))
    rw [ownT_eq _ (by rw [List.length_drop, List.length_take]; omega)]
    exact ev_some (by rw [if_pos hc])
  · simp only [inB, Bool.and_eq_true, decide_eq_true_eq] at h1
    rw [if_neg (by omega)]
end Go.Proofs.YtmcldkobejhaeaaDoor.Pl
/- Plain Lean: what is the same ahead and behind. No condition. -/
namespace Go.Proofs.YtmcldkobejhaeaaDoor.Pl
open Go.RowKit Go.Proofs.YtmcldkobejhaeaaDoorW.PrintWords Go.Proofs.YtmcldkobejhaeaaDoorW.PrintLast Go.Proofs.YtmcldkobejhaeaaDoor.My
set_option linter.unusedVariables false
set_option linter.unusedSimpArgs false
theorem behind_le (a b : List ByteArray) : ahead a b + behind a b ≤ a.length ∧ ahead a b + behind a b ≤ b.length := by
  have := ahead_le a b
  unfold behind
  omega
theorem ahead_take : ∀ (a b : List ByteArray), a.take (ahead a b) = b.take (ahead a b)
  | [], b => by simp [ahead]
  | x :: a, [] => by simp [ahead]
  | x :: a, y :: b => by
    simp only [ahead]
    split
    · rename_i e
      rw [e, List.take_succ_cons, List.take_succ_cons, ahead_take a b]
    · simp
end Go.Proofs.YtmcldkobejhaeaaDoor.Pl
/- Plain Lean: the reader of choices: what it hands out is small. Asked: a reader that stands below 2^61. -/
namespace Go.Proofs.YtmcldkobejhaeaaDoor.Pl
open Go.RowKit Go.Proofs.YtmcldkobejhaeaaDoorW.PrintWords Go.Proofs.YtmcldkobejhaeaaDoorW.PrintLast Go.Proofs.YtmcldkobejhaeaaDoor.My
set_option linter.unusedVariables false
set_option linter.unusedSimpArgs false
def Bytes8 (c : List Int) : Prop := (c.length : Int) ≤ 9223372036854775807 ∧ ∀ x ∈ c, 0 ≤ x ∧ x ≤ 255
theorem u64_wrap_nat (x : Int) : ∃ n : Nat, IntKind.u64.wrap x = (n : Int) ∧ n < 18446744073709551616 := by
  have h : IntKind.u64.wrap x = x % 18446744073709551616 := rfl
  exact ⟨(IntKind.u64.wrap x).toNat, by rw [h]; omega, by rw [h]; omega⟩
theorem low_byte (x : Int) : 0 ≤ wrap64 (Go.bits .and .u64 (IntKind.u64.wrap x / 1099511627776) 255) ∧ wrap64 (Go.bits .and .u64 (IntKind.u64.wrap x / 1099511627776) 255) ≤ 255 := by
  obtain ⟨n, e, hn⟩ := u64_wrap_nat x
  have e2 : IntKind.u64.wrap x / 1099511627776 = ((n / 1099511627776 : Nat) : Int) := by rw [e]; omega
  rw [e2, show (255 : Int) = ((255 : Nat) : Int) from rfl, bits_and_u64_nat _ _ (by omega) (by decide)]
  have h3 : n / 1099511627776 &&& 255 = n / 1099511627776 % 256 := Nat.and_two_pow_sub_one_eq_mod (n := 8) _
  rw [h3, wrap64_id (by omega) (by omega)]
  omega
def At (B a : Int) : Prop := 0 ≤ a ∧ a ≤ B
theorem next_some (c : List Int) (hc : Bytes8 c) (a s : Int) (ha : At 2305843009213693952 a) : ∃ b s2, spec_l1Cur_next.f c a s = some (b, a + 1, s2) ∧ 0 ≤ b ∧ b ≤ 255 := by
  obtain ⟨h0, h1⟩ := ha
  unfold spec_l1Cur_next.f
  have e1 : wrap64 (a + 1) = a + 1 := wrap64_id (by omega) (by omega)
  rw [e1]
  by_cases h : a < (c.length : Int)
  · rw [if_pos h, if_pos h0, if_pos (by omega)]
    have hm : rd c a ∈ c := by
      have e2 : rd c a = c[a.toNat]'(by omega) := by
        have := getD_lt c 0 a.toNat (by omega)
        exact this
      rw [e2]
      exact List.getElem_mem _
    have hb := hc.2 _ hm
    rw [wrap64_id (x := rd c a) (by omega) (by omega)]
    exact ⟨_, _, rfl, hb.1, hb.2⟩
  · rw [if_neg h]
    by_cases h2 : a + 1 ≤ (c.length : Int)
    · rw [if_pos h2]
      exact ⟨_, _, rfl, by decide, by decide⟩
    · rw [if_neg h2]
      have := low_byte ((IntKind.u64.wrap ((IntKind.u64.wrap (s * 6364136223846793005)) + 0)) + 1442695040888963407)
      exact ⟨_, _, rfl, this.1, this.2⟩
theorem tmod_range (x n : Int) (hx : 0 ≤ x) (hn : 0 < n) : 0 ≤ Int.tmod x n ∧ Int.tmod x n < n := by
  rw [Int.tmod_eq_emod_of_nonneg hx]
  exact ⟨Int.emod_nonneg _ (by omega), Int.emod_lt_of_pos _ hn⟩
theorem pick_some (c : List Int) (hc : Bytes8 c) (a s n : Int) (ha : At 2305843009213693951 a) : ∃ v a2 s2, spec_l1Cur_pick.f c a s n = some (v, a2, s2) ∧ 0 ≤ v ∧ (v = 0 ∨ v < n) ∧ v ≤ 65535 ∧ a ≤ a2 ∧ a2 ≤ a + 2 := by
  obtain ⟨h0, h1⟩ := ha
  unfold spec_l1Cur_pick.f
  by_cases h : n ≤ 1
  · rw [if_pos h]
    exact ⟨0, a, s, rfl, by omega, .inl rfl, by omega, by omega, by omega⟩
  · rw [if_neg h]
    obtain ⟨b, s2, e, hb0, hb1⟩ := next_some c hc a s ⟨h0, by omega⟩
    rw [e]
    simp only [Option.bind_some]
    by_cases h2 : n > 200
    · obtain ⟨b2, s3, e2, hc0, hc1⟩ := next_some c hc (a + 1) s2 ⟨by omega, by omega⟩
      rw [if_pos h2, e2]
      simp only [Option.bind_some]
      rw [if_neg (by omega), wrap64_id (x := b * 256) (by omega) (by omega), wrap64_id (by omega) (by omega)]
      have ht := tmod_range (b * 256 + b2) n (by omega) (by omega)
      refine ⟨_, _, _, rfl, ht.1, .inr ht.2, ?_, by omega, by omega⟩
      rw [Int.tmod_eq_emod_of_nonneg (by omega)]
      have h5 : (b * 256 + b2) % n ≤ b * 256 + b2 := by
        have h6 := Int.mul_ediv_add_emod (b * 256 + b2) n
        have h7 : 0 ≤ (b * 256 + b2) / n := Int.ediv_nonneg (by omega) (by omega)
        have h8 : 0 ≤ n * ((b * 256 + b2) / n) := Int.mul_nonneg (by omega) h7
        omega
      omega
    · rw [if_neg h2, if_neg (by omega)]
      have ht := tmod_range b n hb0 (by omega)
      exact ⟨_, _, _, rfl, ht.1, .inr ht.2, by omega, by omega, by omega⟩
end Go.Proofs.YtmcldkobejhaeaaDoor.Pl
/- Plain Lean: the reader of choices: yes or no, and one of a list of texts. Asked: a reader that stands below 2^61. -/
namespace Go.Proofs.YtmcldkobejhaeaaDoor.Pl
open Go.RowKit Go.Proofs.YtmcldkobejhaeaaDoorW.PrintWords Go.Proofs.YtmcldkobejhaeaaDoorW.PrintLast Go.Proofs.YtmcldkobejhaeaaDoor.My
set_option linter.unusedVariables false
theorem one_some (c : List Int) (hc : Bytes8 c) (a s n : Int) (ha : At 2305843009213693951 a) : ∃ v a2 s2, spec_l1Cur_one.f c a s n = some (v, a2, s2) ∧ a ≤ a2 ∧ a2 ≤ a + 2 := by
  unfold spec_l1Cur_one.f
  obtain ⟨v, a2, s2, e, h⟩ := pick_some c hc a s n ha
  rw [e]
  exact ⟨_, _, _, rfl, h.2.2.2.1, h.2.2.2.2⟩
theorem of_some (c : List Int) (hc : Bytes8 c) (a s : Int) (ha : At 2305843009213693951 a) (l : List ByteArray) (hl : 0 < l.length) : ∃ v a2 s2, spec_l1Cur_of.f c a s l = some (v, a2, s2) ∧ v ∈ l ∧ a ≤ a2 ∧ a2 ≤ a + 2 := by
  unfold spec_l1Cur_of.f
  obtain ⟨v, a2, s2, e, h⟩ := pick_some c hc a s (l.length : Int) ha
  rw [e]
  simp only [Option.bind_some]
  have hv : v < (l.length : Int) := by rcases h.2.1 with h | h <;> omega
  rw [if_pos h.1, if_pos hv]
  refine ⟨_, _, _, rfl, ?_, h.2.2.2.1, h.2.2.2.2⟩
  have e2 : rdOf ByteArray.empty l v = l[v.toNat]'(by omega) := getD_lt l _ v.toNat (by omega)
  rw [e2]
  exact List.getElem_mem _
end Go.Proofs.YtmcldkobejhaeaaDoor.Pl
/- Plain Lean: the reader of choices: lines and texts. Asked: a reader that stands below 10^15. -/
namespace Go.Proofs.YtmcldkobejhaeaaDoor.Pl
open Go.RowKit Go.Proofs.YtmcldkobejhaeaaDoorW.PrintWords Go.Proofs.YtmcldkobejhaeaaDoorW.PrintLast Go.Proofs.YtmcldkobejhaeaaDoor.My
set_option linter.unusedVariables false
set_option linter.unusedSimpArgs false
theorem at_of {a : Int} (h0 : 0 ≤ a) (h1 : a ≤ 1000000000001000) : At 2305843009213693951 a := ⟨h0, by omega⟩
theorem line_some (c : List Int) (hc : Bytes8 c) (a s : Int) (h0 : 0 ≤ a) (h1 : a ≤ 1000000000001000) : ∃ v a2 s2, spec_l1Cur_line.f c a s = some (v, a2, s2) ∧ v.size ≤ 7 ∧ a ≤ a2 ∧ a2 ≤ a + 2 := by
  unfold spec_l1Cur_line.f
  obtain ⟨v, a2, s2, e, hv, h⟩ := of_some c hc a s (at_of h0 h1) [(⟨#[97]⟩ : ByteArray), (⟨#[98]⟩ : ByteArray), (⟨#[99]⟩ : ByteArray), (⟨#[100]⟩ : ByteArray), (⟨#[]⟩ : ByteArray), (⟨#[46]⟩ : ByteArray), (⟨#[46, 46]⟩ : ByteArray), (⟨#[111, 110, 101, 32, 116, 119, 111]⟩ : ByteArray), (⟨#[43, 120]⟩ : ByteArray), (⟨#[45, 121]⟩ : ByteArray), (⟨#[92, 32, 122]⟩ : ByteArray), (⟨#[64, 64]⟩ : ByteArray)] (by simp)
  rw [e]
  refine ⟨v, a2, s2, rfl, ?_, h⟩
  simp only [List.mem_cons, List.not_mem_nil, or_false] at hv
  rcases hv with rfl | rfl | rfl | rfl | rfl | rfl | rfl | rfl | rfl | rfl | rfl | rfl <;> decide
def Sm1 (l : List ByteArray) : Prop := ∀ s ∈ l, 1 ≤ s.size ∧ s.size ≤ 8
def SmT (l : List ByteArray) : Prop := l.length ≤ 9 ∧ (∀ s ∈ l, s.size ≤ 8) ∧ ∀ x, l.getLast? = some x → 1 ≤ x.size
theorem sm1_snoc {l : List ByteArray} {x : ByteArray} (h : Sm1 l) (h1 : 1 ≤ x.size) (h2 : x.size ≤ 8) : Sm1 (l ++ [x]) := by
  intro s hs
  rcases List.mem_append.1 hs with hs | hs
  · exact h s hs
  · rw [List.mem_singleton.1 hs]; exact ⟨h1, h2⟩
theorem nl_size (v : ByteArray) (h : v.size ≤ 7) : 1 ≤ (v ++ (⟨#[10]⟩ : ByteArray)).size ∧ (v ++ (⟨#[10]⟩ : ByteArray)).size ≤ 8 := by
  rw [ByteArray.size_append, show (⟨#[10]⟩ : ByteArray).size = 1 from rfl]
  omega
theorem text_l0 (c : List Int) (hc : Bytes8 c) : ∀ (n : Nat) (acc : List ByteArray) (a s : Int), 0 ≤ a → a + 2 * n ≤ 1000000000000500 → acc.length + n ≤ 8 → Sm1 acc → ∃ r a2 s2, Ev (fun k => spec_l1Cur_text.l0 k acc (n : Int) c a s) (r, a2, s2) ∧ r.length ≤ 9 ∧ Sm1 r ∧ a ≤ a2 ∧ a2 ≤ a + 2 * n + 4 := by
  intro n
  induction n with
  | zero =>
    intro acc a s h0 h1 hl hs
    obtain ⟨v, a2, s2, e, h2⟩ := one_some c hc a s 5 (at_of h0 (by omega))
    cases v with
    | true =>
      obtain ⟨w, a3, s3, e2, hw, h3⟩ := of_some c hc a2 s2 (at_of (by omega) (by omega)) [(⟨#[97]⟩ : ByteArray), (⟨#[101, 110, 100]⟩ : ByteArray), (⟨#[46]⟩ : ByteArray)] (by simp)
      refine ⟨acc ++ [w], a3, s3, Ev.step (fun k => spec_l1Cur_text.l0.eq_2 ..) (ev_neg (by omega) ?_), by rw [List.length_append, List.length_singleton]; omega, ?_, by omega, by omega⟩
      · refine ev_bind (ev_const e) (ev_pos rfl (ev_bind (ev_const e2) (ev_pos (by omega) (ev_some rfl))))
      · simp only [List.mem_cons, List.not_mem_nil, or_false] at hw
        rcases hw with rfl | rfl | rfl <;> exact sm1_snoc hs (by decide) (by decide)
    | false =>
      refine ⟨acc, a2, s2, Ev.step (fun k => spec_l1Cur_text.l0.eq_2 ..) (ev_neg (by omega) ?_), by omega, hs, by omega, by omega⟩
      exact ev_bind (ev_const e) (ev_neg (by simp) (ev_some rfl))
  | succ n ih =>
    intro acc a s h0 h1 hl hs
    obtain ⟨v, a2, s2, e, h2⟩ := line_some c hc a s h0 (by omega)
    have hz := nl_size v h2.1
    obtain ⟨r, a3, s3, e3, h3⟩ := ih (acc ++ [v ++ (⟨#[10]⟩ : ByteArray)]) a2 s2 (by omega) (by omega) (by rw [List.length_append, List.length_singleton]; omega) (sm1_snoc hs hz.1 hz.2)
    refine ⟨r, a3, s3, Ev.step (fun k => spec_l1Cur_text.l0.eq_2 ..) (ev_pos (by omega) ?_), h3.1, h3.2.1, by omega, by omega⟩
    refine ev_bind (ev_const e) (ev_pos (by dsimp only; omega) (ev_pos (by omega) ?_))
    rw [wrap64_id (x := ((n + 1 : Nat) : Int) - 1) (by omega) (by omega), show ((n + 1 : Nat) : Int) - 1 = (n : Int) from by omega]
    exact e3
theorem text_some (c : List Int) (hc : Bytes8 c) (a s : Int) (h0 : 0 ≤ a) (h1 : a ≤ 1000000000000400) : ∃ r a2 s2, Ev (fun k => spec_l1Cur_text.f k c a s) (r, a2, s2) ∧ r.length ≤ 9 ∧ Sm1 r ∧ a ≤ a2 ∧ a2 ≤ a + 22 := by
  simp only [spec_l1Cur_text.f]
  obtain ⟨v, a2, s2, e, h2⟩ := pick_some c hc a s 9 (at_of h0 (by omega))
  have hv : v = ((v.toNat : Nat) : Int) := by omega
  have hn : v.toNat ≤ 8 := by rcases h2.2.1 with h | h <;> omega
  obtain ⟨r, a3, s3, e3, h3⟩ := text_l0 c hc v.toNat [] a2 s2 (by omega) (by omega) (by simpa using hn) (fun s hs => by cases hs)
  rw [← hv] at e3
  exact ⟨r, a3, s3, ev_bind (ev_const e) e3, h3.1, h3.2.1, by omega, by omega⟩
theorem smT_of {l : List ByteArray} (hl : l.length ≤ 9) (h : Sm1 l) : SmT l :=
  ⟨hl, fun s hs => (h s hs).2, fun x hx => (h x (List.mem_of_getLast? hx)).1⟩
theorem smT_set {l : List ByteArray} (hl : 1 < l.length) (h : SmT l) (v : ByteArray) (hv : v.size ≤ 8) : SmT (l.set 0 v) := by
  refine ⟨by rw [List.length_set]; exact h.1, fun s hs => ?_, fun x hx => h.2.2 x ?_⟩
  · rcases List.mem_or_eq_of_mem_set hs with hs | rfl
    · exact h.2.1 s hs
    · exact hv
  · rw [List.getLast?_eq_getElem?, List.length_set, List.getElem?_set_ne (by omega)] at hx
    rw [List.getLast?_eq_getElem?]
    exact hx
theorem anyText_some (c : List Int) (hc : Bytes8 c) (a s : Int) (h0 : 0 ≤ a) (h1 : a ≤ 1000000000000300) : ∃ r a2 s2, Ev (fun k => spec_l1Cur_anyText.f k c a s) (r, a2, s2) ∧ SmT r ∧ a ≤ a2 ∧ a2 ≤ a + 24 := by
  simp only [spec_l1Cur_anyText.f]
  obtain ⟨l, a2, s2, e, h2⟩ := text_some c hc a s h0 (by omega)
  have hT := smT_of h2.1 h2.2.1
  by_cases hl : (l.length : Int) > 1
  · obtain ⟨v, a3, s3, e3, h3⟩ := pick_some c hc a2 s2 25 (at_of (by omega) (by omega))
    have st : ∀ (w : ByteArray), w.size ≤ 8 → SmT (l.set (0 : Int).toNat w) := fun w hw => smT_set (by omega) hT w hw
    by_cases c0 : v = 0
    · exact ⟨_, a3, s3, ev_bind e (ev_pos hl (ev_bind (ev_const e3) (ev_pos c0 (ev_pos (by dsimp only; omega) (ev_some rfl))))), st _ (by decide), by omega, by omega⟩
    · by_cases c1 : v = 1
      · exact ⟨_, a3, s3, ev_bind e (ev_pos hl (ev_bind (ev_const e3) (ev_neg c0 (ev_pos c1 (ev_pos (by dsimp only; omega) (ev_some rfl)))))), st _ (by decide), by omega, by omega⟩
      · by_cases c2 : v = 2
        · exact ⟨_, a3, s3, ev_bind e (ev_pos hl (ev_bind (ev_const e3) (ev_neg c0 (ev_neg c1 (ev_pos c2 (ev_pos (by dsimp only; omega) (ev_some rfl))))))), st _ (by decide), by omega, by omega⟩
        · exact ⟨_, a3, s3, ev_bind e (ev_pos hl (ev_bind (ev_const e3) (ev_neg c0 (ev_neg c1 (ev_neg c2 (ev_some rfl)))))), hT, by omega, by omega⟩
  · exact ⟨l, a2, s2, ev_bind e (ev_neg hl (ev_some rfl)), hT, by omega, by omega⟩
end Go.Proofs.YtmcldkobejhaeaaDoor.Pl
/- Written by this session's program (wip/gen): a plain function with the same answers as the Go function, and the proof that the Go code comes to them. Asked: that the plain function has an answer. -/
namespace Go.Proofs.YtmcldkobejhaeaaDoor.My
open Go.RowKit Go.Proofs.YtmcldkobejhaeaaDoorW.PrintWords Go.Proofs.YtmcldkobejhaeaaDoorW.PrintLast Go.Proofs.YtmcldkobejhaeaaDoorW.PrintMore
attribute [local go_sem] max2_int min2_int max_two min_two max_three min_three max_four min_four
set_option linter.unusedVariables false
set_option linter.unusedSimpArgs false
def laws_eqStringS.l0 : Nat → List ByteArray → List ByteArray → Int → Option (Bool)
 | 0, _, _, _ => none
 | k + 1, x0, x1, x5 => if x5 < (x0.length : Int) then (if 0 ≤ x5 then (if x5 < (x1.length : Int) then (if (rdOf ByteArray.empty x0 x5).toList = (rdOf ByteArray.empty x1 x5).toList then (laws_eqStringS.l0 k x0 x1 (wrap64 (x5 + 1))) else (some false)) else (none)) else (none)) else (some true)
def laws_eqStringS.f (k : Nat) (l0 : List ByteArray) (l1 : List ByteArray) : Option (Bool) := if (l0.length : Int) = (l1.length : Int) then (laws_eqStringS.l0 k l0 l1 0) else (some false)
set_option maxHeartbeats 8000000 in
set_option maxRecDepth 100000 in
theorem laws_eqStringS.calls (k : Nat) (A0 : Option Addr) (c0 : Nat) (l0 : List ByteArray) (A1 : Option Addr) (c1 : Nat) (l1 : List ByteArray) (r : Bool) (w : World) (hr0 : Kd.C Kd.string w A0 l0.length l0) (hc0 : l0.length ≤ c0) (hr1 : Kd.C Kd.string w A1 l1.length l1) (hc1 : l1.length ≤ c1) (h : laws_eqStringS.f k l0 l1 = some r) :
  Calls Tryd.prog 7 #[.slice A0 l0.length c0, .slice A1 l1.length c1] w fun e w' => e = .returned (.bool r) ∧ Drawn0 w w' := by
 have HR0 := am hr0
 have HC0 := am hc0
 clear hr0 hc0
 have HR1 := am hr1
 have HC1 := am hc1
 clear hr1 hc1
 have H : (if (l0.length : Int) = (l1.length : Int) then (laws_eqStringS.l0 k l0 l1 0) else (some false)) = some r := h
 clear h
 by_cases c3 : (l0.length : Int) = (l1.length : Int)
 ·rw [if_pos c3] at H
  have c3b0 : ((l0.length : Int) == (l1.length : Int)) = true := beq_iff_eq.mpr c3
  have c3b1 : ((l0.length : Int) != (l1.length : Int)) = false := bne_eq_false_iff_eq.mpr c3
  have c3b2 : (l0.length == l1.length) = true := by first | simpa using c3 | (simp at c3 ⊢; omega)
  clear c3
  have H' := am H
  clear H
  go_enter Tryd.func7, Tryd.ntmps7
  go_wp2
  repeat (go_quiet (fail); try go_wp2)
  go_loopg [5] k (fun kq v5 w' => ∃ (x5_1 : Int), v5 = .int .i64 x5_1 ∧ Aside0 (laws_eqStringS.l0 kq l0 l1 x5_1 = some r) ∧ Aside0 (kq ≤ k) ∧ Drawn0 w w')
  case atStart => exact ⟨(0), zf, H', ⟨Nat.le_refl _⟩, by repeat (first | exact Drawn0.refl _ | apply Drawn0.step)⟩
  case round =>
   clear H'
   try clear c1
   try clear p2
   try clear c3
   try clear c3b0
   try clear c3b1
   try clear c3b2
   obtain ⟨x5_1, rfl, HA, HK1, ⟨m1, rfl⟩⟩ := hrel
   cases gk with
   | zero => exact absurd HA.out (by simp [laws_eqStringS.l0])
   | succ k1 =>
    have H := HA.out
    clear HA
    simp only [laws_eqStringS.l0] at H
    by_cases c4 : x5_1 < (l0.length : Int)
    ·rw [if_pos c4] at H
     have c4b0 : decide (x5_1 < (l0.length : Int)) = true := decide_eq_true c4
     clear c4
     by_cases c5 : 0 ≤ x5_1
     ·rw [if_pos c5] at H
      have c5b0 : decide (0 ≤ x5_1) = true := decide_eq_true c5
      clear c5
      by_cases c6 : x5_1 < (l1.length : Int)
      ·rw [if_pos c6] at H
       have c6b0 : decide (x5_1 < (l1.length : Int)) = true := decide_eq_true c6
       clear c6
       by_cases c7 : (rdOf ByteArray.empty l0 x5_1).toList = (rdOf ByteArray.empty l1 x5_1).toList
       ·rw [if_pos c7] at H
        have c7b0 : ((rdOf ByteArray.empty l0 x5_1).toList == (rdOf ByteArray.empty l1 x5_1).toList) = true := beq_iff_eq.mpr c7
        have c7b1 : ((rdOf ByteArray.empty l0 x5_1).toList != (rdOf ByteArray.empty l1 x5_1).toList) = false := bne_eq_false_iff_eq.mpr c7
        clear c7
        have H' := am H
        clear H
        have p175 : 0 ≤ (x5_1 : Int) := oa
        have q175 : x5_1 < (l0.length : Int) := oa
        obtain ⟨ad175, e175, hx175_0⟩ := Kd.at_string HR0.out x5_1 p175 q175
        cases e175
        replace p175 := eq_true p175
        replace q175 := eq_true q175
        have p176 : 0 ≤ (x5_1 : Int) := oa
        have q176 : x5_1 < (l1.length : Int) := oa
        obtain ⟨ad176, e176, hx176_0⟩ := Kd.at_string HR1.out x5_1 p176 q176
        cases e176
        replace p176 := eq_true p176
        replace q176 := eq_true q176
        go_wp2
        repeat (go_quiet (fail); try go_wp2)
        go_roundg k1
        case measure => have := HK1.out; omega
        case rel => exact ⟨(wrap64 (x5_1 + 1)), zf, H', ⟨by have := HK1.out; omega⟩, by repeat (first | exact Drawn0.refl _ | apply Drawn0.step)⟩
       ·rw [if_neg c7] at H
        have c7b0 : ((rdOf ByteArray.empty l0 x5_1).toList == (rdOf ByteArray.empty l1 x5_1).toList) = false := beq_eq_false_iff_ne.mpr c7
        have c7b1 : ((rdOf ByteArray.empty l0 x5_1).toList != (rdOf ByteArray.empty l1 x5_1).toList) = true := bne_iff_ne.mpr c7
        obtain rfl := Option.some.inj H
        have p175 : 0 ≤ (x5_1 : Int) := oa
        have q175 : x5_1 < (l0.length : Int) := oa
        obtain ⟨ad175, e175, hx175_0⟩ := Kd.at_string HR0.out x5_1 p175 q175
        cases e175
        replace p175 := eq_true p175
        replace q175 := eq_true q175
        have p176 : 0 ≤ (x5_1 : Int) := oa
        have q176 : x5_1 < (l1.length : Int) := oa
        obtain ⟨ad176, e176, hx176_0⟩ := Kd.at_string HR1.out x5_1 p176 q176
        cases e176
        replace p176 := eq_true p176
        replace q176 := eq_true q176
        go_wp2
        repeat (go_quiet (fail); try go_wp2)
        go_ret
        exact ⟨by first | rfl | (simp; done) | (simp [*]; done), by repeat (first | exact Drawn0.refl _ | apply Drawn0.step)⟩
      ·rw [if_neg c6] at H
       exact absurd H (by simp)
     ·rw [if_neg c5] at H
      exact absurd H (by simp)
    ·rw [if_neg c4] at H
     have c4b0 : decide (x5_1 < (l0.length : Int)) = false := decide_eq_false c4
     clear c4
     obtain rfl := Option.some.inj H
     go_wp2
     repeat (go_quiet (fail); try go_wp2)
     go_ret
     exact ⟨by first | rfl | (simp; done) | (simp [*]; done), by repeat (first | exact Drawn0.refl _ | apply Drawn0.step)⟩
 ·rw [if_neg c3] at H
  have c3b0 : ((l0.length : Int) == (l1.length : Int)) = false := beq_eq_false_iff_ne.mpr c3
  have c3b1 : ((l0.length : Int) != (l1.length : Int)) = true := bne_iff_ne.mpr c3
  have c3b2 : (l0.length == l1.length) = false := by first | simpa using c3 | (simp at c3 ⊢; omega)
  obtain rfl := Option.some.inj H
  go_enter Tryd.func7, Tryd.ntmps7
  go_wp2
  repeat (go_quiet (fail); try go_wp2)
  go_ret
  exact ⟨by first | rfl | (simp; done) | (simp [*]; done), by repeat (first | exact Drawn0.refl _ | apply Drawn0.step)⟩
end Go.Proofs.YtmcldkobejhaeaaDoor.My
/- Plain Lean: whether lists of strings are equal, by the laws' own test. Conditions: lengths below 2^63. -/
namespace Go.Proofs.YtmcldkobejhaeaaDoor.Pl
open Go.RowKit Go.Proofs.YtmcldkobejhaeaaDoorW.PrintWords Go.Proofs.YtmcldkobejhaeaaDoorW.PrintLast Go.Proofs.YtmcldkobejhaeaaDoor.My
set_option linter.unusedVariables false
set_option linter.unusedSimpArgs false
end Go.Proofs.YtmcldkobejhaeaaDoor.Pl
/- Written by this session's program (wip/gen): a plain function with the same answers as the Go function, and the proof that the Go code comes to them. Asked: that the plain function has an answer. -/
namespace Go.Proofs.YtmcldkobejhaeaaDoor.My
open Go.RowKit Go.Proofs.YtmcldkobejhaeaaDoorW.PrintWords Go.Proofs.YtmcldkobejhaeaaDoorW.PrintLast Go.Proofs.YtmcldkobejhaeaaDoorW.PrintMore
attribute [local go_sem] max2_int min2_int max_two min_two max_three min_three max_four min_four
set_option linter.unusedVariables false
set_option linter.unusedSimpArgs false
def laws_markText.l0 : Nat → Int → ByteArray → Option (ByteArray)
 | 0, _, _ => none
 | k + 1, x0, x3 => if x0 > 0 then ((some (([(wrap64 (48 + (Int.tmod x0 10))) % 256] : List Int) : List Int)).bind fun y177 => (if (strOfNums y177).size + x3.size ≤ 9223372036854775807 then (laws_markText.l0 k (wrap64 (Int.tdiv x0 10)) ((strOfNums y177) ++ x3)) else (none))) else (if 1 + x3.size ≤ 9223372036854775807 then (some ((⟨#[109]⟩ : ByteArray) ++ x3)) else (none))
def laws_markText.f (k : Nat) (a0 : Int) : Option (ByteArray) := if a0 ≤ 0 then (some (⟨#[109, 48]⟩ : ByteArray)) else (laws_markText.l0 k a0 (⟨#[]⟩ : ByteArray))
set_option maxHeartbeats 8000000 in
set_option maxRecDepth 100000 in
theorem laws_markText.calls (k : Nat) (a0 : Int) (r : ByteArray) (w : World) (h : laws_markText.f k a0 = some r) :
  Calls Tryd.prog 35 #[.int .i64 a0] w fun e w' => e = .returned (.string r) ∧ Below w.heap.size w w' := by
 have HB := am (Below.refl w.heap.size w)
 have H : (if a0 ≤ 0 then (some (⟨#[109, 48]⟩ : ByteArray)) else (laws_markText.l0 k a0 (⟨#[]⟩ : ByteArray))) = some r := h
 clear h
 by_cases c2 : a0 ≤ 0
 ·rw [if_pos c2] at H
  have c2b0 : decide (a0 ≤ 0) = true := decide_eq_true c2
  clear c2
  obtain rfl := Option.some.inj H
  go_enter Tryd.func35, Tryd.ntmps35
  go_wp2
  go_ret
  exact ⟨by first | rfl | (simp [errW_none, errW_some] <;> rfl) | (simp [*, errW_none, errW_some] <;> rfl), by repeat (first | (with_reducible first | exact HB.out | apply below_alloc | apply pw_below_drewN | apply below_drew1) | exact HB.out)⟩
 ·rw [if_neg c2] at H
  have c2b0 : decide (a0 ≤ 0) = false := decide_eq_false c2
  clear c2
  have H' := am H
  clear H
  go_enter Tryd.func35, Tryd.ntmps35
  go_wp2
  go_loopg [0, 3] k (fun kq v0 v3 w' => ∃ (x0_1 : Int) (x3_1 : ByteArray), v0 = .int .i64 x0_1 ∧ v3 = .string x3_1 ∧ Aside0 (laws_markText.l0 kq x0_1 x3_1 = some r) ∧ Aside0 (kq ≤ k) ∧ Aside0 (Below w.heap.size w w'))
  case atStart => exact ⟨(a0), ((⟨#[]⟩ : ByteArray)), zf, zf, H', ⟨Nat.le_refl _⟩, ⟨by repeat (first | (with_reducible first | exact HB.out | apply below_alloc | apply pw_below_drewN | apply below_drew1) | exact HB.out)⟩⟩
  case round =>
   clear H'
   try clear c2
   try clear c2b0
   try clear p2
   obtain ⟨x0_1, x3_1, rfl, rfl, HA, HK1, HB⟩ := hrel
   cases gk with
   | zero => exact absurd HA.out (by simp [laws_markText.l0])
   | succ k1 =>
    have H := HA.out
    clear HA
    simp only [laws_markText.l0] at H
    by_cases c3 : x0_1 > 0
    ·rw [if_pos c3] at H
     have c3b0 : decide (0 < x0_1) = true := decide_eq_true c3
     clear c3
     obtain ⟨y177, hy177⟩ : ∃ y_ : List Int, y_ = (([(wrap64 (48 + (Int.tmod x0_1 10))) % 256] : List Int)) := ⟨_, rfl⟩
     replace H : (if (strOfNums y177).size + x3_1.size ≤ 9223372036854775807 then (laws_markText.l0 k1 (wrap64 (Int.tdiv x0_1 10)) ((strOfNums y177) ++ x3_1)) else (none)) = some r := by first | (rw [hy177]; with_reducible exact H) | (have H2_ := (Option.bind_some _ _).symm.trans H; rw [hy177]; with_reducible exact H2_) | (have H2_ := (Option.bind_some _ _).symm.trans H; with_reducible exact H2_) | with_reducible exact H | (rw [hy177]; exact H) | exact H
     have Ny177 := am hy177
     clear hy177
     by_cases c4 : (strOfNums y177).size + x3_1.size ≤ 9223372036854775807
     ·rw [if_pos c4] at H
      have c4b0 := eq_true c4
      have c4b1 : decide ((strOfNums y177).size + x3_1.size ≤ 9223372036854775807) = true := decide_eq_true c4
      try have c4b2 : (9223372036854775807 < (strOfNums y177).size + x3_1.size) = False := eq_false (Nat.not_lt.2 c4)
      have H' := am H
      clear H
      go_wp2_with (first | ((with_reducible refine gate_dst (N := 12) rfl ?_); refine Kd.R_lit (Kd.int .u8) _ 5 ?hg (N := 12) ?hd (xs := ([(wrap64 (48 + (Int.tmod x0_1 10))) % 256] : List Int)) (inner := [.int .u8 ((wrap64 (48 + (Int.tmod x0_1 10))) % 256)]) (ok := fun _ => True) (okp := fun _ => True) ?hr ?hp (fun _ hk => hk) trivial (Below.refl _ _) (Nat.le_refl _) (by simp) ?_; (case hd => rfl); (case hg => rfl); (case hr => first | (go_simp; done) | (go_simp; rfl)); (case hp => exact (Reps.one (show Kd.M (Kd.int .u8) _ _ _ ((wrap64 (48 + (Int.tmod x0_1 10))) % 256) [.int .u8 ((wrap64 (48 + (Int.tmod x0_1 10))) % 256)] from rfl) (Reps.none _ _))); intro v178 w5 ho6 hb hg_ hnew_; clear hg_ hnew_; (first | rw [← Ny177.out] at ho6 | (simp only [Int.reduceToNat] at ho6; rw [← Ny177.out] at ho6)); have n0_ := am (Kd.R_lower ho6 (below_size zb)); have n1_ := am (below_step zb hb); clear HB; have HO179 := n0_; have HB := n1_; clear n0_ n1_; clear hb ho6; have hcv7 := own_string (P := Tryd.prog) Tryd.underlying28 Tryd.underlying5 Tryd.underlying9 (Kd.own_of_R HO179.out)))
      go_roundg k1
      case measure => have := HK1.out; omega
      case rel => exact ⟨(wrap64 (Int.tdiv x0_1 10)), ((strOfNums y177) ++ x3_1), zf, zf, H', ⟨by have := HK1.out; omega⟩, ⟨by repeat (first | (with_reducible first | exact HB.out | apply below_alloc | apply pw_below_drewN | apply below_drew1) | exact HB.out)⟩⟩
     ·rw [if_neg c4] at H
      exact absurd H (by simp)
    ·rw [if_neg c3] at H
     have c3b0 : decide (0 < x0_1) = false := decide_eq_false c3
     clear c3
     by_cases c8 : 1 + x3_1.size ≤ 9223372036854775807
     ·rw [if_pos c8] at H
      have c8b0 := eq_true c8
      have c8b1 : decide (1 + x3_1.size ≤ 9223372036854775807) = true := decide_eq_true c8
      try have c8b2 : (9223372036854775807 < 1 + x3_1.size) = False := eq_false (Nat.not_lt.2 c8)
      obtain rfl := Option.some.inj H
      go_wp2
      go_ret
      exact ⟨by first | rfl | (simp [errW_none, errW_some] <;> rfl) | (simp [*, errW_none, errW_some] <;> rfl), by repeat (first | (with_reducible first | exact HB.out | apply below_alloc | apply pw_below_drewN | apply below_drew1) | exact HB.out)⟩
     ·rw [if_neg c8] at H
      exact absurd H (by simp)
end Go.Proofs.YtmcldkobejhaeaaDoor.My
/- Written by this session's program (wip/gen): a plain function with the same answers as the Go function, and the proof that the Go code comes to them. Asked: that the plain function has an answer. -/
namespace Go.Proofs.YtmcldkobejhaeaaDoor.My
open Go.RowKit Go.Proofs.YtmcldkobejhaeaaDoorW.PrintWords Go.Proofs.YtmcldkobejhaeaaDoorW.PrintLast Go.Proofs.YtmcldkobejhaeaaDoorW.PrintMore
attribute [local go_sem] max2_int min2_int max_two min_two max_three min_three max_four min_four
set_option linter.unusedVariables false
set_option linter.unusedSimpArgs false
def laws_markStringS.l0 : Nat → List ByteArray → Int → Int → Option (Int × List ByteArray)
 | 0, _, _, _ => none
 | k + 1, x0, x1, x5 => if x5 < (x0.length : Int) then ((laws_markText.f k x1).bind fun t180 => (if 0 ≤ x5 then (laws_markStringS.l0 k (x0.set (x5 : Int).toNat t180) (wrap64 (x1 + 1)) (wrap64 (x5 + 1))) else (none))) else (some (x1, x0))
def laws_markStringS.f (k : Nat) (l0 : List ByteArray) (a1 : Int) : Option (Int × List ByteArray) := laws_markStringS.l0 k l0 a1 0
set_option maxHeartbeats 8000000 in
set_option maxRecDepth 100000 in
theorem laws_markStringS.calls (k : Nat) (P0_ : Nat → Prop) (u9000_ : Value) (l0 : List ByteArray) (a1 : Int) (r1 : Int) (r2 : List ByteArray) (w0 w : World) (hB : Below w0.heap.size w0 w) (ho0 : Kd.R Kd.string 9 w w0.heap.size P0_ u9000_ l0) (h : laws_markStringS.f k l0 a1 = some (r1, r2)) :
  Calls Tryd.prog 8 #[u9000_, .int .i64 a1] w fun e w' => e = .returned (.int .i64 r1) ∧ Kd.R Kd.string 9 w' w0.heap.size (fun k_ => (P0_ k_ ∨ w.heap.size ≤ k_)) u9000_ r2 ∧ Below w0.heap.size w0 w' ∧ Kept w w' (fun k_ => P0_ k_) := by
 have HO0 := am (show Kd.R Kd.string 9 w w0.heap.size (fun k_ => (P0_ k_ ∨ w.heap.size ≤ k_)) u9000_ l0 from Kd.R_mono ho0 (fun k_ hk => (.inl hk)))
 have HK := am (Kept.refl w (fun k_ => P0_ k_))
 have HW0 := am hB.size
 have HB := am hB
 clear hB
 have H : (laws_markStringS.l0 k l0 a1 0) = some (r1, r2) := h
 clear h
 have H' := am H
 clear H
 go_enter Tryd.func8, Tryd.ntmps8
 go_wp2
 go_loopg [1, 5] k (fun kq v1 v5 w' => ∃ (x0_1 : List ByteArray) (x1_1 : Int) (x5_1 : Int), v1 = .int .i64 x1_1 ∧ v5 = .int .i64 x5_1 ∧ Aside0 (laws_markStringS.l0 kq x0_1 x1_1 x5_1 = some (r1, r2)) ∧ Aside0 (kq ≤ k) ∧ Aside0 (Kd.R Kd.string 9 w' w0.heap.size (fun k_ => (P0_ k_ ∨ w.heap.size ≤ k_)) u9000_ x0_1) ∧ Aside0 (Kept w w' (fun k_ => P0_ k_)) ∧ Aside0 (Below w0.heap.size w0 w'))
 case atStart => exact ⟨(l0), (a1), (0), zf, zf, H', ⟨Nat.le_refl _⟩, ⟨by (with_reducible repeat (first | apply Kd.R_alloc | apply Kd.R_drewN | apply Kd.R_drew)); exact HO0.out⟩, ⟨by repeat (first | (with_reducible first | exact HK.out | apply Kept.alloc | apply Kept.drewN | apply Kept.drew) | exact HK.out)⟩, ⟨by repeat (first | (with_reducible first | exact HB.out | apply below_alloc | apply pw_below_drewN | apply below_drew1) | exact HB.out)⟩⟩
 case round =>
  clear H'
  try clear p2
  obtain ⟨x0_1, x1_1, x5_1, rfl, rfl, HA, HK1, HO_0, HK, HB⟩ := hrel
  cases gk with
  | zero => exact absurd HA.out (by simp [laws_markStringS.l0])
  | succ k1 =>
   have H := HA.out
   clear HA
   simp only [laws_markStringS.l0] at H
   by_cases c3 : x5_1 < (x0_1.length : Int)
   ·rw [if_pos c3] at H
    have c3b0 : decide (x5_1 < (x0_1.length : Int)) = true := decide_eq_true c3
    clear c3
    replace H := Option.bind_eq_some_iff.mp H
    obtain ⟨t180, A40, H⟩ := H
    replace H : (if 0 ≤ x5_1 then (laws_markStringS.l0 k1 (x0_1.set (x5_1 : Int).toNat t180) (wrap64 (x1_1 + 1)) (wrap64 (x5_1 + 1))) else (none)) = some (r1, r2) := H
    have A4 := am A40
    clear A40
    by_cases c5 : 0 ≤ x5_1
    ·rw [if_pos c5] at H
     have c5b0 : decide (0 ≤ x5_1) = true := decide_eq_true c5
     clear c5
     obtain ⟨y181, hy181⟩ : ∃ y_ : List ByteArray, y_ = (x0_1.set (x5_1 : Int).toNat t180) := ⟨_, rfl⟩
     replace H : (laws_markStringS.l0 k1 y181 (wrap64 (x1_1 + 1)) (wrap64 (x5_1 + 1))) = some (r1, r2) := by first | (rw [hy181]; with_reducible exact H) | (have H2_ := (Option.bind_some _ _).symm.trans H; rw [hy181]; with_reducible exact H2_) | (have H2_ := (Option.bind_some _ _).symm.trans H; with_reducible exact H2_) | with_reducible exact H | (rw [hy181]; exact H) | exact H
     have Ny181 := am hy181
     clear hy181
     have H' := am H
     clear H
     obtain ⟨Ao7, co7, eo7⟩ := Kd.R_slice HO_0.out
     subst eo7
     go_wp2_with (first | ((with_reducible refine gateC (f := 35) rfl ?_); refine goesL_ (some 15) rfl rfl Tryd.func35 (by kernel_rfl) rfl #[.int .i64 x1_1] rfl zm ?_; (with_reducible refine (laws_markText.calls k1 x1_1 t180 _ A4.out).mono ?_); rintro e w8 ⟨rfl, hb⟩; refine ⟨_, rfl, ?_⟩; have n0_ := am (Kd.R_below (zr HO_0.out) hb); have n1_ := am (Kept.below (S := (fun k_ => P0_ k_)) (by repeat (first | (with_reducible first | exact HK.out | apply Kept.alloc | apply Kept.drewN | apply Kept.drew) | exact HK.out)) hb); have n2_ := am (below_step zb hb); clear HO_0; clear HK; clear HB; have HO_0 := n0_; have HK := n1_; have HB := n2_; clear n0_ n1_ n2_; (try clear hb); have p6 : 0 ≤ (x5_1 : Int) := oa; have q6 : (x5_1 : Int) < ((x0_1.length : Int) : Int) := oa; obtain ⟨go6, co6, eo6, gb6, gl6, cl6, HG6⟩ := Kd.R_form HO_0.out (by omega); (first | cases eo6 | (injection eo6 with ea_ en_ ec_; (first | subst ea_ | (injection ea_ with ea_; subst ea_)); subst ec_; clear en_)); have GB6 := am gb6; have GG6 := am HG6; clear gb6 gl6 HG6; have HMgo6 := am (show (P0_ go6 ∨ w.heap.size ≤ go6) from (HO_0.out.1 _ rfl)); obtain ⟨hx6_0, hf6_0⟩ := Kd.R_celln (⟨#[]⟩ : ByteArray) HO_0.out (x5_1 : Int) p6 q6; replace p6 := eq_true p6; replace q6 := eq_true q6; obtain ⟨hy9_, hz9_⟩ := Kd.R_celln (⟨#[]⟩ : ByteArray) HO_0.out (x5_1 : Int) oa oa; have HP9 := Kd.R_putg HO_0.out (x5_1 : Int) t180) | ((with_reducible refine gate_store (t := 9) (p := 16) rfl ?_); refine store_event (t := 9) (p := 16) (v := ?vo_w10) (w1 := (w8.setCell ⟨go6, (x5_1 : Int).toNat, none⟩ (.string t180))) ?hg ?ho ?hn ?hr ?_; (case ho => rfl); (case hg => rfl); (case hn => rfl); (case hr => first | (go_simp; done) | (go_simp; rfl)); intro w10 hw; have hg : w8.grownBy w10 (some go6) := (by rw [hw]; exact HP9.2); have hp_ : Kd.R Kd.string 9 w10 w0.heap.size (fun k_ => (P0_ k_ ∨ w.heap.size ≤ k_)) (.slice (some ⟨go6, 0, none⟩) x0_1.length co7) y181 := (by rw [hw, Ny181.out]; exact HP9.1); clear HP9; have n0_ := am (hp_); have n1_ := am ((by rw [hw]; exact below_set (HB.out) GB6.out : Below w0.heap.size w0 w10)); have n2_ := am (Kept.of_grown (S := (fun k_ => P0_ k_)) hg (by repeat (first | (with_reducible first | exact HK.out | apply Kept.alloc | apply Kept.drewN | apply Kept.drew) | exact HK.out)) (fun k_ e_ => (HO_0.out.1 k_ e_))); clear HO_0; clear HB; clear HK; have HO_0 := n0_; have HB := n1_; have HK := n2_; clear n0_ n1_ n2_; clear hg hw hp_))
     go_roundg k1
     case measure => have := HK1.out; omega
     case rel => exact ⟨(y181), (wrap64 (x1_1 + 1)), (wrap64 (x5_1 + 1)), zf, zf, H', ⟨by have := HK1.out; omega⟩, ⟨by (with_reducible repeat (first | apply Kd.R_alloc | apply Kd.R_drewN | apply Kd.R_drew)); exact HO_0.out⟩, ⟨by repeat (first | (with_reducible first | exact HK.out | apply Kept.alloc | apply Kept.drewN | apply Kept.drew) | exact HK.out)⟩, ⟨by repeat (first | (with_reducible first | exact HB.out | apply below_alloc | apply pw_below_drewN | apply below_drew1) | exact HB.out)⟩⟩
    ·rw [if_neg c5] at H
     exact absurd H (by simp)
   ·rw [if_neg c3] at H
    have c3b0 : decide (x5_1 < (x0_1.length : Int)) = false := decide_eq_false c3
    clear c3
    simp only [Option.some.injEq, Prod.mk.injEq] at H
    obtain ⟨rfl, rfl⟩ := H
    obtain ⟨Ao11, co11, eo11⟩ := Kd.R_slice HO_0.out
    subst eo11
    go_wp2
    go_ret
    exact ⟨by first | rfl | (simp [errW_none, errW_some] <;> rfl) | (simp [*, errW_none, errW_some] <;> rfl), by (with_reducible repeat (first | apply Kd.R_alloc | apply Kd.R_drewN | apply Kd.R_drew)); exact HO_0.out, by repeat (first | (with_reducible first | exact HB.out | apply below_alloc | apply pw_below_drewN | apply below_drew1) | exact HB.out), by repeat (first | (with_reducible first | exact HK.out | apply Kept.alloc | apply Kept.drewN | apply Kept.drew) | exact HK.out)⟩
end Go.Proofs.YtmcldkobejhaeaaDoor.My
/- Plain Lean: the marks by which the laws see whether memory is shared. Conditions: lengths below 2^40. -/
namespace Go.Proofs.YtmcldkobejhaeaaDoor.Pl
open Go.RowKit Go.Proofs.YtmcldkobejhaeaaDoorW.PrintWords Go.Proofs.YtmcldkobejhaeaaDoorW.PrintLast Go.Proofs.YtmcldkobejhaeaaDoor.My
set_option linter.unusedVariables false
set_option linter.unusedSimpArgs false
theorem strOfNums_size (l : List Int) : (strOfNums l).size = l.length := by
  unfold strOfNums
  rw [← data_length]
  simp
end Go.Proofs.YtmcldkobejhaeaaDoor.Pl
/- Plain Lean: a drawn text of bytes. No condition. -/
namespace Go.Proofs.YtmcldkobejhaeaaDoor.Pl
open Go.RowKit Go.Proofs.YtmcldkobejhaeaaDoorW.PrintWords Go.Proofs.YtmcldkobejhaeaaDoorW.PrintLast Go.Proofs.YtmcldkobejhaeaaDoor.My
set_option linter.unusedVariables false
set_option linter.unusedSimpArgs false
theorem l1Text_g0 (l : List ByteArray) (hl : l.length ≤ 40) (h : ∀ s ∈ l, s.size ≤ 30) : ∀ d i (acc : ByteArray), i + d = l.length → acc.size ≤ 30 * i →
    ∃ r, Ev (fun k => spec_l1Text.l0 k acc l (l.length : Int) (i : Int)) r ∧ r.size ≤ 30 * l.length := by
  intro d
  induction d with
  | zero =>
    intro i acc hi ha
    exact ⟨acc, Ev.step (fun k => spec_l1Text.l0.eq_2 ..) (ev_neg (by omega) (ev_some rfl)), by omega⟩
  | succ d ih =>
    intro i acc hi ha
    have hlt : i < l.length := by omega
    have hs := h _ (List.getElem_mem hlt)
    obtain ⟨r, er, hr⟩ := ih (i + 1) (acc ++ l[i]) (by omega) (by rw [ByteArray.size_append]; omega)
    refine ⟨r, Ev.step (fun k => spec_l1Text.l0.eq_2 ..) (ev_pos (by omega) (ev_pos (by omega) (ev_pos (by omega) ?_))), hr⟩
    rw [rdOf_lt _ l i hlt, wrap_succ i (by omega)]
    exact ev_pos (by omega) er
theorem l1Text_some (l : List ByteArray) (hl : l.length ≤ 40) (h : ∀ s ∈ l, s.size ≤ 30) : ∃ r, Ev (fun k => spec_l1Text.f k l) r ∧ r.size ≤ 30 * l.length := by
  simp only [spec_l1Text.f]
  exact l1Text_g0 l hl h l.length 0 _ (by omega) (by show (0 : Nat) ≤ _; omega)
theorem drawLines_l0 (c : List Int) (a s : Int) : ∀ d i (t : ByteArray), i + d = 38 → t.size ≤ 1000 + i → ∃ r, Ev (fun k => spec_DrawLinesOf.l0 k t (i : Int) c a s) (r, a, s) ∧ r.size ≤ 1038 := by
  intro d
  induction d with
  | zero => intro i t hi ht; exact ⟨t, Ev.step (fun k => spec_DrawLinesOf.l0.eq_2 ..) (ev_neg (by omega) (ev_some rfl)), by omega⟩
  | succ d ih =>
    intro i t hi ht
    obtain ⟨r, er, hr⟩ := ih (i + 1) (t ++ (⟨#[10]⟩ : ByteArray)) (by omega) (by rw [ByteArray.size_append, show (⟨#[10]⟩ : ByteArray).size = 1 from rfl]; omega)
    refine ⟨r, Ev.step (fun k => spec_DrawLinesOf.l0.eq_2 ..) (ev_pos (by omega) (ev_pos (by omega) ?_)), hr⟩
    rw [wrap_succ i (by omega)]
    exact er
theorem drawLines_some (c : List Int) (hc : Bytes8 c) : ∃ s, Ev (fun k => spec_DrawLinesOf.f k c) s ∧ s.size ≤ 1048576 := by
  simp only [spec_DrawLinesOf.f, spec_DrawLinesOf.g]
  obtain ⟨l, a2, s2, e, hl, hs, h2⟩ := text_some c hc 0 0 (by omega) (by omega)
  obtain ⟨t, et, ht⟩ := l1Text_some l (by omega) (fun s hs' => by have := hs s hs'; omega)
  obtain ⟨v, a3, s3, e3, h3⟩ := pick_some c hc a2 s2 12 (at_of (by omega) (by omega))
  by_cases v0 : v = 0
  · obtain ⟨u, a4, s4, e4, u0, u1, u2, h4⟩ := pick_some c hc a3 s3 2 (at_of (by omega) (by omega))
    have eu : wrap64 (30 + u) = 30 + u := wrap64_id (by omega) (by omega)
    have hz : (strOfNums (List.replicate (30 + u).toNat (0 : Int))).size ≤ 100 := by rw [strOfNums_size, List.length_replicate]; omega
    refine ⟨_, ev_bind (ev_bind e (ev_bind et (ev_bind (ev_const e3) (ev_pos v0 (ev_bind (ev_const e4) (ev_pos (by rw [eu]; omega) (ev_pos (by rw [eu]; omega) (ev_bind (ev_some rfl) (ev_pos (by rw [eu]; omega) (ev_some rfl)))))))))) (ev_some rfl), ?_⟩
    dsimp only
    rw [eu, ByteArray.size_append]
    omega
  · by_cases v1 : v = 1
    · obtain ⟨r, er, hr⟩ := drawLines_l0 c a3 s3 38 0 t (by omega) (by omega)
      exact ⟨r, ev_bind (ev_bind e (ev_bind et (ev_bind (ev_const e3) (ev_neg v0 (ev_pos v1 er))))) (ev_some rfl), by omega⟩
    · exact ⟨t, ev_bind (ev_bind e (ev_bind et (ev_bind (ev_const e3) (ev_neg v0 (ev_neg v1 (ev_some rfl)))))) (ev_some rfl), by omega⟩
theorem drawText_some (c : List Int) (hc : Bytes8 c) : ∃ l, Ev (fun k => spec_DrawTextOf.f k c) l ∧ SmT l := by
  simp only [spec_DrawTextOf.f, spec_DrawGoodLines.f, spec_DrawGoodLines.g]
  obtain ⟨l, a2, s2, e, hl, h2⟩ := anyText_some c hc 0 0 (by omega) (by omega)
  exact ⟨l, ev_bind (ev_bind (ev_bind e (ev_some rfl)) (ev_some rfl)) (ev_some rfl), hl⟩
end Go.Proofs.YtmcldkobejhaeaaDoor.Pl
/- Plain Lean: whether a text's last line is ended, told by the reference. Asked: a last line that is not empty. -/
namespace Go.Proofs.YtmcldkobejhaeaaDoor.Pl
open Go.RowKit Go.Proofs.YtmcldkobejhaeaaDoorW.PrintWords Go.Proofs.YtmcldkobejhaeaaDoorW.PrintLast Go.Proofs.YtmcldkobejhaeaaDoor.My
set_option linter.unusedVariables false
set_option linter.unusedSimpArgs false
theorem whole_some (l : List ByteArray) (hl : l.length ≤ 100) (hs : ∀ s ∈ l, s.size ≤ 9223372036854775807) (hx : ∀ x, l.getLast? = some x → 1 ≤ x.size) : ∃ b, spec_l1Whole.f l = some b := by
  unfold spec_l1Whole.f
  by_cases h : l.length = 0
  · exact ⟨true, by rw [if_pos (by omega)]⟩
  · have hm := List.getElem_mem (l := l) (n := l.length - 1) (by omega)
    have h1 : 1 ≤ (l[l.length - 1]'(by omega)).size := hx _ (by rw [List.getLast?_eq_getElem?, List.getElem?_eq_getElem (by omega)])
    refine ⟨ends (l[l.length - 1]'(by omega)), ?_⟩
    rw [if_neg (by omega), wrap_pred l.length (by omega) (by omega), if_pos (by omega), if_pos (by omega), rdOf_lt _ _ _ (by omega), l1Ends_eq _ h1 (hs _ hm)]
    rfl
end Go.Proofs.YtmcldkobejhaeaaDoor.Pl
/- Plain Lean: a drawn text that is like another one. Asked: few lines, short, none empty. -/
namespace Go.Proofs.YtmcldkobejhaeaaDoor.Pl
open Go.RowKit Go.Proofs.YtmcldkobejhaeaaDoorW.PrintWords Go.Proofs.YtmcldkobejhaeaaDoorW.PrintLast Go.Proofs.YtmcldkobejhaeaaDoor.My
set_option linter.unusedVariables false
set_option linter.unusedSimpArgs false
def SmL (m : Nat) (l : List ByteArray) : Prop := ∀ s ∈ l, 1 ≤ s.size ∧ s.size ≤ m
theorem smL_app {m : Nat} {l r : List ByteArray} (hl : SmL m l) (hr : SmL m r) : SmL m (l ++ r) := fun s hs => by
  rcases List.mem_append.1 hs with hs | hs
  · exact hl s hs
  · exact hr s hs
theorem smL_set {m : Nat} {l : List ByteArray} (hl : SmL m l) (i : Nat) {x : ByteArray} (hx : 1 ≤ x.size ∧ x.size ≤ m) : SmL m (l.set i x) := fun s hs => by
  rcases List.mem_or_eq_of_mem_set hs with hs | rfl
  · exact hl s hs
  · exact hx
theorem smL_take {m : Nat} {l : List ByteArray} (hl : SmL m l) (i : Nat) : SmL m (l.take i) := fun s hs => hl s (List.mem_of_mem_take hs)
theorem smL_drop {m : Nat} {l : List ByteArray} (hl : SmL m l) (i : Nat) : SmL m (l.drop i) := fun s hs => hl s (List.mem_of_mem_drop hs)
theorem smL_one {m : Nat} {x : ByteArray} (hx : 1 ≤ x.size ∧ x.size ≤ m) : SmL m [x] := fun s hs => by rw [List.mem_singleton.1 hs]; exact hx
theorem smL_more {m n : Nat} {l : List ByteArray} (hl : SmL m l) (h : m ≤ n) : SmL n l := fun s hs => ⟨(hl s hs).1, Nat.le_trans (hl s hs).2 h⟩
theorem plainB_size (s : ByteArray) : (plainB s).size ≤ s.size := by
  unfold plainB
  split
  · rw [ByteArray.size_extract]; omega
  · exact Nat.le_refl _
theorem size_pos_of_ne {s : ByteArray} (h : ¬ s.toList = ([] : List UInt8)) : 1 ≤ s.size := by
  rcases Nat.eq_zero_or_pos s.size with e | e
  · refine absurd ?_ h
    rw [Lib.toList_data]
    exact List.eq_nil_of_length_eq_zero (by rw [data_length]; exact e)
  · exact e
section
variable (c : List Int) (hc : Bytes8 c)
include hc
omit hc in
theorem other_j2 (l : List ByteArray) (hl : l.length ≤ 40) (hs : SmL 8 l) (b : Bool) (hb : b = true → 0 < l.length) (a s : Int) : ∃ r, Ev (fun k => spec_l1Cur_other.j2 k l b c a s) (r, a, s) ∧ r.length ≤ l.length ∧ SmL 9 r := by
  cases b with
  | false => exact ⟨l, Ev.step (fun k => spec_l1Cur_other.j2.eq_2 ..) (ev_neg (by simp) (ev_some rfl)), Nat.le_refl _, smL_more hs (by omega)⟩
  | true =>
    have h0 := hb rfl
    have hm := List.getElem_mem (l := l) (n := l.length - 1) (by omega)
    have h1 := hs _ hm
    have e1 : rdOf ByteArray.empty l ((l.length - 1 : Nat) : Int) = l[l.length - 1]'(by omega) := rdOf_lt _ _ _ (by omega)
    have ep := l1Plain_eq _ h1.1 (by omega)
    have ee := l1Ends_eq _ h1.1 (by omega)
    have hz := plainB_size (l[l.length - 1]'(by omega))
    have top : ∀ (r : List ByteArray), Ev (fun k => (spec_l1Plain.f (l[l.length - 1]'(by omega))).bind fun t317 => ((spec_l1Ends.f (l[l.length - 1]'(by omega))).bind fun t319 => (if t319 = true then (if t317.toList = ([] : List UInt8) then (some (l, a, s)) else (some ((l.set (((l.length - 1 : Nat) : Int)).toNat t317), a, s))) else (if t317.size + 1 ≤ 9223372036854775807 then (some ((l.set (((l.length - 1 : Nat) : Int)).toNat (t317 ++ (⟨#[10]⟩ : ByteArray))), a, s)) else (none))))) (r, a, s) → Ev (fun k => spec_l1Cur_other.j2 k l true c a s) (r, a, s) := by
      intro r h
      refine Ev.step (fun k => spec_l1Cur_other.j2.eq_2 ..) (ev_pos rfl ?_)
      rw [wrap_pred l.length h0 (by omega), e1]
      exact ev_pos (by omega) (ev_pos (by omega) h)
    by_cases he : ends (l[l.length - 1]'(by omega)) = true
    · by_cases hp : (plainB (l[l.length - 1]'(by omega))).toList = ([] : List UInt8)
      · exact ⟨l, top l (ev_bind (ev_const ep) (ev_bind (ev_const ee) (ev_pos he (ev_pos hp (ev_some rfl))))), Nat.le_refl _, smL_more hs (by omega)⟩
      · exact ⟨_, top _ (ev_bind (ev_const ep) (ev_bind (ev_const ee) (ev_pos he (ev_neg hp (ev_some rfl))))), by rw [List.length_set]; exact Nat.le_refl _, smL_set (smL_more hs (by omega)) _ ⟨size_pos_of_ne hp, by omega⟩⟩
    · refine ⟨_, top _ (ev_bind (ev_const ep) (ev_bind (ev_const ee) (ev_neg he (ev_pos (by omega) (ev_some rfl))))), by rw [List.length_set]; exact Nat.le_refl _, smL_set (smL_more hs (by omega)) _ ?_⟩
      rw [ByteArray.size_append, show (⟨#[10]⟩ : ByteArray).size = 1 from rfl]
      omega
theorem other_l0 : ∀ (n : Nat) (l : List ByteArray) (a s : Int), l.length + n ≤ 40 → SmL 8 l → 0 ≤ a → a + 8 * n ≤ 1000000000000100 →
    ∃ r a2 s2, Ev (fun k => spec_l1Cur_other.l0 k l (n : Int) c a s) (r, a2, s2) ∧ r.length ≤ l.length + n ∧ SmL 9 r ∧ a ≤ a2 ∧ a2 ≤ a + 8 * n + 2 := by
  intro n
  induction n with
  | zero =>
    intro l a s hl hs h0 h1
    by_cases hp : (l.length : Int) > 0
    · obtain ⟨b, a2, s2, e, h2⟩ := one_some c hc a s 6 (at_of h0 (by omega))
      obtain ⟨r, er, hr, hrs⟩ := other_j2 c l (by omega) hs b (fun _ => by omega) a2 s2
      exact ⟨r, a2, s2, Ev.step (fun k => spec_l1Cur_other.l0.eq_2 ..) (ev_neg (by omega) (ev_pos hp (ev_bind (ev_const e) er))), by omega, hrs, by omega, by omega⟩
    · obtain ⟨r, er, hr, hrs⟩ := other_j2 c l (by omega) hs false (fun h => by cases h) a s
      exact ⟨r, a, s, Ev.step (fun k => spec_l1Cur_other.l0.eq_2 ..) (ev_neg (by omega) (ev_neg hp er)), by omega, hrs, by omega, by omega⟩
  | succ n ih =>
    intro l a s hl hs h0 h1
    obtain ⟨v, a2, s2, e2, v0, v1, v2, h2⟩ := pick_some c hc a s (wrap64 ((l.length : Int) + 1)) (at_of h0 (by omega))
    rw [wrap64_id (by omega) (by omega)] at v1
    obtain ⟨u, a3, s3, e3, h3⟩ := pick_some c hc a2 s2 3 (at_of (by omega) (by omega))
    have hv : v ≤ (l.length : Int) := by omega
    have ew : wrap64 (((n + 1 : Nat) : Int) - 1) = (n : Int) := by rw [wrap64_id (by omega) (by omega)]; omega
    have e2' : spec_l1Cur_pick.f c a s (wrap64 ((l.length : Int) + 1)) = some (v, a2, s2) := e2
    -- what goes on
    have goOn : ∀ (l2 : List ByteArray) (b t : Int), l2.length ≤ l.length + 1 → SmL 8 l2 → a ≤ b → b ≤ a + 6 → ∃ r a2 s2, Ev (fun k => spec_l1Cur_other.l0 k l2 (wrap64 (((n + 1 : Nat) : Int) - 1)) c b t) (r, a2, s2) ∧ r.length ≤ l.length + (n + 1) ∧ SmL 9 r ∧ a ≤ a2 ∧ a2 ≤ a + 8 * (n + 1 : Nat) + 2 := by
      intro l2 b t q1 q2 q3 q4
      obtain ⟨r, a4, s4, er, hr⟩ := ih l2 b t (by omega) q2 (by omega) (by omega)
      rw [ew]
      exact ⟨r, a4, s4, er, by omega, hr.2.1, by omega, by omega⟩
    have j1 : ∀ b, ∃ r a4 s4, Ev (fun k => spec_l1Cur_other.j1 k l ((n + 1 : Nat) : Int) v b c a3 s3) (r, a4, s4) ∧ r.length ≤ l.length + (n + 1) ∧ SmL 9 r ∧ a ≤ a4 ∧ a4 ≤ a + 8 * (n + 1 : Nat) + 2 := by
      intro b
      cases b with
      | false =>
        obtain ⟨r, a4, s4, er, hr⟩ := goOn l a3 s3 (by omega) hs (by omega) (by omega)
        exact ⟨r, a4, s4, Ev.step (fun k => spec_l1Cur_other.j1.eq_2 ..) (ev_neg (by simp) er), hr⟩
      | true =>
        obtain ⟨x, a5, s5, ex, hx⟩ := line_some c hc a3 s3 (by omega) (by omega)
        have hz := nl_size x hx.1
        obtain ⟨r, a4, s4, er, hr⟩ := goOn ((l.take v.toNat ++ [x ++ (⟨#[10]⟩ : ByteArray)]) ++ l.drop v.toNat) a5 s5 (by simp only [List.length_append, List.length_take, List.length_drop, List.length_singleton]; omega) (smL_app (smL_app (smL_take hs _) (smL_one hz)) (smL_drop hs _)) (by omega) (by omega)
        exact ⟨r, a4, s4, Ev.step (fun k => spec_l1Cur_other.j1.eq_2 ..) (ev_pos rfl (ev_pos v0 (ev_pos hv (ev_bind (ev_const (ownT_eq _ (by rw [List.length_take]; omega))) (ev_bind (ev_const ex) (ev_pos (by dsimp only; omega) (ev_pos (by rw [List.length_take]; omega) (ev_bind (ev_some rfl) (ev_bind (ev_some rfl) (ev_pos (by simp only [List.length_append, List.length_take, List.length_drop, List.length_singleton]; omega) er)))))))))), hr⟩
    have top : ∀ R, Ev (fun k => if u = 0 then (if v < (l.length : Int) then (if 0 ≤ v then (if v ≤ (l.length : Int) then ((spec_l1OwnT.f (l.take (v : Int).toNat)).bind fun t276 => (if 0 ≤ (wrap64 (v + 1)) then (if (wrap64 (v + 1)) ≤ (l.length : Int) then ((some (l.drop ((wrap64 (v + 1)) : Int).toNat : List ByteArray)).bind fun y279 => (if t276.length + y279.length < 8796093022208 then (spec_l1Cur_other.l0 k (t276 ++ y279) (wrap64 (((n + 1 : Nat) : Int) - 1)) c a3 s3) else (none))) else (none)) else (none))) else (none)) else (none)) else (spec_l1Cur_other.l0 k l (wrap64 (((n + 1 : Nat) : Int) - 1)) c a3 s3)) else (if u = 1 then (if v < (l.length : Int) then (if 0 ≤ v then ((spec_l1Ends.f (rdOf ByteArray.empty l v)).bind fun t287 => (if t287 = true then ((spec_l1Cur_line.f c a3 s3).bind fun bt288 => (if bt288.1.size + 1 ≤ 9223372036854775807 then (spec_l1Cur_other.l0 k (l.set (v : Int).toNat (bt288.1 ++ (⟨#[10]⟩ : ByteArray))) (wrap64 (((n + 1 : Nat) : Int) - 1)) c bt288.2.1 bt288.2.2) else (none))) else (spec_l1Cur_other.l0 k l (wrap64 (((n + 1 : Nat) : Int) - 1)) c a3 s3))) else (none)) else (spec_l1Cur_other.l0 k l (wrap64 (((n + 1 : Nat) : Int) - 1)) c a3 s3)) else (if v < (l.length : Int) then (spec_l1Cur_other.j1 k l ((n + 1 : Nat) : Int) v true c a3 s3) else ((spec_l1Whole.f l).bind fun t292 => (spec_l1Cur_other.j1 k l ((n + 1 : Nat) : Int) v t292 c a3 s3))))) R → Ev (fun k => spec_l1Cur_other.l0 k l ((n + 1 : Nat) : Int) c a s) R := fun R h =>
      Ev.step (fun k => spec_l1Cur_other.l0.eq_2 ..) (ev_pos (by omega) (ev_bind (ev_const e2') (ev_bind (ev_const e3) h)))
    by_cases u0 : u = 0
    · by_cases c1 : v < (l.length : Int)
      · have ev1 : wrap64 (v + 1) = v + 1 := wrap64_id (by omega) (by omega)
        obtain ⟨r, a4, s4, er, hr⟩ := goOn (l.take v.toNat ++ l.drop (v + 1).toNat) a3 s3 (by simp only [List.length_append, List.length_take, List.length_drop]; omega) (smL_app (smL_take hs _) (smL_drop hs _)) (by omega) (by omega)
        refine ⟨r, a4, s4, top _ ?_, hr⟩
        rw [ev1]
        exact ev_pos u0 (ev_pos c1 (ev_pos v0 (ev_pos hv (ev_bind (ev_const (ownT_eq _ (by rw [List.length_take]; omega))) (ev_pos (by omega) (ev_pos (by omega) (ev_bind (ev_some rfl) (ev_pos (by simp only [List.length_take, List.length_drop]; omega) er))))))))
      · obtain ⟨r, a4, s4, er, hr⟩ := goOn l a3 s3 (by omega) hs (by omega) (by omega)
        exact ⟨r, a4, s4, top _ (ev_pos u0 (ev_neg c1 er)), hr⟩
    · by_cases u1 : u = 1
      · by_cases c1 : v < (l.length : Int)
        · have e1 : rdOf ByteArray.empty l v = l[v.toNat]'(by omega) := getD_lt l _ _ (by omega)
          have hm := hs _ (List.getElem_mem (l := l) (n := v.toNat) (by omega))
          have ee := l1Ends_eq _ hm.1 (by omega)
          by_cases he : ends (l[v.toNat]'(by omega)) = true
          · obtain ⟨x, a5, s5, ex, hx⟩ := line_some c hc a3 s3 (by omega) (by omega)
            have hz := nl_size x hx.1
            obtain ⟨r, a4, s4, er, hr⟩ := goOn (l.set v.toNat (x ++ (⟨#[10]⟩ : ByteArray))) a5 s5 (by rw [List.length_set]; omega) (smL_set hs _ hz) (by omega) (by omega)
            refine ⟨r, a4, s4, top _ ?_, hr⟩
            rw [e1]
            exact ev_neg u0 (ev_pos u1 (ev_pos c1 (ev_pos v0 (ev_bind (ev_const ee) (ev_pos he (ev_bind (ev_const ex) (ev_pos (by dsimp only; omega) er)))))))
          · obtain ⟨r, a4, s4, er, hr⟩ := goOn l a3 s3 (by omega) hs (by omega) (by omega)
            refine ⟨r, a4, s4, top _ ?_, hr⟩
            rw [e1]
            exact ev_neg u0 (ev_pos u1 (ev_pos c1 (ev_pos v0 (ev_bind (ev_const ee) (ev_neg he er)))))
        · obtain ⟨r, a4, s4, er, hr⟩ := goOn l a3 s3 (by omega) hs (by omega) (by omega)
          exact ⟨r, a4, s4, top _ (ev_neg u0 (ev_pos u1 (ev_neg c1 er))), hr⟩
      · by_cases c1 : v < (l.length : Int)
        · obtain ⟨r, a4, s4, er, hr⟩ := j1 true
          exact ⟨r, a4, s4, top _ (ev_neg u0 (ev_neg u1 (ev_pos c1 er))), hr⟩
        · obtain ⟨b, eb⟩ := whole_some l (by omega) (fun s hs' => by have := hs s hs'; omega) (fun x hx => (hs x (List.mem_of_getLast? hx)).1)
          obtain ⟨r, a4, s4, er, hr⟩ := j1 b
          exact ⟨r, a4, s4, top _ (ev_neg u0 (ev_neg u1 (ev_neg c1 (ev_bind (ev_const eb) er)))), hr⟩
theorem other_some (l : List ByteArray) (hl : l.length ≤ 30) (hs : SmL 8 l) (a s : Int) (h0 : 0 ≤ a) (h1 : a ≤ 1000000000000000) :
    ∃ r a2 s2, Ev (fun k => spec_l1Cur_other.f k c a s l) (r, a2, s2) ∧ r.length ≤ l.length + 3 ∧ SmL 9 r ∧ a ≤ a2 ∧ a2 ≤ a + 30 := by
  simp only [spec_l1Cur_other.f]
  obtain ⟨v, a2, s2, e, v0, v1, v2, h2⟩ := pick_some c hc a s 4 (at_of h0 (by omega))
  have hv : v = ((v.toNat : Nat) : Int) := by omega
  obtain ⟨r, a3, s3, er, hr⟩ := other_l0 c hc v.toNat l a2 s2 (by omega) hs (by omega) (by omega)
  rw [← hv] at er
  exact ⟨r, a3, s3, ev_bind (ev_const (ownT_eq l (by omega))) (ev_bind (ev_const e) er), by omega, hr.2.1, by omega, by omega⟩
end
end Go.Proofs.YtmcldkobejhaeaaDoor.Pl
/- Plain Lean: two drawn texts. No condition. -/
namespace Go.Proofs.YtmcldkobejhaeaaDoor.Pl
open Go.RowKit Go.Proofs.YtmcldkobejhaeaaDoorW.PrintWords Go.Proofs.YtmcldkobejhaeaaDoorW.PrintLast Go.Proofs.YtmcldkobejhaeaaDoor.My
set_option linter.unusedVariables false
set_option linter.unusedSimpArgs false
def Sm9 (l : List ByteArray) : Prop := l.length ≤ 12 ∧ ∀ s ∈ l, s.size ≤ 9
theorem fitS_sm9 {l : List ByteArray} (h : Sm9 l) : FitS l := ⟨by have := h.1; omega, fun s hs => by have := h.2 s hs; omega⟩
theorem drawSame_some (c : List Int) (hc : Bytes8 c) : ∃ a b, Ev (fun k => spec_DrawSameAhead.f k c) (a, b) ∧ Sm9 a ∧ Sm9 b := by
  simp only [spec_DrawSameAhead.f, spec_DrawSameAhead.g]
  obtain ⟨l, a2, s2, e, hl, h2⟩ := anyText_some c hc 0 0 (by omega) (by omega)
  have hl9 : Sm9 l := ⟨by have := hl.1; omega, fun s hs => by have := hl.2.1 s hs; omega⟩
  obtain ⟨v, a3, s3, e3, h3⟩ := one_some c hc a2 s2 2 (at_of (by omega) (by omega))
  have no : ∃ b : List ByteArray × Int × Int, Ev (fun k => spec_DrawSameAhead.j0 k l false c a3 s3) (l, b.1, b.2.1, b.2.2) ∧ Sm9 b.1 := by
    obtain ⟨b, a4, s4, e4, h4⟩ := text_some c hc a3 s3 (by omega) (by omega)
    exact ⟨(b, a4, s4), Ev.step (fun k => spec_DrawSameAhead.j0.eq_2 ..) (ev_neg (by simp) (ev_bind e4 (ev_some rfl))), by dsimp only; omega, fun s hs => by have := h4.2.1 s hs; omega⟩
  cases v with
  | false =>
    obtain ⟨b, eb, hb⟩ := no
    exact ⟨l, b.1, ev_bind (ev_bind e (ev_bind (ev_const e3) (ev_neg (by simp) eb))) (ev_some rfl), hl9, hb⟩
  | true =>
    have eg := l1Good_ev l ⟨by have := hl.1; omega, fun s hs => by have := hl.2.1 s hs; omega⟩
    by_cases g : good l = true
    · obtain ⟨b, a4, s4, e4, h4⟩ := other_some c hc l (by have := hl.1; omega) (fun s hs => by
        have := hl.2.1 s hs
        unfold good at g
        simp only [Bool.and_eq_true, List.all_eq_true] at g
        exact ⟨(isLn_size (g.2.1 s hs)).1, this⟩) a3 s3 (by omega) (by omega)
      rw [g] at eg
      have := hl.1
      exact ⟨l, b, ev_bind (ev_bind e (ev_bind (ev_const e3) (ev_pos rfl (ev_bind eg (Ev.step (fun k => spec_DrawSameAhead.j0.eq_2 ..) (ev_pos rfl (ev_bind e4 (ev_some rfl)))))))) (ev_some rfl), hl9, by omega, fun s hs => (h4.2.1 s hs).2⟩
    · rw [Bool.eq_false_iff.2 g] at eg
      obtain ⟨b, eb, hb⟩ := no
      exact ⟨l, b.1, ev_bind (ev_bind e (ev_bind (ev_const e3) (ev_pos rfl (ev_bind eg eb)))) (ev_some rfl), hl9, hb⟩
end Go.Proofs.YtmcldkobejhaeaaDoor.Pl
/- Plain Lean: drawn lines with a part of them, and a drawn line. No condition. -/
namespace Go.Proofs.YtmcldkobejhaeaaDoor.Pl
open Go.RowKit Go.Proofs.YtmcldkobejhaeaaDoorW.PrintWords Go.Proofs.YtmcldkobejhaeaaDoorW.PrintLast Go.Proofs.YtmcldkobejhaeaaDoor.My
set_option linter.unusedVariables false
set_option linter.unusedSimpArgs false
theorem drawPart_some (c : List Int) (hc : Bytes8 c) : ∃ l a b, Ev (fun k => spec_DrawPartOf.f k c) (l, a, b) ∧ SmT l := by
  simp only [spec_DrawPartOf.f, spec_DrawPartOf.g]
  obtain ⟨l, a2, s2, e, hl, h2⟩ := anyText_some c hc 0 0 (by omega) (by omega)
  obtain ⟨v3, a3, s3, e3, h3⟩ := pick_some c hc a2 s2 (wrap64 ((l.length : Int) + 1)) (at_of (by omega) (by omega))
  obtain ⟨v4, a4, s4, e4, h4⟩ := pick_some c hc a3 s3 20 (at_of (by omega) (by omega))
  obtain ⟨v5, a5, s5, e5, h5⟩ := pick_some c hc a4 s4 4 (at_of (by omega) (by omega))
  obtain ⟨v6, a6, s6, e6, h6⟩ := pick_some c hc a5 s5 20 (at_of (by omega) (by omega))
  exact ⟨l, _, _, ev_bind (ev_bind e (ev_bind (ev_const e3) (ev_bind (ev_const e4) (ev_bind (ev_const e5) (ev_bind (ev_const e6) (ev_some rfl)))))) (ev_some rfl), hl⟩
theorem drawPlain_some (c : List Int) (hc : Bytes8 c) : ∃ s, spec_DrawPlainOf.f c = some s ∧ s.size ≤ 9 := by
  unfold spec_DrawPlainOf.f spec_DrawPlainOf.g
  obtain ⟨v, a2, s2, e, hv, h2⟩ := line_some c hc 0 0 (by omega) (by omega)
  obtain ⟨u, a3, s3, e3, hu, h3⟩ := of_some c hc a2 s2 (at_of (by omega) (by omega)) [(⟨#[10]⟩ : ByteArray), (⟨#[]⟩ : ByteArray), (⟨#[10, 10]⟩ : ByteArray)] (by simp)
  have hz : u.size ≤ 2 := by
    simp only [List.mem_cons, List.not_mem_nil, or_false] at hu
    rcases hu with rfl | rfl | rfl <;> decide
  refine ⟨v ++ u, ?_, by rw [ByteArray.size_append]; omega⟩
  rw [e, Option.bind_some]
  dsimp only
  rw [e3, Option.bind_some]
  dsimp only
  rw [if_pos (by omega)]
  rfl
end Go.Proofs.YtmcldkobejhaeaaDoor.Pl
/- Plain Lean: a list of texts is the same as itself, and so is a list of hunks. Asked: lengths below 2^62. -/
namespace Go.Proofs.YtmcldkobejhaeaaDoor.Pl
open Go.RowKit Go.Proofs.YtmcldkobejhaeaaDoorW.PrintWords Go.Proofs.YtmcldkobejhaeaaDoorW.PrintLast Go.Proofs.YtmcldkobejhaeaaDoor.My
set_option linter.unusedVariables false
theorem sameTexts_l0 (l : List ByteArray) (hl : l.length ≤ 4611686018427387904) : ∀ d i, i + d = l.length → Ev (fun k => laws_sameTexts.l0 k l l (l.length : Int) (i : Int)) true := by
  intro d
  induction d with
  | zero => intro i hi; exact Ev.step (fun k => laws_sameTexts.l0.eq_2 ..) (ev_neg (by omega) (ev_some rfl))
  | succ d ih =>
    intro i hi
    refine Ev.step (fun k => laws_sameTexts.l0.eq_2 ..) (ev_pos (by omega) (ev_pos (by omega) (ev_pos (by omega) (ev_pos (by omega) (ev_pos rfl ?_)))))
    rw [wrap_succ i (by omega)]
    exact ih (i + 1) (by omega)
theorem sameTexts_self (l : List ByteArray) (hl : l.length ≤ 4611686018427387904) : Ev (fun k => laws_sameTexts.f k l l) true := by
  unfold laws_sameTexts.f
  exact ev_pos rfl (sameTexts_l0 l hl l.length 0 (by omega))
end Go.Proofs.YtmcldkobejhaeaaDoor.Pl
/- Plain Lean: the drawn laws' bytes, and the test of their number. No condition. -/
namespace Go.Proofs.YtmcldkobejhaeaaDoor.Pl
open Go.RowKit Go.Proofs.YtmcldkobejhaeaaDoorW.PrintWords Go.Proofs.YtmcldkobejhaeaaDoorW.PrintLast Go.Proofs.YtmcldkobejhaeaaDoor.My
set_option linter.unusedVariables false
set_option linter.unusedSimpArgs false
theorem wu8_bounds {z : Int} (h : Wu8 z) : 0 ≤ z ∧ z ≤ 255 := by
  have h' : (Lit.int .u8 z).wf = true := h
  simp [Lit.wf, show IntKind.u8.min = 0 from rfl, show IntKind.u8.max = 255 from rfl] at h'
  omega
theorem bytes8_of {l : List Int} (h : (WL Wu8) l) : Bytes8 l := by
  refine ⟨?_, fun x hx => wu8_bounds (h.2 x hx)⟩
  have h1 := h.1
  have h2 : maxLen ≤ 9223372036854775807 := by decide
  omega
def bigB (a b : List Int) : Bool := if (a.length : Int) > 1048576 then true else decide ((b.length : Int) > 1048576 - (a.length : Int))
theorem big_eq (a b : List Int) (ha : Bytes8 a) (hb : Bytes8 b) : laws_big.f a b = some (bigB a b) := by
  unfold laws_big.f bigB
  have h1 := ha.1
  by_cases h : (a.length : Int) > 1048576
  · rw [if_pos h, if_pos h]
  · rw [if_neg h, if_neg h, wrap64_id (by omega) (by omega)]
end Go.Proofs.YtmcldkobejhaeaaDoor.Pl